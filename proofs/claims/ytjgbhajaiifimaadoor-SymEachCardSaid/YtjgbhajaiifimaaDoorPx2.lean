-- written by a program of this session: a printer with hand-proved functions beside (wip/print2)
import Derived.Test.YtjgbhajaiifimaaDoorPx0
namespace Go.Proofs.YtjgbhajaiifimaaDoor.P
open Go.RowKit Go.Proofs.YtjgbhajaiifimaaDoorW.PrintWords Go.Proofs.YtjgbhajaiifimaaDoorW.PrintLast Go.Proofs.YtjgbhajaiifimaaDoorW.PrintMore
attribute [local go_sem] max2_int min2_int max_two min_two max_three min_three max_four min_four   -- for this text's walks alone
set_option linter.unusedVariables false
set_option linter.unusedSimpArgs false

/-! ### clewref01_At: function 17 -/
mutual
def clewref01_At.j0 : Nat → List Int → Int → Int → Int → Int → Bool → Option (Int × Int)
  | 0, _, _, _, _, _, _ => none
  | k + 1, x0, x1, x6, x7, x8, x24 => if x24 = true then (clewref01_At.j1 k x0 x1 x6 2 (wrap64 (x6 - 192))) else (clewref01_At.j1 k x0 x1 x6 x7 x8)
def clewref01_At.j1 : Nat → List Int → Int → Int → Int → Int → Option (Int × Int)
  | 0, _, _, _, _, _ => none
  | k + 1, x0, x1, x6, x7, x8 => if x6 ≥ 224 then (clewref01_At.j2 k x0 x1 x6 x7 x8 (decide (x6 ≤ 239))) else (clewref01_At.j2 k x0 x1 x6 x7 x8 false)
def clewref01_At.j2 : Nat → List Int → Int → Int → Int → Int → Bool → Option (Int × Int)
  | 0, _, _, _, _, _, _ => none
  | k + 1, x0, x1, x6, x7, x8, x32 => if x32 = true then (clewref01_At.j3 k x0 x1 x6 3 (wrap64 (x6 - 224))) else (clewref01_At.j3 k x0 x1 x6 x7 x8)
def clewref01_At.j3 : Nat → List Int → Int → Int → Int → Int → Option (Int × Int)
  | 0, _, _, _, _, _ => none
  | k + 1, x0, x1, x6, x7, x8 => if x6 ≥ 240 then (clewref01_At.j4 k x0 x1 x6 x7 x8 (decide (x6 ≤ 247))) else (clewref01_At.j4 k x0 x1 x6 x7 x8 false)
def clewref01_At.j4 : Nat → List Int → Int → Int → Int → Int → Bool → Option (Int × Int)
  | 0, _, _, _, _, _, _ => none
  | k + 1, x0, x1, x6, x7, x8, x40 => if x40 = true then (clewref01_At.j5 k x0 x1 x6 4 (wrap64 (x6 - 240))) else (clewref01_At.j5 k x0 x1 x6 x7 x8)
def clewref01_At.j5 : Nat → List Int → Int → Int → Int → Int → Option (Int × Int)
  | 0, _, _, _, _, _ => none
  | k + 1, x0, x1, x6, x7, x8 => if x7 = 0 then (clewref01_At.j6 k x0 x1 x6 x7 x8 true) else (clewref01_At.j6 k x0 x1 x6 x7 x8 (decide ((wrap64 ((x0.length : Int) - x1)) < x7)))
def clewref01_At.j6 : Nat → List Int → Int → Int → Int → Int → Bool → Option (Int × Int)
  | 0, _, _, _, _, _, _ => none
  | k + 1, x0, x1, x6, x7, x8, x52 => if x52 = true then (some (wrap64 (1114112 + x6), 1)) else (clewref01_At.l0 k x0 x1 x6 x7 x8 1)
def clewref01_At.l0 : Nat → List Int → Int → Int → Int → Int → Int → Option (Int × Int)
  | 0, _, _, _, _, _, _ => none
  | k + 1, x0, x1, x6, x7, x8, x9 => if x9 < x7 then (if 0 ≤ (wrap64 (x1 + x9)) then (if (wrap64 (x1 + x9)) < (x0.length : Int) then (if (wrap64 (rd x0 (wrap64 (x1 + x9)))) < 128 then (some (wrap64 (1114112 + x6), 1)) else (if (wrap64 (rd x0 (wrap64 (x1 + x9)))) > 191 then (some (wrap64 (1114112 + x6), 1)) else (clewref01_At.l0 k x0 x1 x6 x7 (wrap64 ((wrap64 ((wrap64 (x8 * 64)) + (wrap64 (rd x0 (wrap64 (x1 + x9)))))) - 128)) (wrap64 (x9 + 1))))) else (none)) else (none)) else (if x7 = 2 then (if x8 < 128 then (some (wrap64 (1114112 + x6), 1)) else (if x7 = 3 then (if x8 < 2048 then (some (wrap64 (1114112 + x6), 1)) else (if x7 = 4 then (if x8 < 65536 then (some (wrap64 (1114112 + x6), 1)) else (if x8 > 1114111 then (some (wrap64 (1114112 + x6), 1)) else (if x8 ≥ 55296 then (if x8 ≤ 57343 then (some (wrap64 (1114112 + x6), 1)) else (some (x8, x7))) else (some (x8, x7))))) else (if x8 > 1114111 then (some (wrap64 (1114112 + x6), 1)) else (if x8 ≥ 55296 then (if x8 ≤ 57343 then (some (wrap64 (1114112 + x6), 1)) else (some (x8, x7))) else (some (x8, x7)))))) else (if x7 = 4 then (if x8 < 65536 then (some (wrap64 (1114112 + x6), 1)) else (if x8 > 1114111 then (some (wrap64 (1114112 + x6), 1)) else (if x8 ≥ 55296 then (if x8 ≤ 57343 then (some (wrap64 (1114112 + x6), 1)) else (some (x8, x7))) else (some (x8, x7))))) else (if x8 > 1114111 then (some (wrap64 (1114112 + x6), 1)) else (if x8 ≥ 55296 then (if x8 ≤ 57343 then (some (wrap64 (1114112 + x6), 1)) else (some (x8, x7))) else (some (x8, x7))))))) else (if x7 = 3 then (if x8 < 2048 then (some (wrap64 (1114112 + x6), 1)) else (if x7 = 4 then (if x8 < 65536 then (some (wrap64 (1114112 + x6), 1)) else (if x8 > 1114111 then (some (wrap64 (1114112 + x6), 1)) else (if x8 ≥ 55296 then (if x8 ≤ 57343 then (some (wrap64 (1114112 + x6), 1)) else (some (x8, x7))) else (some (x8, x7))))) else (if x8 > 1114111 then (some (wrap64 (1114112 + x6), 1)) else (if x8 ≥ 55296 then (if x8 ≤ 57343 then (some (wrap64 (1114112 + x6), 1)) else (some (x8, x7))) else (some (x8, x7)))))) else (if x7 = 4 then (if x8 < 65536 then (some (wrap64 (1114112 + x6), 1)) else (if x8 > 1114111 then (some (wrap64 (1114112 + x6), 1)) else (if x8 ≥ 55296 then (if x8 ≤ 57343 then (some (wrap64 (1114112 + x6), 1)) else (some (x8, x7))) else (some (x8, x7))))) else (if x8 > 1114111 then (some (wrap64 (1114112 + x6), 1)) else (if x8 ≥ 55296 then (if x8 ≤ 57343 then (some (wrap64 (1114112 + x6), 1)) else (some (x8, x7))) else (some (x8, x7)))))))
end
def clewref01_At.f (k : Nat) (l0 : List Int) (a1 : Int) : Option (Int × Int) := if 0 ≤ a1 then (if a1 < (l0.length : Int) then (if (wrap64 (rd l0 a1)) < 128 then (some (wrap64 (rd l0 a1), 1)) else (if (wrap64 (rd l0 a1)) ≥ 192 then (clewref01_At.j0 k l0 a1 (wrap64 (rd l0 a1)) 0 0 (decide ((wrap64 (rd l0 a1)) ≤ 223))) else (clewref01_At.j0 k l0 a1 (wrap64 (rd l0 a1)) 0 0 false))) else (none)) else (none)
theorem clewref01_At.mono_l : ∀ k, (∀ y0 y1 y2 y3 y4 y5, LeO (clewref01_At.j0 k y0 y1 y2 y3 y4 y5) (clewref01_At.j0 (k + 1) y0 y1 y2 y3 y4 y5)) ∧ (∀ y0 y1 y2 y3 y4, LeO (clewref01_At.j1 k y0 y1 y2 y3 y4) (clewref01_At.j1 (k + 1) y0 y1 y2 y3 y4)) ∧ (∀ y0 y1 y2 y3 y4 y5, LeO (clewref01_At.j2 k y0 y1 y2 y3 y4 y5) (clewref01_At.j2 (k + 1) y0 y1 y2 y3 y4 y5)) ∧ (∀ y0 y1 y2 y3 y4, LeO (clewref01_At.j3 k y0 y1 y2 y3 y4) (clewref01_At.j3 (k + 1) y0 y1 y2 y3 y4)) ∧ (∀ y0 y1 y2 y3 y4 y5, LeO (clewref01_At.j4 k y0 y1 y2 y3 y4 y5) (clewref01_At.j4 (k + 1) y0 y1 y2 y3 y4 y5)) ∧ (∀ y0 y1 y2 y3 y4, LeO (clewref01_At.j5 k y0 y1 y2 y3 y4) (clewref01_At.j5 (k + 1) y0 y1 y2 y3 y4)) ∧ (∀ y0 y1 y2 y3 y4 y5, LeO (clewref01_At.j6 k y0 y1 y2 y3 y4 y5) (clewref01_At.j6 (k + 1) y0 y1 y2 y3 y4 y5)) ∧ (∀ y0 y1 y2 y3 y4 y5, LeO (clewref01_At.l0 k y0 y1 y2 y3 y4 y5) (clewref01_At.l0 (k + 1) y0 y1 y2 y3 y4 y5))
  | 0 => ⟨fun _ _ _ _ _ _ r h => by simp [clewref01_At.j0] at h, fun _ _ _ _ _ r h => by simp [clewref01_At.j1] at h, fun _ _ _ _ _ _ r h => by simp [clewref01_At.j2] at h, fun _ _ _ _ _ r h => by simp [clewref01_At.j3] at h, fun _ _ _ _ _ _ r h => by simp [clewref01_At.j4] at h, fun _ _ _ _ _ r h => by simp [clewref01_At.j5] at h, fun _ _ _ _ _ _ r h => by simp [clewref01_At.j6] at h, fun _ _ _ _ _ _ r h => by simp [clewref01_At.l0] at h⟩
  | k + 1 => by
    obtain ⟨ih0, ih1, ih2, ih3, ih4, ih5, ih6, ih7⟩ := clewref01_At.mono_l k
    refine ⟨?_, ?_, ?_, ?_, ?_, ?_, ?_, ?_⟩
    · intro y0 y1 y2 y3 y4 y5
      unfold clewref01_At.j0
      repeat' first
      | (with_reducible exact ih0 _ _ _ _ _ _)
      | (with_reducible exact ih1 _ _ _ _ _)
      | (with_reducible exact ih2 _ _ _ _ _ _)
      | (with_reducible exact ih3 _ _ _ _ _)
      | (with_reducible exact ih4 _ _ _ _ _ _)
      | (with_reducible exact ih5 _ _ _ _ _)
      | (with_reducible exact ih6 _ _ _ _ _ _)
      | (with_reducible exact ih7 _ _ _ _ _ _)
      | (with_reducible exact LeO.refl _)
      | (with_reducible exact LeO.none _)
      | (with_reducible refine LeO.ite ?_ ?_)
      | (with_reducible refine LeO.bind ?_ (fun _ => ?_))
      | exact ih0 _ _ _ _ _ _
      | exact ih1 _ _ _ _ _
      | exact ih2 _ _ _ _ _ _
      | exact ih3 _ _ _ _ _
      | exact ih4 _ _ _ _ _ _
      | exact ih5 _ _ _ _ _
      | exact ih6 _ _ _ _ _ _
      | exact ih7 _ _ _ _ _ _
      | exact LeO.none _
      | refine LeO.ite ?_ ?_
      | refine LeO.bind ?_ (fun _ => ?_)
    · intro y0 y1 y2 y3 y4
      unfold clewref01_At.j1
      repeat' first
      | (with_reducible exact ih0 _ _ _ _ _ _)
      | (with_reducible exact ih1 _ _ _ _ _)
      | (with_reducible exact ih2 _ _ _ _ _ _)
      | (with_reducible exact ih3 _ _ _ _ _)
      | (with_reducible exact ih4 _ _ _ _ _ _)
      | (with_reducible exact ih5 _ _ _ _ _)
      | (with_reducible exact ih6 _ _ _ _ _ _)
      | (with_reducible exact ih7 _ _ _ _ _ _)
      | (with_reducible exact LeO.refl _)
      | (with_reducible exact LeO.none _)
      | (with_reducible refine LeO.ite ?_ ?_)
      | (with_reducible refine LeO.bind ?_ (fun _ => ?_))
      | exact ih0 _ _ _ _ _ _
      | exact ih1 _ _ _ _ _
      | exact ih2 _ _ _ _ _ _
      | exact ih3 _ _ _ _ _
      | exact ih4 _ _ _ _ _ _
      | exact ih5 _ _ _ _ _
      | exact ih6 _ _ _ _ _ _
      | exact ih7 _ _ _ _ _ _
      | exact LeO.none _
      | refine LeO.ite ?_ ?_
      | refine LeO.bind ?_ (fun _ => ?_)
    · intro y0 y1 y2 y3 y4 y5
      unfold clewref01_At.j2
      repeat' first
      | (with_reducible exact ih0 _ _ _ _ _ _)
      | (with_reducible exact ih1 _ _ _ _ _)
      | (with_reducible exact ih2 _ _ _ _ _ _)
      | (with_reducible exact ih3 _ _ _ _ _)
      | (with_reducible exact ih4 _ _ _ _ _ _)
      | (with_reducible exact ih5 _ _ _ _ _)
      | (with_reducible exact ih6 _ _ _ _ _ _)
      | (with_reducible exact ih7 _ _ _ _ _ _)
      | (with_reducible exact LeO.refl _)
      | (with_reducible exact LeO.none _)
      | (with_reducible refine LeO.ite ?_ ?_)
      | (with_reducible refine LeO.bind ?_ (fun _ => ?_))
      | exact ih0 _ _ _ _ _ _
      | exact ih1 _ _ _ _ _
      | exact ih2 _ _ _ _ _ _
      | exact ih3 _ _ _ _ _
      | exact ih4 _ _ _ _ _ _
      | exact ih5 _ _ _ _ _
      | exact ih6 _ _ _ _ _ _
      | exact ih7 _ _ _ _ _ _
      | exact LeO.none _
      | refine LeO.ite ?_ ?_
      | refine LeO.bind ?_ (fun _ => ?_)
    · intro y0 y1 y2 y3 y4
      unfold clewref01_At.j3
      repeat' first
      | (with_reducible exact ih0 _ _ _ _ _ _)
      | (with_reducible exact ih1 _ _ _ _ _)
      | (with_reducible exact ih2 _ _ _ _ _ _)
      | (with_reducible exact ih3 _ _ _ _ _)
      | (with_reducible exact ih4 _ _ _ _ _ _)
      | (with_reducible exact ih5 _ _ _ _ _)
      | (with_reducible exact ih6 _ _ _ _ _ _)
      | (with_reducible exact ih7 _ _ _ _ _ _)
      | (with_reducible exact LeO.refl _)
      | (with_reducible exact LeO.none _)
      | (with_reducible refine LeO.ite ?_ ?_)
      | (with_reducible refine LeO.bind ?_ (fun _ => ?_))
      | exact ih0 _ _ _ _ _ _
      | exact ih1 _ _ _ _ _
      | exact ih2 _ _ _ _ _ _
      | exact ih3 _ _ _ _ _
      | exact ih4 _ _ _ _ _ _
      | exact ih5 _ _ _ _ _
      | exact ih6 _ _ _ _ _ _
      | exact ih7 _ _ _ _ _ _
      | exact LeO.none _
      | refine LeO.ite ?_ ?_
      | refine LeO.bind ?_ (fun _ => ?_)
    · intro y0 y1 y2 y3 y4 y5
      unfold clewref01_At.j4
      repeat' first
      | (with_reducible exact ih0 _ _ _ _ _ _)
      | (with_reducible exact ih1 _ _ _ _ _)
      | (with_reducible exact ih2 _ _ _ _ _ _)
      | (with_reducible exact ih3 _ _ _ _ _)
      | (with_reducible exact ih4 _ _ _ _ _ _)
      | (with_reducible exact ih5 _ _ _ _ _)
      | (with_reducible exact ih6 _ _ _ _ _ _)
      | (with_reducible exact ih7 _ _ _ _ _ _)
      | (with_reducible exact LeO.refl _)
      | (with_reducible exact LeO.none _)
      | (with_reducible refine LeO.ite ?_ ?_)
      | (with_reducible refine LeO.bind ?_ (fun _ => ?_))
      | exact ih0 _ _ _ _ _ _
      | exact ih1 _ _ _ _ _
      | exact ih2 _ _ _ _ _ _
      | exact ih3 _ _ _ _ _
      | exact ih4 _ _ _ _ _ _
      | exact ih5 _ _ _ _ _
      | exact ih6 _ _ _ _ _ _
      | exact ih7 _ _ _ _ _ _
      | exact LeO.none _
      | refine LeO.ite ?_ ?_
      | refine LeO.bind ?_ (fun _ => ?_)
    · intro y0 y1 y2 y3 y4
      unfold clewref01_At.j5
      repeat' first
      | (with_reducible exact ih0 _ _ _ _ _ _)
      | (with_reducible exact ih1 _ _ _ _ _)
      | (with_reducible exact ih2 _ _ _ _ _ _)
      | (with_reducible exact ih3 _ _ _ _ _)
      | (with_reducible exact ih4 _ _ _ _ _ _)
      | (with_reducible exact ih5 _ _ _ _ _)
      | (with_reducible exact ih6 _ _ _ _ _ _)
      | (with_reducible exact ih7 _ _ _ _ _ _)
      | (with_reducible exact LeO.refl _)
      | (with_reducible exact LeO.none _)
      | (with_reducible refine LeO.ite ?_ ?_)
      | (with_reducible refine LeO.bind ?_ (fun _ => ?_))
      | exact ih0 _ _ _ _ _ _
      | exact ih1 _ _ _ _ _
      | exact ih2 _ _ _ _ _ _
      | exact ih3 _ _ _ _ _
      | exact ih4 _ _ _ _ _ _
      | exact ih5 _ _ _ _ _
      | exact ih6 _ _ _ _ _ _
      | exact ih7 _ _ _ _ _ _
      | exact LeO.none _
      | refine LeO.ite ?_ ?_
      | refine LeO.bind ?_ (fun _ => ?_)
    · intro y0 y1 y2 y3 y4 y5
      unfold clewref01_At.j6
      repeat' first
      | (with_reducible exact ih0 _ _ _ _ _ _)
      | (with_reducible exact ih1 _ _ _ _ _)
      | (with_reducible exact ih2 _ _ _ _ _ _)
      | (with_reducible exact ih3 _ _ _ _ _)
      | (with_reducible exact ih4 _ _ _ _ _ _)
      | (with_reducible exact ih5 _ _ _ _ _)
      | (with_reducible exact ih6 _ _ _ _ _ _)
      | (with_reducible exact ih7 _ _ _ _ _ _)
      | (with_reducible exact LeO.refl _)
      | (with_reducible exact LeO.none _)
      | (with_reducible refine LeO.ite ?_ ?_)
      | (with_reducible refine LeO.bind ?_ (fun _ => ?_))
      | exact ih0 _ _ _ _ _ _
      | exact ih1 _ _ _ _ _
      | exact ih2 _ _ _ _ _ _
      | exact ih3 _ _ _ _ _
      | exact ih4 _ _ _ _ _ _
      | exact ih5 _ _ _ _ _
      | exact ih6 _ _ _ _ _ _
      | exact ih7 _ _ _ _ _ _
      | exact LeO.none _
      | refine LeO.ite ?_ ?_
      | refine LeO.bind ?_ (fun _ => ?_)
    · intro y0 y1 y2 y3 y4 y5
      unfold clewref01_At.l0
      repeat' first
      | (with_reducible exact ih0 _ _ _ _ _ _)
      | (with_reducible exact ih1 _ _ _ _ _)
      | (with_reducible exact ih2 _ _ _ _ _ _)
      | (with_reducible exact ih3 _ _ _ _ _)
      | (with_reducible exact ih4 _ _ _ _ _ _)
      | (with_reducible exact ih5 _ _ _ _ _)
      | (with_reducible exact ih6 _ _ _ _ _ _)
      | (with_reducible exact ih7 _ _ _ _ _ _)
      | (with_reducible exact LeO.refl _)
      | (with_reducible exact LeO.none _)
      | (with_reducible refine LeO.ite ?_ ?_)
      | (with_reducible refine LeO.bind ?_ (fun _ => ?_))
      | exact ih0 _ _ _ _ _ _
      | exact ih1 _ _ _ _ _
      | exact ih2 _ _ _ _ _ _
      | exact ih3 _ _ _ _ _
      | exact ih4 _ _ _ _ _ _
      | exact ih5 _ _ _ _ _
      | exact ih6 _ _ _ _ _ _
      | exact ih7 _ _ _ _ _ _
      | exact LeO.none _
      | refine LeO.ite ?_ ?_
      | refine LeO.bind ?_ (fun _ => ?_)
theorem clewref01_At.mono : ∀ a0 a1 k, LeO (clewref01_At.f k a0 a1) (clewref01_At.f (k + 1) a0 a1) := by
  intro a0 a1 k
  obtain ⟨ih0, ih1, ih2, ih3, ih4, ih5, ih6, ih7⟩ := clewref01_At.mono_l k
  unfold clewref01_At.f
  repeat' first
      | (with_reducible exact ih0 _ _ _ _ _ _)
      | (with_reducible exact ih1 _ _ _ _ _)
      | (with_reducible exact ih2 _ _ _ _ _ _)
      | (with_reducible exact ih3 _ _ _ _ _)
      | (with_reducible exact ih4 _ _ _ _ _ _)
      | (with_reducible exact ih5 _ _ _ _ _)
      | (with_reducible exact ih6 _ _ _ _ _ _)
      | (with_reducible exact ih7 _ _ _ _ _ _)
      | (with_reducible exact LeO.refl _)
      | (with_reducible exact LeO.none _)
      | (with_reducible refine LeO.ite ?_ ?_)
      | (with_reducible refine LeO.bind ?_ (fun _ => ?_))
      | exact ih0 _ _ _ _ _ _
      | exact ih1 _ _ _ _ _
      | exact ih2 _ _ _ _ _ _
      | exact ih3 _ _ _ _ _
      | exact ih4 _ _ _ _ _ _
      | exact ih5 _ _ _ _ _
      | exact ih6 _ _ _ _ _ _
      | exact ih7 _ _ _ _ _ _
      | exact LeO.none _
      | refine LeO.ite ?_ ?_
      | refine LeO.bind ?_ (fun _ => ?_)
set_option maxHeartbeats 8000000 in
set_option maxRecDepth 100000 in
theorem clewref01_At.calls (k : Nat) (A0 : Option Addr) (c0 : Nat) (l0 : List Int) (a1 : Int) (r1 : Int) (r2 : Int) (w : World) (hr0 : Kd.C (Kd.int .u8) w A0 l0.length l0) (hc0 : l0.length ≤ c0) (h : clewref01_At.f k l0 a1 = some (r1, r2)) :
    Calls Tryd.prog 17 #[.slice A0 l0.length c0, .int .i64 a1] w fun e w' => e = .returned (.tuple #[.int .i64 r1, .int .i64 r2]) ∧ Drawn0 w w' := by
  have HR0 := Aside0.mk hr0
  have HC0 := Aside0.mk hc0
  clear hr0 hc0
  have H : (if 0 ≤ a1 then (if a1 < (l0.length : Int) then (if (wrap64 (rd l0 a1)) < 128 then (some (wrap64 (rd l0 a1), 1)) else (if (wrap64 (rd l0 a1)) ≥ 192 then (clewref01_At.j0 k l0 a1 (wrap64 (rd l0 a1)) 0 0 (decide ((wrap64 (rd l0 a1)) ≤ 223))) else (clewref01_At.j0 k l0 a1 (wrap64 (rd l0 a1)) 0 0 false))) else (none)) else (none)) = some (r1, r2) := h
  clear h
  by_cases c3 : 0 ≤ a1
  · rw [if_pos c3] at H
    have c3b0 : decide (0 ≤ a1) = true := decide_eq_true c3
    clear c3
    by_cases c4 : a1 < (l0.length : Int)
    · rw [if_pos c4] at H
      have c4b0 : decide (a1 < (l0.length : Int)) = true := decide_eq_true c4
      clear c4
      by_cases c5 : (wrap64 (rd l0 a1)) < 128
      · rw [if_pos c5] at H
        have c5b0 : decide ((wrap64 (rd l0 a1)) < 128) = true := decide_eq_true c5
        clear c5
        simp only [Option.some.injEq, Prod.mk.injEq] at H
        obtain ⟨rfl, rfl⟩ := H
        have p105 : 0 ≤ (a1 : Int) := of_decide_eq_true (by first | (with_reducible assumption) | assumption)
        have q105 : a1 < (l0.length : Int) := of_decide_eq_true (by first | (with_reducible assumption) | assumption)
        obtain ⟨ad105, e105, hx105_0⟩ := Kd.at_int HR0.out a1 p105 q105
        cases e105
        replace p105 := eq_true p105
        replace q105 := eq_true q105
        go_enter Tryd.func17, Tryd.ntmps17
        go_wp2
        go_ret2
        exact ⟨by first | rfl | (simp; done) | (simp [*]; done), by repeat (first | exact Drawn0.refl _ | apply Drawn0.step)⟩
      · rw [if_neg c5] at H
        have c5b0 : decide ((wrap64 (rd l0 a1)) < 128) = false := decide_eq_false c5
        clear c5
        have HC6 := Aside0.mk H
        clear H
        have p105 : 0 ≤ (a1 : Int) := of_decide_eq_true (by first | (with_reducible assumption) | assumption)
        have q105 : a1 < (l0.length : Int) := of_decide_eq_true (by first | (with_reducible assumption) | assumption)
        obtain ⟨ad105, e105, hx105_0⟩ := Kd.at_int HR0.out a1 p105 q105
        cases e105
        replace p105 := eq_true p105
        replace q105 := eq_true q105
        go_enter Tryd.func17, Tryd.ntmps17
        go_upto_region 6 with (fail)
        go_cut [24] (fun v24 wc => ∃ (kq : Nat) (x24_5 : Bool), v24 = .bool x24_5 ∧ Aside0 (clewref01_At.j0 kq l0 a1 (wrap64 (rd l0 a1)) 0 0 x24_5 = some (r1, r2)) ∧ Aside0 (kq ≤ k) ∧ Drawn0 w wc)
        case first =>
          have H := HC6.out
          clear HC6
          by_cases c7 : (wrap64 (rd l0 a1)) ≥ 192
          · rw [if_pos c7] at H
            have c7b0 : decide (192 ≤ (wrap64 (rd l0 a1))) = true := decide_eq_true c7
            clear c7
            (first | rw [c7b0] | (simp only [i64_w, i32_w]; rw [c7b0]) | skip)
            have H' := Aside0.mk H
            clear H
            go_wp2
            go_meet
            case rel => exact ⟨_, (decide ((wrap64 (rd l0 a1)) ≤ 223)), (by first | rfl | (simp; done) | (simp [*]; done)), H', ⟨by first | omega | exact Nat.le_refl _⟩, by repeat (first | exact Drawn0.refl _ | apply Drawn0.step)⟩
          · rw [if_neg c7] at H
            have c7b0 : decide (192 ≤ (wrap64 (rd l0 a1))) = false := decide_eq_false c7
            clear c7
            (first | rw [c7b0] | (simp only [i64_w, i32_w]; rw [c7b0]) | skip)
            have H' := Aside0.mk H
            clear H
            go_wp2
            go_meet
            case rel => exact ⟨_, (false), (by first | rfl | (simp; done) | (simp [*]; done)), H', ⟨by first | omega | exact Nat.le_refl _⟩, by repeat (first | exact Drawn0.refl _ | apply Drawn0.step)⟩
        case rest =>
          clear HC6
          try clear c1
          try clear p1
          try clear q1
          try clear hx1
          try clear p2
          try clear c3
          try clear c3b0
          try clear c4
          try clear c4b0
          try clear c5
          try clear c5b0
          try clear p6
          try clear c7
          try clear c7b0
          try clear hx105_0
          try clear p105
          try clear q105
          obtain ⟨kq, x24_5, rfl, HA, HJ5, ⟨mc5, rfl⟩⟩ := hcut
          cases kq with
          | zero => exact absurd HA.out (by simp [clewref01_At.j0])
          | succ kj5 =>
            have H := HA.out
            clear HA
            simp only [clewref01_At.j0] at H
            have HC8 := Aside0.mk H
            clear H
            go_upto_if 24 with (fail)
            go_cut [7, 8] (fun v7 v8 wc => ∃ (kq : Nat) (x7_7 : Int) (x8_7 : Int), v7 = .int .i64 x7_7 ∧ v8 = .int .i64 x8_7 ∧ Aside0 (clewref01_At.j1 kq l0 a1 (wrap64 (rd l0 a1)) x7_7 x8_7 = some (r1, r2)) ∧ Aside0 (kq ≤ kj5) ∧ Drawn0 w wc)
            case first =>
              have H := HC8.out
              clear HC8
              by_cases c9 : x24_5 = true
              · subst c9
                have H1 : (clewref01_At.j1 kj5 l0 a1 (wrap64 (rd l0 a1)) 2 (wrap64 ((wrap64 (rd l0 a1)) - 192))) = some (r1, r2) := by rw [if_pos rfl] at H; exact H
                clear H
                have H := H1
                clear H1
                have H' := Aside0.mk H
                clear H
                go_wp2
                go_meet
                case rel => exact ⟨_, (2), (wrap64 ((wrap64 (rd l0 a1)) - 192)), (by first | rfl | (simp; done) | (simp [*]; done)), (by first | rfl | (simp; done) | (simp [*]; done)), H', ⟨by have := HJ5.out; first | omega | exact Nat.le_refl _⟩, by repeat (first | exact Drawn0.refl _ | apply Drawn0.step)⟩
              · replace c9 := Bool.eq_false_iff.mpr c9
                subst c9
                have H1 : (clewref01_At.j1 kj5 l0 a1 (wrap64 (rd l0 a1)) 0 0) = some (r1, r2) := by rw [if_neg (show ¬ (false = true) by decide)] at H; exact H
                clear H
                have H := H1
                clear H1
                have H' := Aside0.mk H
                clear H
                go_wp2
                go_meet
                case rel => exact ⟨_, (0), (0), (by first | rfl | (simp; done) | (simp [*]; done)), (by first | rfl | (simp; done) | (simp [*]; done)), H', ⟨by have := HJ5.out; first | omega | exact Nat.le_refl _⟩, by repeat (first | exact Drawn0.refl _ | apply Drawn0.step)⟩
            case rest =>
              clear HC8
              try clear c1
              try clear p1
              try clear q1
              try clear hx1
              try clear p2
              try clear c3
              try clear c3b0
              try clear c4
              try clear c4b0
              try clear c5
              try clear c5b0
              try clear p6
              try clear c7
              try clear c7b0
              try clear c9
              try clear hx105_0
              try clear p1
              try clear p105
              try clear p2
              try clear p6
              try clear q1
              try clear q105
              obtain ⟨kq, x7_7, x8_7, rfl, rfl, HA, HJ7, ⟨mc7, rfl⟩⟩ := hcut
              cases kq with
              | zero => exact absurd HA.out (by simp [clewref01_At.j1])
              | succ kj7 =>
                have H := HA.out
                clear HA
                simp only [clewref01_At.j1] at H
                have HC10 := Aside0.mk H
                clear H
                go_upto_region 9 with (fail)
                go_cut [32] (fun v32 wc => ∃ (kq : Nat) (x32_9 : Bool), v32 = .bool x32_9 ∧ Aside0 (clewref01_At.j2 kq l0 a1 (wrap64 (rd l0 a1)) x7_7 x8_7 x32_9 = some (r1, r2)) ∧ Aside0 (kq ≤ kj7) ∧ Drawn0 w wc)
                case first =>
                  have H := HC10.out
                  clear HC10
                  by_cases c11 : (wrap64 (rd l0 a1)) ≥ 224
                  · rw [if_pos c11] at H
                    have c11b0 : decide (224 ≤ (wrap64 (rd l0 a1))) = true := decide_eq_true c11
                    clear c11
                    (first | rw [c11b0] | (simp only [i64_w, i32_w]; rw [c11b0]) | skip)
                    have H' := Aside0.mk H
                    clear H
                    go_wp2
                    go_meet
                    case rel => exact ⟨_, (decide ((wrap64 (rd l0 a1)) ≤ 239)), (by first | rfl | (simp; done) | (simp [*]; done)), H', ⟨by have := HJ5.out; have := HJ7.out; first | omega | exact Nat.le_refl _⟩, by repeat (first | exact Drawn0.refl _ | apply Drawn0.step)⟩
                  · rw [if_neg c11] at H
                    have c11b0 : decide (224 ≤ (wrap64 (rd l0 a1))) = false := decide_eq_false c11
                    clear c11
                    (first | rw [c11b0] | (simp only [i64_w, i32_w]; rw [c11b0]) | skip)
                    have H' := Aside0.mk H
                    clear H
                    go_wp2
                    go_meet
                    case rel => exact ⟨_, (false), (by first | rfl | (simp; done) | (simp [*]; done)), H', ⟨by have := HJ5.out; have := HJ7.out; first | omega | exact Nat.le_refl _⟩, by repeat (first | exact Drawn0.refl _ | apply Drawn0.step)⟩
                case rest =>
                  clear HC10
                  try clear c1
                  try clear p1
                  try clear q1
                  try clear hx1
                  try clear p2
                  try clear c3
                  try clear c3b0
                  try clear c4
                  try clear c4b0
                  try clear c5
                  try clear c5b0
                  try clear p6
                  try clear c7
                  try clear c7b0
                  try clear c9
                  try clear p10
                  try clear q10
                  try clear hx10
                  try clear c11
                  try clear c11b0
                  try clear hx105_0
                  try clear p1
                  try clear p105
                  try clear p2
                  try clear p6
                  try clear q1
                  try clear q105
                  obtain ⟨kq, x32_9, rfl, HA, HJ9, ⟨mc9, rfl⟩⟩ := hcut
                  cases kq with
                  | zero => exact absurd HA.out (by simp [clewref01_At.j2])
                  | succ kj9 =>
                    have H := HA.out
                    clear HA
                    simp only [clewref01_At.j2] at H
                    have HC12 := Aside0.mk H
                    clear H
                    go_upto_if 32 with (fail)
                    go_cut [7, 8] (fun v7 v8 wc => ∃ (kq : Nat) (x7_11 : Int) (x8_11 : Int), v7 = .int .i64 x7_11 ∧ v8 = .int .i64 x8_11 ∧ Aside0 (clewref01_At.j3 kq l0 a1 (wrap64 (rd l0 a1)) x7_11 x8_11 = some (r1, r2)) ∧ Aside0 (kq ≤ kj9) ∧ Drawn0 w wc)
                    case first =>
                      have H := HC12.out
                      clear HC12
                      by_cases c13 : x32_9 = true
                      · subst c13
                        have H1 : (clewref01_At.j3 kj9 l0 a1 (wrap64 (rd l0 a1)) 3 (wrap64 ((wrap64 (rd l0 a1)) - 224))) = some (r1, r2) := by rw [if_pos rfl] at H; exact H
                        clear H
                        have H := H1
                        clear H1
                        have H' := Aside0.mk H
                        clear H
                        go_wp2
                        go_meet
                        case rel => exact ⟨_, (3), (wrap64 ((wrap64 (rd l0 a1)) - 224)), (by first | rfl | (simp; done) | (simp [*]; done)), (by first | rfl | (simp; done) | (simp [*]; done)), H', ⟨by have := HJ5.out; have := HJ7.out; have := HJ9.out; first | omega | exact Nat.le_refl _⟩, by repeat (first | exact Drawn0.refl _ | apply Drawn0.step)⟩
                      · replace c13 := Bool.eq_false_iff.mpr c13
                        subst c13
                        have H1 : (clewref01_At.j3 kj9 l0 a1 (wrap64 (rd l0 a1)) x7_7 x8_7) = some (r1, r2) := by rw [if_neg (show ¬ (false = true) by decide)] at H; exact H
                        clear H
                        have H := H1
                        clear H1
                        have H' := Aside0.mk H
                        clear H
                        go_wp2
                        go_meet
                        case rel => exact ⟨_, (x7_7), (x8_7), (by first | rfl | (simp; done) | (simp [*]; done)), (by first | rfl | (simp; done) | (simp [*]; done)), H', ⟨by have := HJ5.out; have := HJ7.out; have := HJ9.out; first | omega | exact Nat.le_refl _⟩, by repeat (first | exact Drawn0.refl _ | apply Drawn0.step)⟩
                    case rest =>
                      clear HC12
                      try clear c1
                      try clear p1
                      try clear q1
                      try clear hx1
                      try clear p2
                      try clear c3
                      try clear c3b0
                      try clear c4
                      try clear c4b0
                      try clear c5
                      try clear c5b0
                      try clear p6
                      try clear c7
                      try clear c7b0
                      try clear c9
                      try clear p10
                      try clear q10
                      try clear hx10
                      try clear c11
                      try clear c11b0
                      try clear c13
                      try clear hx105_0
                      try clear p1
                      try clear p10
                      try clear p105
                      try clear p2
                      try clear p6
                      try clear q1
                      try clear q10
                      try clear q105
                      obtain ⟨kq, x7_11, x8_11, rfl, rfl, HA, HJ11, ⟨mc11, rfl⟩⟩ := hcut
                      cases kq with
                      | zero => exact absurd HA.out (by simp [clewref01_At.j3])
                      | succ kj11 =>
                        have H := HA.out
                        clear HA
                        simp only [clewref01_At.j3] at H
                        have HC14 := Aside0.mk H
                        clear H
                        go_upto_region 12 with (fail)
                        go_cut [40] (fun v40 wc => ∃ (kq : Nat) (x40_13 : Bool), v40 = .bool x40_13 ∧ Aside0 (clewref01_At.j4 kq l0 a1 (wrap64 (rd l0 a1)) x7_11 x8_11 x40_13 = some (r1, r2)) ∧ Aside0 (kq ≤ kj11) ∧ Drawn0 w wc)
                        case first =>
                          have H := HC14.out
                          clear HC14
                          by_cases c15 : (wrap64 (rd l0 a1)) ≥ 240
                          · rw [if_pos c15] at H
                            have c15b0 : decide (240 ≤ (wrap64 (rd l0 a1))) = true := decide_eq_true c15
                            clear c15
                            (first | rw [c15b0] | (simp only [i64_w, i32_w]; rw [c15b0]) | skip)
                            have H' := Aside0.mk H
                            clear H
                            go_wp2
                            go_meet
                            case rel => exact ⟨_, (decide ((wrap64 (rd l0 a1)) ≤ 247)), (by first | rfl | (simp; done) | (simp [*]; done)), H', ⟨by have := HJ5.out; have := HJ7.out; have := HJ9.out; have := HJ11.out; first | omega | exact Nat.le_refl _⟩, by repeat (first | exact Drawn0.refl _ | apply Drawn0.step)⟩
                          · rw [if_neg c15] at H
                            have c15b0 : decide (240 ≤ (wrap64 (rd l0 a1))) = false := decide_eq_false c15
                            clear c15
                            (first | rw [c15b0] | (simp only [i64_w, i32_w]; rw [c15b0]) | skip)
                            have H' := Aside0.mk H
                            clear H
                            go_wp2
                            go_meet
                            case rel => exact ⟨_, (false), (by first | rfl | (simp; done) | (simp [*]; done)), H', ⟨by have := HJ5.out; have := HJ7.out; have := HJ9.out; have := HJ11.out; first | omega | exact Nat.le_refl _⟩, by repeat (first | exact Drawn0.refl _ | apply Drawn0.step)⟩
                        case rest =>
                          clear HC14
                          try clear c1
                          try clear p1
                          try clear q1
                          try clear hx1
                          try clear p2
                          try clear c3
                          try clear c3b0
                          try clear c4
                          try clear c4b0
                          try clear c5
                          try clear c5b0
                          try clear p6
                          try clear c7
                          try clear c7b0
                          try clear c9
                          try clear p10
                          try clear q10
                          try clear hx10
                          try clear c11
                          try clear c11b0
                          try clear c13
                          try clear c15
                          try clear c15b0
                          try clear hx105_0
                          try clear p1
                          try clear p10
                          try clear p105
                          try clear p2
                          try clear p6
                          try clear q1
                          try clear q10
                          try clear q105
                          obtain ⟨kq, x40_13, rfl, HA, HJ13, ⟨mc13, rfl⟩⟩ := hcut
                          cases kq with
                          | zero => exact absurd HA.out (by simp [clewref01_At.j4])
                          | succ kj13 =>
                            have H := HA.out
                            clear HA
                            simp only [clewref01_At.j4] at H
                            have HC16 := Aside0.mk H
                            clear H
                            go_upto_if 40 with (fail)
                            go_cut [7, 8] (fun v7 v8 wc => ∃ (kq : Nat) (x7_15 : Int) (x8_15 : Int), v7 = .int .i64 x7_15 ∧ v8 = .int .i64 x8_15 ∧ Aside0 (clewref01_At.j5 kq l0 a1 (wrap64 (rd l0 a1)) x7_15 x8_15 = some (r1, r2)) ∧ Aside0 (kq ≤ kj13) ∧ Drawn0 w wc)
                            case first =>
                              have H := HC16.out
                              clear HC16
                              by_cases c17 : x40_13 = true
                              · subst c17
                                have H1 : (clewref01_At.j5 kj13 l0 a1 (wrap64 (rd l0 a1)) 4 (wrap64 ((wrap64 (rd l0 a1)) - 240))) = some (r1, r2) := by rw [if_pos rfl] at H; exact H
                                clear H
                                have H := H1
                                clear H1
                                have H' := Aside0.mk H
                                clear H
                                go_wp2
                                go_meet
                                case rel => exact ⟨_, (4), (wrap64 ((wrap64 (rd l0 a1)) - 240)), (by first | rfl | (simp; done) | (simp [*]; done)), (by first | rfl | (simp; done) | (simp [*]; done)), H', ⟨by have := HJ5.out; have := HJ7.out; have := HJ9.out; have := HJ11.out; have := HJ13.out; first | omega | exact Nat.le_refl _⟩, by repeat (first | exact Drawn0.refl _ | apply Drawn0.step)⟩
                              · replace c17 := Bool.eq_false_iff.mpr c17
                                subst c17
                                have H1 : (clewref01_At.j5 kj13 l0 a1 (wrap64 (rd l0 a1)) x7_11 x8_11) = some (r1, r2) := by rw [if_neg (show ¬ (false = true) by decide)] at H; exact H
                                clear H
                                have H := H1
                                clear H1
                                have H' := Aside0.mk H
                                clear H
                                go_wp2
                                go_meet
                                case rel => exact ⟨_, (x7_11), (x8_11), (by first | rfl | (simp; done) | (simp [*]; done)), (by first | rfl | (simp; done) | (simp [*]; done)), H', ⟨by have := HJ5.out; have := HJ7.out; have := HJ9.out; have := HJ11.out; have := HJ13.out; first | omega | exact Nat.le_refl _⟩, by repeat (first | exact Drawn0.refl _ | apply Drawn0.step)⟩
                            case rest =>
                              clear HC16
                              try clear c1
                              try clear p1
                              try clear q1
                              try clear hx1
                              try clear p2
                              try clear c3
                              try clear c3b0
                              try clear c4
                              try clear c4b0
                              try clear c5
                              try clear c5b0
                              try clear p6
                              try clear c7
                              try clear c7b0
                              try clear c9
                              try clear p10
                              try clear q10
                              try clear hx10
                              try clear c11
                              try clear c11b0
                              try clear c13
                              try clear c15
                              try clear c15b0
                              try clear c17
                              try clear hx105_0
                              try clear p1
                              try clear p10
                              try clear p105
                              try clear p2
                              try clear p6
                              try clear q1
                              try clear q10
                              try clear q105
                              obtain ⟨kq, x7_15, x8_15, rfl, rfl, HA, HJ15, ⟨mc15, rfl⟩⟩ := hcut
                              cases kq with
                              | zero => exact absurd HA.out (by simp [clewref01_At.j5])
                              | succ kj15 =>
                                have H := HA.out
                                clear HA
                                simp only [clewref01_At.j5] at H
                                have HC18 := Aside0.mk H
                                clear H
                                go_upto_region 15 with (fail)
                                go_cut [52] (fun v52 wc => ∃ (kq : Nat) (x52_17 : Bool), v52 = .bool x52_17 ∧ Aside0 (clewref01_At.j6 kq l0 a1 (wrap64 (rd l0 a1)) x7_15 x8_15 x52_17 = some (r1, r2)) ∧ Aside0 (kq ≤ kj15) ∧ Drawn0 w wc)
                                case first =>
                                  have H := HC18.out
                                  clear HC18
                                  by_cases c19 : x7_15 = 0
                                  · rw [if_pos c19] at H
                                    have c19b0 : (x7_15 == 0) = true := beq_iff_eq.mpr c19
                                    have c19b1 : (x7_15 != 0) = false := bne_eq_false_iff_eq.mpr c19
                                    clear c19
                                    (first | rw [c19b0] | (simp only [i64_w, i32_w]; rw [c19b0]) | skip)
                                    have H' := Aside0.mk H
                                    clear H
                                    go_wp2
                                    go_meet
                                    case rel => exact ⟨_, (true), (by first | rfl | (simp; done) | (simp [*]; done)), H', ⟨by have := HJ5.out; have := HJ7.out; have := HJ9.out; have := HJ11.out; have := HJ13.out; have := HJ15.out; first | omega | exact Nat.le_refl _⟩, by repeat (first | exact Drawn0.refl _ | apply Drawn0.step)⟩
                                  · rw [if_neg c19] at H
                                    have c19b0 : (x7_15 == 0) = false := beq_eq_false_iff_ne.mpr c19
                                    have c19b1 : (x7_15 != 0) = true := bne_iff_ne.mpr c19
                                    (first | rw [c19b0] | (simp only [i64_w, i32_w]; rw [c19b0]) | skip)
                                    have H' := Aside0.mk H
                                    clear H
                                    go_wp2
                                    go_meet
                                    case rel => exact ⟨_, (decide ((wrap64 ((l0.length : Int) - a1)) < x7_15)), (by first | rfl | (simp; done) | (simp [*]; done)), H', ⟨by have := HJ5.out; have := HJ7.out; have := HJ9.out; have := HJ11.out; have := HJ13.out; have := HJ15.out; first | omega | exact Nat.le_refl _⟩, by repeat (first | exact Drawn0.refl _ | apply Drawn0.step)⟩
                                case rest =>
                                  clear HC18
                                  try clear c1
                                  try clear p1
                                  try clear q1
                                  try clear hx1
                                  try clear p2
                                  try clear c3
                                  try clear c3b0
                                  try clear c4
                                  try clear c4b0
                                  try clear c5
                                  try clear c5b0
                                  try clear p6
                                  try clear c7
                                  try clear c7b0
                                  try clear c9
                                  try clear p10
                                  try clear q10
                                  try clear hx10
                                  try clear c11
                                  try clear c11b0
                                  try clear c13
                                  try clear c15
                                  try clear c15b0
                                  try clear c17
                                  try clear c19
                                  try clear c19b0
                                  try clear c19b1
                                  try clear hx105_0
                                  try clear p1
                                  try clear p10
                                  try clear p105
                                  try clear p2
                                  try clear p6
                                  try clear q1
                                  try clear q10
                                  try clear q105
                                  obtain ⟨kq, x52_17, rfl, HA, HJ17, ⟨mc17, rfl⟩⟩ := hcut
                                  cases kq with
                                  | zero => exact absurd HA.out (by simp [clewref01_At.j6])
                                  | succ kj17 =>
                                    have H := HA.out
                                    clear HA
                                    simp only [clewref01_At.j6] at H
                                    by_cases c20 : x52_17 = true
                                    · subst c20
                                      have H1 : (some (wrap64 (1114112 + (wrap64 (rd l0 a1))), 1)) = some (r1, r2) := by rw [if_pos rfl] at H; exact H
                                      clear H
                                      have H := H1
                                      clear H1
                                      simp only [Option.some.injEq, Prod.mk.injEq] at H
                                      obtain ⟨rfl, rfl⟩ := H
                                      go_wp2
                                      go_ret2
                                      exact ⟨by first | rfl | (simp; done) | (simp [*]; done), by repeat (first | exact Drawn0.refl _ | apply Drawn0.step)⟩
                                    · replace c20 := Bool.eq_false_iff.mpr c20
                                      subst c20
                                      have H1 : (clewref01_At.l0 kj17 l0 a1 (wrap64 (rd l0 a1)) x7_15 x8_15 1) = some (r1, r2) := by rw [if_neg (show ¬ (false = true) by decide)] at H; exact H
                                      clear H
                                      have H := H1
                                      clear H1
                                      have H' := Aside0.mk H
                                      clear H
                                      go_wp2
                                      go_loopg [8, 9] kj17 (fun kq v8 v9 w' => ∃ (x8_8 : Int) (x9_8 : Int), v8 = .int .i64 x8_8 ∧ v9 = .int .i64 x9_8 ∧ Aside0 (clewref01_At.l0 kq l0 a1 (wrap64 (rd l0 a1)) x7_15 x8_8 x9_8 = some (r1, r2)) ∧ Aside0 (kq ≤ kj17) ∧ Drawn0 w w')
                                      case atStart => exact ⟨(x8_15), (1), (by first | rfl | (simp; done) | (simp [*]; done)), (by first | rfl | (simp; done) | (simp [*]; done)), H', ⟨Nat.le_refl _⟩, by repeat (first | exact Drawn0.refl _ | apply Drawn0.step)⟩
                                      case round =>
                                        clear H'
                                        try clear c1
                                        try clear p1
                                        try clear q1
                                        try clear hx1
                                        try clear c2
                                        try clear p2
                                        try clear c3
                                        try clear c3b0
                                        try clear c4
                                        try clear c4b0
                                        try clear c5
                                        try clear c5b0
                                        try clear p6
                                        try clear c7
                                        try clear c7b0
                                        try clear c9
                                        try clear p10
                                        try clear q10
                                        try clear hx10
                                        try clear c11
                                        try clear c11b0
                                        try clear c13
                                        try clear c15
                                        try clear c15b0
                                        try clear c17
                                        try clear c19
                                        try clear c19b0
                                        try clear c19b1
                                        try clear c20
                                        try clear hx105_0
                                        try clear p1
                                        try clear p10
                                        try clear p105
                                        try clear p2
                                        try clear p6
                                        try clear q1
                                        try clear q10
                                        try clear q105
                                        obtain ⟨x8_8, x9_8, rfl, rfl, HA, HK8, ⟨m8, rfl⟩⟩ := hrel
                                        cases gk with
                                        | zero => exact absurd HA.out (by simp [clewref01_At.l0])
                                        | succ k8 =>
                                          have H := HA.out
                                          clear HA
                                          simp only [clewref01_At.l0] at H
                                          by_cases c21 : x9_8 < x7_15
                                          · rw [if_pos c21] at H
                                            have c21b0 : decide (x9_8 < x7_15) = true := decide_eq_true c21
                                            clear c21
                                            obtain ⟨ji22, hji22⟩ : ∃ j_ : Int, (wrap64 (a1 + x9_8)) = j_ := ⟨_, rfl⟩
                                            replace H : (if 0 ≤ (ji22) then (if (ji22) < (l0.length : Int) then (if (wrap64 (rd l0 (ji22))) < 128 then (some (wrap64 (1114112 + (wrap64 (rd l0 a1))), 1)) else (if (wrap64 (rd l0 (ji22))) > 191 then (some (wrap64 (1114112 + (wrap64 (rd l0 a1))), 1)) else (clewref01_At.l0 k8 l0 a1 (wrap64 (rd l0 a1)) x7_15 (wrap64 ((wrap64 ((wrap64 (x8_8 * 64)) + (wrap64 (rd l0 (ji22))))) - 128)) (wrap64 (x9_8 + 1))))) else (none)) else (none)) = some (r1, r2) := by first | (rw [hji22] at H; exact H) | (simp only [hji22] at H ⊢; exact H)
                                            have hji22w : (IntKind.i64.wrap (a1 + x9_8)) = ji22 := (i64_w _).trans hji22
                                            by_cases c23 : 0 ≤ (ji22)
                                            · rw [if_pos c23] at H
                                              have c23b0 : decide (0 ≤ (ji22)) = true := decide_eq_true c23
                                              clear c23
                                              by_cases c24 : (ji22) < (l0.length : Int)
                                              · rw [if_pos c24] at H
                                                have c24b0 : decide ((ji22) < (l0.length : Int)) = true := decide_eq_true c24
                                                clear c24
                                                by_cases c25 : (wrap64 (rd l0 (ji22))) < 128
                                                · rw [if_pos c25] at H
                                                  have c25b0 : decide ((wrap64 (rd l0 (ji22))) < 128) = true := decide_eq_true c25
                                                  clear c25
                                                  simp only [Option.some.injEq, Prod.mk.injEq] at H
                                                  obtain ⟨rfl, rfl⟩ := H
                                                  have p106 : 0 ≤ ((ji22) : Int) := of_decide_eq_true (by first | (with_reducible assumption) | assumption)
                                                  have q106 : (ji22) < (l0.length : Int) := of_decide_eq_true (by first | (with_reducible assumption) | assumption)
                                                  obtain ⟨ad106, e106, hx106_0⟩ := Kd.at_int HR0.out (ji22) p106 q106
                                                  obtain rfl : ad105 = ad106 := (by injection e106)
                                                  replace p106 := eq_true p106
                                                  replace q106 := eq_true q106
                                                  go_wp2
                                                  go_ret2
                                                  exact ⟨by first | rfl | (simp; done) | (simp only [← hji22] <;> (first | rfl | simp)) | (simp [*]; done), by repeat (first | exact Drawn0.refl _ | apply Drawn0.step)⟩
                                                · rw [if_neg c25] at H
                                                  have c25b0 : decide ((wrap64 (rd l0 (ji22))) < 128) = false := decide_eq_false c25
                                                  clear c25
                                                  by_cases c26 : (wrap64 (rd l0 (ji22))) > 191
                                                  · rw [if_pos c26] at H
                                                    have c26b0 : decide (191 < (wrap64 (rd l0 (ji22)))) = true := decide_eq_true c26
                                                    clear c26
                                                    simp only [Option.some.injEq, Prod.mk.injEq] at H
                                                    obtain ⟨rfl, rfl⟩ := H
                                                    have p106 : 0 ≤ ((ji22) : Int) := of_decide_eq_true (by first | (with_reducible assumption) | assumption)
                                                    have q106 : (ji22) < (l0.length : Int) := of_decide_eq_true (by first | (with_reducible assumption) | assumption)
                                                    obtain ⟨ad106, e106, hx106_0⟩ := Kd.at_int HR0.out (ji22) p106 q106
                                                    obtain rfl : ad105 = ad106 := (by injection e106)
                                                    replace p106 := eq_true p106
                                                    replace q106 := eq_true q106
                                                    go_wp2
                                                    go_ret2
                                                    exact ⟨by first | rfl | (simp; done) | (simp only [← hji22] <;> (first | rfl | simp)) | (simp [*]; done), by repeat (first | exact Drawn0.refl _ | apply Drawn0.step)⟩
                                                  · rw [if_neg c26] at H
                                                    have c26b0 : decide (191 < (wrap64 (rd l0 (ji22)))) = false := decide_eq_false c26
                                                    clear c26
                                                    have H' := Aside0.mk H
                                                    clear H
                                                    have p106 : 0 ≤ ((ji22) : Int) := of_decide_eq_true (by first | (with_reducible assumption) | assumption)
                                                    have q106 : (ji22) < (l0.length : Int) := of_decide_eq_true (by first | (with_reducible assumption) | assumption)
                                                    obtain ⟨ad106, e106, hx106_0⟩ := Kd.at_int HR0.out (ji22) p106 q106
                                                    obtain rfl : ad105 = ad106 := (by injection e106)
                                                    replace p106 := eq_true p106
                                                    replace q106 := eq_true q106
                                                    go_wp2
                                                    go_roundg k8
                                                    case measure => have := HJ5.out; have := HJ7.out; have := HJ9.out; have := HJ11.out; have := HJ13.out; have := HJ15.out; have := HJ17.out; have := HK8.out; omega
                                                    case rel => exact ⟨(wrap64 ((wrap64 ((wrap64 (x8_8 * 64)) + (wrap64 (rd l0 (ji22))))) - 128)), (wrap64 (x9_8 + 1)), (by first | rfl | (simp; done) | (simp only [← hji22] <;> (first | rfl | simp)) | (simp [*]; done)), (by first | rfl | (simp; done) | (simp [*]; done)), H', ⟨by have := HJ5.out; have := HJ7.out; have := HJ9.out; have := HJ11.out; have := HJ13.out; have := HJ15.out; have := HJ17.out; have := HK8.out; omega⟩, by repeat (first | exact Drawn0.refl _ | apply Drawn0.step)⟩
                                              · rw [if_neg c24] at H
                                                exact absurd H (by simp)
                                            · rw [if_neg c23] at H
                                              exact absurd H (by simp)
                                          · rw [if_neg c21] at H
                                            have c21b0 : decide (x9_8 < x7_15) = false := decide_eq_false c21
                                            clear c21
                                            by_cases c27 : x7_15 = 2
                                            · rw [if_pos c27] at H
                                              have c27b0 : (x7_15 == 2) = true := beq_iff_eq.mpr c27
                                              have c27b1 : (x7_15 != 2) = false := bne_eq_false_iff_eq.mpr c27
                                              clear c27
                                              by_cases c28 : x8_8 < 128
                                              · rw [if_pos c28] at H
                                                have c28b0 : decide (x8_8 < 128) = true := decide_eq_true c28
                                                clear c28
                                                simp only [Option.some.injEq, Prod.mk.injEq] at H
                                                obtain ⟨rfl, rfl⟩ := H
                                                go_wp2
                                                go_ret2
                                                exact ⟨by first | rfl | (simp; done) | (simp [*]; done), by repeat (first | exact Drawn0.refl _ | apply Drawn0.step)⟩
                                              · rw [if_neg c28] at H
                                                have c28b0 : decide (x8_8 < 128) = false := decide_eq_false c28
                                                clear c28
                                                by_cases c29 : x7_15 = 3
                                                · rw [if_pos c29] at H
                                                  have c29b0 : (x7_15 == 3) = true := beq_iff_eq.mpr c29
                                                  have c29b1 : (x7_15 != 3) = false := bne_eq_false_iff_eq.mpr c29
                                                  clear c29
                                                  by_cases c30 : x8_8 < 2048
                                                  · rw [if_pos c30] at H
                                                    have c30b0 : decide (x8_8 < 2048) = true := decide_eq_true c30
                                                    clear c30
                                                    simp only [Option.some.injEq, Prod.mk.injEq] at H
                                                    obtain ⟨rfl, rfl⟩ := H
                                                    go_wp2
                                                    go_ret2
                                                    exact ⟨by first | rfl | (simp; done) | (simp [*]; done), by repeat (first | exact Drawn0.refl _ | apply Drawn0.step)⟩
                                                  · rw [if_neg c30] at H
                                                    have c30b0 : decide (x8_8 < 2048) = false := decide_eq_false c30
                                                    clear c30
                                                    by_cases c31 : x7_15 = 4
                                                    · rw [if_pos c31] at H
                                                      have c31b0 : (x7_15 == 4) = true := beq_iff_eq.mpr c31
                                                      have c31b1 : (x7_15 != 4) = false := bne_eq_false_iff_eq.mpr c31
                                                      clear c31
                                                      by_cases c32 : x8_8 < 65536
                                                      · rw [if_pos c32] at H
                                                        have c32b0 : decide (x8_8 < 65536) = true := decide_eq_true c32
                                                        clear c32
                                                        simp only [Option.some.injEq, Prod.mk.injEq] at H
                                                        obtain ⟨rfl, rfl⟩ := H
                                                        go_wp2
                                                        go_ret2
                                                        exact ⟨by first | rfl | (simp; done) | (simp [*]; done), by repeat (first | exact Drawn0.refl _ | apply Drawn0.step)⟩
                                                      · rw [if_neg c32] at H
                                                        have c32b0 : decide (x8_8 < 65536) = false := decide_eq_false c32
                                                        clear c32
                                                        by_cases c33 : x8_8 > 1114111
                                                        · rw [if_pos c33] at H
                                                          have c33b0 : decide (1114111 < x8_8) = true := decide_eq_true c33
                                                          clear c33
                                                          simp only [Option.some.injEq, Prod.mk.injEq] at H
                                                          obtain ⟨rfl, rfl⟩ := H
                                                          go_wp2
                                                          go_ret2
                                                          exact ⟨by first | rfl | (simp; done) | (simp [*]; done), by repeat (first | exact Drawn0.refl _ | apply Drawn0.step)⟩
                                                        · rw [if_neg c33] at H
                                                          have c33b0 : decide (1114111 < x8_8) = false := decide_eq_false c33
                                                          clear c33
                                                          by_cases c34 : x8_8 ≥ 55296
                                                          · rw [if_pos c34] at H
                                                            have c34b0 : decide (55296 ≤ x8_8) = true := decide_eq_true c34
                                                            clear c34
                                                            by_cases c35 : x8_8 ≤ 57343
                                                            · rw [if_pos c35] at H
                                                              have c35b0 : decide (x8_8 ≤ 57343) = true := decide_eq_true c35
                                                              clear c35
                                                              simp only [Option.some.injEq, Prod.mk.injEq] at H
                                                              obtain ⟨rfl, rfl⟩ := H
                                                              go_wp2
                                                              go_ret2
                                                              exact ⟨by first | rfl | (simp; done) | (simp [*]; done), by repeat (first | exact Drawn0.refl _ | apply Drawn0.step)⟩
                                                            · rw [if_neg c35] at H
                                                              have c35b0 : decide (x8_8 ≤ 57343) = false := decide_eq_false c35
                                                              clear c35
                                                              simp only [Option.some.injEq, Prod.mk.injEq] at H
                                                              obtain ⟨rfl, rfl⟩ := H
                                                              go_wp2
                                                              go_ret2
                                                              exact ⟨by first | rfl | (simp; done) | (simp [*]; done), by repeat (first | exact Drawn0.refl _ | apply Drawn0.step)⟩
                                                          · rw [if_neg c34] at H
                                                            have c34b0 : decide (55296 ≤ x8_8) = false := decide_eq_false c34
                                                            clear c34
                                                            simp only [Option.some.injEq, Prod.mk.injEq] at H
                                                            obtain ⟨rfl, rfl⟩ := H
                                                            go_wp2
                                                            go_ret2
                                                            exact ⟨by first | rfl | (simp; done) | (simp [*]; done), by repeat (first | exact Drawn0.refl _ | apply Drawn0.step)⟩
                                                    · rw [if_neg c31] at H
                                                      have c31b0 : (x7_15 == 4) = false := beq_eq_false_iff_ne.mpr c31
                                                      have c31b1 : (x7_15 != 4) = true := bne_iff_ne.mpr c31
                                                      by_cases c36 : x8_8 > 1114111
                                                      · rw [if_pos c36] at H
                                                        have c36b0 : decide (1114111 < x8_8) = true := decide_eq_true c36
                                                        clear c36
                                                        simp only [Option.some.injEq, Prod.mk.injEq] at H
                                                        obtain ⟨rfl, rfl⟩ := H
                                                        go_wp2
                                                        go_ret2
                                                        exact ⟨by first | rfl | (simp; done) | (simp [*]; done), by repeat (first | exact Drawn0.refl _ | apply Drawn0.step)⟩
                                                      · rw [if_neg c36] at H
                                                        have c36b0 : decide (1114111 < x8_8) = false := decide_eq_false c36
                                                        clear c36
                                                        by_cases c37 : x8_8 ≥ 55296
                                                        · rw [if_pos c37] at H
                                                          have c37b0 : decide (55296 ≤ x8_8) = true := decide_eq_true c37
                                                          clear c37
                                                          by_cases c38 : x8_8 ≤ 57343
                                                          · rw [if_pos c38] at H
                                                            have c38b0 : decide (x8_8 ≤ 57343) = true := decide_eq_true c38
                                                            clear c38
                                                            simp only [Option.some.injEq, Prod.mk.injEq] at H
                                                            obtain ⟨rfl, rfl⟩ := H
                                                            go_wp2
                                                            go_ret2
                                                            exact ⟨by first | rfl | (simp; done) | (simp [*]; done), by repeat (first | exact Drawn0.refl _ | apply Drawn0.step)⟩
                                                          · rw [if_neg c38] at H
                                                            have c38b0 : decide (x8_8 ≤ 57343) = false := decide_eq_false c38
                                                            clear c38
                                                            simp only [Option.some.injEq, Prod.mk.injEq] at H
                                                            obtain ⟨rfl, rfl⟩ := H
                                                            go_wp2
                                                            go_ret2
                                                            exact ⟨by first | rfl | (simp; done) | (simp [*]; done), by repeat (first | exact Drawn0.refl _ | apply Drawn0.step)⟩
                                                        · rw [if_neg c37] at H
                                                          have c37b0 : decide (55296 ≤ x8_8) = false := decide_eq_false c37
                                                          clear c37
                                                          simp only [Option.some.injEq, Prod.mk.injEq] at H
                                                          obtain ⟨rfl, rfl⟩ := H
                                                          go_wp2
                                                          go_ret2
                                                          exact ⟨by first | rfl | (simp; done) | (simp [*]; done), by repeat (first | exact Drawn0.refl _ | apply Drawn0.step)⟩
                                                · rw [if_neg c29] at H
                                                  have c29b0 : (x7_15 == 3) = false := beq_eq_false_iff_ne.mpr c29
                                                  have c29b1 : (x7_15 != 3) = true := bne_iff_ne.mpr c29
                                                  by_cases c39 : x7_15 = 4
                                                  · rw [if_pos c39] at H
                                                    have c39b0 : (x7_15 == 4) = true := beq_iff_eq.mpr c39
                                                    have c39b1 : (x7_15 != 4) = false := bne_eq_false_iff_eq.mpr c39
                                                    clear c39
                                                    by_cases c40 : x8_8 < 65536
                                                    · rw [if_pos c40] at H
                                                      have c40b0 : decide (x8_8 < 65536) = true := decide_eq_true c40
                                                      clear c40
                                                      simp only [Option.some.injEq, Prod.mk.injEq] at H
                                                      obtain ⟨rfl, rfl⟩ := H
                                                      go_wp2
                                                      go_ret2
                                                      exact ⟨by first | rfl | (simp; done) | (simp [*]; done), by repeat (first | exact Drawn0.refl _ | apply Drawn0.step)⟩
                                                    · rw [if_neg c40] at H
                                                      have c40b0 : decide (x8_8 < 65536) = false := decide_eq_false c40
                                                      clear c40
                                                      by_cases c41 : x8_8 > 1114111
                                                      · rw [if_pos c41] at H
                                                        have c41b0 : decide (1114111 < x8_8) = true := decide_eq_true c41
                                                        clear c41
                                                        simp only [Option.some.injEq, Prod.mk.injEq] at H
                                                        obtain ⟨rfl, rfl⟩ := H
                                                        go_wp2
                                                        go_ret2
                                                        exact ⟨by first | rfl | (simp; done) | (simp [*]; done), by repeat (first | exact Drawn0.refl _ | apply Drawn0.step)⟩
                                                      · rw [if_neg c41] at H
                                                        have c41b0 : decide (1114111 < x8_8) = false := decide_eq_false c41
                                                        clear c41
                                                        by_cases c42 : x8_8 ≥ 55296
                                                        · rw [if_pos c42] at H
                                                          have c42b0 : decide (55296 ≤ x8_8) = true := decide_eq_true c42
                                                          clear c42
                                                          by_cases c43 : x8_8 ≤ 57343
                                                          · rw [if_pos c43] at H
                                                            have c43b0 : decide (x8_8 ≤ 57343) = true := decide_eq_true c43
                                                            clear c43
                                                            simp only [Option.some.injEq, Prod.mk.injEq] at H
                                                            obtain ⟨rfl, rfl⟩ := H
                                                            go_wp2
                                                            go_ret2
                                                            exact ⟨by first | rfl | (simp; done) | (simp [*]; done), by repeat (first | exact Drawn0.refl _ | apply Drawn0.step)⟩
                                                          · rw [if_neg c43] at H
                                                            have c43b0 : decide (x8_8 ≤ 57343) = false := decide_eq_false c43
                                                            clear c43
                                                            simp only [Option.some.injEq, Prod.mk.injEq] at H
                                                            obtain ⟨rfl, rfl⟩ := H
                                                            go_wp2
                                                            go_ret2
                                                            exact ⟨by first | rfl | (simp; done) | (simp [*]; done), by repeat (first | exact Drawn0.refl _ | apply Drawn0.step)⟩
                                                        · rw [if_neg c42] at H
                                                          have c42b0 : decide (55296 ≤ x8_8) = false := decide_eq_false c42
                                                          clear c42
                                                          simp only [Option.some.injEq, Prod.mk.injEq] at H
                                                          obtain ⟨rfl, rfl⟩ := H
                                                          go_wp2
                                                          go_ret2
                                                          exact ⟨by first | rfl | (simp; done) | (simp [*]; done), by repeat (first | exact Drawn0.refl _ | apply Drawn0.step)⟩
                                                  · rw [if_neg c39] at H
                                                    have c39b0 : (x7_15 == 4) = false := beq_eq_false_iff_ne.mpr c39
                                                    have c39b1 : (x7_15 != 4) = true := bne_iff_ne.mpr c39
                                                    by_cases c44 : x8_8 > 1114111
                                                    · rw [if_pos c44] at H
                                                      have c44b0 : decide (1114111 < x8_8) = true := decide_eq_true c44
                                                      clear c44
                                                      simp only [Option.some.injEq, Prod.mk.injEq] at H
                                                      obtain ⟨rfl, rfl⟩ := H
                                                      go_wp2
                                                      go_ret2
                                                      exact ⟨by first | rfl | (simp; done) | (simp [*]; done), by repeat (first | exact Drawn0.refl _ | apply Drawn0.step)⟩
                                                    · rw [if_neg c44] at H
                                                      have c44b0 : decide (1114111 < x8_8) = false := decide_eq_false c44
                                                      clear c44
                                                      by_cases c45 : x8_8 ≥ 55296
                                                      · rw [if_pos c45] at H
                                                        have c45b0 : decide (55296 ≤ x8_8) = true := decide_eq_true c45
                                                        clear c45
                                                        by_cases c46 : x8_8 ≤ 57343
                                                        · rw [if_pos c46] at H
                                                          have c46b0 : decide (x8_8 ≤ 57343) = true := decide_eq_true c46
                                                          clear c46
                                                          simp only [Option.some.injEq, Prod.mk.injEq] at H
                                                          obtain ⟨rfl, rfl⟩ := H
                                                          go_wp2
                                                          go_ret2
                                                          exact ⟨by first | rfl | (simp; done) | (simp [*]; done), by repeat (first | exact Drawn0.refl _ | apply Drawn0.step)⟩
                                                        · rw [if_neg c46] at H
                                                          have c46b0 : decide (x8_8 ≤ 57343) = false := decide_eq_false c46
                                                          clear c46
                                                          simp only [Option.some.injEq, Prod.mk.injEq] at H
                                                          obtain ⟨rfl, rfl⟩ := H
                                                          go_wp2
                                                          go_ret2
                                                          exact ⟨by first | rfl | (simp; done) | (simp [*]; done), by repeat (first | exact Drawn0.refl _ | apply Drawn0.step)⟩
                                                      · rw [if_neg c45] at H
                                                        have c45b0 : decide (55296 ≤ x8_8) = false := decide_eq_false c45
                                                        clear c45
                                                        simp only [Option.some.injEq, Prod.mk.injEq] at H
                                                        obtain ⟨rfl, rfl⟩ := H
                                                        go_wp2
                                                        go_ret2
                                                        exact ⟨by first | rfl | (simp; done) | (simp [*]; done), by repeat (first | exact Drawn0.refl _ | apply Drawn0.step)⟩
                                            · rw [if_neg c27] at H
                                              have c27b0 : (x7_15 == 2) = false := beq_eq_false_iff_ne.mpr c27
                                              have c27b1 : (x7_15 != 2) = true := bne_iff_ne.mpr c27
                                              by_cases c47 : x7_15 = 3
                                              · rw [if_pos c47] at H
                                                have c47b0 : (x7_15 == 3) = true := beq_iff_eq.mpr c47
                                                have c47b1 : (x7_15 != 3) = false := bne_eq_false_iff_eq.mpr c47
                                                clear c47
                                                by_cases c48 : x8_8 < 2048
                                                · rw [if_pos c48] at H
                                                  have c48b0 : decide (x8_8 < 2048) = true := decide_eq_true c48
                                                  clear c48
                                                  simp only [Option.some.injEq, Prod.mk.injEq] at H
                                                  obtain ⟨rfl, rfl⟩ := H
                                                  go_wp2
                                                  go_ret2
                                                  exact ⟨by first | rfl | (simp; done) | (simp [*]; done), by repeat (first | exact Drawn0.refl _ | apply Drawn0.step)⟩
                                                · rw [if_neg c48] at H
                                                  have c48b0 : decide (x8_8 < 2048) = false := decide_eq_false c48
                                                  clear c48
                                                  by_cases c49 : x7_15 = 4
                                                  · rw [if_pos c49] at H
                                                    have c49b0 : (x7_15 == 4) = true := beq_iff_eq.mpr c49
                                                    have c49b1 : (x7_15 != 4) = false := bne_eq_false_iff_eq.mpr c49
                                                    clear c49
                                                    by_cases c50 : x8_8 < 65536
                                                    · rw [if_pos c50] at H
                                                      have c50b0 : decide (x8_8 < 65536) = true := decide_eq_true c50
                                                      clear c50
                                                      simp only [Option.some.injEq, Prod.mk.injEq] at H
                                                      obtain ⟨rfl, rfl⟩ := H
                                                      go_wp2
                                                      go_ret2
                                                      exact ⟨by first | rfl | (simp; done) | (simp [*]; done), by repeat (first | exact Drawn0.refl _ | apply Drawn0.step)⟩
                                                    · rw [if_neg c50] at H
                                                      have c50b0 : decide (x8_8 < 65536) = false := decide_eq_false c50
                                                      clear c50
                                                      by_cases c51 : x8_8 > 1114111
                                                      · rw [if_pos c51] at H
                                                        have c51b0 : decide (1114111 < x8_8) = true := decide_eq_true c51
                                                        clear c51
                                                        simp only [Option.some.injEq, Prod.mk.injEq] at H
                                                        obtain ⟨rfl, rfl⟩ := H
                                                        go_wp2
                                                        go_ret2
                                                        exact ⟨by first | rfl | (simp; done) | (simp [*]; done), by repeat (first | exact Drawn0.refl _ | apply Drawn0.step)⟩
                                                      · rw [if_neg c51] at H
                                                        have c51b0 : decide (1114111 < x8_8) = false := decide_eq_false c51
                                                        clear c51
                                                        by_cases c52 : x8_8 ≥ 55296
                                                        · rw [if_pos c52] at H
                                                          have c52b0 : decide (55296 ≤ x8_8) = true := decide_eq_true c52
                                                          clear c52
                                                          by_cases c53 : x8_8 ≤ 57343
                                                          · rw [if_pos c53] at H
                                                            have c53b0 : decide (x8_8 ≤ 57343) = true := decide_eq_true c53
                                                            clear c53
                                                            simp only [Option.some.injEq, Prod.mk.injEq] at H
                                                            obtain ⟨rfl, rfl⟩ := H
                                                            go_wp2
                                                            go_ret2
                                                            exact ⟨by first | rfl | (simp; done) | (simp [*]; done), by repeat (first | exact Drawn0.refl _ | apply Drawn0.step)⟩
                                                          · rw [if_neg c53] at H
                                                            have c53b0 : decide (x8_8 ≤ 57343) = false := decide_eq_false c53
                                                            clear c53
                                                            simp only [Option.some.injEq, Prod.mk.injEq] at H
                                                            obtain ⟨rfl, rfl⟩ := H
                                                            go_wp2
                                                            go_ret2
                                                            exact ⟨by first | rfl | (simp; done) | (simp [*]; done), by repeat (first | exact Drawn0.refl _ | apply Drawn0.step)⟩
                                                        · rw [if_neg c52] at H
                                                          have c52b0 : decide (55296 ≤ x8_8) = false := decide_eq_false c52
                                                          clear c52
                                                          simp only [Option.some.injEq, Prod.mk.injEq] at H
                                                          obtain ⟨rfl, rfl⟩ := H
                                                          go_wp2
                                                          go_ret2
                                                          exact ⟨by first | rfl | (simp; done) | (simp [*]; done), by repeat (first | exact Drawn0.refl _ | apply Drawn0.step)⟩
                                                  · rw [if_neg c49] at H
                                                    have c49b0 : (x7_15 == 4) = false := beq_eq_false_iff_ne.mpr c49
                                                    have c49b1 : (x7_15 != 4) = true := bne_iff_ne.mpr c49
                                                    by_cases c54 : x8_8 > 1114111
                                                    · rw [if_pos c54] at H
                                                      have c54b0 : decide (1114111 < x8_8) = true := decide_eq_true c54
                                                      clear c54
                                                      simp only [Option.some.injEq, Prod.mk.injEq] at H
                                                      obtain ⟨rfl, rfl⟩ := H
                                                      go_wp2
                                                      go_ret2
                                                      exact ⟨by first | rfl | (simp; done) | (simp [*]; done), by repeat (first | exact Drawn0.refl _ | apply Drawn0.step)⟩
                                                    · rw [if_neg c54] at H
                                                      have c54b0 : decide (1114111 < x8_8) = false := decide_eq_false c54
                                                      clear c54
                                                      by_cases c55 : x8_8 ≥ 55296
                                                      · rw [if_pos c55] at H
                                                        have c55b0 : decide (55296 ≤ x8_8) = true := decide_eq_true c55
                                                        clear c55
                                                        by_cases c56 : x8_8 ≤ 57343
                                                        · rw [if_pos c56] at H
                                                          have c56b0 : decide (x8_8 ≤ 57343) = true := decide_eq_true c56
                                                          clear c56
                                                          simp only [Option.some.injEq, Prod.mk.injEq] at H
                                                          obtain ⟨rfl, rfl⟩ := H
                                                          go_wp2
                                                          go_ret2
                                                          exact ⟨by first | rfl | (simp; done) | (simp [*]; done), by repeat (first | exact Drawn0.refl _ | apply Drawn0.step)⟩
                                                        · rw [if_neg c56] at H
                                                          have c56b0 : decide (x8_8 ≤ 57343) = false := decide_eq_false c56
                                                          clear c56
                                                          simp only [Option.some.injEq, Prod.mk.injEq] at H
                                                          obtain ⟨rfl, rfl⟩ := H
                                                          go_wp2
                                                          go_ret2
                                                          exact ⟨by first | rfl | (simp; done) | (simp [*]; done), by repeat (first | exact Drawn0.refl _ | apply Drawn0.step)⟩
                                                      · rw [if_neg c55] at H
                                                        have c55b0 : decide (55296 ≤ x8_8) = false := decide_eq_false c55
                                                        clear c55
                                                        simp only [Option.some.injEq, Prod.mk.injEq] at H
                                                        obtain ⟨rfl, rfl⟩ := H
                                                        go_wp2
                                                        go_ret2
                                                        exact ⟨by first | rfl | (simp; done) | (simp [*]; done), by repeat (first | exact Drawn0.refl _ | apply Drawn0.step)⟩
                                              · rw [if_neg c47] at H
                                                have c47b0 : (x7_15 == 3) = false := beq_eq_false_iff_ne.mpr c47
                                                have c47b1 : (x7_15 != 3) = true := bne_iff_ne.mpr c47
                                                by_cases c57 : x7_15 = 4
                                                · rw [if_pos c57] at H
                                                  have c57b0 : (x7_15 == 4) = true := beq_iff_eq.mpr c57
                                                  have c57b1 : (x7_15 != 4) = false := bne_eq_false_iff_eq.mpr c57
                                                  clear c57
                                                  by_cases c58 : x8_8 < 65536
                                                  · rw [if_pos c58] at H
                                                    have c58b0 : decide (x8_8 < 65536) = true := decide_eq_true c58
                                                    clear c58
                                                    simp only [Option.some.injEq, Prod.mk.injEq] at H
                                                    obtain ⟨rfl, rfl⟩ := H
                                                    go_wp2
                                                    go_ret2
                                                    exact ⟨by first | rfl | (simp; done) | (simp [*]; done), by repeat (first | exact Drawn0.refl _ | apply Drawn0.step)⟩
                                                  · rw [if_neg c58] at H
                                                    have c58b0 : decide (x8_8 < 65536) = false := decide_eq_false c58
                                                    clear c58
                                                    by_cases c59 : x8_8 > 1114111
                                                    · rw [if_pos c59] at H
                                                      have c59b0 : decide (1114111 < x8_8) = true := decide_eq_true c59
                                                      clear c59
                                                      simp only [Option.some.injEq, Prod.mk.injEq] at H
                                                      obtain ⟨rfl, rfl⟩ := H
                                                      go_wp2
                                                      go_ret2
                                                      exact ⟨by first | rfl | (simp; done) | (simp [*]; done), by repeat (first | exact Drawn0.refl _ | apply Drawn0.step)⟩
                                                    · rw [if_neg c59] at H
                                                      have c59b0 : decide (1114111 < x8_8) = false := decide_eq_false c59
                                                      clear c59
                                                      by_cases c60 : x8_8 ≥ 55296
                                                      · rw [if_pos c60] at H
                                                        have c60b0 : decide (55296 ≤ x8_8) = true := decide_eq_true c60
                                                        clear c60
                                                        by_cases c61 : x8_8 ≤ 57343
                                                        · rw [if_pos c61] at H
                                                          have c61b0 : decide (x8_8 ≤ 57343) = true := decide_eq_true c61
                                                          clear c61
                                                          simp only [Option.some.injEq, Prod.mk.injEq] at H
                                                          obtain ⟨rfl, rfl⟩ := H
                                                          go_wp2
                                                          go_ret2
                                                          exact ⟨by first | rfl | (simp; done) | (simp [*]; done), by repeat (first | exact Drawn0.refl _ | apply Drawn0.step)⟩
                                                        · rw [if_neg c61] at H
                                                          have c61b0 : decide (x8_8 ≤ 57343) = false := decide_eq_false c61
                                                          clear c61
                                                          simp only [Option.some.injEq, Prod.mk.injEq] at H
                                                          obtain ⟨rfl, rfl⟩ := H
                                                          go_wp2
                                                          go_ret2
                                                          exact ⟨by first | rfl | (simp; done) | (simp [*]; done), by repeat (first | exact Drawn0.refl _ | apply Drawn0.step)⟩
                                                      · rw [if_neg c60] at H
                                                        have c60b0 : decide (55296 ≤ x8_8) = false := decide_eq_false c60
                                                        clear c60
                                                        simp only [Option.some.injEq, Prod.mk.injEq] at H
                                                        obtain ⟨rfl, rfl⟩ := H
                                                        go_wp2
                                                        go_ret2
                                                        exact ⟨by first | rfl | (simp; done) | (simp [*]; done), by repeat (first | exact Drawn0.refl _ | apply Drawn0.step)⟩
                                                · rw [if_neg c57] at H
                                                  have c57b0 : (x7_15 == 4) = false := beq_eq_false_iff_ne.mpr c57
                                                  have c57b1 : (x7_15 != 4) = true := bne_iff_ne.mpr c57
                                                  by_cases c62 : x8_8 > 1114111
                                                  · rw [if_pos c62] at H
                                                    have c62b0 : decide (1114111 < x8_8) = true := decide_eq_true c62
                                                    clear c62
                                                    simp only [Option.some.injEq, Prod.mk.injEq] at H
                                                    obtain ⟨rfl, rfl⟩ := H
                                                    go_wp2
                                                    go_ret2
                                                    exact ⟨by first | rfl | (simp; done) | (simp [*]; done), by repeat (first | exact Drawn0.refl _ | apply Drawn0.step)⟩
                                                  · rw [if_neg c62] at H
                                                    have c62b0 : decide (1114111 < x8_8) = false := decide_eq_false c62
                                                    clear c62
                                                    by_cases c63 : x8_8 ≥ 55296
                                                    · rw [if_pos c63] at H
                                                      have c63b0 : decide (55296 ≤ x8_8) = true := decide_eq_true c63
                                                      clear c63
                                                      by_cases c64 : x8_8 ≤ 57343
                                                      · rw [if_pos c64] at H
                                                        have c64b0 : decide (x8_8 ≤ 57343) = true := decide_eq_true c64
                                                        clear c64
                                                        simp only [Option.some.injEq, Prod.mk.injEq] at H
                                                        obtain ⟨rfl, rfl⟩ := H
                                                        go_wp2
                                                        go_ret2
                                                        exact ⟨by first | rfl | (simp; done) | (simp [*]; done), by repeat (first | exact Drawn0.refl _ | apply Drawn0.step)⟩
                                                      · rw [if_neg c64] at H
                                                        have c64b0 : decide (x8_8 ≤ 57343) = false := decide_eq_false c64
                                                        clear c64
                                                        simp only [Option.some.injEq, Prod.mk.injEq] at H
                                                        obtain ⟨rfl, rfl⟩ := H
                                                        go_wp2
                                                        go_ret2
                                                        exact ⟨by first | rfl | (simp; done) | (simp [*]; done), by repeat (first | exact Drawn0.refl _ | apply Drawn0.step)⟩
                                                    · rw [if_neg c63] at H
                                                      have c63b0 : decide (55296 ≤ x8_8) = false := decide_eq_false c63
                                                      clear c63
                                                      simp only [Option.some.injEq, Prod.mk.injEq] at H
                                                      obtain ⟨rfl, rfl⟩ := H
                                                      go_wp2
                                                      go_ret2
                                                      exact ⟨by first | rfl | (simp; done) | (simp [*]; done), by repeat (first | exact Drawn0.refl _ | apply Drawn0.step)⟩
    · rw [if_neg c4] at H
      exact absurd H (by simp)
  · rw [if_neg c3] at H
    exact absurd H (by simp)

end Go.Proofs.YtjgbhajaiifimaaDoor.P
