/- rset.Has, by hand: for every list of ranges that is read, and every number, the call answers whether the number can be a symbol and one of the ranges has it; nothing that was there is turned. -/
import Derived.Test.YteploglmfmhppaaPx0
import Derived.Shelf.Abstract
namespace Go.Proofs.Yteploglmfmhppaa.P
open Go.RowKit Go.Shelf Go.Proofs.YteploglmfmhppaaW.PrintWords Go.Proofs.YteploglmfmhppaaW.PrintLast Go.Proofs.YteploglmfmhppaaW.PrintMore
set_option linter.unusedVariables false
set_option linter.unusedSimpArgs false

/-- Is a number in a range? -/
def inR (r : S42) (x : Int) : Bool := decide (r.f0 ≤ x) && decide (x ≤ r.f1)
/-- Is a number in a range of a list? -/
def hasB (l : List S42) (x : Int) : Bool := decide (0 ≤ x) && decide (x ≤ 1114367) && l.any fun r => inR r x
def rset_Has.f (l0 : List S42) (a1 : Int) : Option Bool := some (hasB l0 a1)

/-- What is asked of a closure that tells of a range. -/
def TellsR (g : Nat) (lb : Array Value) (p : S42 → Bool) (w : World) : Prop :=
  ∀ (W : World) (x : S42), Below w.heap.size w W → Calls Try.prog g (#[.agg #[.int .i64 x.f0, .int .i64 x.f1]] ++ lb) W fun e w' => e = .returned (.bool (p x)) ∧ Below w.heap.size w w'

/-- The first place at which p holds, or -1. -/
def idxR (p : S42 → Bool) (l : List S42) : Int := if l.any p then ((l.takeWhile fun x => !p x).length : Int) else -1

theorem any_at {α : Type} (p : α → Bool) (l : List α) (kk : Nat) (h : kk < l.length) {z : α} (hp : p (l.getD kk z) = true) : l.any p = true := by
  rw [List.any_eq_true]
  refine ⟨l[kk], List.getElem_mem h, ?_⟩
  rwa [List.getD_eq_getElem?_getD, List.getElem?_eq_getElem h] at hp
theorem any_none {α : Type} (p : α → Bool) (l : List α) {z : α} (hp : ∀ j, j < l.length → p (l.getD j z) = false) : l.any p = false := by
  rw [List.any_eq_false]
  intro x hx
  obtain ⟨j, hj, rfl⟩ := List.getElem_of_mem hx
  have := hp j hj
  rw [List.getD_eq_getElem?_getD, List.getElem?_eq_getElem hj] at this
  simpa using this
set_option maxHeartbeats 2000000 in
theorem indexFuncR (p : S42 → Bool) (g : Nat) (lb : Array Value) (eg : ∀ args w, (callFunc g args).run Try.prog w = .ok (.enter g args) w) (A0 : Option Addr) (c0 : Nat) (l0 : List S42) (w : World)
    (hr0 : Kd.C k42 w A0 l0.length l0) (hbig : l0.length ≤ 9223372036854775807) (hp : TellsR g lb p w) :
    Calls Try.prog 72 #[.slice A0 l0.length c0, .func (.func g) #[] lb] w fun e w' => (∃ i : Int, e = .returned (.int .i64 i) ∧ (decide (0 ≤ i) = l0.any p)) ∧ Below w.heap.size w w' := by
  have HR := Aside0.mk hr0
  have HP := Aside0.mk hp
  clear hr0 hp
  go_enter Try.func72, Try.ntmps72
  go_wp2
  go_loopg [5, 8] l0.length (fun gg _ s8 wr => ∃ kk : Nat, kk ≤ l0.length ∧ l0.length - kk ≤ gg ∧ s8 = .int .i64 kk ∧ Aside0 (Below w.heap.size w wr) ∧ Aside0 (∀ j, j < kk → p (rd_T42 l0 (j : Int)) = false))
  case atStart => exact ⟨0, Nat.zero_le _, by omega, rfl, ⟨Below.refl _ w⟩, ⟨fun j hj => absurd hj (Nat.not_lt_zero _)⟩⟩
  case round =>
    obtain ⟨kk, hkk, hg, rfl, BW, AL⟩ := hrel
    by_cases hlt : kk < l0.length
    · have hltz : (kk : Int) < (l0.length : Int) := by omega
      obtain ⟨ad, rfl, hx0, hx1⟩ := at_T42 (Kd.C_below HR.out BW.out) (kk : Int) (by omega) hltz
      simp only [Int.toNat_natCast] at hx0 hx1
      have hcall := HP.out wr (rd_T42 l0 (kk : Int)) BW.out
      generalize hy : rd_T42 l0 (kk : Int) = y at hx0 hx1 hcall
      have HY := Aside0.mk hy
      clear hy HP
      cases hq : p y with
      | true =>
        rw [hq] at hcall
        have HQ := Aside0.mk hq
        clear hq
        go_wp2_with ((with_reducible refine hcall.mono ?_); rintro e w' ⟨rfl, hb'⟩)
        go_ret
        refine ⟨⟨(kk : Int), rfl, ?_⟩, hb'⟩
        rw [any_at (z := z42) p l0 kk hlt (show p (rd_T42 l0 (kk : Int)) = true by rw [HY.out]; exact HQ.out)]
        simp
      | false =>
        rw [hq] at hcall
        have HQ := Aside0.mk hq
        clear hq
        go_wp2_with ((with_reducible refine hcall.mono ?_); rintro e w' ⟨rfl, hb'⟩)
        go_roundg (l0.length - (kk + 1))
        case measure => omega
        case rel =>
          refine ⟨kk + 1, by omega, by omega, by go_num, ⟨hb'⟩, ⟨fun j hj => ?_⟩⟩
          by_cases e : j = kk
          · subst e
            rw [HY.out]; exact HQ.out
          · exact AL.out j (by omega)
    · have : kk = l0.length := by omega
      subst this
      have hltz : ¬ (l0.length : Int) < (l0.length : Int) := by omega
      go_wp2
      go_ret
      refine ⟨⟨-1, rfl, ?_⟩, BW.out⟩
      rw [any_none (z := z42) p l0 AL.out]
      rfl

theorem containsFuncR (p : S42 → Bool) (g : Nat) (lb : Array Value) (eg : ∀ args w, (callFunc g args).run Try.prog w = .ok (.enter g args) w) (A0 : Option Addr) (c0 : Nat) (l0 : List S42) (w : World)
    (hr0 : Kd.C k42 w A0 l0.length l0) (hbig : l0.length ≤ 9223372036854775807) (hp : TellsR g lb p w) :
    Calls Try.prog 57 #[.slice A0 l0.length c0, .func (.func g) #[] lb] w fun e w' => e = .returned (.bool (l0.any p)) ∧ Below w.heap.size w w' := by
  have hc := indexFuncR p g lb eg A0 c0 l0 w hr0 hbig hp
  clear hr0 hp hbig
  generalize l0.any p = b at hc ⊢
  go_enter Try.func57, Try.ntmps57
  go_wp2_with ((with_reducible refine hc.mono ?_); rintro e w' ⟨⟨i, rfl, hi⟩, hb'⟩; have HI := Aside0.mk hi; clear hi)
  go_ret
  exact ⟨by rw [← HI.out]; rfl, hb'⟩

/-- The closure of rset.Has: the number lies in a variable of the call's. -/
theorem tellsHas (x : Int) (B : Nat) (w : World) (hB : B < w.heap.size) (hcell : w.cell? ⟨B, 0, none⟩ = some (.int .i64 x)) : TellsR 58 #[.pointer (some ⟨B, 0, none⟩)] (fun r => inR r x) w := fun W r hb => by
  have hc : W.cell? ⟨B, 0, none⟩ = some (.int .i64 x) := (hb.cell (p := ⟨B, 0, none⟩) hB).trans hcell
  have hBW : B < W.heap.size := Nat.lt_of_lt_of_le hB hb.size
  have hne : B ≠ W.heap.size := by omega
  show Calls Try.prog 58 #[.agg #[.int .i64 r.f0, .int .i64 r.f1], .pointer (some ⟨B, 0, none⟩)] W _
  clear hcell hB
  unfold inR
  obtain ⟨a, b⟩ := r
  dsimp only
  have HB := Aside0.mk hb
  clear hb
  by_cases h1 : a ≤ x
  · have h1' : decide (a ≤ x) = true := decide_eq_true h1
    rw [h1']
    go_enter Try.func58, Try.ntmps58
    go_wp2
    all_goals (go_ret; exact ⟨by simp, HB.out.alloc HB.out.size _⟩)
  · have h1' : decide (a ≤ x) = false := decide_eq_false h1
    rw [h1']
    go_enter Try.func58, Try.ntmps58
    go_wp2
    all_goals (go_ret; exact ⟨by simp, HB.out.alloc HB.out.size _⟩)

set_option maxHeartbeats 2000000 in
theorem rset_Has.calls (A0 : Option Addr) (c0 : Nat) (l0 : List S42) (a1 : Int) (r : Bool) (w : World) (hr0 : Kd.C k42 w A0 l0.length l0) (hc0 : l0.length ≤ c0) (h : rset_Has.f l0 a1 = some r) :
    Calls Try.prog 28 #[.slice A0 l0.length c0, .int .i64 a1] w fun e w' => e = .returned (.bool r) ∧ Below w.heap.size w w' := by
  obtain rfl : hasB l0 a1 = r := Option.some.inj h
  clear h
  have hbig : l0.length ≤ 9223372036854775807 := hr0.2.1
  have hcon := containsFuncR (fun r => inR r a1) 58 #[.pointer (some ⟨w.heap.size, 0, none⟩)] (enters_of Try.func58 (by kernel_rfl) rfl) A0 c0 l0 (w.alloc (.cells #[.int .i64 a1] 3))
    (Kd.C_alloc hr0 _) hbig (tellsHas a1 w.heap.size _ (by simp) (by simp))
  clear hr0 hc0 hbig
  unfold hasB
  generalize (l0.any fun r => inR r a1) = b at hcon ⊢
  by_cases h0 : 0 ≤ a1
  · by_cases h1 : a1 ≤ 1114367
    · have g0 : decide (0 ≤ a1) = true := decide_eq_true h0
      have g1 : decide (a1 ≤ 1114367) = true := decide_eq_true h1
      rw [g0, g1]
      have HC := Aside0.mk hcon
      clear hcon g0 g1
      go_enter Try.func28, Try.ntmps28
      go_wp2_with ((with_reducible refine HC.out.mono ?_); rintro e w' ⟨rfl, hb'⟩)
      go_ret
      exact ⟨by simp, ((Below.refl _ w).alloc (Nat.le_refl _) _).trans (hb'.mono (by simp))⟩
    · have g1 : decide (a1 ≤ 1114367) = false := decide_eq_false h1
      rw [g1]
      clear hcon g1
      go_enter Try.func28, Try.ntmps28
      go_wp2
      go_ret
      exact ⟨by simp, (Below.refl _ w).alloc (Nat.le_refl _) _⟩
  · have g0 : decide (0 ≤ a1) = false := decide_eq_false h0
    rw [g0]
    clear hcon g0
    go_enter Try.func28, Try.ntmps28
    go_wp2
    go_ret
    exact ⟨by simp, (Below.refl _ w).alloc (Nat.le_refl _) _⟩
end Go.Proofs.Yteploglmfmhppaa.P
