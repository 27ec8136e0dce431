-- written by a program of this session: a printer with hand-proved functions beside (wip/print2)
import Derived.Test.YteploglmfmhppaaPx0
import Derived.Test.YteploglmfmhppaaPx11
import Derived.Test.YteploglmfmhppaaPx12
namespace Go.Proofs.Yteploglmfmhppaa.P
open Go.RowKit Go.Proofs.YteploglmfmhppaaW.PrintWords Go.Proofs.YteploglmfmhppaaW.PrintLast Go.Proofs.YteploglmfmhppaaW.PrintMore
attribute [local go_sem] max2_int min2_int max_two min_two max_three min_three max_four min_four   -- for this text's walks alone
set_option linter.unusedVariables false
set_option linter.unusedSimpArgs false

/-! ### clewref03_Fold: function 20 -/
def clewref03_Fold.f (k : Nat) (a0 : Int) : Option (Int) := (clewref03_Orbit.f k a0).bind fun t428 => (if (t428.length : Int) = 0 then (some a0) else (if 0 < (t428.length : Int) then (some (rd t428 0)) else (none)))
theorem clewref03_Fold.mono : ∀ a0 k, LeO (clewref03_Fold.f k a0) (clewref03_Fold.f (k + 1) a0) := by
  intro a0 k
  unfold clewref03_Fold.f
  repeat' first
      | (with_reducible exact clewref03_Orbit.mono _ _)
      | (with_reducible exact LeO.refl _)
      | (with_reducible exact LeO.none _)
      | (with_reducible refine LeO.ite ?_ ?_)
      | (with_reducible refine LeO.bind ?_ (fun _ => ?_))
      | exact clewref03_Orbit.mono _ _
      | exact LeO.none _
      | refine LeO.ite ?_ ?_
      | refine LeO.bind ?_ (fun _ => ?_)
set_option maxHeartbeats 8000000 in
set_option maxRecDepth 100000 in
theorem clewref03_Fold.calls (k : Nat) (a0 : Int) (r : Int) (w : World) (h : clewref03_Fold.f k a0 = some r) :
    Calls Try.prog 20 #[.int .i64 a0] w fun e w' => e = .returned (.int .i64 r) ∧ Below w.heap.size w w' := by
  have HB := Aside0.mk (Below.refl w.heap.size w)
  have H : ((clewref03_Orbit.f k a0).bind fun t428 => (if (t428.length : Int) = 0 then (some a0) else (if 0 < (t428.length : Int) then (some (rd t428 0)) else (none)))) = some r := h
  clear h
  replace H := Option.bind_eq_some_iff.mp H
  obtain ⟨t428, A20, H⟩ := H
  replace H : (if (t428.length : Int) = 0 then (some a0) else (if 0 < (t428.length : Int) then (some (rd t428 0)) else (none))) = some r := H
  have A2 := Aside0.mk A20
  clear A20
  by_cases c3 : (t428.length : Int) = 0
  · rw [if_pos c3] at H
    have c3b0 : ((t428.length : Int) == 0) = true := beq_iff_eq.mpr c3
    have c3b1 : ((t428.length : Int) != 0) = false := bne_eq_false_iff_eq.mpr c3
    clear c3
    obtain rfl := Option.some.inj H
    go_enter Try.func20, Try.ntmps20
    go_wp2_with (first | ((with_reducible refine gate_callee (f := 18) rfl ?_); refine goesL_ (some 5) rfl rfl Try.func18 (by kernel_rfl) rfl #[.int .i64 a0] rfl (by (try simp only [List.map_toArray, List.map_cons, List.map_nil]); first | done | rfl | (simp only [List.length_drop, List.length_take]; rfl)) ?_; (with_reducible refine (clewref03_Orbit.calls k a0 t428 _ A2.out).mono ?_); rintro e w4 ⟨v429, rfl, ho0, hb⟩; refine ⟨_, rfl, ?_⟩; have n0_ := Aside0.mk (Kd.R_lower ho0 (below_size (by repeat (first | (with_reducible first | exact HB.out | apply below_alloc | apply pw_below_drewN | apply below_drew1) | exact HB.out)))); have n1_ := Aside0.mk (below_step (by repeat (first | (with_reducible first | exact HB.out | apply below_alloc | apply pw_below_drewN | apply below_drew1) | exact HB.out)) hb); clear HB; have HO430 := n0_; have HB := n1_; clear n0_ n1_; (try clear hb); (try clear hb2); (try clear hk); (try clear hi); (try clear ho0); obtain ⟨Ao5, co5, eo5⟩ := Kd.R_slice HO430.out; subst eo5))
    go_ret
    exact ⟨by first | rfl | (simp [errW_none, errW_some] <;> rfl) | (simp [*, errW_none, errW_some] <;> rfl), by repeat (first | (with_reducible first | exact HB.out | apply below_alloc | apply pw_below_drewN | apply below_drew1) | exact HB.out)⟩
  · rw [if_neg c3] at H
    have c3b0 : ((t428.length : Int) == 0) = false := beq_eq_false_iff_ne.mpr c3
    have c3b1 : ((t428.length : Int) != 0) = true := bne_iff_ne.mpr c3
    have c3b2 : ¬ (t428 = []) := fun h_ => c3 (by rw [h_]; rfl)
    by_cases c6 : 0 < (t428.length : Int)
    · rw [if_pos c6] at H
      have c6b0 : decide (0 < (t428.length : Int)) = true := decide_eq_true c6
      have c6b1 : decide (0 < t428.length) = true := decide_eq_true (by omega)
      clear c6
      obtain rfl := Option.some.inj H
      go_enter Try.func20, Try.ntmps20
      go_wp2_with (first | ((with_reducible refine gate_callee (f := 18) rfl ?_); refine goesL_ (some 5) rfl rfl Try.func18 (by kernel_rfl) rfl #[.int .i64 a0] rfl (by (try simp only [List.map_toArray, List.map_cons, List.map_nil]); first | done | rfl | (simp only [List.length_drop, List.length_take]; rfl)) ?_; (with_reducible refine (clewref03_Orbit.calls k a0 t428 _ A2.out).mono ?_); rintro e w7 ⟨v429, rfl, ho0, hb⟩; refine ⟨_, rfl, ?_⟩; have n0_ := Aside0.mk (Kd.R_lower ho0 (below_size (by repeat (first | (with_reducible first | exact HB.out | apply below_alloc | apply pw_below_drewN | apply below_drew1) | exact HB.out)))); have n1_ := Aside0.mk (below_step (by repeat (first | (with_reducible first | exact HB.out | apply below_alloc | apply pw_below_drewN | apply below_drew1) | exact HB.out)) hb); clear HB; have HO430 := n0_; have HB := n1_; clear n0_ n1_; (try clear hb); (try clear hb2); (try clear hk); (try clear hi); (try clear ho0); obtain ⟨Ao8, co8, eo8⟩ := Kd.R_slice HO430.out; subst eo8; have p431 : 0 ≤ (0 : Int) := (by omega); have q431 : 0 < (t428.length : Int) := of_decide_eq_true (by first | (with_reducible assumption) | assumption); obtain ⟨ad431, e431, hx431_0⟩ := Kd.at_int (Kd.R_reads' HO430.out).2.2 0 p431 q431; cases e431; have qi431 : (0 < t428.length) = True := eq_true (by omega); (try rw [show ((0 : Int)).toNat = 0 from rfl] at hx431_0); (try rw [Addr.add_zero'] at hx431_0); replace p431 := eq_true p431; replace q431 := eq_true q431))
      go_ret
      exact ⟨by first | rfl | (simp [errW_none, errW_some] <;> rfl) | (simp [*, errW_none, errW_some] <;> rfl), by repeat (first | (with_reducible first | exact HB.out | apply below_alloc | apply pw_below_drewN | apply below_drew1) | exact HB.out)⟩
    · rw [if_neg c6] at H
      exact absurd H (by simp)

/-! ### clewlaw03_FoldOrbits: function 3 -/
mutual
def clewlaw03_FoldOrbits.j0 : Nat → List Int → List Int → Bool → Option (Bool)
  | 0, _, _, _ => none
  | k + 1, x3, x4, x23 => if x23 = true then (some false) else (clewlaw03_FoldOrbits.l0 k x3 x4 (x3.length : Int) 0)
def clewlaw03_FoldOrbits.l0 : Nat → List Int → List Int → Int → Int → Option (Bool)
  | 0, _, _, _, _ => none
  | k + 1, x3, x4, x25, x26 => if x26 < x25 then (if 0 ≤ x26 then (if x26 < (x3.length : Int) then (if x26 < (x4.length : Int) then (if (rd x3 x26) = (rd x4 x26) then (clewlaw03_FoldOrbits.l0 k x3 x4 x25 (wrap64 (x26 + 1))) else (some false)) else (none)) else (none)) else (none)) else (some true)
end
def clewlaw03_FoldOrbits.f (k : Nat) (a0 : Int) : Option (Bool) := (clewlaw03_anchor.f k).bind fun t432 => (if t432 = true then ((fold_Orbit.f k a0).bind fun t433 => ((clewref03_Orbit.f k a0).bind fun t436 => (if (t433.length : Int) = (t436.length : Int) then ((fold_Fold.f k a0).bind fun t439 => ((clewref03_Fold.f k a0).bind fun t440 => (clewlaw03_FoldOrbits.j0 k t433 t436 (t439 != t440)))) else (clewlaw03_FoldOrbits.j0 k t433 t436 true)))) else (some false))
theorem clewlaw03_FoldOrbits.mono_l : ∀ k, (∀ y0 y1 y2, LeO (clewlaw03_FoldOrbits.j0 k y0 y1 y2) (clewlaw03_FoldOrbits.j0 (k + 1) y0 y1 y2)) ∧ (∀ y0 y1 y2 y3, LeO (clewlaw03_FoldOrbits.l0 k y0 y1 y2 y3) (clewlaw03_FoldOrbits.l0 (k + 1) y0 y1 y2 y3))
  | 0 => ⟨fun _ _ _ r h => by simp [clewlaw03_FoldOrbits.j0] at h, fun _ _ _ _ r h => by simp [clewlaw03_FoldOrbits.l0] at h⟩
  | k + 1 => by
    obtain ⟨ih0, ih1⟩ := clewlaw03_FoldOrbits.mono_l k
    refine ⟨?_, ?_⟩
    · intro y0 y1 y2
      unfold clewlaw03_FoldOrbits.j0
      repeat' first
      | (with_reducible exact ih0 _ _ _)
      | (with_reducible exact ih1 _ _ _ _)
      | (with_reducible exact clewlaw03_anchor.mono _)
      | (with_reducible exact clewref03_Fold.mono _ _)
      | (with_reducible exact clewref03_Orbit.mono _ _)
      | (with_reducible exact fold_Fold.mono _ _)
      | (with_reducible exact fold_Orbit.mono _ _)
      | (with_reducible exact LeO.refl _)
      | (with_reducible exact LeO.none _)
      | (with_reducible refine LeO.ite ?_ ?_)
      | (with_reducible refine LeO.bind ?_ (fun _ => ?_))
      | exact ih0 _ _ _
      | exact ih1 _ _ _ _
      | exact clewlaw03_anchor.mono _
      | exact clewref03_Fold.mono _ _
      | exact clewref03_Orbit.mono _ _
      | exact fold_Fold.mono _ _
      | exact fold_Orbit.mono _ _
      | exact LeO.none _
      | refine LeO.ite ?_ ?_
      | refine LeO.bind ?_ (fun _ => ?_)
    · intro y0 y1 y2 y3
      unfold clewlaw03_FoldOrbits.l0
      repeat' first
      | (with_reducible exact ih0 _ _ _)
      | (with_reducible exact ih1 _ _ _ _)
      | (with_reducible exact clewlaw03_anchor.mono _)
      | (with_reducible exact clewref03_Fold.mono _ _)
      | (with_reducible exact clewref03_Orbit.mono _ _)
      | (with_reducible exact fold_Fold.mono _ _)
      | (with_reducible exact fold_Orbit.mono _ _)
      | (with_reducible exact LeO.refl _)
      | (with_reducible exact LeO.none _)
      | (with_reducible refine LeO.ite ?_ ?_)
      | (with_reducible refine LeO.bind ?_ (fun _ => ?_))
      | exact ih0 _ _ _
      | exact ih1 _ _ _ _
      | exact clewlaw03_anchor.mono _
      | exact clewref03_Fold.mono _ _
      | exact clewref03_Orbit.mono _ _
      | exact fold_Fold.mono _ _
      | exact fold_Orbit.mono _ _
      | exact LeO.none _
      | refine LeO.ite ?_ ?_
      | refine LeO.bind ?_ (fun _ => ?_)
theorem clewlaw03_FoldOrbits.mono : ∀ a0 k, LeO (clewlaw03_FoldOrbits.f k a0) (clewlaw03_FoldOrbits.f (k + 1) a0) := by
  intro a0 k
  obtain ⟨ih0, ih1⟩ := clewlaw03_FoldOrbits.mono_l k
  unfold clewlaw03_FoldOrbits.f
  repeat' first
      | (with_reducible exact ih0 _ _ _)
      | (with_reducible exact ih1 _ _ _ _)
      | (with_reducible exact clewlaw03_anchor.mono _)
      | (with_reducible exact clewref03_Fold.mono _ _)
      | (with_reducible exact clewref03_Orbit.mono _ _)
      | (with_reducible exact fold_Fold.mono _ _)
      | (with_reducible exact fold_Orbit.mono _ _)
      | (with_reducible exact LeO.refl _)
      | (with_reducible exact LeO.none _)
      | (with_reducible refine LeO.ite ?_ ?_)
      | (with_reducible refine LeO.bind ?_ (fun _ => ?_))
      | exact ih0 _ _ _
      | exact ih1 _ _ _ _
      | exact clewlaw03_anchor.mono _
      | exact clewref03_Fold.mono _ _
      | exact clewref03_Orbit.mono _ _
      | exact fold_Fold.mono _ _
      | exact fold_Orbit.mono _ _
      | exact LeO.none _
      | refine LeO.ite ?_ ?_
      | refine LeO.bind ?_ (fun _ => ?_)
set_option maxHeartbeats 8000000 in
set_option maxRecDepth 100000 in
theorem clewlaw03_FoldOrbits.calls (k : Nat) (a0 : Int) (r : Bool) (w : World) (h : clewlaw03_FoldOrbits.f k a0 = some r) :
    Calls Try.prog 3 #[.int .i64 a0] w fun e w' => e = .returned (.bool r) ∧ Below w.heap.size w w' := by
  have HB := Aside0.mk (Below.refl w.heap.size w)
  have H : ((clewlaw03_anchor.f k).bind fun t432 => (if t432 = true then ((fold_Orbit.f k a0).bind fun t433 => ((clewref03_Orbit.f k a0).bind fun t436 => (if (t433.length : Int) = (t436.length : Int) then ((fold_Fold.f k a0).bind fun t439 => ((clewref03_Fold.f k a0).bind fun t440 => (clewlaw03_FoldOrbits.j0 k t433 t436 (t439 != t440)))) else (clewlaw03_FoldOrbits.j0 k t433 t436 true)))) else (some false))) = some r := h
  clear h
  replace H := Option.bind_eq_some_iff.mp H
  obtain ⟨t432, A20, H⟩ := H
  replace H : (if t432 = true then ((fold_Orbit.f k a0).bind fun t433 => ((clewref03_Orbit.f k a0).bind fun t436 => (if (t433.length : Int) = (t436.length : Int) then ((fold_Fold.f k a0).bind fun t439 => ((clewref03_Fold.f k a0).bind fun t440 => (clewlaw03_FoldOrbits.j0 k t433 t436 (t439 != t440)))) else (clewlaw03_FoldOrbits.j0 k t433 t436 true)))) else (some false)) = some r := H
  have A2 := Aside0.mk A20
  clear A20
  by_cases c3 : t432 = true
  · subst c3
    have H1 : ((fold_Orbit.f k a0).bind fun t433 => ((clewref03_Orbit.f k a0).bind fun t436 => (if (t433.length : Int) = (t436.length : Int) then ((fold_Fold.f k a0).bind fun t439 => ((clewref03_Fold.f k a0).bind fun t440 => (clewlaw03_FoldOrbits.j0 k t433 t436 (t439 != t440)))) else (clewlaw03_FoldOrbits.j0 k t433 t436 true)))) = some r := by rw [if_pos rfl] at H; exact H
    clear H
    have H := H1
    clear H1
    replace H := Option.bind_eq_some_iff.mp H
    obtain ⟨t433, A40, H⟩ := H
    replace H : ((clewref03_Orbit.f k a0).bind fun t436 => (if (t433.length : Int) = (t436.length : Int) then ((fold_Fold.f k a0).bind fun t439 => ((clewref03_Fold.f k a0).bind fun t440 => (clewlaw03_FoldOrbits.j0 k t433 t436 (t439 != t440)))) else (clewlaw03_FoldOrbits.j0 k t433 t436 true))) = some r := H
    have A4 := Aside0.mk A40
    clear A40
    replace H := Option.bind_eq_some_iff.mp H
    obtain ⟨t436, A50, H⟩ := H
    replace H : (if (t433.length : Int) = (t436.length : Int) then ((fold_Fold.f k a0).bind fun t439 => ((clewref03_Fold.f k a0).bind fun t440 => (clewlaw03_FoldOrbits.j0 k t433 t436 (t439 != t440)))) else (clewlaw03_FoldOrbits.j0 k t433 t436 true)) = some r := H
    have A5 := Aside0.mk A50
    clear A50
    have HC6 := Aside0.mk H
    clear H
    go_enter Try.func3, Try.ntmps3
    go_upto_region 4 with (first | (go_at_call 16; (with_reducible refine (clewlaw03_anchor.calls k  true _ A2.out).mono ?_); rintro e w7 ⟨rfl, hb⟩; have n0_ := Aside0.mk (below_step (by repeat (first | (with_reducible first | exact HB.out | apply below_alloc | apply pw_below_drewN | apply below_drew1) | exact HB.out)) hb); clear HB; have HB := n0_; clear n0_; (try clear hb); (try clear hb2); (try clear hk); (try clear hi)) | (go_at_call 17; (with_reducible refine (fold_Orbit.calls k a0 t433 _ A4.out).mono ?_); rintro e w8 ⟨v434, rfl, ho0, hb⟩; have n0_ := Aside0.mk (Kd.R_lower ho0 (below_size (by repeat (first | (with_reducible first | exact HB.out | apply below_alloc | apply pw_below_drewN | apply below_drew1) | exact HB.out)))); have n1_ := Aside0.mk (below_step (by repeat (first | (with_reducible first | exact HB.out | apply below_alloc | apply pw_below_drewN | apply below_drew1) | exact HB.out)) hb); clear HB; have HO435 := n0_; have HB := n1_; clear n0_ n1_; (try clear hb); (try clear hb2); (try clear hk); (try clear hi); (try clear ho0)) | (go_at_call 18; (with_reducible refine (clewref03_Orbit.calls k a0 t436 _ A5.out).mono ?_); rintro e w9 ⟨v437, rfl, ho0, hb⟩; have n0_ := Aside0.mk (Kd.R_elder' (by (with_reducible repeat (first | apply Kd.R_alloc | apply Kd.R_drewN | apply Kd.R_drew)); exact HO435.out) (Kd.R_base ho0) hb); have n1_ := Aside0.mk (Kd.R_lower (Kd.R_new' ho0 (Kd.R_lt (by (with_reducible repeat (first | apply Kd.R_alloc | apply Kd.R_drewN | apply Kd.R_drew)); exact HO435.out))) (below_size (by repeat (first | (with_reducible first | exact HB.out | apply below_alloc | apply pw_below_drewN | apply below_drew1) | exact HB.out)))); have n2_ := Aside0.mk (below_step (by repeat (first | (with_reducible first | exact HB.out | apply below_alloc | apply pw_below_drewN | apply below_drew1) | exact HB.out)) hb); clear HO435; clear HB; have HO435 := n0_; have HO438 := n1_; have HB := n2_; clear n0_ n1_ n2_; (try clear hb); (try clear hb2); (try clear hk); (try clear hi); (try clear ho0)))
    repeat (go_quiet (first | (go_at_call 16; (with_reducible refine (clewlaw03_anchor.calls k  true _ A2.out).mono ?_); rintro e w7 ⟨rfl, hb⟩; have n0_ := Aside0.mk (below_step (by repeat (first | (with_reducible first | exact HB.out | apply below_alloc | apply pw_below_drewN | apply below_drew1) | exact HB.out)) hb); clear HB; have HB := n0_; clear n0_; (try clear hb); (try clear hb2); (try clear hk); (try clear hi)) | (go_at_call 17; (with_reducible refine (fold_Orbit.calls k a0 t433 _ A4.out).mono ?_); rintro e w8 ⟨v434, rfl, ho0, hb⟩; have n0_ := Aside0.mk (Kd.R_lower ho0 (below_size (by repeat (first | (with_reducible first | exact HB.out | apply below_alloc | apply pw_below_drewN | apply below_drew1) | exact HB.out)))); have n1_ := Aside0.mk (below_step (by repeat (first | (with_reducible first | exact HB.out | apply below_alloc | apply pw_below_drewN | apply below_drew1) | exact HB.out)) hb); clear HB; have HO435 := n0_; have HB := n1_; clear n0_ n1_; (try clear hb); (try clear hb2); (try clear hk); (try clear hi); (try clear ho0)) | (go_at_call 18; (with_reducible refine (clewref03_Orbit.calls k a0 t436 _ A5.out).mono ?_); rintro e w9 ⟨v437, rfl, ho0, hb⟩; have n0_ := Aside0.mk (Kd.R_elder' (by (with_reducible repeat (first | apply Kd.R_alloc | apply Kd.R_drewN | apply Kd.R_drew)); exact HO435.out) (Kd.R_base ho0) hb); have n1_ := Aside0.mk (Kd.R_lower (Kd.R_new' ho0 (Kd.R_lt (by (with_reducible repeat (first | apply Kd.R_alloc | apply Kd.R_drewN | apply Kd.R_drew)); exact HO435.out))) (below_size (by repeat (first | (with_reducible first | exact HB.out | apply below_alloc | apply pw_below_drewN | apply below_drew1) | exact HB.out)))); have n2_ := Aside0.mk (below_step (by repeat (first | (with_reducible first | exact HB.out | apply below_alloc | apply pw_below_drewN | apply below_drew1) | exact HB.out)) hb); clear HO435; clear HB; have HO435 := n0_; have HO438 := n1_; have HB := n2_; clear n0_ n1_ n2_; (try clear hb); (try clear hb2); (try clear hk); (try clear hi); (try clear ho0))); go_upto_region 4 with (first | (go_at_call 16; (with_reducible refine (clewlaw03_anchor.calls k  true _ A2.out).mono ?_); rintro e w7 ⟨rfl, hb⟩; have n0_ := Aside0.mk (below_step (by repeat (first | (with_reducible first | exact HB.out | apply below_alloc | apply pw_below_drewN | apply below_drew1) | exact HB.out)) hb); clear HB; have HB := n0_; clear n0_; (try clear hb); (try clear hb2); (try clear hk); (try clear hi)) | (go_at_call 17; (with_reducible refine (fold_Orbit.calls k a0 t433 _ A4.out).mono ?_); rintro e w8 ⟨v434, rfl, ho0, hb⟩; have n0_ := Aside0.mk (Kd.R_lower ho0 (below_size (by repeat (first | (with_reducible first | exact HB.out | apply below_alloc | apply pw_below_drewN | apply below_drew1) | exact HB.out)))); have n1_ := Aside0.mk (below_step (by repeat (first | (with_reducible first | exact HB.out | apply below_alloc | apply pw_below_drewN | apply below_drew1) | exact HB.out)) hb); clear HB; have HO435 := n0_; have HB := n1_; clear n0_ n1_; (try clear hb); (try clear hb2); (try clear hk); (try clear hi); (try clear ho0)) | (go_at_call 18; (with_reducible refine (clewref03_Orbit.calls k a0 t436 _ A5.out).mono ?_); rintro e w9 ⟨v437, rfl, ho0, hb⟩; have n0_ := Aside0.mk (Kd.R_elder' (by (with_reducible repeat (first | apply Kd.R_alloc | apply Kd.R_drewN | apply Kd.R_drew)); exact HO435.out) (Kd.R_base ho0) hb); have n1_ := Aside0.mk (Kd.R_lower (Kd.R_new' ho0 (Kd.R_lt (by (with_reducible repeat (first | apply Kd.R_alloc | apply Kd.R_drewN | apply Kd.R_drew)); exact HO435.out))) (below_size (by repeat (first | (with_reducible first | exact HB.out | apply below_alloc | apply pw_below_drewN | apply below_drew1) | exact HB.out)))); have n2_ := Aside0.mk (below_step (by repeat (first | (with_reducible first | exact HB.out | apply below_alloc | apply pw_below_drewN | apply below_drew1) | exact HB.out)) hb); clear HO435; clear HB; have HO435 := n0_; have HO438 := n1_; have HB := n2_; clear n0_ n1_ n2_; (try clear hb); (try clear hb2); (try clear hk); (try clear hi); (try clear ho0))))
    (try simp only [Act.put, List.setIfInBounds_toArray, List.set_cons_zero, List.set_cons_succ])
    go_cut [23] (fun v23 wc => ∃ (kq : Nat) (x23_5 : Bool), v23 = .bool x23_5 ∧ Aside0 (clewlaw03_FoldOrbits.j0 kq t433 t436 x23_5 = some r) ∧ Aside0 (kq ≤ k) ∧ Aside0 (Kd.R (Kd.int .i64) 3 wc w.heap.size (fun k_ => some k_ ≠ (v437 : Value).ownBlock) v434 t433) ∧ Aside0 (Kd.R (Kd.int .i64) 3 wc w.heap.size (fun k_ => some k_ ≠ (v434 : Value).ownBlock) v437 t436) ∧ Aside0 (Below w.heap.size w wc))
    case first =>
      have H := HC6.out
      clear HC6
      by_cases c10 : (t433.length : Int) = (t436.length : Int)
      · rw [if_pos c10] at H
        have c10b0 : ((t433.length : Int) == (t436.length : Int)) = true := beq_iff_eq.mpr c10
        have c10b1 : ((t433.length : Int) != (t436.length : Int)) = false := bne_eq_false_iff_eq.mpr c10
        have c10b2 : (t433.length == t436.length) = true := by first | simpa using c10 | (simp at c10 ⊢; omega)
        clear c10
        (first | rw [c10b0] | (simp only [i64_w, i32_w]; rw [c10b0]) | skip)
        replace H := Option.bind_eq_some_iff.mp H
        obtain ⟨t439, A110, H⟩ := H
        replace H : ((clewref03_Fold.f k a0).bind fun t440 => (clewlaw03_FoldOrbits.j0 k t433 t436 (t439 != t440))) = some r := H
        have A11 := Aside0.mk A110
        clear A110
        replace H := Option.bind_eq_some_iff.mp H
        obtain ⟨t440, A120, H⟩ := H
        replace H : (clewlaw03_FoldOrbits.j0 k t433 t436 (t439 != t440)) = some r := H
        have A12 := Aside0.mk A120
        clear A120
        have H' := Aside0.mk H
        clear H
        obtain ⟨Ao13, co13, eo13⟩ := Kd.R_slice HO435.out
        subst eo13
        obtain ⟨Ao14, co14, eo14⟩ := Kd.R_slice HO438.out
        subst eo14
        go_wp2_with (first | (go_at_call 19; (with_reducible refine (fold_Fold.calls k a0 t439 _ A11.out).mono ?_); rintro e w15 ⟨rfl, hb⟩; have n0_ := Aside0.mk (Kd.R_below (by (with_reducible repeat (first | apply Kd.R_alloc | apply Kd.R_drewN | apply Kd.R_drew)); exact HO435.out) hb); have n1_ := Aside0.mk (Kd.R_below (by (with_reducible repeat (first | apply Kd.R_alloc | apply Kd.R_drewN | apply Kd.R_drew)); exact HO438.out) hb); have n2_ := Aside0.mk (below_step (by repeat (first | (with_reducible first | exact HB.out | apply below_alloc | apply pw_below_drewN | apply below_drew1) | exact HB.out)) hb); clear HO435; clear HO438; clear HB; have HO435 := n0_; have HO438 := n1_; have HB := n2_; clear n0_ n1_ n2_; (try clear hb); (try clear hb2); (try clear hk); (try clear hi)) | (go_at_call 20; (with_reducible refine (clewref03_Fold.calls k a0 t440 _ A12.out).mono ?_); rintro e w16 ⟨rfl, hb⟩; have n0_ := Aside0.mk (Kd.R_below (by (with_reducible repeat (first | apply Kd.R_alloc | apply Kd.R_drewN | apply Kd.R_drew)); exact HO435.out) hb); have n1_ := Aside0.mk (Kd.R_below (by (with_reducible repeat (first | apply Kd.R_alloc | apply Kd.R_drewN | apply Kd.R_drew)); exact HO438.out) hb); have n2_ := Aside0.mk (below_step (by repeat (first | (with_reducible first | exact HB.out | apply below_alloc | apply pw_below_drewN | apply below_drew1) | exact HB.out)) hb); clear HO435; clear HO438; clear HB; have HO435 := n0_; have HO438 := n1_; have HB := n2_; clear n0_ n1_ n2_; (try clear hb); (try clear hb2); (try clear hk); (try clear hi)))
        repeat (go_quiet (first | (go_at_call 19; (with_reducible refine (fold_Fold.calls k a0 t439 _ A11.out).mono ?_); rintro e w15 ⟨rfl, hb⟩; have n0_ := Aside0.mk (Kd.R_below (by (with_reducible repeat (first | apply Kd.R_alloc | apply Kd.R_drewN | apply Kd.R_drew)); exact HO435.out) hb); have n1_ := Aside0.mk (Kd.R_below (by (with_reducible repeat (first | apply Kd.R_alloc | apply Kd.R_drewN | apply Kd.R_drew)); exact HO438.out) hb); have n2_ := Aside0.mk (below_step (by repeat (first | (with_reducible first | exact HB.out | apply below_alloc | apply pw_below_drewN | apply below_drew1) | exact HB.out)) hb); clear HO435; clear HO438; clear HB; have HO435 := n0_; have HO438 := n1_; have HB := n2_; clear n0_ n1_ n2_; (try clear hb); (try clear hb2); (try clear hk); (try clear hi)) | (go_at_call 20; (with_reducible refine (clewref03_Fold.calls k a0 t440 _ A12.out).mono ?_); rintro e w16 ⟨rfl, hb⟩; have n0_ := Aside0.mk (Kd.R_below (by (with_reducible repeat (first | apply Kd.R_alloc | apply Kd.R_drewN | apply Kd.R_drew)); exact HO435.out) hb); have n1_ := Aside0.mk (Kd.R_below (by (with_reducible repeat (first | apply Kd.R_alloc | apply Kd.R_drewN | apply Kd.R_drew)); exact HO438.out) hb); have n2_ := Aside0.mk (below_step (by repeat (first | (with_reducible first | exact HB.out | apply below_alloc | apply pw_below_drewN | apply below_drew1) | exact HB.out)) hb); clear HO435; clear HO438; clear HB; have HO435 := n0_; have HO438 := n1_; have HB := n2_; clear n0_ n1_ n2_; (try clear hb); (try clear hb2); (try clear hk); (try clear hi))); try go_wp2_with (first | (go_at_call 19; (with_reducible refine (fold_Fold.calls k a0 t439 _ A11.out).mono ?_); rintro e w15 ⟨rfl, hb⟩; have n0_ := Aside0.mk (Kd.R_below (by (with_reducible repeat (first | apply Kd.R_alloc | apply Kd.R_drewN | apply Kd.R_drew)); exact HO435.out) hb); have n1_ := Aside0.mk (Kd.R_below (by (with_reducible repeat (first | apply Kd.R_alloc | apply Kd.R_drewN | apply Kd.R_drew)); exact HO438.out) hb); have n2_ := Aside0.mk (below_step (by repeat (first | (with_reducible first | exact HB.out | apply below_alloc | apply pw_below_drewN | apply below_drew1) | exact HB.out)) hb); clear HO435; clear HO438; clear HB; have HO435 := n0_; have HO438 := n1_; have HB := n2_; clear n0_ n1_ n2_; (try clear hb); (try clear hb2); (try clear hk); (try clear hi)) | (go_at_call 20; (with_reducible refine (clewref03_Fold.calls k a0 t440 _ A12.out).mono ?_); rintro e w16 ⟨rfl, hb⟩; have n0_ := Aside0.mk (Kd.R_below (by (with_reducible repeat (first | apply Kd.R_alloc | apply Kd.R_drewN | apply Kd.R_drew)); exact HO435.out) hb); have n1_ := Aside0.mk (Kd.R_below (by (with_reducible repeat (first | apply Kd.R_alloc | apply Kd.R_drewN | apply Kd.R_drew)); exact HO438.out) hb); have n2_ := Aside0.mk (below_step (by repeat (first | (with_reducible first | exact HB.out | apply below_alloc | apply pw_below_drewN | apply below_drew1) | exact HB.out)) hb); clear HO435; clear HO438; clear HB; have HO435 := n0_; have HO438 := n1_; have HB := n2_; clear n0_ n1_ n2_; (try clear hb); (try clear hb2); (try clear hk); (try clear hi))))
        go_meet
        case rel => exact ⟨_, ((t439 != t440)), (by first | rfl | (simp; done) | (simp [*]; done)), H', ⟨by first | omega | exact Nat.le_refl _⟩, ⟨by (with_reducible repeat (first | apply Kd.R_alloc | apply Kd.R_drewN | apply Kd.R_drew)); exact Kd.R_mono HO435.out (fun _ hk => hk.2)⟩, ⟨by (with_reducible repeat (first | apply Kd.R_alloc | apply Kd.R_drewN | apply Kd.R_drew)); exact Kd.R_mono HO438.out (fun _ hk => hk.2)⟩, ⟨by repeat (first | (with_reducible first | exact HB.out | apply below_alloc | apply pw_below_drewN | apply below_drew1) | exact HB.out)⟩⟩
      · rw [if_neg c10] at H
        have c10b0 : ((t433.length : Int) == (t436.length : Int)) = false := beq_eq_false_iff_ne.mpr c10
        have c10b1 : ((t433.length : Int) != (t436.length : Int)) = true := bne_iff_ne.mpr c10
        have c10b2 : (t433.length == t436.length) = false := by first | simpa using c10 | (simp at c10 ⊢; omega)
        (first | rw [c10b0] | (simp only [i64_w, i32_w]; rw [c10b0]) | skip)
        have H' := Aside0.mk H
        clear H
        obtain ⟨Ao17, co17, eo17⟩ := Kd.R_slice HO435.out
        subst eo17
        obtain ⟨Ao18, co18, eo18⟩ := Kd.R_slice HO438.out
        subst eo18
        go_wp2
        repeat (go_quiet (fail); try go_wp2)
        go_meet
        case rel => exact ⟨_, (true), (by first | rfl | (simp; done) | (simp [*]; done)), H', ⟨by first | omega | exact Nat.le_refl _⟩, ⟨by (with_reducible repeat (first | apply Kd.R_alloc | apply Kd.R_drewN | apply Kd.R_drew)); exact Kd.R_mono HO435.out (fun _ hk => hk.2)⟩, ⟨by (with_reducible repeat (first | apply Kd.R_alloc | apply Kd.R_drewN | apply Kd.R_drew)); exact Kd.R_mono HO438.out (fun _ hk => hk.2)⟩, ⟨by repeat (first | (with_reducible first | exact HB.out | apply below_alloc | apply pw_below_drewN | apply below_drew1) | exact HB.out)⟩⟩
    case rest =>
      clear HC6
      try clear c1
      try clear p2
      try clear c3
      try clear c10
      try clear c10b0
      try clear c10b1
      try clear c10b2
      obtain ⟨kq, x23_5, rfl, HA, HJ5, HO_3, HO_4, HB⟩ := hcut
      cases kq with
      | zero => exact absurd HA.out (by simp [clewlaw03_FoldOrbits.j0])
      | succ kj5 =>
        have H := HA.out
        clear HA
        simp only [clewlaw03_FoldOrbits.j0] at H
        by_cases c19 : x23_5 = true
        · subst c19
          have H1 : (some false) = some r := by rw [if_pos rfl] at H; exact H
          clear H
          have H := H1
          clear H1
          obtain rfl := Option.some.inj H
          go_wp2
          repeat (go_quiet (fail); try go_wp2)
          go_ret
          exact ⟨by first | rfl | (simp [errW_none, errW_some] <;> rfl) | (simp [*, errW_none, errW_some] <;> rfl), by repeat (first | (with_reducible first | exact HB.out | apply below_alloc | apply pw_below_drewN | apply below_drew1) | exact HB.out)⟩
        · replace c19 := Bool.eq_false_iff.mpr c19
          subst c19
          have H1 : (clewlaw03_FoldOrbits.l0 kj5 t433 t436 (t433.length : Int) 0) = some r := by rw [if_neg (show ¬ (false = true) by decide)] at H; exact H
          clear H
          have H := H1
          clear H1
          have H' := Aside0.mk H
          clear H
          obtain ⟨Ao20, co20, eo20⟩ := Kd.R_slice HO_3.out
          subst eo20
          go_wp2
          repeat (go_quiet (fail); try go_wp2)
          go_loopg [26] kj5 (fun kq v26 w' => ∃ (x26_2 : Int), v26 = .int .i64 x26_2 ∧ Aside0 (clewlaw03_FoldOrbits.l0 kq t433 t436 (t433.length : Int) x26_2 = some r) ∧ Aside0 (kq ≤ kj5) ∧ Aside0 (Kd.R (Kd.int .i64) 3 w' w.heap.size (fun k_ => some k_ ≠ (v437 : Value).ownBlock) (.slice Ao20 t433.length co20) t433) ∧ Aside0 (Kd.R (Kd.int .i64) 3 w' w.heap.size (fun k_ => some k_ ≠ ((.slice Ao20 t433.length co20) : Value).ownBlock) v437 t436) ∧ Aside0 (Below w.heap.size w w'))
          case atStart => exact ⟨(0), (by first | rfl | (simp; done) | (simp [*]; done)), H', ⟨Nat.le_refl _⟩, ⟨by (with_reducible repeat (first | apply Kd.R_alloc | apply Kd.R_drewN | apply Kd.R_drew)); exact HO_3.out⟩, ⟨by (with_reducible repeat (first | apply Kd.R_alloc | apply Kd.R_drewN | apply Kd.R_drew)); exact HO_4.out⟩, ⟨by repeat (first | (with_reducible first | exact HB.out | apply below_alloc | apply pw_below_drewN | apply below_drew1) | exact HB.out)⟩⟩
          case round =>
            clear H'
            try clear c1
            try clear p2
            try clear c3
            try clear c10
            try clear c10b0
            try clear c10b1
            try clear c10b2
            try clear c19
            try clear p2
            obtain ⟨x26_2, rfl, HA, HK2, HO_3, HO_4, HB⟩ := hrel
            cases gk with
            | zero => exact absurd HA.out (by simp [clewlaw03_FoldOrbits.l0])
            | succ k2 =>
              have H := HA.out
              clear HA
              simp only [clewlaw03_FoldOrbits.l0] at H
              by_cases c21 : x26_2 < (t433.length : Int)
              · rw [if_pos c21] at H
                have c21b0 : decide (x26_2 < (t433.length : Int)) = true := decide_eq_true c21
                clear c21
                by_cases c22 : 0 ≤ x26_2
                · rw [if_pos c22] at H
                  have c22b0 : decide (0 ≤ x26_2) = true := decide_eq_true c22
                  clear c22
                  by_cases c23 : x26_2 < (t433.length : Int)
                  · rw [if_pos c23] at H
                    have c23b0 : decide (x26_2 < (t433.length : Int)) = true := decide_eq_true c23
                    clear c23
                    by_cases c24 : x26_2 < (t436.length : Int)
                    · rw [if_pos c24] at H
                      have c24b0 : decide (x26_2 < (t436.length : Int)) = true := decide_eq_true c24
                      clear c24
                      by_cases c25 : (rd t433 x26_2) = (rd t436 x26_2)
                      · rw [if_pos c25] at H
                        have c25b0 : ((rd t433 x26_2) == (rd t436 x26_2)) = true := beq_iff_eq.mpr c25
                        have c25b1 : ((rd t433 x26_2) != (rd t436 x26_2)) = false := bne_eq_false_iff_eq.mpr c25
                        clear c25
                        have H' := Aside0.mk H
                        clear H
                        have p441 : 0 ≤ (x26_2 : Int) := of_decide_eq_true (by first | (with_reducible assumption) | assumption)
                        have q441 : x26_2 < (t433.length : Int) := of_decide_eq_true (by first | (with_reducible assumption) | assumption)
                        obtain ⟨ad441, e441, hx441_0⟩ := Kd.at_int (Kd.R_reads' HO_3.out).2.2 x26_2 p441 q441
                        cases e441
                        replace p441 := eq_true p441
                        replace q441 := eq_true q441
                        obtain ⟨Ao26, co26, eo26⟩ := Kd.R_slice HO_4.out
                        subst eo26
                        have p442 : 0 ≤ (x26_2 : Int) := of_decide_eq_true (by first | (with_reducible assumption) | assumption)
                        have q442 : x26_2 < (t436.length : Int) := of_decide_eq_true (by first | (with_reducible assumption) | assumption)
                        obtain ⟨ad442, e442, hx442_0⟩ := Kd.at_int (Kd.R_reads' HO_4.out).2.2 x26_2 p442 q442
                        cases e442
                        replace p442 := eq_true p442
                        replace q442 := eq_true q442
                        go_wp2
                        repeat (go_quiet (fail); try go_wp2)
                        go_roundg k2
                        case measure => have := HJ5.out; have := HK2.out; omega
                        case rel => exact ⟨(wrap64 (x26_2 + 1)), (by first | rfl | (simp; done) | (simp [*]; done)), H', ⟨by have := HJ5.out; have := HK2.out; omega⟩, ⟨by (with_reducible repeat (first | apply Kd.R_alloc | apply Kd.R_drewN | apply Kd.R_drew)); exact HO_3.out⟩, ⟨by (with_reducible repeat (first | apply Kd.R_alloc | apply Kd.R_drewN | apply Kd.R_drew)); exact HO_4.out⟩, ⟨by repeat (first | (with_reducible first | exact HB.out | apply below_alloc | apply pw_below_drewN | apply below_drew1) | exact HB.out)⟩⟩
                      · rw [if_neg c25] at H
                        have c25b0 : ((rd t433 x26_2) == (rd t436 x26_2)) = false := beq_eq_false_iff_ne.mpr c25
                        have c25b1 : ((rd t433 x26_2) != (rd t436 x26_2)) = true := bne_iff_ne.mpr c25
                        obtain rfl := Option.some.inj H
                        have p441 : 0 ≤ (x26_2 : Int) := of_decide_eq_true (by first | (with_reducible assumption) | assumption)
                        have q441 : x26_2 < (t433.length : Int) := of_decide_eq_true (by first | (with_reducible assumption) | assumption)
                        obtain ⟨ad441, e441, hx441_0⟩ := Kd.at_int (Kd.R_reads' HO_3.out).2.2 x26_2 p441 q441
                        cases e441
                        replace p441 := eq_true p441
                        replace q441 := eq_true q441
                        obtain ⟨Ao27, co27, eo27⟩ := Kd.R_slice HO_4.out
                        subst eo27
                        have p442 : 0 ≤ (x26_2 : Int) := of_decide_eq_true (by first | (with_reducible assumption) | assumption)
                        have q442 : x26_2 < (t436.length : Int) := of_decide_eq_true (by first | (with_reducible assumption) | assumption)
                        obtain ⟨ad442, e442, hx442_0⟩ := Kd.at_int (Kd.R_reads' HO_4.out).2.2 x26_2 p442 q442
                        cases e442
                        replace p442 := eq_true p442
                        replace q442 := eq_true q442
                        go_wp2
                        repeat (go_quiet (fail); try go_wp2)
                        go_ret
                        exact ⟨by first | rfl | (simp [errW_none, errW_some] <;> rfl) | (simp [*, errW_none, errW_some] <;> rfl), by repeat (first | (with_reducible first | exact HB.out | apply below_alloc | apply pw_below_drewN | apply below_drew1) | exact HB.out)⟩
                    · rw [if_neg c24] at H
                      exact absurd H (by simp)
                  · rw [if_neg c23] at H
                    exact absurd H (by simp)
                · rw [if_neg c22] at H
                  exact absurd H (by simp)
              · rw [if_neg c21] at H
                have c21b0 : decide (x26_2 < (t433.length : Int)) = false := decide_eq_false c21
                clear c21
                obtain rfl := Option.some.inj H
                go_wp2
                repeat (go_quiet (fail); try go_wp2)
                go_ret
                exact ⟨by first | rfl | (simp [errW_none, errW_some] <;> rfl) | (simp [*, errW_none, errW_some] <;> rfl), by repeat (first | (with_reducible first | exact HB.out | apply below_alloc | apply pw_below_drewN | apply below_drew1) | exact HB.out)⟩
  · replace c3 := Bool.eq_false_iff.mpr c3
    subst c3
    have H1 : (some false) = some r := by rw [if_neg (show ¬ (false = true) by decide)] at H; exact H
    clear H
    have H := H1
    clear H1
    obtain rfl := Option.some.inj H
    go_enter Try.func3, Try.ntmps3
    go_wp2_with (first | (go_at_call 16; (with_reducible refine (clewlaw03_anchor.calls k  false _ A2.out).mono ?_); rintro e w28 ⟨rfl, hb⟩; have n0_ := Aside0.mk (below_step (by repeat (first | (with_reducible first | exact HB.out | apply below_alloc | apply pw_below_drewN | apply below_drew1) | exact HB.out)) hb); clear HB; have HB := n0_; clear n0_; (try clear hb); (try clear hb2); (try clear hk); (try clear hi)))
    repeat (go_quiet (first | (go_at_call 16; (with_reducible refine (clewlaw03_anchor.calls k  false _ A2.out).mono ?_); rintro e w28 ⟨rfl, hb⟩; have n0_ := Aside0.mk (below_step (by repeat (first | (with_reducible first | exact HB.out | apply below_alloc | apply pw_below_drewN | apply below_drew1) | exact HB.out)) hb); clear HB; have HB := n0_; clear n0_; (try clear hb); (try clear hb2); (try clear hk); (try clear hi))); try go_wp2_with (first | (go_at_call 16; (with_reducible refine (clewlaw03_anchor.calls k  false _ A2.out).mono ?_); rintro e w28 ⟨rfl, hb⟩; have n0_ := Aside0.mk (below_step (by repeat (first | (with_reducible first | exact HB.out | apply below_alloc | apply pw_below_drewN | apply below_drew1) | exact HB.out)) hb); clear HB; have HB := n0_; clear n0_; (try clear hb); (try clear hb2); (try clear hk); (try clear hi))))
    go_ret
    exact ⟨by first | rfl | (simp [errW_none, errW_some] <;> rfl) | (simp [*, errW_none, errW_some] <;> rfl), by repeat (first | (with_reducible first | exact HB.out | apply below_alloc | apply pw_below_drewN | apply below_drew1) | exact HB.out)⟩

/-! ### fold_Same: function 21 -/
def fold_Same.f (k : Nat) (a0 : Int) (a1 : Int) : Option (Bool) := (fold_Fold.f k a0).bind fun t443 => ((fold_Fold.f k a1).bind fun t444 => (some (t443 == t444)))
theorem fold_Same.mono : ∀ a0 a1 k, LeO (fold_Same.f k a0 a1) (fold_Same.f (k + 1) a0 a1) := by
  intro a0 a1 k
  unfold fold_Same.f
  repeat' first
      | (with_reducible exact fold_Fold.mono _ _)
      | (with_reducible exact LeO.refl _)
      | (with_reducible exact LeO.none _)
      | (with_reducible refine LeO.ite ?_ ?_)
      | (with_reducible refine LeO.bind ?_ (fun _ => ?_))
      | exact fold_Fold.mono _ _
      | exact LeO.none _
      | refine LeO.ite ?_ ?_
      | refine LeO.bind ?_ (fun _ => ?_)
set_option maxHeartbeats 8000000 in
set_option maxRecDepth 100000 in
theorem fold_Same.calls (k : Nat) (a0 : Int) (a1 : Int) (r : Bool) (w : World) (h : fold_Same.f k a0 a1 = some r) :
    Calls Try.prog 21 #[.int .i64 a0, .int .i64 a1] w fun e w' => e = .returned (.bool r) ∧ Below w.heap.size w w' := by
  have HB := Aside0.mk (Below.refl w.heap.size w)
  have H : ((fold_Fold.f k a0).bind fun t443 => ((fold_Fold.f k a1).bind fun t444 => (some (t443 == t444)))) = some r := h
  clear h
  replace H := Option.bind_eq_some_iff.mp H
  obtain ⟨t443, A30, H⟩ := H
  replace H : ((fold_Fold.f k a1).bind fun t444 => (some (t443 == t444))) = some r := H
  have A3 := Aside0.mk A30
  clear A30
  replace H := Option.bind_eq_some_iff.mp H
  obtain ⟨t444, A40, H⟩ := H
  replace H : (some (t443 == t444)) = some r := H
  have A4 := Aside0.mk A40
  clear A40
  obtain rfl := Option.some.inj H
  go_enter Try.func21, Try.ntmps21
  go_wp2_with (first | ((with_reducible refine gate_callee (f := 19) rfl ?_); refine goesL_ (some 6) rfl rfl Try.func19 (by kernel_rfl) rfl #[.int .i64 a0] rfl (by (try simp only [List.map_toArray, List.map_cons, List.map_nil]); first | done | rfl | (simp only [List.length_drop, List.length_take]; rfl)) ?_; (with_reducible refine (fold_Fold.calls k a0 t443 _ A3.out).mono ?_); rintro e w5 ⟨rfl, hb⟩; refine ⟨_, rfl, ?_⟩; have n0_ := Aside0.mk (below_step (by repeat (first | (with_reducible first | exact HB.out | apply below_alloc | apply pw_below_drewN | apply below_drew1) | exact HB.out)) hb); clear HB; have HB := n0_; clear n0_; (try clear hb); (try clear hb2); (try clear hk); (try clear hi)) | ((with_reducible refine gate_callee (f := 19) rfl ?_); refine goesL_ (some 8) rfl rfl Try.func19 (by kernel_rfl) rfl #[.int .i64 a1] rfl (by (try simp only [List.map_toArray, List.map_cons, List.map_nil]); first | done | rfl | (simp only [List.length_drop, List.length_take]; rfl)) ?_; (with_reducible refine (fold_Fold.calls k a1 t444 _ A4.out).mono ?_); rintro e w6 ⟨rfl, hb⟩; refine ⟨_, rfl, ?_⟩; have n0_ := Aside0.mk (below_step (by repeat (first | (with_reducible first | exact HB.out | apply below_alloc | apply pw_below_drewN | apply below_drew1) | exact HB.out)) hb); clear HB; have HB := n0_; clear n0_; (try clear hb); (try clear hb2); (try clear hk); (try clear hi)))
  go_ret
  exact ⟨by first | rfl | (simp [errW_none, errW_some] <;> rfl) | (simp [*, errW_none, errW_some] <;> rfl), by repeat (first | (with_reducible first | exact HB.out | apply below_alloc | apply pw_below_drewN | apply below_drew1) | exact HB.out)⟩

end Go.Proofs.Yteploglmfmhppaa.P
