-- written by a program of this session: a printer with hand-proved functions beside (wip/print2)
import Derived.Test.YteploglmfmhppaaPx0
namespace Go.Proofs.Yteploglmfmhppaa.P
open Go.RowKit Go.Proofs.YteploglmfmhppaaW.PrintWords Go.Proofs.YteploglmfmhppaaW.PrintLast Go.Proofs.YteploglmfmhppaaW.PrintMore
attribute [local go_sem] max2_int min2_int max_two min_two max_three min_three max_four min_four   -- for this text's walks alone
set_option linter.unusedVariables false
set_option linter.unusedSimpArgs false

/-! ### fold_rows: function 46 -/
def fold_rows.f  : Option ((List (S62))) := some (([(⟨65, 90, 1, 32⟩ : S62), (⟨192, 214, 1, 32⟩ : S62), (⟨216, 222, 1, 32⟩ : S62), (⟨256, 302, 2, 1⟩ : S62), (⟨306, 310, 2, 1⟩ : S62), (⟨313, 327, 2, 1⟩ : S62), (⟨330, 374, 2, 1⟩ : S62), (⟨377, 381, 2, 1⟩ : S62), (⟨913, 929, 1, 32⟩ : S62), (⟨931, 939, 1, 32⟩ : S62), (⟨1024, 1039, 1, 80⟩ : S62), (⟨1040, 1071, 1, 32⟩ : S62), (⟨1120, 1152, 2, 1⟩ : S62), (⟨1329, 1366, 1, 48⟩ : S62), (⟨7680, 7828, 2, 1⟩ : S62), (⟨9398, 9423, 1, 26⟩ : S62), (⟨65313, 65338, 1, 32⟩ : S62), (⟨66560, 66599, 1, 40⟩ : S62)] : List (S62)))
set_option maxHeartbeats 8000000 in
set_option maxRecDepth 100000 in
theorem fold_rows.calls  (r : List (S62)) (w : World) (h : fold_rows.f  = some r) :
    Calls Try.prog 46 #[] w fun e w' => ∃ v0_ : Value, e = .returned (v0_) ∧ Kd.R k62 62 w' w.heap.size (fun _ => True) v0_ r ∧ Below w.heap.size w w' := by
  have hu62 := Try.underlying62
  have HB := Aside0.mk (Below.refl w.heap.size w)
  have H : (some (([(⟨65, 90, 1, 32⟩ : S62), (⟨192, 214, 1, 32⟩ : S62), (⟨216, 222, 1, 32⟩ : S62), (⟨256, 302, 2, 1⟩ : S62), (⟨306, 310, 2, 1⟩ : S62), (⟨313, 327, 2, 1⟩ : S62), (⟨330, 374, 2, 1⟩ : S62), (⟨377, 381, 2, 1⟩ : S62), (⟨913, 929, 1, 32⟩ : S62), (⟨931, 939, 1, 32⟩ : S62), (⟨1024, 1039, 1, 80⟩ : S62), (⟨1040, 1071, 1, 32⟩ : S62), (⟨1120, 1152, 2, 1⟩ : S62), (⟨1329, 1366, 1, 48⟩ : S62), (⟨7680, 7828, 2, 1⟩ : S62), (⟨9398, 9423, 1, 26⟩ : S62), (⟨65313, 65338, 1, 32⟩ : S62), (⟨66560, 66599, 1, 40⟩ : S62)] : List (S62)))) = some r := h
  clear h
  obtain ⟨y361, hy361⟩ : ∃ y_ : List (S62), y_ = (([(⟨65, 90, 1, 32⟩ : S62), (⟨192, 214, 1, 32⟩ : S62), (⟨216, 222, 1, 32⟩ : S62), (⟨256, 302, 2, 1⟩ : S62), (⟨306, 310, 2, 1⟩ : S62), (⟨313, 327, 2, 1⟩ : S62), (⟨330, 374, 2, 1⟩ : S62), (⟨377, 381, 2, 1⟩ : S62), (⟨913, 929, 1, 32⟩ : S62), (⟨931, 939, 1, 32⟩ : S62), (⟨1024, 1039, 1, 80⟩ : S62), (⟨1040, 1071, 1, 32⟩ : S62), (⟨1120, 1152, 2, 1⟩ : S62), (⟨1329, 1366, 1, 48⟩ : S62), (⟨7680, 7828, 2, 1⟩ : S62), (⟨9398, 9423, 1, 26⟩ : S62), (⟨65313, 65338, 1, 32⟩ : S62), (⟨66560, 66599, 1, 40⟩ : S62)] : List (S62))) := ⟨_, rfl⟩
  replace H : (some y361) = some r := by first | (rw [hy361]; with_reducible exact H) | (have H2_ := (Option.bind_some _ _).symm.trans H; rw [hy361]; with_reducible exact H2_) | (have H2_ := (Option.bind_some _ _).symm.trans H; with_reducible exact H2_) | with_reducible exact H | (rw [hy361]; exact H) | exact H
  have Ny361 := Aside0.mk hy361
  clear hy361
  obtain rfl := Option.some.inj H
  go_enter Try.func46, Try.ntmps46
  go_wp2_with (first | ((with_reducible refine gate_dst (N := 19) rfl ?_); refine Kd.R_lit k62 _ 62 ?hg (N := 19) ?hd (xs := ([(⟨65, 90, 1, 32⟩ : S62), (⟨192, 214, 1, 32⟩ : S62), (⟨216, 222, 1, 32⟩ : S62), (⟨256, 302, 2, 1⟩ : S62), (⟨306, 310, 2, 1⟩ : S62), (⟨313, 327, 2, 1⟩ : S62), (⟨330, 374, 2, 1⟩ : S62), (⟨377, 381, 2, 1⟩ : S62), (⟨913, 929, 1, 32⟩ : S62), (⟨931, 939, 1, 32⟩ : S62), (⟨1024, 1039, 1, 80⟩ : S62), (⟨1040, 1071, 1, 32⟩ : S62), (⟨1120, 1152, 2, 1⟩ : S62), (⟨1329, 1366, 1, 48⟩ : S62), (⟨7680, 7828, 2, 1⟩ : S62), (⟨9398, 9423, 1, 26⟩ : S62), (⟨65313, 65338, 1, 32⟩ : S62), (⟨66560, 66599, 1, 40⟩ : S62)] : List (S62))) (inner := [.int .i64 65, .int .i64 90, .int .i64 1, .int .i64 32, .int .i64 192, .int .i64 214, .int .i64 1, .int .i64 32, .int .i64 216, .int .i64 222, .int .i64 1, .int .i64 32, .int .i64 256, .int .i64 302, .int .i64 2, .int .i64 1, .int .i64 306, .int .i64 310, .int .i64 2, .int .i64 1, .int .i64 313, .int .i64 327, .int .i64 2, .int .i64 1, .int .i64 330, .int .i64 374, .int .i64 2, .int .i64 1, .int .i64 377, .int .i64 381, .int .i64 2, .int .i64 1, .int .i64 913, .int .i64 929, .int .i64 1, .int .i64 32, .int .i64 931, .int .i64 939, .int .i64 1, .int .i64 32, .int .i64 1024, .int .i64 1039, .int .i64 1, .int .i64 80, .int .i64 1040, .int .i64 1071, .int .i64 1, .int .i64 32, .int .i64 1120, .int .i64 1152, .int .i64 2, .int .i64 1, .int .i64 1329, .int .i64 1366, .int .i64 1, .int .i64 48, .int .i64 7680, .int .i64 7828, .int .i64 2, .int .i64 1, .int .i64 9398, .int .i64 9423, .int .i64 1, .int .i64 26, .int .i64 65313, .int .i64 65338, .int .i64 1, .int .i64 32, .int .i64 66560, .int .i64 66599, .int .i64 1, .int .i64 40]) (ok := fun _ => True) (okp := fun _ => True) ?hr ?hp (fun _ hk => hk) trivial (Below.refl _ _) (Nat.le_refl _) (by simp) ?_; (case hd => rfl); (case hg => rfl); (case hr => first | (go_simp; done) | (go_simp; rfl)); (case hp => exact (Reps.c4 (show Kd.M k62 _ _ _ (⟨65, 90, 1, 32⟩ : S62) [.int .i64 65, .int .i64 90, .int .i64 1, .int .i64 32] from (k62_mkM _ _ _ (⟨65, 90, 1, 32⟩ : S62) )) (Reps.c4 (show Kd.M k62 _ _ _ (⟨192, 214, 1, 32⟩ : S62) [.int .i64 192, .int .i64 214, .int .i64 1, .int .i64 32] from (k62_mkM _ _ _ (⟨192, 214, 1, 32⟩ : S62) )) (Reps.c4 (show Kd.M k62 _ _ _ (⟨216, 222, 1, 32⟩ : S62) [.int .i64 216, .int .i64 222, .int .i64 1, .int .i64 32] from (k62_mkM _ _ _ (⟨216, 222, 1, 32⟩ : S62) )) (Reps.c4 (show Kd.M k62 _ _ _ (⟨256, 302, 2, 1⟩ : S62) [.int .i64 256, .int .i64 302, .int .i64 2, .int .i64 1] from (k62_mkM _ _ _ (⟨256, 302, 2, 1⟩ : S62) )) (Reps.c4 (show Kd.M k62 _ _ _ (⟨306, 310, 2, 1⟩ : S62) [.int .i64 306, .int .i64 310, .int .i64 2, .int .i64 1] from (k62_mkM _ _ _ (⟨306, 310, 2, 1⟩ : S62) )) (Reps.c4 (show Kd.M k62 _ _ _ (⟨313, 327, 2, 1⟩ : S62) [.int .i64 313, .int .i64 327, .int .i64 2, .int .i64 1] from (k62_mkM _ _ _ (⟨313, 327, 2, 1⟩ : S62) )) (Reps.c4 (show Kd.M k62 _ _ _ (⟨330, 374, 2, 1⟩ : S62) [.int .i64 330, .int .i64 374, .int .i64 2, .int .i64 1] from (k62_mkM _ _ _ (⟨330, 374, 2, 1⟩ : S62) )) (Reps.c4 (show Kd.M k62 _ _ _ (⟨377, 381, 2, 1⟩ : S62) [.int .i64 377, .int .i64 381, .int .i64 2, .int .i64 1] from (k62_mkM _ _ _ (⟨377, 381, 2, 1⟩ : S62) )) (Reps.c4 (show Kd.M k62 _ _ _ (⟨913, 929, 1, 32⟩ : S62) [.int .i64 913, .int .i64 929, .int .i64 1, .int .i64 32] from (k62_mkM _ _ _ (⟨913, 929, 1, 32⟩ : S62) )) (Reps.c4 (show Kd.M k62 _ _ _ (⟨931, 939, 1, 32⟩ : S62) [.int .i64 931, .int .i64 939, .int .i64 1, .int .i64 32] from (k62_mkM _ _ _ (⟨931, 939, 1, 32⟩ : S62) )) (Reps.c4 (show Kd.M k62 _ _ _ (⟨1024, 1039, 1, 80⟩ : S62) [.int .i64 1024, .int .i64 1039, .int .i64 1, .int .i64 80] from (k62_mkM _ _ _ (⟨1024, 1039, 1, 80⟩ : S62) )) (Reps.c4 (show Kd.M k62 _ _ _ (⟨1040, 1071, 1, 32⟩ : S62) [.int .i64 1040, .int .i64 1071, .int .i64 1, .int .i64 32] from (k62_mkM _ _ _ (⟨1040, 1071, 1, 32⟩ : S62) )) (Reps.c4 (show Kd.M k62 _ _ _ (⟨1120, 1152, 2, 1⟩ : S62) [.int .i64 1120, .int .i64 1152, .int .i64 2, .int .i64 1] from (k62_mkM _ _ _ (⟨1120, 1152, 2, 1⟩ : S62) )) (Reps.c4 (show Kd.M k62 _ _ _ (⟨1329, 1366, 1, 48⟩ : S62) [.int .i64 1329, .int .i64 1366, .int .i64 1, .int .i64 48] from (k62_mkM _ _ _ (⟨1329, 1366, 1, 48⟩ : S62) )) (Reps.c4 (show Kd.M k62 _ _ _ (⟨7680, 7828, 2, 1⟩ : S62) [.int .i64 7680, .int .i64 7828, .int .i64 2, .int .i64 1] from (k62_mkM _ _ _ (⟨7680, 7828, 2, 1⟩ : S62) )) (Reps.c4 (show Kd.M k62 _ _ _ (⟨9398, 9423, 1, 26⟩ : S62) [.int .i64 9398, .int .i64 9423, .int .i64 1, .int .i64 26] from (k62_mkM _ _ _ (⟨9398, 9423, 1, 26⟩ : S62) )) (Reps.c4 (show Kd.M k62 _ _ _ (⟨65313, 65338, 1, 32⟩ : S62) [.int .i64 65313, .int .i64 65338, .int .i64 1, .int .i64 32] from (k62_mkM _ _ _ (⟨65313, 65338, 1, 32⟩ : S62) )) (Reps.c4 (show Kd.M k62 _ _ _ (⟨66560, 66599, 1, 40⟩ : S62) [.int .i64 66560, .int .i64 66599, .int .i64 1, .int .i64 40] from (k62_mkM _ _ _ (⟨66560, 66599, 1, 40⟩ : S62) )) (Reps.none _ _)))))))))))))))))))); intro v362 w1 ho2 hb hg_ hnew_; clear hg_ hnew_; (first | rw [← Ny361.out] at ho2 | (simp only [Int.reduceToNat] at ho2; rw [← Ny361.out] at ho2)); have n0_ := Aside0.mk (Kd.R_lower ho2 (below_size (by repeat (first | (with_reducible first | exact HB.out | apply below_alloc | apply pw_below_drewN | apply below_drew1) | exact HB.out)))); have n1_ := Aside0.mk (below_step (by repeat (first | (with_reducible first | exact HB.out | apply below_alloc | apply pw_below_drewN | apply below_drew1) | exact HB.out)) hb); clear HB; have HO363 := n0_; have HB := n1_; clear n0_ n1_; clear hb ho2))
  go_ret
  exact ⟨_, by first | rfl | (simp [errW_none, errW_some] <;> rfl) | (simp [*, errW_none, errW_some] <;> rfl), by (with_reducible repeat (first | apply Kd.R_alloc | apply Kd.R_drewN | apply Kd.R_drew)); exact HO363.out, by repeat (first | (with_reducible first | exact HB.out | apply below_alloc | apply pw_below_drewN | apply below_drew1) | exact HB.out)⟩

/-! ### fold_row_upper: function 47 -/
def fold_row_upper.f (a0_0 : Int) (a0_1 : Int) (a0_2 : Int) (a0_3 : Int) (a1 : Int) : Option (Bool) := if a1 ≥ a0_0 then (if a1 ≤ a0_1 then (if a0_2 = 0 then (none) else (some ((Int.tmod (wrap64 (a1 - a0_0)) a0_2) == 0))) else (some false)) else (some false)
set_option maxHeartbeats 8000000 in
set_option maxRecDepth 100000 in
theorem fold_row_upper.calls (a0_0 : Int) (a0_1 : Int) (a0_2 : Int) (a0_3 : Int) (a1 : Int) (r : Bool) (w : World) (h : fold_row_upper.f a0_0 a0_1 a0_2 a0_3 a1 = some r) :
    Calls Try.prog 47 #[.agg #[.int .i64 a0_0, .int .i64 a0_1, .int .i64 a0_2, .int .i64 a0_3], .int .i64 a1] w fun e w' => e = .returned (.bool r) ∧ Below w.heap.size w w' := by
  have hu62 := Try.underlying62
  have HB := Aside0.mk (Below.refl w.heap.size w)
  have H : (if a1 ≥ a0_0 then (if a1 ≤ a0_1 then (if a0_2 = 0 then (none) else (some ((Int.tmod (wrap64 (a1 - a0_0)) a0_2) == 0))) else (some false)) else (some false)) = some r := h
  clear h
  by_cases c3 : a1 ≥ a0_0
  · rw [if_pos c3] at H
    have c3b0 : decide (a0_0 ≤ a1) = true := decide_eq_true c3
    clear c3
    by_cases c4 : a1 ≤ a0_1
    · rw [if_pos c4] at H
      have c4b0 : decide (a1 ≤ a0_1) = true := decide_eq_true c4
      clear c4
      by_cases c5 : a0_2 = 0
      · rw [if_pos c5] at H
        exact absurd H (by simp)
      · rw [if_neg c5] at H
        have c5b0 : (a0_2 == 0) = false := beq_eq_false_iff_ne.mpr c5
        have c5b1 : (a0_2 != 0) = true := bne_iff_ne.mpr c5
        obtain rfl := Option.some.inj H
        go_enter Try.func47, Try.ntmps47
        go_wp2_with (first | ((with_reducible refine gate_dst (N := 2) rfl ?_); refine box_event ?hg (N := 2) ?hd (cs := #[.int .i64 a0_0, .int .i64 a0_1, .int .i64 a0_2, .int .i64 a0_3]) (t := 62) ?hr ?_; (case hd => rfl); (case hg => rfl); (case hr => first | (go_simp; done) | (go_simp; rfl)); intro gb364 hg w6 hbox hb; have n0_ := Aside0.mk (below_step (by repeat (first | (with_reducible first | exact HB.out | apply below_alloc | apply pw_below_drewN | apply below_drew1) | exact HB.out)) hb); have n1_ := Aside0.mk (hbox); have n2_ := Aside0.mk ((by rw [hg]; exact (below_size (by repeat (first | (with_reducible first | exact HB.out | apply below_alloc | apply pw_below_drewN | apply below_drew1) | exact HB.out))) : w.heap.size ≤ gb364)); have n3_ := Aside0.mk ((by rw [hg]; exact (below_size (by repeat (first | (with_reducible first | exact HB.out | apply below_alloc | apply pw_below_drewN | apply below_drew1) | exact HB.out))) : w.heap.size ≤ gb364)); clear HB; have HB := n0_; have BK364 := n1_; have GW364 := n2_; have GE364 := n3_; clear n0_ n1_ n2_ n3_; clear hb hbox hg; have hcz7_0 : w6.cell? ⟨gb364, 0, none⟩ = some (.int .i64 a0_0) := (blk_cell BK364.out 0).trans rfl; have hcz7_1 : w6.cell? ⟨gb364, 1, none⟩ = some (.int .i64 a0_1) := (blk_cell BK364.out 1).trans rfl; have hcz7_2 : w6.cell? ⟨gb364, 2, none⟩ = some (.int .i64 a0_2) := (blk_cell BK364.out 2).trans rfl; have hcz7_3 : w6.cell? ⟨gb364, 3, none⟩ = some (.int .i64 a0_3) := (blk_cell BK364.out 3).trans rfl; have hfz7_0 := blk_frozen BK364.out 0; have hfz7_1 := blk_frozen BK364.out 1; have hfz7_2 := blk_frozen BK364.out 2; have hfz7_3 := blk_frozen BK364.out 3))
        go_ret
        exact ⟨by first | rfl | (simp [errW_none, errW_some] <;> rfl) | (simp [*, errW_none, errW_some] <;> rfl), by repeat (first | (with_reducible first | exact HB.out | apply below_alloc | apply pw_below_drewN | apply below_drew1 | refine below_set ?_ GE364.out) | exact HB.out)⟩
    · rw [if_neg c4] at H
      have c4b0 : decide (a1 ≤ a0_1) = false := decide_eq_false c4
      clear c4
      obtain rfl := Option.some.inj H
      go_enter Try.func47, Try.ntmps47
      go_wp2_with (first | ((with_reducible refine gate_dst (N := 2) rfl ?_); refine box_event ?hg (N := 2) ?hd (cs := #[.int .i64 a0_0, .int .i64 a0_1, .int .i64 a0_2, .int .i64 a0_3]) (t := 62) ?hr ?_; (case hd => rfl); (case hg => rfl); (case hr => first | (go_simp; done) | (go_simp; rfl)); intro gb364 hg w8 hbox hb; have n0_ := Aside0.mk (below_step (by repeat (first | (with_reducible first | exact HB.out | apply below_alloc | apply pw_below_drewN | apply below_drew1) | exact HB.out)) hb); have n1_ := Aside0.mk (hbox); have n2_ := Aside0.mk ((by rw [hg]; exact (below_size (by repeat (first | (with_reducible first | exact HB.out | apply below_alloc | apply pw_below_drewN | apply below_drew1) | exact HB.out))) : w.heap.size ≤ gb364)); have n3_ := Aside0.mk ((by rw [hg]; exact (below_size (by repeat (first | (with_reducible first | exact HB.out | apply below_alloc | apply pw_below_drewN | apply below_drew1) | exact HB.out))) : w.heap.size ≤ gb364)); clear HB; have HB := n0_; have BK364 := n1_; have GW364 := n2_; have GE364 := n3_; clear n0_ n1_ n2_ n3_; clear hb hbox hg; have hcz9_0 : w8.cell? ⟨gb364, 0, none⟩ = some (.int .i64 a0_0) := (blk_cell BK364.out 0).trans rfl; have hcz9_1 : w8.cell? ⟨gb364, 1, none⟩ = some (.int .i64 a0_1) := (blk_cell BK364.out 1).trans rfl; have hcz9_2 : w8.cell? ⟨gb364, 2, none⟩ = some (.int .i64 a0_2) := (blk_cell BK364.out 2).trans rfl; have hcz9_3 : w8.cell? ⟨gb364, 3, none⟩ = some (.int .i64 a0_3) := (blk_cell BK364.out 3).trans rfl; have hfz9_0 := blk_frozen BK364.out 0; have hfz9_1 := blk_frozen BK364.out 1; have hfz9_2 := blk_frozen BK364.out 2; have hfz9_3 := blk_frozen BK364.out 3))
      go_ret
      exact ⟨by first | rfl | (simp [errW_none, errW_some] <;> rfl) | (simp [*, errW_none, errW_some] <;> rfl), by repeat (first | (with_reducible first | exact HB.out | apply below_alloc | apply pw_below_drewN | apply below_drew1 | refine below_set ?_ GE364.out) | exact HB.out)⟩
  · rw [if_neg c3] at H
    have c3b0 : decide (a0_0 ≤ a1) = false := decide_eq_false c3
    clear c3
    obtain rfl := Option.some.inj H
    go_enter Try.func47, Try.ntmps47
    go_wp2_with (first | ((with_reducible refine gate_dst (N := 2) rfl ?_); refine box_event ?hg (N := 2) ?hd (cs := #[.int .i64 a0_0, .int .i64 a0_1, .int .i64 a0_2, .int .i64 a0_3]) (t := 62) ?hr ?_; (case hd => rfl); (case hg => rfl); (case hr => first | (go_simp; done) | (go_simp; rfl)); intro gb364 hg w10 hbox hb; have n0_ := Aside0.mk (below_step (by repeat (first | (with_reducible first | exact HB.out | apply below_alloc | apply pw_below_drewN | apply below_drew1) | exact HB.out)) hb); have n1_ := Aside0.mk (hbox); have n2_ := Aside0.mk ((by rw [hg]; exact (below_size (by repeat (first | (with_reducible first | exact HB.out | apply below_alloc | apply pw_below_drewN | apply below_drew1) | exact HB.out))) : w.heap.size ≤ gb364)); have n3_ := Aside0.mk ((by rw [hg]; exact (below_size (by repeat (first | (with_reducible first | exact HB.out | apply below_alloc | apply pw_below_drewN | apply below_drew1) | exact HB.out))) : w.heap.size ≤ gb364)); clear HB; have HB := n0_; have BK364 := n1_; have GW364 := n2_; have GE364 := n3_; clear n0_ n1_ n2_ n3_; clear hb hbox hg; have hcz11_0 : w10.cell? ⟨gb364, 0, none⟩ = some (.int .i64 a0_0) := (blk_cell BK364.out 0).trans rfl; have hcz11_1 : w10.cell? ⟨gb364, 1, none⟩ = some (.int .i64 a0_1) := (blk_cell BK364.out 1).trans rfl; have hcz11_2 : w10.cell? ⟨gb364, 2, none⟩ = some (.int .i64 a0_2) := (blk_cell BK364.out 2).trans rfl; have hcz11_3 : w10.cell? ⟨gb364, 3, none⟩ = some (.int .i64 a0_3) := (blk_cell BK364.out 3).trans rfl; have hfz11_0 := blk_frozen BK364.out 0; have hfz11_1 := blk_frozen BK364.out 1; have hfz11_2 := blk_frozen BK364.out 2; have hfz11_3 := blk_frozen BK364.out 3))
    go_ret
    exact ⟨by first | rfl | (simp [errW_none, errW_some] <;> rfl) | (simp [*, errW_none, errW_some] <;> rfl), by repeat (first | (with_reducible first | exact HB.out | apply below_alloc | apply pw_below_drewN | apply below_drew1 | refine below_set ?_ GE364.out) | exact HB.out)⟩

/-! ### fold_singles: function 48 -/
def fold_singles.f  : Option ((List (S66))) := some (([(⟨181, 956⟩ : S66), (⟨376, 255⟩ : S66), (⟨383, 115⟩ : S66), (⟨962, 963⟩ : S66), (⟨8490, 107⟩ : S66), (⟨8491, 229⟩ : S66)] : List (S66)))
set_option maxHeartbeats 8000000 in
set_option maxRecDepth 100000 in
theorem fold_singles.calls  (r : List (S66)) (w : World) (h : fold_singles.f  = some r) :
    Calls Try.prog 48 #[] w fun e w' => ∃ v0_ : Value, e = .returned (v0_) ∧ Kd.R k66 66 w' w.heap.size (fun _ => True) v0_ r ∧ Below w.heap.size w w' := by
  have hu66 := Try.underlying66
  have HB := Aside0.mk (Below.refl w.heap.size w)
  have H : (some (([(⟨181, 956⟩ : S66), (⟨376, 255⟩ : S66), (⟨383, 115⟩ : S66), (⟨962, 963⟩ : S66), (⟨8490, 107⟩ : S66), (⟨8491, 229⟩ : S66)] : List (S66)))) = some r := h
  clear h
  obtain ⟨y365, hy365⟩ : ∃ y_ : List (S66), y_ = (([(⟨181, 956⟩ : S66), (⟨376, 255⟩ : S66), (⟨383, 115⟩ : S66), (⟨962, 963⟩ : S66), (⟨8490, 107⟩ : S66), (⟨8491, 229⟩ : S66)] : List (S66))) := ⟨_, rfl⟩
  replace H : (some y365) = some r := by first | (rw [hy365]; with_reducible exact H) | (have H2_ := (Option.bind_some _ _).symm.trans H; rw [hy365]; with_reducible exact H2_) | (have H2_ := (Option.bind_some _ _).symm.trans H; with_reducible exact H2_) | with_reducible exact H | (rw [hy365]; exact H) | exact H
  have Ny365 := Aside0.mk hy365
  clear hy365
  obtain rfl := Option.some.inj H
  go_enter Try.func48, Try.ntmps48
  go_wp2_with (first | ((with_reducible refine gate_dst (N := 7) rfl ?_); refine Kd.R_lit k66 _ 66 ?hg (N := 7) ?hd (xs := ([(⟨181, 956⟩ : S66), (⟨376, 255⟩ : S66), (⟨383, 115⟩ : S66), (⟨962, 963⟩ : S66), (⟨8490, 107⟩ : S66), (⟨8491, 229⟩ : S66)] : List (S66))) (inner := [.int .i64 181, .int .i64 956, .int .i64 376, .int .i64 255, .int .i64 383, .int .i64 115, .int .i64 962, .int .i64 963, .int .i64 8490, .int .i64 107, .int .i64 8491, .int .i64 229]) (ok := fun _ => True) (okp := fun _ => True) ?hr ?hp (fun _ hk => hk) trivial (Below.refl _ _) (Nat.le_refl _) (by simp) ?_; (case hd => rfl); (case hg => rfl); (case hr => first | (go_simp; done) | (go_simp; rfl)); (case hp => exact (Reps.c2 (show Kd.M k66 _ _ _ (⟨181, 956⟩ : S66) [.int .i64 181, .int .i64 956] from (k66_mkM _ _ _ (⟨181, 956⟩ : S66) )) (Reps.c2 (show Kd.M k66 _ _ _ (⟨376, 255⟩ : S66) [.int .i64 376, .int .i64 255] from (k66_mkM _ _ _ (⟨376, 255⟩ : S66) )) (Reps.c2 (show Kd.M k66 _ _ _ (⟨383, 115⟩ : S66) [.int .i64 383, .int .i64 115] from (k66_mkM _ _ _ (⟨383, 115⟩ : S66) )) (Reps.c2 (show Kd.M k66 _ _ _ (⟨962, 963⟩ : S66) [.int .i64 962, .int .i64 963] from (k66_mkM _ _ _ (⟨962, 963⟩ : S66) )) (Reps.c2 (show Kd.M k66 _ _ _ (⟨8490, 107⟩ : S66) [.int .i64 8490, .int .i64 107] from (k66_mkM _ _ _ (⟨8490, 107⟩ : S66) )) (Reps.c2 (show Kd.M k66 _ _ _ (⟨8491, 229⟩ : S66) [.int .i64 8491, .int .i64 229] from (k66_mkM _ _ _ (⟨8491, 229⟩ : S66) )) (Reps.none _ _)))))))); intro v366 w1 ho2 hb hg_ hnew_; clear hg_ hnew_; (first | rw [← Ny365.out] at ho2 | (simp only [Int.reduceToNat] at ho2; rw [← Ny365.out] at ho2)); have n0_ := Aside0.mk (Kd.R_lower ho2 (below_size (by repeat (first | (with_reducible first | exact HB.out | apply below_alloc | apply pw_below_drewN | apply below_drew1) | exact HB.out)))); have n1_ := Aside0.mk (below_step (by repeat (first | (with_reducible first | exact HB.out | apply below_alloc | apply pw_below_drewN | apply below_drew1) | exact HB.out)) hb); clear HB; have HO367 := n0_; have HB := n1_; clear n0_ n1_; clear hb ho2))
  go_ret
  exact ⟨_, by first | rfl | (simp [errW_none, errW_some] <;> rfl) | (simp [*, errW_none, errW_some] <;> rfl), by (with_reducible repeat (first | apply Kd.R_alloc | apply Kd.R_drewN | apply Kd.R_drew)); exact HO367.out, by repeat (first | (with_reducible first | exact HB.out | apply below_alloc | apply pw_below_drewN | apply below_drew1) | exact HB.out)⟩

/-! ### fold_base: function 45 -/
mutual
def fold_base.l0 : Nat → Int → List (S66) → Int → Int → Option (Int)
  | 0, _, _, _, _ => none
  | k + 1, x0, x7, x8, x9 => if x9 < x8 then (if 0 ≤ x9 then (if x9 < (x7.length : Int) then (if ((rd_T66 x7 x9).f0) = x0 then (some ((rd_T66 x7 x9).f1)) else (fold_base.l0 k x0 x7 x8 (wrap64 (x9 + 1)))) else (none)) else (none)) else ((fold_rows.f).bind fun t373 => (fold_base.l1 k x0 t373 (t373.length : Int) 0))
def fold_base.l1 : Nat → Int → List (S62) → Int → Int → Option (Int)
  | 0, _, _, _, _ => none
  | k + 1, x0, x20, x21, x22 => if x22 < x21 then (if 0 ≤ x22 then (if x22 < (x20.length : Int) then ((fold_row_upper.f ((rd_T62 x20 x22).f0) ((rd_T62 x20 x22).f1) ((rd_T62 x20 x22).f2) ((rd_T62 x20 x22).f3) x0).bind fun t378 => (if t378 = true then (some (wrap64 (x0 + ((rd_T62 x20 x22).f3)))) else (fold_base.l1 k x0 x20 x21 (wrap64 (x22 + 1))))) else (none)) else (none)) else (some x0)
end
def fold_base.f (k : Nat) (a0 : Int) : Option (Int) := (fold_singles.f).bind fun t368 => (fold_base.l0 k a0 t368 (t368.length : Int) 0)
theorem fold_base.mono_l : ∀ k, (∀ y0 y1 y2 y3, LeO (fold_base.l0 k y0 y1 y2 y3) (fold_base.l0 (k + 1) y0 y1 y2 y3)) ∧ (∀ y0 y1 y2 y3, LeO (fold_base.l1 k y0 y1 y2 y3) (fold_base.l1 (k + 1) y0 y1 y2 y3))
  | 0 => ⟨fun _ _ _ _ r h => by simp [fold_base.l0] at h, fun _ _ _ _ r h => by simp [fold_base.l1] at h⟩
  | k + 1 => by
    obtain ⟨ih0, ih1⟩ := fold_base.mono_l k
    refine ⟨?_, ?_⟩
    · intro y0 y1 y2 y3
      unfold fold_base.l0
      repeat' first
      | (with_reducible exact ih0 _ _ _ _)
      | (with_reducible exact ih1 _ _ _ _)
      | (with_reducible exact LeO.refl _)
      | (with_reducible exact LeO.none _)
      | (with_reducible refine LeO.ite ?_ ?_)
      | (with_reducible refine LeO.bind ?_ (fun _ => ?_))
      | exact ih0 _ _ _ _
      | exact ih1 _ _ _ _
      | exact LeO.none _
      | refine LeO.ite ?_ ?_
      | refine LeO.bind ?_ (fun _ => ?_)
    · intro y0 y1 y2 y3
      unfold fold_base.l1
      repeat' first
      | (with_reducible exact ih0 _ _ _ _)
      | (with_reducible exact ih1 _ _ _ _)
      | (with_reducible exact LeO.refl _)
      | (with_reducible exact LeO.none _)
      | (with_reducible refine LeO.ite ?_ ?_)
      | (with_reducible refine LeO.bind ?_ (fun _ => ?_))
      | exact ih0 _ _ _ _
      | exact ih1 _ _ _ _
      | exact LeO.none _
      | refine LeO.ite ?_ ?_
      | refine LeO.bind ?_ (fun _ => ?_)
theorem fold_base.mono : ∀ a0 k, LeO (fold_base.f k a0) (fold_base.f (k + 1) a0) := by
  intro a0 k
  obtain ⟨ih0, ih1⟩ := fold_base.mono_l k
  unfold fold_base.f
  repeat' first
      | (with_reducible exact ih0 _ _ _ _)
      | (with_reducible exact ih1 _ _ _ _)
      | (with_reducible exact LeO.refl _)
      | (with_reducible exact LeO.none _)
      | (with_reducible refine LeO.ite ?_ ?_)
      | (with_reducible refine LeO.bind ?_ (fun _ => ?_))
      | exact ih0 _ _ _ _
      | exact ih1 _ _ _ _
      | exact LeO.none _
      | refine LeO.ite ?_ ?_
      | refine LeO.bind ?_ (fun _ => ?_)
set_option maxHeartbeats 8000000 in
set_option maxRecDepth 100000 in
theorem fold_base.calls (k : Nat) (a0 : Int) (r : Int) (w : World) (h : fold_base.f k a0 = some r) :
    Calls Try.prog 45 #[.int .i64 a0] w fun e w' => e = .returned (.int .i64 r) ∧ Below w.heap.size w w' := by
  have hu66 := Try.underlying66
  have hu62 := Try.underlying62
  have HB := Aside0.mk (Below.refl w.heap.size w)
  have H : ((fold_singles.f).bind fun t368 => (fold_base.l0 k a0 t368 (t368.length : Int) 0)) = some r := h
  clear h
  replace H := Option.bind_eq_some_iff.mp H
  obtain ⟨t368, A20, H⟩ := H
  replace H : (fold_base.l0 k a0 t368 (t368.length : Int) 0) = some r := H
  have A2 := Aside0.mk A20
  clear A20
  have H' := Aside0.mk H
  clear H
  go_enter Try.func45, Try.ntmps45
  go_wp2_with (first | ((with_reducible refine gate_callee (f := 48) rfl ?_); refine goesL_ (some 7) rfl rfl Try.func48 (by kernel_rfl) rfl #[] rfl (by (try simp only [List.map_toArray, List.map_cons, List.map_nil]); first | done | rfl | (simp only [List.length_drop, List.length_take]; rfl)) ?_; (with_reducible refine (fold_singles.calls  t368 _ A2.out).mono ?_); rintro e w3 ⟨v369, rfl, ho0, hb⟩; refine ⟨_, rfl, ?_⟩; have n0_ := Aside0.mk (Kd.R_lower ho0 (below_size (by repeat (first | (with_reducible first | exact HB.out | apply below_alloc | apply pw_below_drewN | apply below_drew1) | exact HB.out)))); have n1_ := Aside0.mk (below_step (by repeat (first | (with_reducible first | exact HB.out | apply below_alloc | apply pw_below_drewN | apply below_drew1) | exact HB.out)) hb); clear HB; have HO370 := n0_; have HB := n1_; clear n0_ n1_; (try clear hb); (try clear hb2); (try clear hk); (try clear hi); (try clear ho0); obtain ⟨Ao4, co4, eo4⟩ := Kd.R_slice HO370.out; subst eo4))
  go_loopg [9] k (fun kq v9 w' => ∃ (x9_1 : Int), v9 = .int .i64 x9_1 ∧ Aside0 (fold_base.l0 kq a0 t368 (t368.length : Int) x9_1 = some r) ∧ Aside0 (kq ≤ k) ∧ Aside0 (Kd.R k66 66 w' w.heap.size (fun _ => True) (.slice Ao4 t368.length co4) t368) ∧ Aside0 (Below w.heap.size w w'))
  case atStart => exact ⟨(0), (by first | rfl | (simp; done) | (simp [*]; done)), H', ⟨Nat.le_refl _⟩, ⟨by (with_reducible repeat (first | apply Kd.R_alloc | apply Kd.R_drewN | apply Kd.R_drew)); exact HO370.out⟩, ⟨by repeat (first | (with_reducible first | exact HB.out | apply below_alloc | apply pw_below_drewN | apply below_drew1) | exact HB.out)⟩⟩
  case round =>
    clear H'
    try clear p2
    try clear c4
    obtain ⟨x9_1, rfl, HA, HK1, HO_7, HB⟩ := hrel
    cases gk with
    | zero => exact absurd HA.out (by simp [fold_base.l0])
    | succ k1 =>
      have H := HA.out
      clear HA
      simp only [fold_base.l0] at H
      by_cases c5 : x9_1 < (t368.length : Int)
      · rw [if_pos c5] at H
        have c5b0 : decide (x9_1 < (t368.length : Int)) = true := decide_eq_true c5
        clear c5
        by_cases c6 : 0 ≤ x9_1
        · rw [if_pos c6] at H
          have c6b0 : decide (0 ≤ x9_1) = true := decide_eq_true c6
          clear c6
          by_cases c7 : x9_1 < (t368.length : Int)
          · rw [if_pos c7] at H
            have c7b0 : decide (x9_1 < (t368.length : Int)) = true := decide_eq_true c7
            clear c7
            by_cases c8 : ((rd_T66 t368 x9_1).f0) = a0
            · rw [if_pos c8] at H
              have c8b0 : (((rd_T66 t368 x9_1).f0) == a0) = true := beq_iff_eq.mpr c8
              have c8b1 : (((rd_T66 t368 x9_1).f0) != a0) = false := bne_eq_false_iff_eq.mpr c8
              clear c8
              obtain rfl := Option.some.inj H
              have p371 : 0 ≤ (x9_1 : Int) := of_decide_eq_true (by first | (with_reducible assumption) | assumption)
              have q371 : x9_1 < (t368.length : Int) := of_decide_eq_true (by first | (with_reducible assumption) | assumption)
              obtain ⟨ad371, e371, hx371_0, hx371_1⟩ := at_T66 (Kd.R_reads' HO_7.out).2.2 x9_1 p371 q371
              cases e371
              replace p371 := eq_true p371
              replace q371 := eq_true q371
              go_wp2_with (first | ((with_reducible refine gate_dst (N := 4) rfl ?_); refine box_event ?hg (N := 4) ?hd (cs := #[.int .i64 0, .int .i64 0]) (t := 66) ?hr ?_; (case hd => rfl); (case hg => rfl); (case hr => first | (go_simp; done) | (go_simp; rfl)); intro gb372 hg w9 hbox hb; have n0_ := Aside0.mk (Kd.R_below (Kd.R_elderB (by (with_reducible repeat (first | apply Kd.R_alloc | apply Kd.R_drewN | apply Kd.R_drew)); exact HO_7.out) gb372 (Nat.le_of_eq hg.symm)) hb); have n1_ := Aside0.mk (below_step (by repeat (first | (with_reducible first | exact HB.out | apply below_alloc | apply pw_below_drewN | apply below_drew1) | exact HB.out)) hb); have n2_ := Aside0.mk (hbox); have n3_ := Aside0.mk ((by rw [hg]; exact (below_size (by repeat (first | (with_reducible first | exact HB.out | apply below_alloc | apply pw_below_drewN | apply below_drew1) | exact HB.out))) : w.heap.size ≤ gb372)); have n4_ := Aside0.mk ((by rw [hg]; exact (below_size (by repeat (first | (with_reducible first | exact HB.out | apply below_alloc | apply pw_below_drewN | apply below_drew1) | exact HB.out))) : w.heap.size ≤ gb372)); clear HO_7; clear HB; have HO_7 := n0_; have HB := n1_; have BK372 := n2_; have GW372 := n3_; have GE372 := n4_; clear n0_ n1_ n2_ n3_ n4_; clear hb hbox hg; have hcz10_0 : w9.cell? ⟨gb372, 0, none⟩ = some (.int .i64 0) := (blk_cell BK372.out 0).trans rfl; have hcz10_1 : w9.cell? ⟨gb372, 1, none⟩ = some (.int .i64 0) := (blk_cell BK372.out 1).trans rfl; have hfz10_0 := blk_frozen BK372.out 0; have hfz10_1 := blk_frozen BK372.out 1))
              go_ret
              exact ⟨by first | rfl | (simp [errW_none, errW_some] <;> rfl) | (simp [*, errW_none, errW_some] <;> rfl), by repeat (first | (with_reducible first | exact HB.out | apply below_alloc | apply pw_below_drewN | apply below_drew1 | refine below_set ?_ GE372.out) | exact HB.out)⟩
            · rw [if_neg c8] at H
              have c8b0 : (((rd_T66 t368 x9_1).f0) == a0) = false := beq_eq_false_iff_ne.mpr c8
              have c8b1 : (((rd_T66 t368 x9_1).f0) != a0) = true := bne_iff_ne.mpr c8
              have H' := Aside0.mk H
              clear H
              have p371 : 0 ≤ (x9_1 : Int) := of_decide_eq_true (by first | (with_reducible assumption) | assumption)
              have q371 : x9_1 < (t368.length : Int) := of_decide_eq_true (by first | (with_reducible assumption) | assumption)
              obtain ⟨ad371, e371, hx371_0, hx371_1⟩ := at_T66 (Kd.R_reads' HO_7.out).2.2 x9_1 p371 q371
              cases e371
              replace p371 := eq_true p371
              replace q371 := eq_true q371
              go_wp2_with (first | ((with_reducible refine gate_dst (N := 4) rfl ?_); refine box_event ?hg (N := 4) ?hd (cs := #[.int .i64 0, .int .i64 0]) (t := 66) ?hr ?_; (case hd => rfl); (case hg => rfl); (case hr => first | (go_simp; done) | (go_simp; rfl)); intro gb372 hg w11 hbox hb; have n0_ := Aside0.mk (Kd.R_below (Kd.R_elderB (by (with_reducible repeat (first | apply Kd.R_alloc | apply Kd.R_drewN | apply Kd.R_drew)); exact HO_7.out) gb372 (Nat.le_of_eq hg.symm)) hb); have n1_ := Aside0.mk (below_step (by repeat (first | (with_reducible first | exact HB.out | apply below_alloc | apply pw_below_drewN | apply below_drew1) | exact HB.out)) hb); have n2_ := Aside0.mk (hbox); have n3_ := Aside0.mk ((by rw [hg]; exact (below_size (by repeat (first | (with_reducible first | exact HB.out | apply below_alloc | apply pw_below_drewN | apply below_drew1) | exact HB.out))) : w.heap.size ≤ gb372)); have n4_ := Aside0.mk ((by rw [hg]; exact (below_size (by repeat (first | (with_reducible first | exact HB.out | apply below_alloc | apply pw_below_drewN | apply below_drew1) | exact HB.out))) : w.heap.size ≤ gb372)); clear HO_7; clear HB; have HO_7 := n0_; have HB := n1_; have BK372 := n2_; have GW372 := n3_; have GE372 := n4_; clear n0_ n1_ n2_ n3_ n4_; clear hb hbox hg; have hcz12_0 : w11.cell? ⟨gb372, 0, none⟩ = some (.int .i64 0) := (blk_cell BK372.out 0).trans rfl; have hcz12_1 : w11.cell? ⟨gb372, 1, none⟩ = some (.int .i64 0) := (blk_cell BK372.out 1).trans rfl; have hfz12_0 := blk_frozen BK372.out 0; have hfz12_1 := blk_frozen BK372.out 1))
              go_roundg k1
              case measure => have := HK1.out; omega
              case rel => exact ⟨(wrap64 (x9_1 + 1)), (by first | rfl | (simp; done) | (simp [*]; done)), H', ⟨by have := HK1.out; omega⟩, ⟨by (with_reducible repeat (first | apply Kd.R_alloc | apply Kd.R_drewN | apply Kd.R_drew)); exact Kd.R_mono (Kd.R_far (p := ⟨gb372, 1, none⟩) (Kd.R_far (p := ⟨gb372, 0, none⟩) (Kd.R_mono HO_7.out (fun k_ hk => (⟨hk, hk.2⟩ : _ ∧ k_ ≠ gb372))) (fun _ hk => hk.2) (.int .i64 ((rd_T66 t368 x9_1).f0))) (fun _ hk => hk.2) (.int .i64 ((rd_T66 t368 x9_1).f1))) (fun _ hk => trivial)⟩, ⟨by repeat (first | (with_reducible first | exact HB.out | apply below_alloc | apply pw_below_drewN | apply below_drew1 | refine below_set ?_ GE372.out) | exact HB.out)⟩⟩
          · rw [if_neg c7] at H
            exact absurd H (by simp)
        · rw [if_neg c6] at H
          exact absurd H (by simp)
      · rw [if_neg c5] at H
        have c5b0 : decide (x9_1 < (t368.length : Int)) = false := decide_eq_false c5
        clear c5
        replace H := Option.bind_eq_some_iff.mp H
        obtain ⟨t373, A130, H⟩ := H
        replace H : (fold_base.l1 k1 a0 t373 (t373.length : Int) 0) = some r := H
        have A13 := Aside0.mk A130
        clear A130
        have H' := Aside0.mk H
        clear H
        go_wp2_with (first | ((with_reducible refine gate_callee (f := 46) rfl ?_); refine goesL_ (some 20) rfl rfl Try.func46 (by kernel_rfl) rfl #[] rfl (by (try simp only [List.map_toArray, List.map_cons, List.map_nil]); first | done | rfl | (simp only [List.length_drop, List.length_take]; rfl)) ?_; (with_reducible refine (fold_rows.calls  t373 _ A13.out).mono ?_); rintro e w14 ⟨v374, rfl, ho0, hb⟩; refine ⟨_, rfl, ?_⟩; have n0_ := Aside0.mk (Kd.R_below (by (with_reducible repeat (first | apply Kd.R_alloc | apply Kd.R_drewN | apply Kd.R_drew)); exact HO_7.out) hb); have n1_ := Aside0.mk (Kd.R_lower ho0 (below_size (by repeat (first | (with_reducible first | exact HB.out | apply below_alloc | apply pw_below_drewN | apply below_drew1) | exact HB.out)))); have n2_ := Aside0.mk (below_step (by repeat (first | (with_reducible first | exact HB.out | apply below_alloc | apply pw_below_drewN | apply below_drew1) | exact HB.out)) hb); clear HO_7; clear HB; have HO_7 := n0_; have HO375 := n1_; have HB := n2_; clear n0_ n1_ n2_; (try clear hb); (try clear hb2); (try clear hk); (try clear hi); (try clear ho0); obtain ⟨Ao15, co15, eo15⟩ := Kd.R_slice HO375.out; subst eo15))
        go_loopg [22] k1 (fun kq v22 w' => ∃ (x22_2 : Int), v22 = .int .i64 x22_2 ∧ Aside0 (fold_base.l1 kq a0 t373 (t373.length : Int) x22_2 = some r) ∧ Aside0 (kq ≤ k1) ∧ Aside0 (Kd.R k62 62 w' w.heap.size (fun _ => True) (.slice Ao15 t373.length co15) t373) ∧ Aside0 (Below w.heap.size w w'))
        case atStart => exact ⟨(0), (by first | rfl | (simp; done) | (simp [*]; done)), H', ⟨Nat.le_refl _⟩, ⟨by (with_reducible repeat (first | apply Kd.R_alloc | apply Kd.R_drewN | apply Kd.R_drew)); exact HO375.out⟩, ⟨by repeat (first | (with_reducible first | exact HB.out | apply below_alloc | apply pw_below_drewN | apply below_drew1) | exact HB.out)⟩⟩
        case round =>
          clear H'
          try clear p2
          try clear p3
          try clear q3
          try clear hx3
          try clear c4
          try clear c5
          try clear c5b0
          try clear c6
          try clear c6b0
          try clear p6
          try clear c7
          try clear c7b0
          try clear c8
          try clear c8b0
          try clear c8b1
          try clear hcz10_0
          try clear hcz10_1
          try clear hcz12_0
          try clear hcz12_1
          try clear hfz10_0
          try clear hfz10_1
          try clear hfz12_0
          try clear hfz12_1
          try clear hx371_0
          try clear hx371_1
          try clear p2
          try clear p371
          try clear q371
          obtain ⟨x22_2, rfl, HA, HK2, HO_20, HB⟩ := hrel
          cases gk with
          | zero => exact absurd HA.out (by simp [fold_base.l1])
          | succ k2 =>
            have H := HA.out
            clear HA
            simp only [fold_base.l1] at H
            by_cases c16 : x22_2 < (t373.length : Int)
            · rw [if_pos c16] at H
              have c16b0 : decide (x22_2 < (t373.length : Int)) = true := decide_eq_true c16
              clear c16
              by_cases c17 : 0 ≤ x22_2
              · rw [if_pos c17] at H
                have c17b0 : decide (0 ≤ x22_2) = true := decide_eq_true c17
                clear c17
                by_cases c18 : x22_2 < (t373.length : Int)
                · rw [if_pos c18] at H
                  have c18b0 : decide (x22_2 < (t373.length : Int)) = true := decide_eq_true c18
                  clear c18
                  replace H := Option.bind_eq_some_iff.mp H
                  obtain ⟨t378, A190, H⟩ := H
                  replace H : (if t378 = true then (some (wrap64 (a0 + ((rd_T62 t373 x22_2).f3)))) else (fold_base.l1 k2 a0 t373 (t373.length : Int) (wrap64 (x22_2 + 1)))) = some r := H
                  have A19 := Aside0.mk A190
                  clear A190
                  by_cases c20 : t378 = true
                  · subst c20
                    have H1 : (some (wrap64 (a0 + ((rd_T62 t373 x22_2).f3)))) = some r := by rw [if_pos rfl] at H; exact H
                    clear H
                    have H := H1
                    clear H1
                    obtain rfl := Option.some.inj H
                    have p376 : 0 ≤ (x22_2 : Int) := of_decide_eq_true (by first | (with_reducible assumption) | assumption)
                    have q376 : x22_2 < (t373.length : Int) := of_decide_eq_true (by first | (with_reducible assumption) | assumption)
                    obtain ⟨ad376, e376, hx376_0, hx376_1, hx376_2, hx376_3⟩ := at_T62 (Kd.R_reads' HO_20.out).2.2 x22_2 p376 q376
                    cases e376
                    replace p376 := eq_true p376
                    replace q376 := eq_true q376
                    go_wp2_with (first | ((with_reducible refine gate_dst (N := 6) rfl ?_); refine box_event ?hg (N := 6) ?hd (cs := #[.int .i64 0, .int .i64 0, .int .i64 0, .int .i64 0]) (t := 62) ?hr ?_; (case hd => rfl); (case hg => rfl); (case hr => first | (go_simp; done) | (go_simp; rfl)); intro gb377 hg w21 hbox hb; have n0_ := Aside0.mk (Kd.R_below (Kd.R_elderB (by (with_reducible repeat (first | apply Kd.R_alloc | apply Kd.R_drewN | apply Kd.R_drew)); exact HO_20.out) gb377 (Nat.le_of_eq hg.symm)) hb); have n1_ := Aside0.mk (below_step (by repeat (first | (with_reducible first | exact HB.out | apply below_alloc | apply pw_below_drewN | apply below_drew1) | exact HB.out)) hb); have n2_ := Aside0.mk (hbox); have n3_ := Aside0.mk ((by rw [hg]; exact (below_size (by repeat (first | (with_reducible first | exact HB.out | apply below_alloc | apply pw_below_drewN | apply below_drew1) | exact HB.out))) : w.heap.size ≤ gb377)); have n4_ := Aside0.mk ((by rw [hg]; exact (below_size (by repeat (first | (with_reducible first | exact HB.out | apply below_alloc | apply pw_below_drewN | apply below_drew1) | exact HB.out))) : w.heap.size ≤ gb377)); clear HO_20; clear HB; have HO_20 := n0_; have HB := n1_; have BK377 := n2_; have GW377 := n3_; have GE377 := n4_; clear n0_ n1_ n2_ n3_ n4_; clear hb hbox hg; have hcz22_0 : w21.cell? ⟨gb377, 0, none⟩ = some (.int .i64 0) := (blk_cell BK377.out 0).trans rfl; have hcz22_1 : w21.cell? ⟨gb377, 1, none⟩ = some (.int .i64 0) := (blk_cell BK377.out 1).trans rfl; have hcz22_2 : w21.cell? ⟨gb377, 2, none⟩ = some (.int .i64 0) := (blk_cell BK377.out 2).trans rfl; have hcz22_3 : w21.cell? ⟨gb377, 3, none⟩ = some (.int .i64 0) := (blk_cell BK377.out 3).trans rfl; have hfz22_0 := blk_frozen BK377.out 0; have hfz22_1 := blk_frozen BK377.out 1; have hfz22_2 := blk_frozen BK377.out 2; have hfz22_3 := blk_frozen BK377.out 3) | ((with_reducible refine gate_callee (f := 47) rfl ?_); refine goesL_ (some 28) rfl rfl Try.func47 (by kernel_rfl) rfl #[.agg #[.int .i64 ((rd_T62 t373 x22_2).f0), .int .i64 ((rd_T62 t373 x22_2).f1), .int .i64 ((rd_T62 t373 x22_2).f2), .int .i64 ((rd_T62 t373 x22_2).f3)], .int .i64 a0] rfl (by (try simp only [List.map_toArray, List.map_cons, List.map_nil]); first | done | rfl | (simp only [List.length_drop, List.length_take]; rfl)) ?_; (with_reducible refine (fold_row_upper.calls ((rd_T62 t373 x22_2).f0) ((rd_T62 t373 x22_2).f1) ((rd_T62 t373 x22_2).f2) ((rd_T62 t373 x22_2).f3) a0 true _ A19.out).mono ?_); rintro e w23 ⟨rfl, hb⟩; refine ⟨_, rfl, ?_⟩; have n0_ := Aside0.mk (Kd.R_below (by (with_reducible repeat (first | apply Kd.R_alloc | apply Kd.R_drewN | apply Kd.R_drew)); exact (Kd.R_mono (Kd.R_far (p := ⟨gb377, 3, none⟩) (Kd.R_far (p := ⟨gb377, 2, none⟩) (Kd.R_far (p := ⟨gb377, 1, none⟩) (Kd.R_far (p := ⟨gb377, 0, none⟩) (Kd.R_mono HO_20.out (fun k_ hk => (⟨hk, hk.2⟩ : _ ∧ k_ ≠ gb377))) (fun _ hk => hk.2) (.int .i64 ((rd_T62 t373 x22_2).f0))) (fun _ hk => hk.2) (.int .i64 ((rd_T62 t373 x22_2).f1))) (fun _ hk => hk.2) (.int .i64 ((rd_T62 t373 x22_2).f2))) (fun _ hk => hk.2) (.int .i64 ((rd_T62 t373 x22_2).f3))) (fun _ h_ => h_.1))) hb); have n1_ := Aside0.mk (blk_below (g := gb377) (o := .cells #[.int .i64 ((rd_T62 t373 x22_2).f0), .int .i64 ((rd_T62 t373 x22_2).f1), .int .i64 ((rd_T62 t373 x22_2).f2), .int .i64 ((rd_T62 t373 x22_2).f3)] 62 (0, 0)) (by (with_reducible repeat (first | refine blk_drewN ?_ _ | refine blk_drew ?_ | refine blk_alloc ?_ _)); refine blk_put (cs := #[.int .i64 ((rd_T62 t373 x22_2).f0), .int .i64 ((rd_T62 t373 x22_2).f1), .int .i64 ((rd_T62 t373 x22_2).f2), .int .i64 0]) ?_ 3 _ rfl; (with_reducible repeat (first | refine blk_drewN ?_ _ | refine blk_drew ?_ | refine blk_alloc ?_ _)); refine blk_put (cs := #[.int .i64 ((rd_T62 t373 x22_2).f0), .int .i64 ((rd_T62 t373 x22_2).f1), .int .i64 0, .int .i64 0]) ?_ 2 _ rfl; (with_reducible repeat (first | refine blk_drewN ?_ _ | refine blk_drew ?_ | refine blk_alloc ?_ _)); refine blk_put (cs := #[.int .i64 ((rd_T62 t373 x22_2).f0), .int .i64 0, .int .i64 0, .int .i64 0]) ?_ 1 _ rfl; (with_reducible repeat (first | refine blk_drewN ?_ _ | refine blk_drew ?_ | refine blk_alloc ?_ _)); refine blk_put (cs := #[.int .i64 0, .int .i64 0, .int .i64 0, .int .i64 0]) ?_ 0 _ rfl; (with_reducible repeat (first | refine blk_drewN ?_ _ | refine blk_drew ?_ | refine blk_alloc ?_ _)); exact BK377.out) hb); have n2_ := Aside0.mk (below_step (by repeat (first | (with_reducible first | exact HB.out | apply below_alloc | apply pw_below_drewN | apply below_drew1 | refine below_set ?_ GE377.out) | exact HB.out)) hb); clear HO_20; clear BK377; clear HB; have HO_20 := n0_; have BK377 := n1_; have HB := n2_; clear n0_ n1_ n2_; (try clear hb); (try clear hb2); (try clear hk); (try clear hi); have hcz24_0 : w23.cell? ⟨gb377, 0, none⟩ = some (.int .i64 ((rd_T62 t373 x22_2).f0)) := (blk_cell BK377.out 0).trans rfl; have hcz24_1 : w23.cell? ⟨gb377, 1, none⟩ = some (.int .i64 ((rd_T62 t373 x22_2).f1)) := (blk_cell BK377.out 1).trans rfl; have hcz24_2 : w23.cell? ⟨gb377, 2, none⟩ = some (.int .i64 ((rd_T62 t373 x22_2).f2)) := (blk_cell BK377.out 2).trans rfl; have hcz24_3 : w23.cell? ⟨gb377, 3, none⟩ = some (.int .i64 ((rd_T62 t373 x22_2).f3)) := (blk_cell BK377.out 3).trans rfl; have hfz24_0 := blk_frozen BK377.out 0; have hfz24_1 := blk_frozen BK377.out 1; have hfz24_2 := blk_frozen BK377.out 2; have hfz24_3 := blk_frozen BK377.out 3))
                    go_ret
                    exact ⟨by first | rfl | (simp [errW_none, errW_some] <;> rfl) | (simp [*, errW_none, errW_some] <;> rfl), by repeat (first | (with_reducible first | exact HB.out | apply below_alloc | apply pw_below_drewN | apply below_drew1 | refine below_set ?_ GE377.out) | exact HB.out)⟩
                  · replace c20 := Bool.eq_false_iff.mpr c20
                    subst c20
                    have H1 : (fold_base.l1 k2 a0 t373 (t373.length : Int) (wrap64 (x22_2 + 1))) = some r := by rw [if_neg (show ¬ (false = true) by decide)] at H; exact H
                    clear H
                    have H := H1
                    clear H1
                    have H' := Aside0.mk H
                    clear H
                    have p376 : 0 ≤ (x22_2 : Int) := of_decide_eq_true (by first | (with_reducible assumption) | assumption)
                    have q376 : x22_2 < (t373.length : Int) := of_decide_eq_true (by first | (with_reducible assumption) | assumption)
                    obtain ⟨ad376, e376, hx376_0, hx376_1, hx376_2, hx376_3⟩ := at_T62 (Kd.R_reads' HO_20.out).2.2 x22_2 p376 q376
                    cases e376
                    replace p376 := eq_true p376
                    replace q376 := eq_true q376
                    go_wp2_with (first | ((with_reducible refine gate_dst (N := 6) rfl ?_); refine box_event ?hg (N := 6) ?hd (cs := #[.int .i64 0, .int .i64 0, .int .i64 0, .int .i64 0]) (t := 62) ?hr ?_; (case hd => rfl); (case hg => rfl); (case hr => first | (go_simp; done) | (go_simp; rfl)); intro gb377 hg w25 hbox hb; have n0_ := Aside0.mk (Kd.R_below (Kd.R_elderB (by (with_reducible repeat (first | apply Kd.R_alloc | apply Kd.R_drewN | apply Kd.R_drew)); exact HO_20.out) gb377 (Nat.le_of_eq hg.symm)) hb); have n1_ := Aside0.mk (below_step (by repeat (first | (with_reducible first | exact HB.out | apply below_alloc | apply pw_below_drewN | apply below_drew1) | exact HB.out)) hb); have n2_ := Aside0.mk (hbox); have n3_ := Aside0.mk ((by rw [hg]; exact (below_size (by repeat (first | (with_reducible first | exact HB.out | apply below_alloc | apply pw_below_drewN | apply below_drew1) | exact HB.out))) : w.heap.size ≤ gb377)); have n4_ := Aside0.mk ((by rw [hg]; exact (below_size (by repeat (first | (with_reducible first | exact HB.out | apply below_alloc | apply pw_below_drewN | apply below_drew1) | exact HB.out))) : w.heap.size ≤ gb377)); clear HO_20; clear HB; have HO_20 := n0_; have HB := n1_; have BK377 := n2_; have GW377 := n3_; have GE377 := n4_; clear n0_ n1_ n2_ n3_ n4_; clear hb hbox hg; have hcz26_0 : w25.cell? ⟨gb377, 0, none⟩ = some (.int .i64 0) := (blk_cell BK377.out 0).trans rfl; have hcz26_1 : w25.cell? ⟨gb377, 1, none⟩ = some (.int .i64 0) := (blk_cell BK377.out 1).trans rfl; have hcz26_2 : w25.cell? ⟨gb377, 2, none⟩ = some (.int .i64 0) := (blk_cell BK377.out 2).trans rfl; have hcz26_3 : w25.cell? ⟨gb377, 3, none⟩ = some (.int .i64 0) := (blk_cell BK377.out 3).trans rfl; have hfz26_0 := blk_frozen BK377.out 0; have hfz26_1 := blk_frozen BK377.out 1; have hfz26_2 := blk_frozen BK377.out 2; have hfz26_3 := blk_frozen BK377.out 3) | ((with_reducible refine gate_callee (f := 47) rfl ?_); refine goesL_ (some 28) rfl rfl Try.func47 (by kernel_rfl) rfl #[.agg #[.int .i64 ((rd_T62 t373 x22_2).f0), .int .i64 ((rd_T62 t373 x22_2).f1), .int .i64 ((rd_T62 t373 x22_2).f2), .int .i64 ((rd_T62 t373 x22_2).f3)], .int .i64 a0] rfl (by (try simp only [List.map_toArray, List.map_cons, List.map_nil]); first | done | rfl | (simp only [List.length_drop, List.length_take]; rfl)) ?_; (with_reducible refine (fold_row_upper.calls ((rd_T62 t373 x22_2).f0) ((rd_T62 t373 x22_2).f1) ((rd_T62 t373 x22_2).f2) ((rd_T62 t373 x22_2).f3) a0 false _ A19.out).mono ?_); rintro e w27 ⟨rfl, hb⟩; refine ⟨_, rfl, ?_⟩; have n0_ := Aside0.mk (Kd.R_below (by (with_reducible repeat (first | apply Kd.R_alloc | apply Kd.R_drewN | apply Kd.R_drew)); exact (Kd.R_mono (Kd.R_far (p := ⟨gb377, 3, none⟩) (Kd.R_far (p := ⟨gb377, 2, none⟩) (Kd.R_far (p := ⟨gb377, 1, none⟩) (Kd.R_far (p := ⟨gb377, 0, none⟩) (Kd.R_mono HO_20.out (fun k_ hk => (⟨hk, hk.2⟩ : _ ∧ k_ ≠ gb377))) (fun _ hk => hk.2) (.int .i64 ((rd_T62 t373 x22_2).f0))) (fun _ hk => hk.2) (.int .i64 ((rd_T62 t373 x22_2).f1))) (fun _ hk => hk.2) (.int .i64 ((rd_T62 t373 x22_2).f2))) (fun _ hk => hk.2) (.int .i64 ((rd_T62 t373 x22_2).f3))) (fun _ h_ => h_.1))) hb); have n1_ := Aside0.mk (blk_below (g := gb377) (o := .cells #[.int .i64 ((rd_T62 t373 x22_2).f0), .int .i64 ((rd_T62 t373 x22_2).f1), .int .i64 ((rd_T62 t373 x22_2).f2), .int .i64 ((rd_T62 t373 x22_2).f3)] 62 (0, 0)) (by (with_reducible repeat (first | refine blk_drewN ?_ _ | refine blk_drew ?_ | refine blk_alloc ?_ _)); refine blk_put (cs := #[.int .i64 ((rd_T62 t373 x22_2).f0), .int .i64 ((rd_T62 t373 x22_2).f1), .int .i64 ((rd_T62 t373 x22_2).f2), .int .i64 0]) ?_ 3 _ rfl; (with_reducible repeat (first | refine blk_drewN ?_ _ | refine blk_drew ?_ | refine blk_alloc ?_ _)); refine blk_put (cs := #[.int .i64 ((rd_T62 t373 x22_2).f0), .int .i64 ((rd_T62 t373 x22_2).f1), .int .i64 0, .int .i64 0]) ?_ 2 _ rfl; (with_reducible repeat (first | refine blk_drewN ?_ _ | refine blk_drew ?_ | refine blk_alloc ?_ _)); refine blk_put (cs := #[.int .i64 ((rd_T62 t373 x22_2).f0), .int .i64 0, .int .i64 0, .int .i64 0]) ?_ 1 _ rfl; (with_reducible repeat (first | refine blk_drewN ?_ _ | refine blk_drew ?_ | refine blk_alloc ?_ _)); refine blk_put (cs := #[.int .i64 0, .int .i64 0, .int .i64 0, .int .i64 0]) ?_ 0 _ rfl; (with_reducible repeat (first | refine blk_drewN ?_ _ | refine blk_drew ?_ | refine blk_alloc ?_ _)); exact BK377.out) hb); have n2_ := Aside0.mk (below_step (by repeat (first | (with_reducible first | exact HB.out | apply below_alloc | apply pw_below_drewN | apply below_drew1 | refine below_set ?_ GE377.out) | exact HB.out)) hb); clear HO_20; clear BK377; clear HB; have HO_20 := n0_; have BK377 := n1_; have HB := n2_; clear n0_ n1_ n2_; (try clear hb); (try clear hb2); (try clear hk); (try clear hi)))
                    go_roundg k2
                    case measure => have := HK1.out; have := HK2.out; omega
                    case rel => exact ⟨(wrap64 (x22_2 + 1)), (by first | rfl | (simp; done) | (simp [*]; done)), H', ⟨by have := HK1.out; have := HK2.out; omega⟩, ⟨by (with_reducible repeat (first | apply Kd.R_alloc | apply Kd.R_drewN | apply Kd.R_drew)); exact Kd.R_mono HO_20.out (fun _ hk => trivial)⟩, ⟨by repeat (first | (with_reducible first | exact HB.out | apply below_alloc | apply pw_below_drewN | apply below_drew1 | refine below_set ?_ GE377.out) | exact HB.out)⟩⟩
                · rw [if_neg c18] at H
                  exact absurd H (by simp)
              · rw [if_neg c17] at H
                exact absurd H (by simp)
            · rw [if_neg c16] at H
              have c16b0 : decide (x22_2 < (t373.length : Int)) = false := decide_eq_false c16
              clear c16
              obtain rfl := Option.some.inj H
              go_wp2
              go_ret
              exact ⟨by first | rfl | (simp [errW_none, errW_some] <;> rfl) | (simp [*, errW_none, errW_some] <;> rfl), by repeat (first | (with_reducible first | exact HB.out | apply below_alloc | apply pw_below_drewN | apply below_drew1) | exact HB.out)⟩

end Go.Proofs.Yteploglmfmhppaa.P
