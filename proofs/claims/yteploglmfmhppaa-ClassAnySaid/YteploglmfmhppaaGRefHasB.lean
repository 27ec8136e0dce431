/- clewref05.Has, by hand, at what is no letter and no digit: the call answers whether the number is one of those with the name, and whether there is such a name; nothing that was there is turned. -/
import Derived.Test.YteploglmfmhppaaGRefHasW
import Derived.Laws.Tables
import Derived.Laws.StructEq
namespace Go.Proofs.Yteploglmfmhppaa.P
open Go.RowKit Go.Proofs.YteploglmfmhppaaW.PrintWords Go.Proofs.YteploglmfmhppaaW.PrintLast Go.Proofs.YteploglmfmhppaaW.PrintMore
set_option linter.unusedVariables false
set_option linter.unusedSimpArgs false

set_option maxHeartbeats 8000000 in
set_option maxRecDepth 100000 in
theorem refHasB_calls (a0 : ByteArray) (a1 : Int) (r1 r2 : Bool) (w : World) (hs : a1 = 9 ∨ (10 ≤ a1 ∧ a1 ≤ 13) ∨ ((0 ≤ a1 ∧ a1 ≤ 8) ∨ (14 ≤ a1 ∧ a1 ≤ 31)) ∨ ((33 ≤ a1 ∧ a1 ≤ 126) ∧ ¬ (48 ≤ a1 ∧ a1 ≤ 57) ∧ ¬ (65 ≤ a1 ∧ a1 ≤ 90) ∧ ¬ (97 ≤ a1 ∧ a1 ≤ 122)) ∨ (a1 < 0 ∨ a1 = 32 ∨ 127 ≤ a1)) (h : clewref05_Has.f a0 a1 = some (r1, r2)) :
    Calls Try.prog 39 #[.string a0, .int .i64 a1] w fun e w' => e = .returned (.tuple #[.bool r1, .bool r2]) ∧ Below w.heap.size w w' := by
  have hn : refPick a0 refNames (refBits a1) = (r1, r2) := Option.some.inj h
  clear h
  have c1 := withinC a1 48 57
  have c2 := withinC a1 65 90
  have c3 := withinC a1 97 122
  have c4 := withinC a1 0 127
  have c5 := withinC a1 0 31
  have c6 := withinC a1 33 126
  have c7 := withinC a1 32 126
  have c8 := withinC a1 9 13
  have c9 := withinC a1 65 70
  have c10 := withinC a1 97 102
  have hnames := names_calls
  unfold cellsNames at hnames
  unfold refBits at hn
  rcases hs with h | h | h | h | h
  all_goals (rcases inB_cases a1 48 57 with ⟨e1, f1⟩ | ⟨e1, f1⟩ <;> first | (exfalso; omega) | skip)
  all_goals (rcases inB_cases a1 65 90 with ⟨e2, f2⟩ | ⟨e2, f2⟩ <;> first | (exfalso; omega) | skip)
  all_goals (rcases inB_cases a1 97 122 with ⟨e3, f3⟩ | ⟨e3, f3⟩ <;> first | (exfalso; omega) | skip)
  all_goals (rcases inB_cases a1 0 31 with ⟨e5, f5⟩ | ⟨e5, f5⟩ <;> first | (exfalso; omega) | skip)
  all_goals (rcases inB_cases a1 33 126 with ⟨e6, f6⟩ | ⟨e6, f6⟩ <;> first | (exfalso; omega) | skip)
  all_goals (rcases inB_cases a1 9 13 with ⟨e8, f8⟩ | ⟨e8, f8⟩ <;> first | (exfalso; omega) | skip)
  all_goals (rcases inB_cases a1 65 70 with ⟨e9, f9⟩ | ⟨e9, f9⟩ <;> first | (exfalso; omega) | skip)
  all_goals (rcases inB_cases a1 97 102 with ⟨e10, f10⟩ | ⟨e10, f10⟩ <;> first | (exfalso; omega) | skip)
  all_goals (rcases eq_cases a1 9 with ⟨e11, f11⟩ | ⟨e11, f11⟩ <;> first | (exfalso; omega) | skip)
  all_goals (rw [e1] at c1; rw [e2] at c2; rw [e3] at c3; rw [e5] at c5; rw [e6] at c6; rw [e8] at c8; rw [e9] at c9; rw [e10] at c10; rw [e1, e2, e3, e5, e6, e8, e9, e10, e11] at hn)
  all_goals (clear f1 f2 f3 f5 f6 f8 f9 f10 f11 e1 e2 e3 e5 e6 e8 e9 e10 h)
  all_goals (simp only [Bool.or_false, Bool.or_true, Bool.false_or, Bool.true_or, Bool.and_true, Bool.and_false, Bool.true_and, Bool.false_and, Bool.not_true, Bool.not_false] at hn)
  all_goals (generalize inB a1 0 127 = q4 at c4 hn; generalize inB a1 32 126 = q7 at c7 hn)
  all_goals (have HN := Aside0.mk hn; clear hn)
  all_goals (have HB := Aside0.mk (Below.refl w.heap.size w))
  all_goals
    go_enter Try.func39, Try.ntmps39
    go_wp2_with (first | ((with_reducible refine (c1 _).mono ?_); rintro e w1 ⟨rfl, hb⟩; have n0_ := Aside0.mk (below_step (by repeat (first | (with_reducible first | exact HB.out | apply below_alloc | apply pw_below_drewN | apply below_drew1) | exact HB.out)) hb); clear HB; have HB := n0_; (first | (have m0_ := Aside0.mk (blk_under HNM.out hb); clear HNM; have HNM := m0_; clear m0_) | (have HNM := Aside0.mk (blk_under (heap_alloc_new _ _) hb)) | skip); clear n0_ hb) | ((with_reducible refine (c2 _).mono ?_); rintro e w1 ⟨rfl, hb⟩; have n0_ := Aside0.mk (below_step (by repeat (first | (with_reducible first | exact HB.out | apply below_alloc | apply pw_below_drewN | apply below_drew1) | exact HB.out)) hb); clear HB; have HB := n0_; (first | (have m0_ := Aside0.mk (blk_under HNM.out hb); clear HNM; have HNM := m0_; clear m0_) | (have HNM := Aside0.mk (blk_under (heap_alloc_new _ _) hb)) | skip); clear n0_ hb) | ((with_reducible refine (c3 _).mono ?_); rintro e w1 ⟨rfl, hb⟩; have n0_ := Aside0.mk (below_step (by repeat (first | (with_reducible first | exact HB.out | apply below_alloc | apply pw_below_drewN | apply below_drew1) | exact HB.out)) hb); clear HB; have HB := n0_; (first | (have m0_ := Aside0.mk (blk_under HNM.out hb); clear HNM; have HNM := m0_; clear m0_) | (have HNM := Aside0.mk (blk_under (heap_alloc_new _ _) hb)) | skip); clear n0_ hb) | ((with_reducible refine (c4 _).mono ?_); rintro e w1 ⟨rfl, hb⟩; have n0_ := Aside0.mk (below_step (by repeat (first | (with_reducible first | exact HB.out | apply below_alloc | apply pw_below_drewN | apply below_drew1) | exact HB.out)) hb); clear HB; have HB := n0_; (first | (have m0_ := Aside0.mk (blk_under HNM.out hb); clear HNM; have HNM := m0_; clear m0_) | (have HNM := Aside0.mk (blk_under (heap_alloc_new _ _) hb)) | skip); clear n0_ hb) | ((with_reducible refine (c5 _).mono ?_); rintro e w1 ⟨rfl, hb⟩; have n0_ := Aside0.mk (below_step (by repeat (first | (with_reducible first | exact HB.out | apply below_alloc | apply pw_below_drewN | apply below_drew1) | exact HB.out)) hb); clear HB; have HB := n0_; (first | (have m0_ := Aside0.mk (blk_under HNM.out hb); clear HNM; have HNM := m0_; clear m0_) | (have HNM := Aside0.mk (blk_under (heap_alloc_new _ _) hb)) | skip); clear n0_ hb) | ((with_reducible refine (c6 _).mono ?_); rintro e w1 ⟨rfl, hb⟩; have n0_ := Aside0.mk (below_step (by repeat (first | (with_reducible first | exact HB.out | apply below_alloc | apply pw_below_drewN | apply below_drew1) | exact HB.out)) hb); clear HB; have HB := n0_; (first | (have m0_ := Aside0.mk (blk_under HNM.out hb); clear HNM; have HNM := m0_; clear m0_) | (have HNM := Aside0.mk (blk_under (heap_alloc_new _ _) hb)) | skip); clear n0_ hb) | ((with_reducible refine (c7 _).mono ?_); rintro e w1 ⟨rfl, hb⟩; have n0_ := Aside0.mk (below_step (by repeat (first | (with_reducible first | exact HB.out | apply below_alloc | apply pw_below_drewN | apply below_drew1) | exact HB.out)) hb); clear HB; have HB := n0_; (first | (have m0_ := Aside0.mk (blk_under HNM.out hb); clear HNM; have HNM := m0_; clear m0_) | (have HNM := Aside0.mk (blk_under (heap_alloc_new _ _) hb)) | skip); clear n0_ hb) | ((with_reducible refine (c8 _).mono ?_); rintro e w1 ⟨rfl, hb⟩; have n0_ := Aside0.mk (below_step (by repeat (first | (with_reducible first | exact HB.out | apply below_alloc | apply pw_below_drewN | apply below_drew1) | exact HB.out)) hb); clear HB; have HB := n0_; (first | (have m0_ := Aside0.mk (blk_under HNM.out hb); clear HNM; have HNM := m0_; clear m0_) | (have HNM := Aside0.mk (blk_under (heap_alloc_new _ _) hb)) | skip); clear n0_ hb) | ((with_reducible refine (c9 _).mono ?_); rintro e w1 ⟨rfl, hb⟩; have n0_ := Aside0.mk (below_step (by repeat (first | (with_reducible first | exact HB.out | apply below_alloc | apply pw_below_drewN | apply below_drew1) | exact HB.out)) hb); clear HB; have HB := n0_; (first | (have m0_ := Aside0.mk (blk_under HNM.out hb); clear HNM; have HNM := m0_; clear m0_) | (have HNM := Aside0.mk (blk_under (heap_alloc_new _ _) hb)) | skip); clear n0_ hb) | ((with_reducible refine (c10 _).mono ?_); rintro e w1 ⟨rfl, hb⟩; have n0_ := Aside0.mk (below_step (by repeat (first | (with_reducible first | exact HB.out | apply below_alloc | apply pw_below_drewN | apply below_drew1) | exact HB.out)) hb); clear HB; have HB := n0_; (first | (have m0_ := Aside0.mk (blk_under HNM.out hb); clear HNM; have HNM := m0_; clear m0_) | (have HNM := Aside0.mk (blk_under (heap_alloc_new _ _) hb)) | skip); clear n0_ hb) | ((with_reducible refine (hnames _).mono ?_); rintro e w1 ⟨rfl, hb⟩; have n0_ := Aside0.mk (below_step (by repeat (first | (with_reducible first | exact HB.out | apply below_alloc | apply pw_below_drewN | apply below_drew1) | exact HB.out)) hb); clear HB; have HB := n0_; (first | (have m0_ := Aside0.mk (blk_under HNM.out hb); clear HNM; have HNM := m0_; clear m0_) | (have HNM := Aside0.mk (blk_under (heap_alloc_new _ _) hb)) | skip); clear n0_ hb))
    refine after_bits HB.out HB.out.size HNM.out ?_
    intro W2 g2 bs hbs hb2 hnm2 hbit2 hg2
    rw [← hg2]
    have hn2 := HN.out
    rw [← hbs] at hn2
    have hl : bs.length = 14 := by rw [hbs]; rfl
    have hnms2 := fun k hk => names_at hnm2 k hk
    have HB2 := Aside0.mk hb2
    have HNM2 := Aside0.mk hnms2
    have HBT2 := Aside0.mk hbit2
    have HN2 := Aside0.mk hn2
    have HL2 := Aside0.mk hl
    clear hb2 hnm2 hbit2 hg2 hnms2 HB HNM hn2 HN hl hbs
    clear c1 c2 c3 c4 c5 c6 c7 c8 c9 c10 hnames
    have h14 : refNames.length = 14 := rfl
    have H14 := Aside0.mk h14
    clear h14
    go_loop [11] (fun i => ∃ kk : Nat, kk ≤ 14 ∧ i = .int .i64 kk ∧ Aside0 (∀ j, j < kk → (refNames.getD j .empty == a0) = false)) (fun i => 14 - (intOf i).toNat)
    case atStart => exact ⟨0, by omega, rfl, ⟨fun j hj => absurd hj (Nat.not_lt_zero _)⟩⟩
    case round =>
      obtain ⟨kk, hkk, rfl, AL⟩ := hrel
      by_cases hlt : kk < 14
      · have hltz : (kk : Int) < 14 := by omega
        have x0 := HNM2.out kk hlt
        have x1 := HBT2.out kk hlt
        generalize hs : refNames.getD kk .empty = s at x0
        have HS := Aside0.mk hs
        clear hs
        cases he : (s == a0) with
        | true =>
          have HE := Aside0.mk he
          rw [beq_toListBytes] at he
          go_wp2
          go_ret2
          refine ⟨?_, HB2.out⟩
          have hr := refPick_at a0 refNames bs kk (by rw [HL2.out]; exact H14.out) (by rw [H14.out]; exact hlt) (by rw [HS.out]; exact HE.out) AL.out
          rw [HN2.out] at hr
          obtain ⟨rfl, rfl⟩ := Prod.mk.inj hr
          rfl
        | false =>
          have HE := Aside0.mk he
          rw [beq_toListBytes] at he
          go_wp2
          go_round
          case rel =>
            refine ⟨kk + 1, by omega, by go_num, ⟨fun j hj => ?_⟩⟩
            by_cases e : j = kk
            · subst e; rw [HS.out]; exact HE.out
            · exact AL.out j (by omega)
          case measure => simp [intOf]; omega
      · have : kk = 14 := by omega
        subst this
        have hltz : ¬ ((14 : Nat) : Int) < 14 := by omega
        go_wp2
        go_ret2
        refine ⟨?_, HB2.out⟩
        have hr := refPick_none a0 refNames bs (fun j hj => AL.out j (by rw [H14.out] at hj; exact hj))
        rw [HN2.out] at hr
        obtain ⟨rfl, rfl⟩ := Prod.mk.inj hr
        rfl
end Go.Proofs.Yteploglmfmhppaa.P
