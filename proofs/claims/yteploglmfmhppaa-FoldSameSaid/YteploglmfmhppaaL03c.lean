/- Chapter 03 in plain Lean, third part: the laws of orbits. -/
import Derived.Test.YteploglmfmhppaaL03b
import Derived.Test.YteploglmfmhppaaPx8
import Derived.Test.YteploglmfmhppaaPx10
import Derived.Test.YteploglmfmhppaaPx11
namespace Go.Proofs.Yteploglmfmhppaa.P
open Go.RowKit Go.Proofs.YteploglmfmhppaaW.PrintWords Go.Proofs.YteploglmfmhppaaW.PrintLast Go.Proofs.YteploglmfmhppaaW.PrintMore
set_option linter.unusedVariables false
set_option linter.unusedSimpArgs false

theorem orb_107 : orb 107 = [75, 107, 8490] := by
  have e : orbF (refWith 107) = [107, 75, 8490] := by decide +kernel
  unfold orb
  rw [if_pos (by omega), e]
  exact (sortI_of_sorted (by decide) (by decide)).symm
theorem fold_962 : foldI 962 = 931 := by
  have e : orbF (refWith 962) = [963, 931, 962] := by decide +kernel
  have h : orb 962 = [931, 962, 963] := by
    unfold orb
    rw [if_pos (by omega), e]
    exact (sortI_of_sorted (by decide) (by decide)).symm
  unfold foldI
  rw [h]
theorem anchor03_ev : Ev (fun k => clewlaw03_anchor.f k) true := by
  unfold clewlaw03_anchor.f
  refine Ev.bind (orbit_ev 107) ?_
  rw [orb_107]
  refine Ev.pos rfl (Ev.pos (by simp) (Ev.pos rfl (Ev.pos (by simp) (Ev.pos rfl (Ev.pos (by simp) (Ev.pos rfl (Ev.bind (fold_ev 962) ?_)))))))
  rw [fold_962]
  exact Ev.const _

theorem orb_small (x : Int) : (orb x).length ≤ 25 := by
  unfold orb
  split
  · rw [sortI_length]
    unfold orbF
    rw [List.length_cons, List.length_append]
    have h1 : (upL (refWith x)).length ≤ 18 := by
      unfold upL
      rw [List.length_map]
      exact List.length_filter_le _ _
    have h2 : (siL (refWith x)).length ≤ 6 := by
      unfold siL
      rw [List.length_map]
      exact List.length_filter_le _ _
    omega
  · simp

theorem orbits_l0 (xs : List Int) (hlen : xs.length < 1000) : ∀ (rest pre : List Int) (k : Nat), xs = pre ++ rest → rest.length + 1 ≤ k → clewlaw03_FoldOrbits.l0 k xs xs (xs.length : Int) (pre.length : Int) = some true := by
  intro rest
  induction rest with
  | nil =>
    intro pre k hxs hk
    obtain ⟨k, rfl⟩ : ∃ j, k = j + 1 := ⟨k - 1, by simp only [List.length_nil] at hk; omega⟩
    have hl : xs.length = pre.length := by rw [hxs]; simp
    simp only [clewlaw03_FoldOrbits.l0]
    rw [if_neg (by omega)]
  | cons z rest ih =>
    intro pre k hxs hk
    simp only [List.length_cons] at hk
    obtain ⟨k, rfl⟩ : ∃ j, k = j + 1 := ⟨k - 1, by omega⟩
    have hl : xs.length = pre.length + (rest.length + 1) := by rw [hxs]; simp
    have hw2 : wrap64 ((pre.length : Int) + 1) = ((pre ++ [z]).length : Int) := by
      rw [w64 (by omega) (by omega)]
      simp
    have hnext : xs = (pre ++ [z]) ++ rest := by rw [hxs]; simp
    simp only [clewlaw03_FoldOrbits.l0, hw2]
    rw [if_pos (by omega), if_pos (by omega), if_pos (by omega), if_pos (by omega), if_pos trivial]
    exact ih (pre ++ [z]) k hnext (by omega)
theorem FoldOrbits_pure (x : Int) (_ : (Lit.int .i64 x).wf = true) : ∃ k, clewlaw03_FoldOrbits.f k x = some true := by
  refine Ev.one ?_
  unfold clewlaw03_FoldOrbits.f
  refine Ev.bind anchor03_ev (Ev.pos rfl (Ev.bind (orbit_ev x) (Ev.bind (ref_orbit_ev x) (Ev.pos rfl (Ev.bind (fold_ev x) (Ev.bind (ref_fold_ev x) ?_))))))
  have hs := orb_small x
  refine ⟨30, fun k hk => ?_⟩
  obtain ⟨k, rfl⟩ : ∃ j, k = j + 1 := ⟨k - 1, by omega⟩
  simp only [clewlaw03_FoldOrbits.j0]
  rw [if_neg (by simp)]
  exact orbits_l0 (orb x) (by omega) (orb x) [] k rfl (by omega)

theorem FoldSame_pure (x y z : Int) (_ : (Lit.int .i64 x).wf = true) (_ : (Lit.int .i64 y).wf = true) (_ : (Lit.int .i64 z).wf = true) : ∃ k, clewlaw03_FoldSame.f k x y z = some true := by
  refine Ev.one ?_
  unfold clewlaw03_FoldSame.f
  refine Ev.bind anchor03_ev (Ev.pos rfl (Ev.bind (ref_fold_ev x) (Ev.bind (ref_fold_ev y) (Ev.bind (same_ev x y) (Ev.pos (by simp) (Ev.bind (same_ev y x) (Ev.pos ?_ ?_)))))))
  · rw [beq_iff_eq, Bool.eq_iff_iff, beq_iff_eq, beq_iff_eq]
    exact ⟨Eq.symm, Eq.symm⟩
  · by_cases h : foldI x = foldI y
    · refine Ev.pos h (Ev.bind (same_ev x z) (Ev.bind (same_ev y z) ?_))
      rw [h, beq_self_eq_true]
      exact Ev.const _
    · exact Ev.neg h (Ev.const _)

theorem foldI_same {x y : Int} (h : y ∈ orb x) : foldI y = foldI x := by
  have e := orb_same h
  have hx : x ∈ orb x := orb_self (mem_orb.mp h).1 (mem_orb.mp h).2.1
  unfold foldI
  rw [e]
  cases h2 : orb x with
  | nil => rw [h2] at hx; cases hx
  | cons a l => rfl

/-- The inner loop of FoldShares. -/
theorem shares_l1 (x : Int) (xs : List Int) (own : Bool) (n i : Int) (hlen : xs.length < 1000) (r : Bool) : ∀ (rest pre : List Int), xs = pre ++ rest → Ev (fun k => clewlaw03_FoldShares.l0 k x xs own n (wrap64 (i + 1))) r → Ev (fun k => clewlaw03_FoldShares.l1 k x xs own xs n i (xs.length : Int) (pre.length : Int)) r := by
  intro rest
  induction rest with
  | nil =>
    intro pre hxs h
    obtain ⟨K, hK⟩ := h
    refine ⟨K + 1, fun k hk => ?_⟩
    obtain ⟨k, rfl⟩ : ∃ j, k = j + 1 := ⟨k - 1, by omega⟩
    have hl : xs.length = pre.length := by rw [hxs]; simp
    simp only [clewlaw03_FoldShares.l1]
    rw [if_neg (by omega)]
    exact hK k (by omega)
  | cons z rest ih =>
    intro pre hxs h
    have hl : xs.length = pre.length + (rest.length + 1) := by rw [hxs]; simp
    have hw2 : wrap64 ((pre.length : Int) + 1) = ((pre ++ [z]).length : Int) := by
      rw [w64 (by omega) (by omega)]
      simp
    have hnext : xs = (pre ++ [z]) ++ rest := by rw [hxs]; simp
    obtain ⟨K, hK⟩ := ih (pre ++ [z]) hnext h
    refine ⟨K + 1, fun k hk => ?_⟩
    obtain ⟨k, rfl⟩ : ∃ j, k = j + 1 := ⟨k - 1, by omega⟩
    simp only [clewlaw03_FoldShares.l1, hw2]
    rw [if_pos (by omega), if_pos (by omega), if_pos (by omega), if_pos (by omega), if_pos trivial]
    exact hK k (by omega)

theorem shares_l0 (x : Int) : ∀ (rest pre : List Int) (own : Bool), orb x = pre ++ rest → Ev (fun k => clewlaw03_FoldShares.l0 k x (orb x) own ((orb x).length : Int) (pre.length : Int)) (own || decide (x ∈ rest)) := by
  have hs := orb_small x
  intro rest
  induction rest with
  | nil =>
    intro pre own hxs
    refine ⟨1, fun k hk => ?_⟩
    obtain ⟨k, rfl⟩ : ∃ j, k = j + 1 := ⟨k - 1, by omega⟩
    have hl : (orb x).length = pre.length := by rw [hxs]; simp
    simp only [clewlaw03_FoldShares.l0]
    rw [if_neg (by omega)]
    simp
  | cons y rest ih =>
    intro pre own hxs
    have hl : (orb x).length = pre.length + (rest.length + 1) := by rw [hxs]; simp
    have hr : rd (orb x) (pre.length : Int) = y := rdA_app _ _ _ _ hxs
    have hy : y ∈ orb x := by rw [hxs]; simp
    have hw2 : wrap64 ((pre.length : Int) + 1) = ((pre ++ [y]).length : Int) := by
      rw [w64 (by omega) (by omega)]
      simp
    have hnext : orb x = (pre ++ [y]) ++ rest := by rw [hxs]; simp
    have h1 := ih (pre ++ [y]) (own || (y == x)) hnext
    rw [← hw2] at h1
    have h2 := shares_l1 x (orb x) (own || (y == x)) ((orb x).length : Int) (pre.length : Int) (by omega) _ (orb x) [] rfl h1
    obtain ⟨K, hK⟩ := h2
    obtain ⟨K2, hK2⟩ := same_ev x y
    have ho : orb y = orb x := orb_same hy
    have hf : (foldI x == foldI y) = true := by rw [foldI_same hy, beq_self_eq_true]
    have hv : (own || (y == x) || decide (x ∈ rest)) = (own || decide (x ∈ y :: rest)) := by
      rw [Bool.or_assoc]
      congr 1
      rw [Bool.eq_iff_iff]
      simp only [Bool.or_eq_true, beq_iff_eq, decide_eq_true_eq, List.mem_cons]
      exact ⟨fun h => h.imp_left Eq.symm, fun h => h.imp_left Eq.symm⟩
    rw [hv] at hK
    refine ⟨K + K2 + 60, fun k hk => ?_⟩
    obtain ⟨k, rfl⟩ : ∃ j, k = j + 1 := ⟨k - 1, by omega⟩
    obtain ⟨k, rfl⟩ : ∃ j, k = j + 1 := ⟨k - 1, by omega⟩
    obtain ⟨k, rfl⟩ : ∃ j, k = j + 1 := ⟨k - 1, by omega⟩
    have j3 : clewlaw03_FoldShares.j3 (k + 1) x (orb x) (own || (y == x)) (orb x) ((orb x).length : Int) (pre.length : Int) false = some (own || decide (x ∈ y :: rest)) := by
      simp only [clewlaw03_FoldShares.j3]
      rw [if_neg (by simp)]
      exact hK k (by omega)
    have j2 : clewlaw03_FoldShares.j2 (k + 1 + 1) x (orb x) (own || (y == x)) (pre.length : Int) y ((orb x).length : Int) (pre.length : Int) = some (own || decide (x ∈ y :: rest)) := by
      simp only [clewlaw03_FoldShares.j2]
      have hk2 : fold_Same.f (k + 1) x y = some (foldI x == foldI y) := hK2 (k + 1) (by omega)
      rw [orbit_f y (k + 1) (by omega), Option.bind_some, ho, if_pos rfl, hk2, Option.bind_some, hf, if_pos rfl]
      by_cases hp : (pre.length : Int) > 0
      · rw [if_pos hp]
        obtain ⟨pre2, z, rfl⟩ : ∃ pre2 z, pre = pre2 ++ [z] := ⟨pre.dropLast, pre.getLast (by intro e; rw [e] at hp; simp at hp), (List.dropLast_concat_getLast _).symm⟩
        have hw1 : wrap64 (((pre2 ++ [z]).length : Int) - 1) = (pre2.length : Int) := by
          rw [w64 (by first | (simp; done) | (simp; omega)) (by omega)]
          simp
        have hz : rd (orb x) (pre2.length : Int) = z := rdA_app pre2 z (y :: rest) _ (by rw [hxs]; simp)
        have hlt : z < y := by
          have := orb_lt x
          rw [hxs, List.pairwise_append] at this
          exact this.2.2 z (by simp) y (by simp)
        rw [hw1, if_pos (by omega), if_pos (by rw [hl]; simp only [List.length_append, List.length_singleton]; omega), hz, decide_eq_false (show ¬ z ≥ y by omega)]
        exact j3
      · rw [if_neg hp]
        exact j3
    simp only [clewlaw03_FoldShares.l0, hr]
    rw [if_pos (by omega), if_pos (by omega), if_pos (by omega)]
    cases own with
    | true => rw [if_pos rfl]; exact j2
    | false => rw [if_neg (by simp)]; exact j2
theorem FoldShares_pure (x : Int) (_ : (Lit.int .i64 x).wf = true) : ∃ k, clewlaw03_FoldShares.f k x = some true := by
  refine Ev.one ?_
  unfold clewlaw03_FoldShares.f
  refine Ev.bind anchor03_ev (Ev.pos rfl (Ev.bind (orbit_ev x) ?_))
  have hout : ¬ (0 ≤ x ∧ x ≤ 1114367) → Ev (fun k => clewlaw03_FoldShares.j0 k x (orb x) true) true := by
    intro h
    have e : orb x = [] := by unfold orb; rw [if_neg h]
    rw [e]
    refine ⟨1, fun k hk => ?_⟩
    obtain ⟨k, rfl⟩ : ∃ j, k = j + 1 := ⟨k - 1, by omega⟩
    simp [clewlaw03_FoldShares.j0]
  by_cases h0 : x < 0
  · exact Ev.pos h0 (hout (by omega))
  · refine Ev.neg h0 ?_
    by_cases h1 : x > 1114367
    · rw [decide_eq_true h1]
      exact hout (by omega)
    · rw [decide_eq_false h1]
      have h := shares_l0 x (orb x) [] false rfl
      rw [decide_eq_true (orb_self (x := x) (by omega) (by omega))] at h
      obtain ⟨K, hK⟩ := h
      refine ⟨K + 1, fun k hk => ?_⟩
      obtain ⟨k, rfl⟩ : ∃ j, k = j + 1 := ⟨k - 1, by omega⟩
      simp only [clewlaw03_FoldShares.j0]
      rw [if_neg (by simp)]
      exact hK k (by omega)

end Go.Proofs.Yteploglmfmhppaa.P
