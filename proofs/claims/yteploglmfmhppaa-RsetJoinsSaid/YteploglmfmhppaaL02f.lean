/- Chapter 02 in plain Lean, sixth part: what Or, And and Not make, asked at the edges. -/
import Derived.Test.YteploglmfmhppaaL02e
import Derived.Test.YteploglmfmhppaaPx9
namespace Go.Proofs.Yteploglmfmhppaa.P
open Go.RowKit Go.Proofs.YteploglmfmhppaaW.PrintWords Go.Proofs.YteploglmfmhppaaW.PrintLast Go.Proofs.YteploglmfmhppaaW.PrintMore
set_option linter.unusedVariables false
set_option linter.unusedSimpArgs false

theorem has_both (l : List S42) (x : Int) (hlen : l.length < 1000000) : ∃ K, ∀ k, K ≤ k → clewlaw02_of.f k l = some (l.map to58) ∧ clewref02_Has.f k (l.map to58) x = some (hasB l x) := by
  obtain ⟨K1, h1⟩ := of_ev l (by omega)
  obtain ⟨K2, h2⟩ := RefHas_ev (l.map to58) x (by rw [List.length_map]; omega)
  refine ⟨K1 + K2, fun k hk => ⟨h1 k (by omega), ?_⟩⟩
  have := h2 k (by omega)
  rw [hasR_map] at this
  exact this
theorem least_both (l : List S42) (hl : leastP l) (hlen : l.length < 1000000) : ∃ K, ∀ k, K ≤ k → clewlaw02_of.f k l = some (l.map to58) ∧ clewref02_Least.f k (l.map to58) = some true := by
  obtain ⟨K1, h1⟩ := of_ev l (by omega)
  obtain ⟨K2, h2⟩ := Least_ev (l.map to58) (by rw [List.length_map]; omega)
  refine ⟨K1 + K2, fun k hk => ⟨h1 k (by omega), ?_⟩⟩
  have h3 : clewref02_Least.f k (l.map to58) = some (leastB l) := h2 k (by omega)
  rw [h3, (leastB_iff _).mpr hl]
theorem orR_length (a b : List S42) : (orR a b).length ≤ a.length + b.length := by
  have := mk_length (a ++ b)
  rw [List.length_append] at this
  exact this
theorem andR_length (a b : List S42) : (andR a b).length ≤ a.length + b.length + 3 := by
  have h1 := notR_length (orR (notR a) (notR b))
  have h2 := orR_length (notR a) (notR b)
  have h3 := notR_length a
  have h4 := notR_length b
  unfold andR
  omega
theorem joins_l0 (a b : List S42) (ha : a.length ≤ 40) (hb : b.length ≤ 40) (es : List Int) (hes : es.length ≤ 3000000) (hin : ∀ e ∈ es, inE e) : ∀ (rest pre : List Int), es = pre ++ rest →
    Ev (fun k => clewlaw02_RsetJoins.l0 k a b (orR a b) (andR a b) (notR a) es (es.length : Int) (pre.length : Int)) true := by
  have lo := orR_length a b
  have ld := andR_length a b
  have ln := notR_length a
  intro rest
  induction rest with
  | nil =>
    intro pre hxs
    have hl : es.length = pre.length := by rw [hxs]; simp
    refine ⟨1, fun k hk => ?_⟩
    obtain ⟨k, rfl⟩ : ∃ j, k = j + 1 := ⟨k - 1, by omega⟩
    simp only [clewlaw02_RsetJoins.l0]
    rw [if_neg (by omega)]
  | cons x rest ih =>
    intro pre hxs
    have hl : es.length = pre.length + (rest.length + 1) := by rw [hxs]; simp
    have hw2 : wrap64 ((pre.length : Int) + 1) = ((pre ++ [x]).length : Int) := by
      rw [w64 (by omega) (by omega)]
      simp
    have hr : rd es (pre.length : Int) = x := by rw [hxs]; simp [rd]
    have hnext : es = (pre ++ [x]) ++ rest := by rw [hxs]; simp
    have hx : inE x := hin x (by rw [hxs]; simp)
    obtain ⟨K, hK⟩ := ih (pre ++ [x]) hnext
    obtain ⟨K1, h1⟩ := has_both a x (by omega)
    obtain ⟨K2, h2⟩ := has_both b x (by omega)
    obtain ⟨K3, h3⟩ := has_both (orR a b) x (by omega)
    obtain ⟨K4, h4⟩ := has_both (andR a b) x (by omega)
    obtain ⟨K5, h5⟩ := has_both (notR a) x (by omega)
    refine ⟨K + K1 + K2 + K3 + K4 + K5 + 1, fun k hk => ?_⟩
    obtain ⟨k, rfl⟩ : ∃ j, k = j + 1 := ⟨k - 1, by omega⟩
    obtain ⟨a1, a2⟩ := h1 k (by omega)
    obtain ⟨b1, b2⟩ := h2 k (by omega)
    obtain ⟨o1, o2⟩ := h3 k (by omega)
    obtain ⟨d1, d2⟩ := h4 k (by omega)
    obtain ⟨n1, n2⟩ := h5 k (by omega)
    rw [orR_hasB] at o2
    rw [andR_hasB] at d2
    rw [notR_hasB, decide_eq_true hx.1, decide_eq_true hx.2] at n2
    have hgo : clewlaw02_RsetJoins.l0 k a b (orR a b) (andR a b) (notR a) es (es.length : Int) ((pre ++ [x]).length : Int) = some true := hK k (by omega)
    clear h1 h2 h3 h4 h5 hK ih
    generalize hasB a x = p at a2 o2 d2 n2
    generalize hasB b x = q at b2 o2 d2
    simp only [clewlaw02_RsetJoins.l0, hr, hw2]
    rw [if_pos (by omega), if_pos (by omega), if_pos (by omega), a1, Option.bind_some, a2, Option.bind_some, b1, Option.bind_some, b2, Option.bind_some, o1, Option.bind_some, o2, Option.bind_some]
    generalize ((pre ++ [x]).length : Int) = m at hgo ⊢
    cases p <;> cases q <;> simp [d1, d2, n1, n2, hgo]
theorem joins_j0 (a b : List S42) (ha : a.length ≤ 40) (hb : b.length ≤ 40) : Ev (fun k => clewlaw02_RsetJoins.j0 k a b false) true := by
  have lo := orR_length a b
  have ld := andR_length a b
  have ln := notR_length a
  obtain ⟨es, ⟨hes, hin⟩, K0, h0⟩ := edges_ev [a, b, orR a b, andR a b, notR a] (by simp) (by
    intro m hm
    simp only [List.mem_cons, List.not_mem_nil, or_false] at hm
    rcases hm with rfl | rfl | rfl | rfl | rfl <;> omega) [a, b, orR a b, andR a b, notR a] [] [] rfl (by simp) (by simp)
  obtain ⟨K1, h1⟩ := Or_ev a b (by omega)
  obtain ⟨K2, h2⟩ := And_ev a b (by omega)
  obtain ⟨K3, h3⟩ := Not_ev a (by omega)
  obtain ⟨K4, h4⟩ := least_both (orR a b) (mk_least _) (by omega)
  obtain ⟨K5, h5⟩ := least_both (andR a b) (notR_least _) (by omega)
  obtain ⟨K6, h6⟩ := least_both (notR a) (notR_least _) (by omega)
  obtain ⟨K7, h7⟩ := joins_l0 a b ha hb es hes hin es [] rfl
  refine ⟨K0 + K1 + K2 + K3 + K4 + K5 + K6 + K7 + 2, fun k hk => ?_⟩
  obtain ⟨k, rfl⟩ : ∃ j, k = j + 1 := ⟨k - 1, by omega⟩
  obtain ⟨k, rfl⟩ : ∃ j, k = j + 1 := ⟨k - 1, by omega⟩
  have e0 : clewlaw02_edges.f k [a, b, orR a b, andR a b, notR a] = some es := h0 k (by omega)
  have e1 : rset_Or.f (k + 1) a b = some (orR a b) := h1 (k + 1) (by omega)
  have e2 : rset_And.f (k + 1) a b = some (andR a b) := h2 (k + 1) (by omega)
  have e3 : rset_Not.f (k + 1) a = some (notR a) := h3 (k + 1) (by omega)
  obtain ⟨o1, o2⟩ := h4 (k + 1) (by omega)
  obtain ⟨d1, d2⟩ := h5 (k + 1) (by omega)
  obtain ⟨n1, n2⟩ := h6 (k + 1) (by omega)
  have e7 : clewlaw02_RsetJoins.l0 k a b (orR a b) (andR a b) (notR a) es (es.length : Int) 0 = some true := h7 k (by omega)
  simp only [clewlaw02_RsetJoins.j0]
  rw [if_neg (by simp), e1, Option.bind_some, e2, Option.bind_some, e3, Option.bind_some, o1, Option.bind_some, o2, Option.bind_some, if_pos rfl, d1, Option.bind_some, d2, Option.bind_some, if_pos rfl, n1, Option.bind_some, n2, Option.bind_some]
  simp only [clewlaw02_RsetJoins.j1]
  rw [if_neg (by simp), e0, Option.bind_some]
  exact e7
theorem RsetJoins_pure (a b : List S42) (ha : a.length * 16 ≤ 140737488351232) (_ : ∀ r ∈ a, (Lit.int .i64 r.f0).wf = true ∧ (Lit.int .i64 r.f1).wf = true) (hb : b.length * 16 ≤ 140737488351232) (_ : ∀ r ∈ b, (Lit.int .i64 r.f0).wf = true ∧ (Lit.int .i64 r.f1).wf = true) : ∃ k, clewlaw02_RsetJoins.f k a b = some true := by
  refine Ev.one ?_
  unfold clewlaw02_RsetJoins.f
  have ht : Ev (fun k => clewlaw02_RsetJoins.j0 k a b true) true := ⟨1, fun k hk => by
    obtain ⟨k, rfl⟩ : ∃ j, k = j + 1 := ⟨k - 1, by omega⟩
    simp [clewlaw02_RsetJoins.j0]⟩
  refine Ev.bind anchor02_ev (Ev.pos rfl ?_)
  by_cases h : (a.length : Int) > 40
  · exact Ev.pos h ht
  · refine Ev.neg h ?_
    by_cases h2 : (b.length : Int) > 40
    · rw [decide_eq_true h2]
      exact ht
    · rw [decide_eq_false h2]
      exact joins_j0 a b (by omega) (by omega)

end Go.Proofs.Yteploglmfmhppaa.P
