/- Chapter 02 in plain Lean, fifth part: what Make makes, asked at the edges. -/
import Derived.Test.YteploglmfmhppaaL02c
import Derived.Test.YteploglmfmhppaaPx7
import Derived.Test.YteploglmfmhppaaPx8
namespace Go.Proofs.Yteploglmfmhppaa.P
open Go.RowKit Go.Proofs.YteploglmfmhppaaW.PrintWords Go.Proofs.YteploglmfmhppaaW.PrintLast Go.Proofs.YteploglmfmhppaaW.PrintMore
set_option linter.unusedVariables false
set_option linter.unusedSimpArgs false

/-- An edge is one of the numbers that can be. -/
def inE (x : Int) : Prop := 0 ≤ x ∧ x ≤ 1114367
theorem inE_snoc {l : List Int} {x : Int} (h : ∀ e ∈ l, inE e) (hx : inE x) : ∀ e ∈ l ++ [x], inE e := by
  intro e he
  rcases List.mem_append.mp he with he | he
  · exact h e he
  · rw [List.mem_singleton.mp he]
    exact hx
theorem inE_append {l m : List Int} (h : ∀ e ∈ l, inE e) (hm : ∀ e ∈ m, inE e) : ∀ e ∈ l ++ m, inE e := by
  intro e he
  rcases List.mem_append.mp he with he | he
  · exact h e he
  · exact hm e he
/-- The edges of a list: what they are is not asked, but that they are told, and how many. -/
theorem Edges_ev (xs : List S58) (hlen : xs.length < 100000) : ∀ (rest pre : List S58) (acc : List Int), xs = pre ++ rest → acc.length ≤ 1 + 2 * pre.length → (∀ e ∈ acc, inE e) → ∃ v : List Int, (v.length ≤ 1 + 2 * xs.length ∧ ∀ e ∈ v, inE e) ∧ Ev (fun k => clewref02_Edges.l0 k xs acc (pre.length : Int)) v := by
  intro rest
  induction rest with
  | nil =>
    intro pre acc hxs ha hin
    have hl : xs.length = pre.length := by rw [hxs]; simp
    refine ⟨acc, ⟨by omega, hin⟩, 1, fun k hk => ?_⟩
    obtain ⟨k, rfl⟩ : ∃ j, k = j + 1 := ⟨k - 1, by omega⟩
    simp only [clewref02_Edges.l0]
    rw [if_neg (by omega)]
  | cons r rest ih =>
    intro pre acc hxs ha hin
    have hl : xs.length = pre.length + (rest.length + 1) := by rw [hxs]; simp
    have hr : rd_T58 xs (pre.length : Int) = r := by rw [hxs]; exact rd58_app _ _ _
    have hw2 : wrap64 ((pre.length : Int) + 1) = ((pre ++ [r]).length : Int) := by
      rw [w64 (by omega) (by omega)]
      simp
    have hnext : xs = (pre ++ [r]) ++ rest := by rw [hxs]; simp
    -- behind the first test
    have second : ∀ acc2 : List Int, acc2.length ≤ 2 + 2 * pre.length → (∀ e ∈ acc2, inE e) → ∃ v : List Int, (v.length ≤ 1 + 2 * xs.length ∧ ∀ e ∈ v, inE e) ∧ ∃ K, ∀ k, K ≤ k → (if r.f1 ≥ 0 then (if r.f1 < 1114367 then (if acc2.length < 17592186044416 then (clewref02_Edges.l0 k xs (acc2 ++ [wrap64 (r.f1 + 1)]) ((pre ++ [r]).length : Int)) else (none)) else (clewref02_Edges.l0 k xs acc2 ((pre ++ [r]).length : Int))) else (clewref02_Edges.l0 k xs acc2 ((pre ++ [r]).length : Int))) = some v := by
      intro acc2 h2 hin2
      by_cases g : r.f1 ≥ 0 ∧ r.f1 < 1114367
      · obtain ⟨v, hv, K, hK⟩ := ih (pre ++ [r]) (acc2 ++ [wrap64 (r.f1 + 1)]) hnext (by simp only [List.length_append, List.length_singleton]; omega) (inE_snoc hin2 (by rw [w64 (by omega) (by omega)]; exact ⟨by omega, by omega⟩))
        refine ⟨v, hv, K, fun k hk => ?_⟩
        rw [if_pos g.1, if_pos g.2, if_pos (by omega)]
        exact hK k hk
      · obtain ⟨v, hv, K, hK⟩ := ih (pre ++ [r]) acc2 hnext (by simp only [List.length_append, List.length_singleton]; omega) hin2
        refine ⟨v, hv, K, fun k hk => ?_⟩
        by_cases g0 : r.f1 ≥ 0
        · rw [if_pos g0, if_neg (fun g1 => g ⟨g0, g1⟩)]
          exact hK k hk
        · rw [if_neg g0]
          exact hK k hk
    by_cases g : r.f0 > 0 ∧ r.f0 ≤ 1114367
    · obtain ⟨v, hv, K, hK⟩ := second (acc ++ [r.f0]) (by simp only [List.length_append, List.length_singleton]; omega) (inE_snoc hin ⟨by omega, g.2⟩)
      refine ⟨v, hv, K + 2, fun k hk => ?_⟩
      obtain ⟨k, rfl⟩ : ∃ j, k = j + 1 := ⟨k - 1, by omega⟩
      obtain ⟨k, rfl⟩ : ∃ j, k = j + 1 := ⟨k - 1, by omega⟩
      simp only [clewref02_Edges.l0, hr]
      rw [if_pos (by omega), if_pos (by omega), if_pos g.1, decide_eq_true g.2]
      simp only [clewref02_Edges.j1, hr, hw2, Option.bind_some]
      rw [if_pos trivial, if_pos (by omega), if_pos (by omega), if_pos (by omega)]
      exact hK k (by omega)
    · obtain ⟨v, hv, K, hK⟩ := second acc (by omega) hin
      refine ⟨v, hv, K + 2, fun k hk => ?_⟩
      obtain ⟨k, rfl⟩ : ∃ j, k = j + 1 := ⟨k - 1, by omega⟩
      obtain ⟨k, rfl⟩ : ∃ j, k = j + 1 := ⟨k - 1, by omega⟩
      have hj : clewref02_Edges.j1 (k + 1) xs acc (pre.length : Int) false = some v := by
        simp only [clewref02_Edges.j1, hr, hw2]
        rw [if_neg (by simp), if_pos (by omega), if_pos (by omega)]
        exact hK k (by omega)
      simp only [clewref02_Edges.l0, hr]
      rw [if_pos (by omega), if_pos (by omega)]
      by_cases g0 : r.f0 > 0
      · rw [if_pos g0, decide_eq_false (fun g1 => g ⟨g0, g1⟩)]
        exact hj
      · rw [if_neg g0]
        exact hj
theorem edges1_ev (l : List S58) (hlen : l.length < 100000) : ∃ v : List Int, (v.length ≤ 1 + 2 * l.length ∧ ∀ e ∈ v, inE e) ∧ Ev (fun k => clewref02_Edges.f k l) v := Edges_ev l hlen l [] [0] rfl (by simp) (by
  intro e he
  rw [List.mem_singleton.mp he]
  exact ⟨by omega, by omega⟩)
theorem edges_ev (ls : List (List S42)) (hn : ls.length ≤ 10) (hlen : ∀ l ∈ ls, l.length < 100000) : ∀ (rest pre : List (List S42)) (acc : List Int), ls = pre ++ rest → acc.length ≤ 300000 * pre.length → (∀ e ∈ acc, inE e) →
    ∃ v : List Int, (v.length ≤ 3000000 ∧ ∀ e ∈ v, inE e) ∧ Ev (fun k => clewlaw02_edges.l0 k acc ls (ls.length : Int) (pre.length : Int)) v := by
  intro rest
  induction rest with
  | nil =>
    intro pre acc hxs ha hin
    have hl : ls.length = pre.length := by rw [hxs]; simp
    refine ⟨acc, ⟨by omega, hin⟩, 1, fun k hk => ?_⟩
    obtain ⟨k, rfl⟩ : ∃ j, k = j + 1 := ⟨k - 1, by omega⟩
    simp only [clewlaw02_edges.l0]
    rw [if_neg (by omega)]
  | cons r rest ih =>
    intro pre acc hxs ha hin
    have hl : ls.length = pre.length + (rest.length + 1) := by rw [hxs]; simp
    have hr : rd_L2 ls (pre.length : Int) = r := by rw [hxs]; simp [rd_L2]
    have hw2 : wrap64 ((pre.length : Int) + 1) = ((pre ++ [r]).length : Int) := by
      rw [w64 (by omega) (by omega)]
      simp
    have hnext : ls = (pre ++ [r]) ++ rest := by rw [hxs]; simp
    have hrl := hlen r (by rw [hxs]; simp)
    obtain ⟨K1, h1⟩ := of_ev r (by omega)
    obtain ⟨v2, ⟨hv2, hin2⟩, K2, h2⟩ := edges1_ev (r.map to58) (by rw [List.length_map]; exact hrl)
    rw [List.length_map] at hv2
    obtain ⟨v, hv, K, hK⟩ := ih (pre ++ [r]) (acc ++ v2) hnext (by simp only [List.length_append, List.length_singleton]; omega) (inE_append hin hin2)
    refine ⟨v, hv, K + K1 + K2 + 1, fun k hk => ?_⟩
    obtain ⟨k, rfl⟩ : ∃ j, k = j + 1 := ⟨k - 1, by omega⟩
    have g1 : clewlaw02_of.f k r = some (r.map to58) := h1 k (by omega)
    have g2 : clewref02_Edges.f k (r.map to58) = some v2 := h2 k (by omega)
    simp only [clewlaw02_edges.l0, hr, hw2]
    rw [if_pos (by omega), if_pos (by omega), if_pos (by omega), g1, Option.bind_some, g2, Option.bind_some, if_pos (by omega)]
    exact hK k (by omega)
theorem makes_l0 (l : List S42) (hl60 : l.length ≤ 60) (es : List Int) (hes : es.length ≤ 3000000) : ∀ (rest pre : List Int), es = pre ++ rest → Ev (fun k => clewlaw02_RsetMakes.l0 k l (mk l) es (es.length : Int) (pre.length : Int)) true := by
  have hml := mk_length l
  intro rest
  induction rest with
  | nil =>
    intro pre hxs
    have hl : es.length = pre.length := by rw [hxs]; simp
    obtain ⟨K1, h1⟩ := of_ev (mk l) (by omega)
    obtain ⟨K2, h2⟩ := Least_ev ((mk l).map to58) (by rw [List.length_map]; omega)
    refine ⟨K1 + K2 + 1, fun k hk => ?_⟩
    obtain ⟨k, rfl⟩ : ∃ j, k = j + 1 := ⟨k - 1, by omega⟩
    have g1 : clewlaw02_of.f k (mk l) = some ((mk l).map to58) := h1 k (by omega)
    have g2 : clewref02_Least.f k ((mk l).map to58) = some (leastB (mk l)) := h2 k (by omega)
    simp only [clewlaw02_RsetMakes.l0]
    rw [if_neg (by omega), g1, Option.bind_some, g2, Option.bind_some, (leastB_iff _).mpr (mk_least l)]
  | cons x rest ih =>
    intro pre hxs
    have hl : es.length = pre.length + (rest.length + 1) := by rw [hxs]; simp
    have hw2 : wrap64 ((pre.length : Int) + 1) = ((pre ++ [x]).length : Int) := by
      rw [w64 (by omega) (by omega)]
      simp
    have hr : rd es (pre.length : Int) = x := by rw [hxs]; simp [rd]
    have hnext : es = (pre ++ [x]) ++ rest := by rw [hxs]; simp
    obtain ⟨K, hK⟩ := ih (pre ++ [x]) hnext
    obtain ⟨K1, h1⟩ := of_ev l (by omega)
    obtain ⟨K2, h2⟩ := of_ev (mk l) (by omega)
    obtain ⟨K3, h3⟩ := RefHas_ev (l.map to58) x (by rw [List.length_map]; omega)
    obtain ⟨K4, h4⟩ := RefHas_ev ((mk l).map to58) x (by rw [List.length_map]; omega)
    refine ⟨K + K1 + K2 + K3 + K4 + 1, fun k hk => ?_⟩
    obtain ⟨k, rfl⟩ : ∃ j, k = j + 1 := ⟨k - 1, by omega⟩
    have g1 : clewlaw02_of.f k l = some (l.map to58) := h1 k (by omega)
    have g2 : clewlaw02_of.f k (mk l) = some ((mk l).map to58) := h2 k (by omega)
    have g3 : clewref02_Has.f k (l.map to58) x = some (hasB l x) := by
      have := h3 k (by omega)
      rw [hasR_map] at this
      exact this
    have g4 : clewref02_Has.f k ((mk l).map to58) x = some (hasB l x) := by
      have := h4 k (by omega)
      rw [hasR_map, mk_hasB] at this
      exact this
    simp only [clewlaw02_RsetMakes.l0, hr, hw2]
    rw [if_pos (by omega), if_pos (by omega), if_pos (by omega), g1, Option.bind_some, g3, Option.bind_some, g2, Option.bind_some, g4, Option.bind_some, if_neg (by simp)]
    exact hK k (by omega)
theorem RsetMakes_pure (l : List S42) (hl : l.length * 16 ≤ 140737488351232) (_ : ∀ r ∈ l, (Lit.int .i64 r.f0).wf = true ∧ (Lit.int .i64 r.f1).wf = true) : ∃ k, clewlaw02_RsetMakes.f k l = some true := by
  refine Ev.one ?_
  unfold clewlaw02_RsetMakes.f
  refine Ev.bind anchor02_ev (Ev.pos rfl ?_)
  by_cases h : (l.length : Int) > 60
  · exact Ev.pos h (Ev.const _)
  · have hml := mk_length l
    obtain ⟨es, ⟨hes, _⟩, he⟩ := edges_ev [l, mk l] (by simp) (by
      intro m hm
      rcases List.mem_cons.mp hm with rfl | hm
      · omega
      · rw [List.mem_singleton.mp hm]
        omega) [l, mk l] [] [] rfl (by simp) (by simp)
    exact Ev.neg h (Ev.bind (Make_ev l (by omega)) (Ev.bind he (makes_l0 l (by omega) es hes es [] rfl)))

end Go.Proofs.Yteploglmfmhppaa.P
