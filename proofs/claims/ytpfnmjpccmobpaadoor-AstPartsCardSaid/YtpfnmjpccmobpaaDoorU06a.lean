/- AstParts: of any right tree the ends of parts, the parents, and what is in what, are the document's. -/
import Derived.Test.YtpfnmjpccmobpaaDoorUTwk
import Derived.Test.YtpfnmjpccmobpaaDoorUPar
import Derived.Test.YtpfnmjpccmobpaaDoorUTof
import Derived.Test.YtpfnmjpccmobpaaDoorVULAstParts
import Derived.Test.YtpfnmjpccmobpaaDoorUA06
namespace Go.Proofs.YtpfnmjpccmobpaaDoor.V
open Go Go.Ev Go.RowKit
set_option linter.unusedVariables false
set_option linter.unusedSimpArgs false
theorem AstParts_pure (e0 e1 e2 : Dat) (h0 : fitT C.T 9 33 e0) (h1 : fitT C.T 9 3 e1) (h2 : fitT C.T 9 3 e2) : E C 6 [.agg [.shr 57 (e0.C 0).L, .int .i64 (e0.C 1).I, .shr 9 (e0.C 2).L], .int .i64 e1.I, .int .i64 e2.I] = some [.bool true] := by
  obtain ⟨t, rfl, ht⟩ := fit_tree h0
  obtain ⟨i, rfl, hi⟩ := fit_i64 h1
  obtain ⟨j, rfl, hj⟩ := fit_i64 h2
  apply o6
  rw [bT anchor06_E]
  simp only [treeD, aggC0, aggC1, aggC2, rd0, datB, datI, datL]
  rw [nF rfl, nsD_len]
  by_cases g1 : (t.ns.length : Int) > 200
  · rw [dT g1]
  rw [dF g1]
  obtain ⟨b, hb, hL⟩ := Right6_E ht
  rw [bT hb]
  simp only [rd0, datB]
  cases b with
  | false => rfl
  | true =>
  have h := hL rfl
  rw [nF rfl, bT (of_E ht)]
  simp only [treeD, rd0, aggC0, aggC1, aggC2, datL, datI, nsD_len, End_E ht h, Parent_E ht h, Inside_E ht h, ParentR_E ht, Option.bind_some, datB]
  -- out of the tree
  have out : ¬ (0 ≤ i ∧ i < (t.ns.length : Int)) → insideB t i j = false ∧ insideB t j i = false := fun hn => by
    unfold insideB
    constructor
    · by_cases c1 : j ≥ 0
      · by_cases c2 : i ≥ j
        · by_cases c3 : 0 ≤ j ∧ j < (t.ns.length : Int)
          · have := h.bound (i := j.toNat) (by omega)
            rw [if_pos c3, decide_eq_false (show ¬ i < (endT t j.toNat : Int) by omega), Bool.and_false]
          · rw [if_neg c3, decide_eq_false (show ¬ i < 0 by omega), Bool.and_false]
        · rw [decide_eq_false c2, Bool.and_false, Bool.false_and]
      · rw [decide_eq_false c1, Bool.false_and, Bool.false_and]
    · rw [if_neg hn]
      by_cases c1 : i ≥ 0
      · by_cases c2 : j ≥ i
        · rw [decide_eq_false (show ¬ j < 0 by omega), Bool.and_false]
        · rw [decide_eq_false c2, Bool.and_false, Bool.false_and]
      · rw [decide_eq_false c1, Bool.false_and, Bool.false_and]
  have fin : ¬ (0 ≤ i ∧ i < (t.ns.length : Int)) → ((bif ((if 0 ≤ i ∧ i < (t.ns.length : Int) then (endT t i.toNat : Int) else 0) == 0) then (bif (parT t i == (-1)) then (bif !(insideB t i j) then (some [.bool (!(insideB t j i))]) else (some [.bool false])) else (some [.bool false])) else (some [.bool false])) : R) = some [.bool true] := fun hn => by
    rw [if_neg hn, h.noPar hn, (out hn).1, (out hn).2]
    rfl
  by_cases c1 : i ≥ 0
  · rw [dT c1]
    by_cases c2 : i < (t.ns.length : Int)
    · obtain ⟨k, rfl⟩ : ∃ k : Nat, i = (k : Int) := ⟨i.toNat, by omega⟩
      have hk : k < t.ns.length := by omega
      have hbd := h.bound hk
      rw [decide_eq_true c2]
      simp only [EndR_E ht h hk, Option.bind_some, rd0, datI]
      rw [if_pos ⟨c1, c2⟩, Int.toNat_natCast, nF rfl]
      simp only [beq_self_eq_true, cond_true]
      have hin : insideB t j (k : Int) = (decide (j ≥ (k : Int)) && decide (j < (endT t k : Int))) := by
        unfold insideB
        rw [if_pos ⟨c1, c2⟩, Int.toNat_natCast, decide_eq_true c1, Bool.true_and]
      rw [hin]
      by_cases c3 : j ≥ 0
      · rw [dT c3]
        by_cases c4 : j < (t.ns.length : Int)
        · rw [dT c4]
          by_cases c5 : j ≥ (k : Int)
          · rw [dT c5, decide_eq_true c5, Bool.true_and, beq_self_eq_true]
          · rw [dF c5, decide_eq_false c5]; rfl
        · rw [dF c4, decide_eq_false (show ¬ j < (endT t k : Int) by omega), Bool.and_false]; rfl
      · rw [dF c3, decide_eq_false (show ¬ j ≥ (k : Int) by omega)]; rfl
    · rw [decide_eq_false c2, nT rfl]
      have := fin (by omega)
      cases decide (j ≥ 0) <;> exact this
  · rw [dF c1]
    have := fin (by omega)
    cases decide (j ≥ 0) <;> exact this
end Go.Proofs.YtpfnmjpccmobpaaDoor.V
