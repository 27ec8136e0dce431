/- Quantifiers: the program's counts and the document's. -/
import Derived.Test.YtlofoifcdmeopaaGreatDoorUSca
import Derived.Test.YtlofoifcdmeopaaGreatDoorVUSd
namespace Go.Proofs.YtlofoifcdmeopaaGreatDoor.V
open Go Go.Ev Go.RowKit
set_option linter.unusedVariables false
set_option linter.unusedSimpArgs false
def numC : List Int → Nat
  | [] => 0
  | c :: l => if digB c = true then numC l + 1 else 0
def numV : Int → List Int → Int
  | a, [] => a
  | a, c :: l => if digB c = true then numV (mn (a * 10 + (c - 48)) 1001) l else a
theorem numC_le : ∀ (l : List Int), numC l ≤ l.length
  | [] => Nat.le_refl _
  | c :: l => by
    have := numC_le l
    unfold numC
    simp only [List.length_cons]
    split <;> omega
theorem numV_in : ∀ (l : List Int) (a : Int), 0 ≤ a ∧ a ≤ 1001 → 0 ≤ numV a l ∧ numV a l ≤ 1001
  | [], a, h => h
  | c :: l, a, h => by
    unfold numV
    split
    · rename_i hd
      rw [digB_iff] at hd
      refine numV_in l _ ?_
      unfold mn
      split <;> omega
    · exact h
theorem num_drop {b : List Int} {k : Nat} (h : k < b.length) (a : Int) : numC (b.drop k) = (if digB (atB b k) = true then numC (b.drop (k + 1)) + 1 else 0) ∧ numV a (b.drop k) = if digB (atB b k) = true then numV (mn (a * 10 + (atB b k - 48)) 1001) (b.drop (k + 1)) else a := by
  rw [List.drop_eq_getElem_cons h, numC, numV, atB_in h]
  exact ⟨rfl, rfl⟩
theorem num_loop1 (b : List Int) (hb : b.length ≤ 140737488351232) (v4 v5 : Int) : ∀ (d k : Nat) (a : Int), b.length - k = d → k ≤ 140737488351240 → 0 ≤ a ∧ a ≤ 1001 →
    M258_1 (b.map .int) (k : Int) v4 v5 a = some [.int (numV a (b.drop k)), .int (((k + numC (b.drop k) : Nat)) : Int)] := by
  intro d
  induction d with
  | zero =>
    intro k a hd hk ha
    apply M258_1_of
    rw [bT (at_E b _), atB_out (by omega)]
    simp only [rd0, datI]
    rw [bT (digit_E _), show digB 0 = false from rfl]
    simp only [rd0, datB]
    rw [cF rfl, List.drop_of_length_le (by omega)]
    rfl
  | succ d ih =>
    intro k a hd hk ha
    have hlt : k < b.length := by omega
    obtain ⟨e1, e2⟩ := num_drop hlt a
    rw [e1, e2]
    apply M258_1_of
    rw [bT (at_E b _)]
    simp only [rd0, datI]
    rw [bT (digit_E _)]
    simp only [rd0, datB]
    cases hg : digB (atB b (k : Int)) with
    | false =>
      rw [cF rfl, if_neg (by simp), if_neg (by simp)]
      rfl
    | true =>
      have hg' := digB_iff.1 hg
      have hm : 0 ≤ mn (a * 10 + (atB b (k : Int) - 48)) 1001 ∧ mn (a * 10 + (atB b (k : Int) - 48)) 1001 ≤ 1001 := by unfold mn; split <;> omega
      have ew : IntKind.i64.wrap ((k : Int) + 1) = ((k + 1 : Nat) : Int) := by rw [w64 (by omega) (by omega)]; omega
      rw [cT rfl, List.length_map, ixT ⟨by omega, by omega⟩, rdA ⟨by omega, by omega⟩, ew, w8 (by omega) (by omega), w64 (n := atB b (k : Int) - 48) (by omega) (by omega), w64 (n := a * 10) (by omega) (by omega), w64 (n := a * 10 + (atB b (k : Int) - 48)) (by omega) (by omega)]
      have nx := ih (k + 1) _ (by omega) (by omega) hm
      rw [if_pos rfl, if_pos rfl]
      have e3 : (((k + 1 + numC (b.drop (k + 1)) : Nat)) : Int) = (((k + (numC (b.drop (k + 1)) + 1) : Nat)) : Int) := by omega
      rw [← e3]
      exact nx
theorem number_E (b : List Int) (hb : b.length ≤ 140737488351232) (k : Nat) (hk : k ≤ 140737488351240) : E C 258 [.shr 5 (b.map .int), .int .i64 (k : Int)] = some [.int (numV 0 (b.drop k)), .int (((k + numC (b.drop k) : Nat)) : Int)] := by
  apply o258
  exact num_loop1 b hb 0 0 _ k 0 rfl hk (by omega)
/-- Counts in braces, behind the brace's place; the least, the most, behind them. -/
def brQ (b : List Int) (i : Nat) : Option (Int × Int × Nat) :=
  if numC (b.drop (i + 1)) = 0 then none
  else if atB b ((i + 1 + numC (b.drop (i + 1)) : Nat) : Int) = 44 then
    if atB b ((i + 1 + numC (b.drop (i + 1)) + 1 + numC (b.drop (i + 1 + numC (b.drop (i + 1)) + 1)) : Nat) : Int) = 125 then
      some (numV 0 (b.drop (i + 1)), if numC (b.drop (i + 1 + numC (b.drop (i + 1)) + 1)) = 0 then -1 else numV 0 (b.drop (i + 1 + numC (b.drop (i + 1)) + 1)), i + 1 + numC (b.drop (i + 1)) + 1 + numC (b.drop (i + 1 + numC (b.drop (i + 1)) + 1)) + 1)
    else none
  else if atB b ((i + 1 + numC (b.drop (i + 1)) : Nat) : Int) = 125 then some (numV 0 (b.drop (i + 1)), numV 0 (b.drop (i + 1)), i + 1 + numC (b.drop (i + 1)) + 1)
  else none
def cntQ (b : List Int) (i : Int) : Option (Int × Int × Nat) :=
  if atB b i = 42 then some (0, -1, i.toNat + 1) else if atB b i = 43 then some (1, -1, i.toNat + 1) else if atB b i = 63 then some (0, 1, i.toNat + 1) else if atB b i = 123 then brQ b i.toNat else none
def noneC : List Dat := [.agg [.int 0, .int 0, .int 0, .int 0], .bool false, .int 0]
def errC : List Dat := [.agg [.int 0, .int 0, .int 0, .int 0], .bool false, .int 34]
def finC (b : List Int) (lo hi : Int) (to : Nat) : List Dat :=
  if lo > 1000 ∨ hi > 1000 ∨ hi = 0 ∨ (hi > 0 ∧ hi < lo) then errC
  else if atB b (to : Int) = 63 then [.agg [.int lo, .int hi, .int 1, .int ((to : Int) + 1)], .bool true, .int 0]
  else if atB b (to : Int) = 43 then [.agg [.int lo, .int hi, .int 2, .int ((to : Int) + 1)], .bool true, .int 0]
  else [.agg [.int lo, .int hi, .int 0, .int (to : Int)], .bool true, .int 0]
def countR (b : List Int) (i : Int) : List Dat := match cntQ b i with
  | none => noneC
  | some q => finC b q.1 q.2.1 q.2.2
theorem atB_at {b : List Int} {k : Nat} (h : atB b (k : Int) ≠ 0) : k < b.length := by have := atB_some h; omega
theorem brQ_in {b : List Int} {i : Nat} {lo hi : Int} {to : Nat} (h : brQ b i = some (lo, hi, to)) : 0 ≤ lo ∧ lo ≤ 1001 ∧ -1 ≤ hi ∧ hi ≤ 1001 ∧ to ≤ b.length := by
  have n1 := numV_in (b.drop (i + 1)) 0 (by omega)
  have n2 := numV_in (b.drop (i + 1 + numC (b.drop (i + 1)) + 1)) 0 (by omega)
  unfold brQ at h
  split at h
  · cases h
  split at h
  · split at h
    · rename_i h3
      have h4 := atB_at (b := b) (k := i + 1 + numC (b.drop (i + 1)) + 1 + numC (b.drop (i + 1 + numC (b.drop (i + 1)) + 1))) (by rw [h3]; decide)
      simp only [Option.some.injEq, Prod.mk.injEq] at h
      obtain ⟨rfl, rfl, rfl⟩ := h
      refine ⟨n1.1, n1.2, ?_, ?_, by omega⟩ <;> (split <;> omega)
    · cases h
  · split at h
    · rename_i h3
      have h4 := atB_at (b := b) (k := i + 1 + numC (b.drop (i + 1))) (by rw [h3]; decide)
      simp only [Option.some.injEq, Prod.mk.injEq] at h
      obtain ⟨rfl, rfl, rfl⟩ := h
      exact ⟨n1.1, n1.2, by omega, n1.2, by omega⟩
    · cases h
theorem cntQ_in {b : List Int} {i : Int} {lo hi : Int} {to : Nat} (h : cntQ b i = some (lo, hi, to)) : 0 ≤ lo ∧ lo ≤ 1001 ∧ -1 ≤ hi ∧ hi ≤ 1001 ∧ to ≤ b.length := by
  have hl : atB b i ≠ 0 → i.toNat + 1 ≤ b.length := fun h => by have := atB_some h; omega
  unfold cntQ at h
  split at h
  · rename_i h1
    have := hl (by rw [h1]; decide)
    simp only [Option.some.injEq, Prod.mk.injEq] at h
    omega
  split at h
  · rename_i h1
    have := hl (by rw [h1]; decide)
    simp only [Option.some.injEq, Prod.mk.injEq] at h
    omega
  split at h
  · rename_i h1
    have := hl (by rw [h1]; decide)
    simp only [Option.some.injEq, Prod.mk.injEq] at h
    omega
  split at h
  · exact brQ_in h
  · cases h
theorem braces_E (b : List Int) (hb : b.length ≤ 140737488351232) (i : Nat) (hi : i < b.length) : ∃ q0 q1 q3 : Int, E C 234 [.shr 5 (b.map .int), .int .i64 (i : Int)] = some [.agg [.int q0, .int q1, .int 0, .int q3], .bool (brQ b i).isSome] ∧ ∀ q, brQ b i = some q → q0 = q.1 ∧ q1 = q.2.1 ∧ q3 = (q.2.2 : Int) := by
  have ew : IntKind.i64.wrap ((i : Int) + 1) = ((i + 1 : Nat) : Int) := by rw [w64 (by omega) (by omega)]; omega
  have l1 := numC_le (b.drop (i + 1))
  rw [List.length_drop] at l1
  have key : ∀ {r : List Dat}, (∀ {r' : List Dat}, r' = r → E C 234 [.shr 5 (b.map .int), .int .i64 (i : Int)] = some r') → E C 234 [.shr 5 (b.map .int), .int .i64 (i : Int)] = some r := fun h => h rfl
  unfold brQ
  by_cases c0 : numC (b.drop (i + 1)) = 0
  · rw [if_pos c0]
    refine ⟨0, 0, 0, ?_, fun q h => by cases h⟩
    apply o234
    rw [ew, bT (number_E b hb _ (by omega))]
    simp only [rd1, datI]
    rw [eT (by omega)]
    rfl
  rw [if_neg c0]
  have hj : ((i + 1 + numC (b.drop (i + 1)) : Nat) : Int) ≠ ((i + 1 : Nat) : Int) := by omega
  have ew2 : IntKind.i64.wrap (((i + 1 + numC (b.drop (i + 1)) : Nat) : Int) + 1) = ((i + 1 + numC (b.drop (i + 1)) + 1 : Nat) : Int) := by rw [w64 (by omega) (by omega)]; omega
  by_cases c1 : atB b ((i + 1 + numC (b.drop (i + 1)) : Nat) : Int) = 44
  · have h4 := atB_at (b := b) (k := i + 1 + numC (b.drop (i + 1))) (by rw [c1]; decide)
    have l2 := numC_le (b.drop (i + 1 + numC (b.drop (i + 1)) + 1))
    rw [List.length_drop] at l2
    have ew3 : IntKind.i64.wrap (((i + 1 + numC (b.drop (i + 1)) + 1 + numC (b.drop (i + 1 + numC (b.drop (i + 1)) + 1)) : Nat) : Int) + 1) = ((i + 1 + numC (b.drop (i + 1)) + 1 + numC (b.drop (i + 1 + numC (b.drop (i + 1)) + 1)) + 1 : Nat) : Int) := by rw [w64 (by omega) (by omega)]; omega
    rw [if_pos c1]
    refine ⟨numV 0 (b.drop (i + 1)), if numC (b.drop (i + 1 + numC (b.drop (i + 1)) + 1)) = 0 then -1 else numV 0 (b.drop (i + 1 + numC (b.drop (i + 1)) + 1)), ((i + 1 + numC (b.drop (i + 1)) + 1 + numC (b.drop (i + 1 + numC (b.drop (i + 1)) + 1)) + 1 : Nat) : Int), ?_, fun q h => ?_⟩
    · apply o234
      rw [ew, bT (number_E b hb _ (by omega))]
      simp only [rd1, rd0, datI]
      rw [eF hj, bT (at_E b _), c1]
      simp only [rd0, datI]
      rw [eT rfl, ew2, bT (number_E b hb _ (by omega))]
      simp only [rd1, rd0, datI]
      by_cases c2 : numC (b.drop (i + 1 + numC (b.drop (i + 1)) + 1)) = 0
      · rw [eT (by omega), bT (at_E b _), ew3, if_pos c2]
        by_cases c3 : atB b ((i + 1 + numC (b.drop (i + 1)) + 1 + numC (b.drop (i + 1 + numC (b.drop (i + 1)) + 1)) : Nat) : Int) = 125
        · rw [if_pos c3, c3]; rfl
        · rw [if_neg c3]
          simp only [rd0, datI]
          rw [beq_false_of_ne c3]; rfl
      · rw [eF (by omega), bT (at_E b _), ew3, if_neg c2]
        by_cases c3 : atB b ((i + 1 + numC (b.drop (i + 1)) + 1 + numC (b.drop (i + 1 + numC (b.drop (i + 1)) + 1)) : Nat) : Int) = 125
        · rw [if_pos c3, c3]; rfl
        · rw [if_neg c3]
          simp only [rd0, datI]
          rw [beq_false_of_ne c3]; rfl
    · split at h
      · obtain rfl := Option.some.inj h
        exact ⟨rfl, rfl, rfl⟩
      · cases h
  · rw [if_neg c1]
    refine ⟨numV 0 (b.drop (i + 1)), numV 0 (b.drop (i + 1)), ((i + 1 + numC (b.drop (i + 1)) + 1 : Nat) : Int), ?_, fun q h => ?_⟩
    · apply o234
      rw [ew, bT (number_E b hb _ (by omega))]
      simp only [rd1, rd0, datI]
      rw [eF hj, bT (at_E b _)]
      simp only [rd0, datI]
      rw [eF c1, bT (at_E b _), ew2]
      by_cases c3 : atB b ((i + 1 + numC (b.drop (i + 1)) : Nat) : Int) = 125
      · rw [if_pos c3, c3]; rfl
      · rw [if_neg c3]
        simp only [rd0, datI]
        rw [beq_false_of_ne c3]; rfl
    · split at h
      · obtain rfl := Option.some.inj h
        exact ⟨rfl, rfl, rfl⟩
      · cases h
theorem counts_E (b : List Int) (hb : b.length ≤ 140737488351232) (i : Int) : ∃ q0 q1 q3 : Int, E C 216 [.shr 5 (b.map .int), .int .i64 i] = some [.agg [.int q0, .int q1, .int 0, .int q3], .bool (cntQ b i).isSome] ∧ ∀ q, cntQ b i = some q → q0 = q.1 ∧ q1 = q.2.1 ∧ q3 = (q.2.2 : Int) := by
  have ew : atB b i ≠ 0 → IntKind.i64.wrap (i + 1) = ((i.toNat + 1 : Nat) : Int) := fun h => by
    have := atB_some h
    rw [w64 (by omega) (by omega)]; omega
  unfold cntQ
  by_cases c1 : atB b i = 42
  · rw [if_pos c1]
    refine ⟨0, -1, ((i.toNat + 1 : Nat) : Int), ?_, fun q h => by obtain rfl := Option.some.inj h; exact ⟨rfl, rfl, rfl⟩⟩
    apply o216
    rw [bT (at_E b _), ew (by rw [c1]; decide), c1]; rfl
  rw [if_neg c1]
  by_cases c2 : atB b i = 43
  · rw [if_pos c2]
    refine ⟨1, -1, ((i.toNat + 1 : Nat) : Int), ?_, fun q h => by obtain rfl := Option.some.inj h; exact ⟨rfl, rfl, rfl⟩⟩
    apply o216
    rw [bT (at_E b _), ew (by rw [c2]; decide), c2]; rfl
  rw [if_neg c2]
  by_cases c3 : atB b i = 63
  · rw [if_pos c3]
    refine ⟨0, 1, ((i.toNat + 1 : Nat) : Int), ?_, fun q h => by obtain rfl := Option.some.inj h; exact ⟨rfl, rfl, rfl⟩⟩
    apply o216
    rw [bT (at_E b _), ew (by rw [c3]; decide), c3]; rfl
  rw [if_neg c3]
  by_cases c4 : atB b i = 123
  · have hin := atB_some (b := b) (i := i) (by rw [c4]; decide)
    obtain ⟨k, rfl⟩ : ∃ k : Nat, i = (k : Int) := ⟨i.toNat, by omega⟩
    obtain ⟨q0, q1, q3, h1, h2⟩ := braces_E b hb k (by omega)
    rw [if_pos c4, Int.toNat_natCast]
    refine ⟨q0, q1, q3, ?_, h2⟩
    apply o216
    rw [bT (at_E b _)]
    simp only [rd0, datI]
    rw [eF c1, eF c2, eF c3, eT c4, bT h1]
    rfl
  · rw [if_neg c4]
    refine ⟨0, 0, 0, ?_, fun q h => by cases h⟩
    apply o216
    rw [bT (at_E b _)]
    simp only [rd0, datI]
    rw [eF c1, eF c2, eF c3, eF c4]
    rfl
theorem Count_E (b : List Int) (hb : b.length ≤ 140737488351232) (i : Int) : E C 181 [.shr 5 (b.map .int), .int .i64 i] = some (countR b i) := by
  obtain ⟨q0, q1, q3, h1, h2⟩ := counts_E b hb i
  apply o181
  rw [bT h1]
  unfold countR
  simp only [rd0, rd1, datB, datI, aggC0, aggC1, aggC2, aggC3]
  cases hq : cntQ b i with
  | none => rw [nT (by simp)]; rfl
  | some q =>
    obtain ⟨lo, hi, to⟩ := q
    obtain ⟨e0, e1, e2⟩ := h2 _ hq
    simp only at e0 e1 e2
    subst e0 e1 e2
    have hin := cntQ_in hq
    rw [nF (by simp)]
    show _ = some (finC b q0 q1 to)
    unfold finC
    by_cases c1 : q0 > 1000
    · rw [dT c1, if_pos (.inl c1)]; rfl
    rw [dF c1]
    by_cases c2 : q1 > 1000
    · rw [dT c2, if_pos (.inr (.inl c2))]; rfl
    rw [dF c2]
    by_cases c3 : q1 = 0
    · rw [eT c3, if_pos (.inr (.inr (.inl c3)))]; rfl
    rw [eF c3, w64 (n := (to : Int) + 1) (by omega) (by omega)]
    have tail : ∀ P : Prop, ∀ [Decidable P], ¬ P → ((E C 217 [.shr 5 (b.map .int), .int .i64 (to : Int)]).bind fun d2 => (bif ((rd d2 0).I) == 63 then (some [.agg [.int q0, .int q1, .int 1, .int ((to : Int) + 1)], .bool true, .int 0]) else (bif ((rd d2 0).I) == 43 then (some [.agg [.int q0, .int q1, .int 2, .int ((to : Int) + 1)], .bool true, .int 0]) else (some [.agg [.int q0, .int q1, .int 0, .int (to : Int)], .bool true, .int 0]))) : R) =
        some (if P then errC else if atB b (to : Int) = 63 then [.agg [.int q0, .int q1, .int 1, .int ((to : Int) + 1)], .bool true, .int 0]
  else if atB b (to : Int) = 43 then [.agg [.int q0, .int q1, .int 2, .int ((to : Int) + 1)], .bool true, .int 0]
  else [.agg [.int q0, .int q1, .int 0, .int (to : Int)], .bool true, .int 0]) := fun P _ hP => by
      rw [if_neg hP, bT (at_E b _)]
      simp only [rd0, datI]
      by_cases d1 : atB b (to : Int) = 63
      · rw [eT d1, if_pos d1]
      rw [eF d1, if_neg d1]
      by_cases d2 : atB b (to : Int) = 43
      · rw [eT d2, if_pos d2]
      · rw [eF d2, if_neg d2]
    by_cases c4 : q1 = -1
    · rw [neF c4]
      exact tail _ (by omega)
    · rw [neT c4]
      by_cases c5 : q1 < q0
      · rw [dT c5, if_pos (.inr (.inr (.inr ⟨by omega, c5⟩)))]; rfl
      · rw [dF c5]
        exact tail _ (by omega)
end Go.Proofs.YtlofoifcdmeopaaGreatDoor.V
