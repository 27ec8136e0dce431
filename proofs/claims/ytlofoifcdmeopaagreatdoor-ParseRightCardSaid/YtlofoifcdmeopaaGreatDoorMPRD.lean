/- Quantifiers: the program's counts and the document's. Told functions: what each answers, as plain trees; written by a program of this session (tell.py). The symbol at a place: the program's and the document's. Told functions: what each answers, as plain trees; written by a program of this session (tell.py). Package rset: what its functions answer. Lists of ranges: what they haven't, and what they have. Told functions: what each answers, as plain trees; written by a program of this session (tell.py). Letters that are the same but for their case: the document's fold and the program's. Orbits: the document's and the program's; the least of each. The document's orbit, sorted; its least is the program's. Closed lists: a list with all that is the same but for its case. Trees as plain data. Told functions: what each answers, as plain trees; written by a program of this session (tell.py). The parser's state, and what its small functions answer. The parser, where no quantifiers, flags or alternatives are: pieces, rows, groups. Symbols by their numbers: hexadecimal digits, the program's and the document's. Names: the program's reader and the document's. A stand-in: this seat has not the document of chapter 05. Told functions: what each answers, as plain trees; written by a program of this session (tell.py). Package class, and the document's sets with names and letters. What a backslash makes: the program's and the document's. What a node may be, but for its kids' numbers: the document's Alone. The parser's escapes, classes and other leaves. What a backslash makes, in the document. -/
import Derived.Test.YtlofoifcdmeopaaGreatDoorMPRC
import Derived.KernelRfl
namespace Go.Proofs.YtlofoifcdmeopaaGreatDoor.V
open Go Go.Ev Go.RowKit
set_option linter.unusedVariables false
set_option linter.unusedSimpArgs false
def numC : List Int → Nat
  | [] => 0
  | c :: l => if digB c = true then numC l + 1 else 0
def numV : Int → List Int → Int
  | a, [] => a
  | a, c :: l => if digB c = true then numV (mn (a * 10 + (c - 48)) 1001) l else a
theorem numC_le : ∀ (l : List Int), numC l ≤ l.length
  | [] => Nat.le_refl _
  | c :: l => by
    have := numC_le l
    unfold numC
    simp only [List.length_cons]
    split <;> omega
theorem numV_in : ∀ (l : List Int) (a : Int), 0 ≤ a ∧ a ≤ 1001 → 0 ≤ numV a l ∧ numV a l ≤ 1001
  | [], a, h => h
  | c :: l, a, h => by
    unfold numV
    split
    · rename_i hd
      rw [digB_iff] at hd
      refine numV_in l _ ?_
      unfold mn
      split <;> omega
    · exact h
theorem num_drop {b : List Int} {k : Nat} (h : k < b.length) (a : Int) : numC (b.drop k) = (if digB (atB b k) = true then numC (b.drop (k + 1)) + 1 else 0) ∧ numV a (b.drop k) = if digB (atB b k) = true then numV (mn (a * 10 + (atB b k - 48)) 1001) (b.drop (k + 1)) else a := by
  rw [List.drop_eq_getElem_cons h, numC, numV, atB_in h]
  exact ⟨rfl, rfl⟩
theorem num_loop1 (b : List Int) (hb : b.length ≤ 140737488351232) (v4 v5 : Int) : ∀ (d k : Nat) (a : Int), b.length - k = d → k ≤ 140737488351240 → 0 ≤ a ∧ a ≤ 1001 →
    M258_1 (b.map .int) (k : Int) v4 v5 a = some [.int (numV a (b.drop k)), .int (((k + numC (b.drop k) : Nat)) : Int)] := by
  intro d
  induction d with
  | zero =>
    intro k a hd hk ha
    apply M258_1_of
    rw [bT (at_E b _), atB_out (by omega)]
    simp only [rd0, datI]
    rw [bT (digit_E _), show digB 0 = false from rfl]
    simp only [rd0, datB]
    rw [cF rfl, List.drop_of_length_le (by omega)]
    rfl
  | succ d ih =>
    intro k a hd hk ha
    have hlt : k < b.length := by omega
    obtain ⟨e1, e2⟩ := num_drop hlt a
    rw [e1, e2]
    apply M258_1_of
    rw [bT (at_E b _)]
    simp only [rd0, datI]
    rw [bT (digit_E _)]
    simp only [rd0, datB]
    cases hg : digB (atB b (k : Int)) with
    | false =>
      rw [cF rfl, if_neg (by simp), if_neg (by simp)]
      rfl
    | true =>
      have hg' := digB_iff.1 hg
      have hm : 0 ≤ mn (a * 10 + (atB b (k : Int) - 48)) 1001 ∧ mn (a * 10 + (atB b (k : Int) - 48)) 1001 ≤ 1001 := by unfold mn; split <;> omega
      have ew : IntKind.i64.wrap ((k : Int) + 1) = ((k + 1 : Nat) : Int) := by rw [w64 (by omega) (by omega)]; omega
      rw [cT rfl, List.length_map, ixT ⟨by omega, by omega⟩, rdA ⟨by omega, by omega⟩, ew, w8 (by omega) (by omega), w64 (n := atB b (k : Int) - 48) (by omega) (by omega), w64 (n := a * 10) (by omega) (by omega), w64 (n := a * 10 + (atB b (k : Int) - 48)) (by omega) (by omega)]
      have nx := ih (k + 1) _ (by omega) (by omega) hm
      rw [if_pos rfl, if_pos rfl]
      have e3 : (((k + 1 + numC (b.drop (k + 1)) : Nat)) : Int) = (((k + (numC (b.drop (k + 1)) + 1) : Nat)) : Int) := by omega
      rw [← e3]
      exact nx
theorem number_E (b : List Int) (hb : b.length ≤ 140737488351232) (k : Nat) (hk : k ≤ 140737488351240) : E C 258 [.shr 5 (b.map .int), .int .i64 (k : Int)] = some [.int (numV 0 (b.drop k)), .int (((k + numC (b.drop k) : Nat)) : Int)] := by
  apply o258
  exact num_loop1 b hb 0 0 _ k 0 rfl hk (by omega)
/-- Counts in braces, behind the brace's place; the least, the most, behind them. -/
def brQ (b : List Int) (i : Nat) : Option (Int × Int × Nat) :=
  if numC (b.drop (i + 1)) = 0 then none
  else if atB b ((i + 1 + numC (b.drop (i + 1)) : Nat) : Int) = 44 then
    if atB b ((i + 1 + numC (b.drop (i + 1)) + 1 + numC (b.drop (i + 1 + numC (b.drop (i + 1)) + 1)) : Nat) : Int) = 125 then
      some (numV 0 (b.drop (i + 1)), if numC (b.drop (i + 1 + numC (b.drop (i + 1)) + 1)) = 0 then -1 else numV 0 (b.drop (i + 1 + numC (b.drop (i + 1)) + 1)), i + 1 + numC (b.drop (i + 1)) + 1 + numC (b.drop (i + 1 + numC (b.drop (i + 1)) + 1)) + 1)
    else none
  else if atB b ((i + 1 + numC (b.drop (i + 1)) : Nat) : Int) = 125 then some (numV 0 (b.drop (i + 1)), numV 0 (b.drop (i + 1)), i + 1 + numC (b.drop (i + 1)) + 1)
  else none
def cntQ (b : List Int) (i : Int) : Option (Int × Int × Nat) :=
  if atB b i = 42 then some (0, -1, i.toNat + 1) else if atB b i = 43 then some (1, -1, i.toNat + 1) else if atB b i = 63 then some (0, 1, i.toNat + 1) else if atB b i = 123 then brQ b i.toNat else none
def noneC : List Dat := [.agg [.int 0, .int 0, .int 0, .int 0], .bool false, .int 0]
def errC : List Dat := [.agg [.int 0, .int 0, .int 0, .int 0], .bool false, .int 34]
def finC (b : List Int) (lo hi : Int) (to : Nat) : List Dat :=
  if lo > 1000 ∨ hi > 1000 ∨ hi = 0 ∨ (hi > 0 ∧ hi < lo) then errC
  else if atB b (to : Int) = 63 then [.agg [.int lo, .int hi, .int 1, .int ((to : Int) + 1)], .bool true, .int 0]
  else if atB b (to : Int) = 43 then [.agg [.int lo, .int hi, .int 2, .int ((to : Int) + 1)], .bool true, .int 0]
  else [.agg [.int lo, .int hi, .int 0, .int (to : Int)], .bool true, .int 0]
def countR (b : List Int) (i : Int) : List Dat := match cntQ b i with
  | none => noneC
  | some q => finC b q.1 q.2.1 q.2.2
theorem atB_at {b : List Int} {k : Nat} (h : atB b (k : Int) ≠ 0) : k < b.length := by have := atB_some h; omega
theorem brQ_in {b : List Int} {i : Nat} {lo hi : Int} {to : Nat} (h : brQ b i = some (lo, hi, to)) : 0 ≤ lo ∧ lo ≤ 1001 ∧ -1 ≤ hi ∧ hi ≤ 1001 ∧ to ≤ b.length := by
  have n1 := numV_in (b.drop (i + 1)) 0 (by omega)
  have n2 := numV_in (b.drop (i + 1 + numC (b.drop (i + 1)) + 1)) 0 (by omega)
  unfold brQ at h
  split at h
  · cases h
  split at h
  · split at h
    · rename_i h3
      have h4 := atB_at (b := b) (k := i + 1 + numC (b.drop (i + 1)) + 1 + numC (b.drop (i + 1 + numC (b.drop (i + 1)) + 1))) (by rw [h3]; decide)
      simp only [Option.some.injEq, Prod.mk.injEq] at h
      obtain ⟨rfl, rfl, rfl⟩ := h
      refine ⟨n1.1, n1.2, ?_, ?_, by omega⟩ <;> (split <;> omega)
    · cases h
  · split at h
    · rename_i h3
      have h4 := atB_at (b := b) (k := i + 1 + numC (b.drop (i + 1))) (by rw [h3]; decide)
      simp only [Option.some.injEq, Prod.mk.injEq] at h
      obtain ⟨rfl, rfl, rfl⟩ := h
      exact ⟨n1.1, n1.2, by omega, n1.2, by omega⟩
    · cases h
theorem cntQ_in {b : List Int} {i : Int} {lo hi : Int} {to : Nat} (h : cntQ b i = some (lo, hi, to)) : 0 ≤ lo ∧ lo ≤ 1001 ∧ -1 ≤ hi ∧ hi ≤ 1001 ∧ to ≤ b.length := by
  have hl : atB b i ≠ 0 → i.toNat + 1 ≤ b.length := fun h => by have := atB_some h; omega
  unfold cntQ at h
  split at h
  · rename_i h1
    have := hl (by rw [h1]; decide)
    simp only [Option.some.injEq, Prod.mk.injEq] at h
    omega
  split at h
  · rename_i h1
    have := hl (by rw [h1]; decide)
    simp only [Option.some.injEq, Prod.mk.injEq] at h
    omega
  split at h
  · rename_i h1
    have := hl (by rw [h1]; decide)
    simp only [Option.some.injEq, Prod.mk.injEq] at h
    omega
  split at h
  · exact brQ_in h
  · cases h
theorem braces_E (b : List Int) (hb : b.length ≤ 140737488351232) (i : Nat) (hi : i < b.length) : ∃ q0 q1 q3 : Int, E C 234 [.shr 5 (b.map .int), .int .i64 (i : Int)] = some [.agg [.int q0, .int q1, .int 0, .int q3], .bool (brQ b i).isSome] ∧ ∀ q, brQ b i = some q → q0 = q.1 ∧ q1 = q.2.1 ∧ q3 = (q.2.2 : Int) := by
  have ew : IntKind.i64.wrap ((i : Int) + 1) = ((i + 1 : Nat) : Int) := by rw [w64 (by omega) (by omega)]; omega
  have l1 := numC_le (b.drop (i + 1))
  rw [List.length_drop] at l1
  have key : ∀ {r : List Dat}, (∀ {r' : List Dat}, r' = r → E C 234 [.shr 5 (b.map .int), .int .i64 (i : Int)] = some r') → E C 234 [.shr 5 (b.map .int), .int .i64 (i : Int)] = some r := fun h => h rfl
  unfold brQ
  by_cases c0 : numC (b.drop (i + 1)) = 0
  · rw [if_pos c0]
    refine ⟨0, 0, 0, ?_, fun q h => by cases h⟩
    apply o234
    rw [ew, bT (number_E b hb _ (by omega))]
    simp only [rd1, datI]
    rw [eT (by omega)]
    rfl
  rw [if_neg c0]
  have hj : ((i + 1 + numC (b.drop (i + 1)) : Nat) : Int) ≠ ((i + 1 : Nat) : Int) := by omega
  have ew2 : IntKind.i64.wrap (((i + 1 + numC (b.drop (i + 1)) : Nat) : Int) + 1) = ((i + 1 + numC (b.drop (i + 1)) + 1 : Nat) : Int) := by rw [w64 (by omega) (by omega)]; omega
  by_cases c1 : atB b ((i + 1 + numC (b.drop (i + 1)) : Nat) : Int) = 44
  · have h4 := atB_at (b := b) (k := i + 1 + numC (b.drop (i + 1))) (by rw [c1]; decide)
    have l2 := numC_le (b.drop (i + 1 + numC (b.drop (i + 1)) + 1))
    rw [List.length_drop] at l2
    have ew3 : IntKind.i64.wrap (((i + 1 + numC (b.drop (i + 1)) + 1 + numC (b.drop (i + 1 + numC (b.drop (i + 1)) + 1)) : Nat) : Int) + 1) = ((i + 1 + numC (b.drop (i + 1)) + 1 + numC (b.drop (i + 1 + numC (b.drop (i + 1)) + 1)) + 1 : Nat) : Int) := by rw [w64 (by omega) (by omega)]; omega
    rw [if_pos c1]
    refine ⟨numV 0 (b.drop (i + 1)), if numC (b.drop (i + 1 + numC (b.drop (i + 1)) + 1)) = 0 then -1 else numV 0 (b.drop (i + 1 + numC (b.drop (i + 1)) + 1)), ((i + 1 + numC (b.drop (i + 1)) + 1 + numC (b.drop (i + 1 + numC (b.drop (i + 1)) + 1)) + 1 : Nat) : Int), ?_, fun q h => ?_⟩
    · apply o234
      rw [ew, bT (number_E b hb _ (by omega))]
      simp only [rd1, rd0, datI]
      rw [eF hj, bT (at_E b _), c1]
      simp only [rd0, datI]
      rw [eT rfl, ew2, bT (number_E b hb _ (by omega))]
      simp only [rd1, rd0, datI]
      by_cases c2 : numC (b.drop (i + 1 + numC (b.drop (i + 1)) + 1)) = 0
      · rw [eT (by omega), bT (at_E b _), ew3, if_pos c2]
        by_cases c3 : atB b ((i + 1 + numC (b.drop (i + 1)) + 1 + numC (b.drop (i + 1 + numC (b.drop (i + 1)) + 1)) : Nat) : Int) = 125
        · rw [if_pos c3, c3]; rfl
        · rw [if_neg c3]
          simp only [rd0, datI]
          rw [beq_false_of_ne c3]; rfl
      · rw [eF (by omega), bT (at_E b _), ew3, if_neg c2]
        by_cases c3 : atB b ((i + 1 + numC (b.drop (i + 1)) + 1 + numC (b.drop (i + 1 + numC (b.drop (i + 1)) + 1)) : Nat) : Int) = 125
        · rw [if_pos c3, c3]; rfl
        · rw [if_neg c3]
          simp only [rd0, datI]
          rw [beq_false_of_ne c3]; rfl
    · split at h
      · obtain rfl := Option.some.inj h
        exact ⟨rfl, rfl, rfl⟩
      · cases h
  · rw [if_neg c1]
    refine ⟨numV 0 (b.drop (i + 1)), numV 0 (b.drop (i + 1)), ((i + 1 + numC (b.drop (i + 1)) + 1 : Nat) : Int), ?_, fun q h => ?_⟩
    · apply o234
      rw [ew, bT (number_E b hb _ (by omega))]
      simp only [rd1, rd0, datI]
      rw [eF hj, bT (at_E b _)]
      simp only [rd0, datI]
      rw [eF c1, bT (at_E b _), ew2]
      by_cases c3 : atB b ((i + 1 + numC (b.drop (i + 1)) : Nat) : Int) = 125
      · rw [if_pos c3, c3]; rfl
      · rw [if_neg c3]
        simp only [rd0, datI]
        rw [beq_false_of_ne c3]; rfl
    · split at h
      · obtain rfl := Option.some.inj h
        exact ⟨rfl, rfl, rfl⟩
      · cases h
theorem counts_E (b : List Int) (hb : b.length ≤ 140737488351232) (i : Int) : ∃ q0 q1 q3 : Int, E C 216 [.shr 5 (b.map .int), .int .i64 i] = some [.agg [.int q0, .int q1, .int 0, .int q3], .bool (cntQ b i).isSome] ∧ ∀ q, cntQ b i = some q → q0 = q.1 ∧ q1 = q.2.1 ∧ q3 = (q.2.2 : Int) := by
  have ew : atB b i ≠ 0 → IntKind.i64.wrap (i + 1) = ((i.toNat + 1 : Nat) : Int) := fun h => by
    have := atB_some h
    rw [w64 (by omega) (by omega)]; omega
  unfold cntQ
  by_cases c1 : atB b i = 42
  · rw [if_pos c1]
    refine ⟨0, -1, ((i.toNat + 1 : Nat) : Int), ?_, fun q h => by obtain rfl := Option.some.inj h; exact ⟨rfl, rfl, rfl⟩⟩
    apply o216
    rw [bT (at_E b _), ew (by rw [c1]; decide), c1]; rfl
  rw [if_neg c1]
  by_cases c2 : atB b i = 43
  · rw [if_pos c2]
    refine ⟨1, -1, ((i.toNat + 1 : Nat) : Int), ?_, fun q h => by obtain rfl := Option.some.inj h; exact ⟨rfl, rfl, rfl⟩⟩
    apply o216
    rw [bT (at_E b _), ew (by rw [c2]; decide), c2]; rfl
  rw [if_neg c2]
  by_cases c3 : atB b i = 63
  · rw [if_pos c3]
    refine ⟨0, 1, ((i.toNat + 1 : Nat) : Int), ?_, fun q h => by obtain rfl := Option.some.inj h; exact ⟨rfl, rfl, rfl⟩⟩
    apply o216
    rw [bT (at_E b _), ew (by rw [c3]; decide), c3]; rfl
  rw [if_neg c3]
  by_cases c4 : atB b i = 123
  · have hin := atB_some (b := b) (i := i) (by rw [c4]; decide)
    obtain ⟨k, rfl⟩ : ∃ k : Nat, i = (k : Int) := ⟨i.toNat, by omega⟩
    obtain ⟨q0, q1, q3, h1, h2⟩ := braces_E b hb k (by omega)
    rw [if_pos c4, Int.toNat_natCast]
    refine ⟨q0, q1, q3, ?_, h2⟩
    apply o216
    rw [bT (at_E b _)]
    simp only [rd0, datI]
    rw [eF c1, eF c2, eF c3, eT c4, bT h1]
    rfl
  · rw [if_neg c4]
    refine ⟨0, 0, 0, ?_, fun q h => by cases h⟩
    apply o216
    rw [bT (at_E b _)]
    simp only [rd0, datI]
    rw [eF c1, eF c2, eF c3, eF c4]
    rfl
theorem Count_E (b : List Int) (hb : b.length ≤ 140737488351232) (i : Int) : E C 181 [.shr 5 (b.map .int), .int .i64 i] = some (countR b i) := by
  obtain ⟨q0, q1, q3, h1, h2⟩ := counts_E b hb i
  apply o181
  rw [bT h1]
  unfold countR
  simp only [rd0, rd1, datB, datI, aggC0, aggC1, aggC2, aggC3]
  cases hq : cntQ b i with
  | none => rw [nT (by simp)]; rfl
  | some q =>
    obtain ⟨lo, hi, to⟩ := q
    obtain ⟨e0, e1, e2⟩ := h2 _ hq
    simp only at e0 e1 e2
    subst e0 e1 e2
    have hin := cntQ_in hq
    rw [nF (by simp)]
    show _ = some (finC b q0 q1 to)
    unfold finC
    by_cases c1 : q0 > 1000
    · rw [dT c1, if_pos (.inl c1)]; rfl
    rw [dF c1]
    by_cases c2 : q1 > 1000
    · rw [dT c2, if_pos (.inr (.inl c2))]; rfl
    rw [dF c2]
    by_cases c3 : q1 = 0
    · rw [eT c3, if_pos (.inr (.inr (.inl c3)))]; rfl
    rw [eF c3, w64 (n := (to : Int) + 1) (by omega) (by omega)]
    have tail : ∀ P : Prop, ∀ [Decidable P], ¬ P → ((E C 217 [.shr 5 (b.map .int), .int .i64 (to : Int)]).bind fun d2 => (bif ((rd d2 0).I) == 63 then (some [.agg [.int q0, .int q1, .int 1, .int ((to : Int) + 1)], .bool true, .int 0]) else (bif ((rd d2 0).I) == 43 then (some [.agg [.int q0, .int q1, .int 2, .int ((to : Int) + 1)], .bool true, .int 0]) else (some [.agg [.int q0, .int q1, .int 0, .int (to : Int)], .bool true, .int 0]))) : R) =
        some (if P then errC else if atB b (to : Int) = 63 then [.agg [.int q0, .int q1, .int 1, .int ((to : Int) + 1)], .bool true, .int 0]
  else if atB b (to : Int) = 43 then [.agg [.int q0, .int q1, .int 2, .int ((to : Int) + 1)], .bool true, .int 0]
  else [.agg [.int q0, .int q1, .int 0, .int (to : Int)], .bool true, .int 0]) := fun P _ hP => by
      rw [if_neg hP, bT (at_E b _)]
      simp only [rd0, datI]
      by_cases d1 : atB b (to : Int) = 63
      · rw [eT d1, if_pos d1]
      rw [eF d1, if_neg d1]
      by_cases d2 : atB b (to : Int) = 43
      · rw [eT d2, if_pos d2]
      · rw [eF d2, if_neg d2]
    by_cases c4 : q1 = -1
    · rw [neF c4]
      exact tail _ (by omega)
    · rw [neT c4]
      by_cases c5 : q1 < q0
      · rw [dT c5, if_pos (.inr (.inr (.inr ⟨by omega, c5⟩)))]; rfl
      · rw [dF c5]
        exact tail _ (by omega)
end Go.Proofs.YtlofoifcdmeopaaGreatDoor.V
namespace Go.Proofs.YtlofoifcdmeopaaGreatDoor.V
open Go Go.Ev
set_option maxRecDepth 100000
set_option linter.unusedVariables false
theorem o213 (a0 : List Dat) (a1 : Int) {r : List Dat} (h : (bif decide (a1 < 0) then (some [.int 0, .int 0]) else (bif decide (a1 ≥ (a0.length : Int)) then (some [.int 0, .int 0]) else (bif decide (0 ≤ a1) then (bif decide (a1 ≤ (a0.length : Int)) then (bif decide ((a0.length : Int) ≤ (a0.length : Int)) then ((E C 233 [.shr 5 ((a0.take ((a0.length : Int).toNat)).drop a1.toNat)]).bind fun d1 => (bif ((rd d1 0).I) == 65533 then (bif decide (((rd d1 1).I) ≤ 1) then (bif decide (0 ≤ a1) then (bif decide (a1 < (a0.length : Int)) then (bif decide (a1.toNat < a0.length) then (some [.int (IntKind.i64.wrap (1114112 + (IntKind.i64.wrap ((rd a0 a1.toNat).I)))), .int 1]) else none) else none) else none) else (some [.int (IntKind.i64.wrap ((rd d1 0).I)), .int ((rd d1 1).I)])) else (some [.int (IntKind.i64.wrap ((rd d1 0).I)), .int ((rd d1 1).I)]))) else none) else none) else none)) : R) = some r) : E C 213 [.shr 5 a0, .int .i64 a1] = some r := E_st h (Cont.bif (Cont.const _) (Cont.bif (Cont.const _) (Cont.bif (Cont.bif (Cont.bif (Cont.bind (Cont.call C 233 _) fun _ => (Cont.bif (Cont.bif (Cont.bif (Cont.bif (Cont.bif (Cont.const _) Cont.nn) Cont.nn) Cont.nn) (Cont.const _)) (Cont.const _))) Cont.nn) Cont.nn) Cont.nn))) fun φ => by kernel_rfl
theorem o97 (a0 : Int) {r : List Dat} (h : (bif decide (a0 < 0) then (some [.bool false]) else (bif decide (a0 > 1114367) then (some [.bool false]) else (bif decide (a0 > 1114111) then (some [.bool (decide (a0 ≥ 1114240))]) else (bif decide (a0 < 55296) then (some [.bool true]) else (some [.bool (decide (a0 > 57343))])))) : R) = some r) : E C 97 [.int .i64 a0] = some r := E_st h (Cont.bif (Cont.const _) (Cont.bif (Cont.const _) (Cont.bif (Cont.const _) (Cont.bif (Cont.const _) (Cont.const _))))) fun φ => by kernel_rfl
end Go.Proofs.YtlofoifcdmeopaaGreatDoor.V
namespace Go.Proofs.YtlofoifcdmeopaaGreatDoor.V
open Go Go.Ev Go.RowKit
set_option linter.unusedVariables false
set_option linter.unusedSimpArgs false
theorem dec_E (b : List Int) (hb : isBytes b = true) (hne : b ≠ []) : E C 233 [.shr 5 (b.map .int)] = some [.int (decR b).1, .int (decR b).2] := by
  refine E_given (h := gDecode 5) (by kernel_rfl) ?_
  have h1 : (b.map Dat.int).isEmpty = false := by cases b <;> simp at hne ⊢
  simp only [gDecode, ints_map, h1, hb]
  rfl
theorem At_E (b : List Int) (hb : isBytes b = true) (hlen : b.length ≤ 140737488351232) (i : Int) : E C 213 [.shr 5 (b.map .int), .int .i64 i] = some [.int (symR b i).1, .int (symR b i).2] := by
  apply o213
  simp only [List.length_map]
  unfold symR
  by_cases h0 : i < 0
  · rw [dT h0, if_neg (by omega)]
  · rw [dF h0]
    by_cases h1 : i ≥ (b.length : Int)
    · rw [dT h1, if_neg (by omega)]
    · obtain ⟨n, rfl⟩ : ∃ n : Nat, i = (n : Int) := ⟨i.toNat, by omega⟩
      have hn : n < b.length := by omega
      have hne : b.drop n ≠ [] := fun h => by
        have := congrArg List.length h
        simp at this
        omega
      have e1 : ((b.map Dat.int).take ((b.length : Int).toNat)).drop (n : Int).toNat = (b.drop n).map .int := by
        rw [Int.toNat_natCast, Int.toNat_natCast, List.take_of_length_le (by simp), List.map_drop]
      rw [dF h1, dT (by omega), dT (by omega), dT (by omega), e1]
      rw [bT (dec_E _ (isBytes_drop hb n) hne), if_pos (show 0 ≤ ((n : Nat) : Int) ∧ ((n : Nat) : Int) < (b.length : Int) by omega), decR_eq (isBytes_drop hb n) hne]
      simp only [bn_drop, List.length_drop, Nat.add_zero, Int.toNat_natCast, rdI, getD_bn hb]
      have hs := decodeN_small (b.length - n) _ _ _ _ (bn_lt hb n) (bn_lt hb (n + 1)) (bn_lt hb (n + 2)) (bn_lt hb (n + 3))
      have hbn := bn_lt hb n
      unfold symA symN
      generalize Go.Lib.decodeN (b.length - n) (bn b n) (bn b (n + 1)) (bn b (n + 2)) (bn b (n + 3)) = d at hs ⊢
      obtain ⟨x, m⟩ := d
      dsimp only at hs ⊢
      simp only [rd0, rd1, datI]
      rw [w64 (n := ((bn b n : Nat) : Int)) (by omega) (by omega), w64 (n := 1114112 + ((bn b n : Nat) : Int)) (by omega) (by omega), w64 (n := (x : Int)) (by omega) (by omega)]
      by_cases g1 : x = 65533
      · rw [eT (by omega)]
        by_cases g2 : m ≤ 1
        · rw [dT (by omega), dT (by omega), dT (by omega), dT (by omega), if_pos ⟨g1, g2⟩]
        · rw [dF (by omega), if_neg (fun h => g2 h.2)]
      · rw [eF (by omega), if_neg (fun h => g1 h.1)]
end Go.Proofs.YtlofoifcdmeopaaGreatDoor.V
namespace Go.Proofs.YtlofoifcdmeopaaGreatDoor.V
open Go Go.Ev
set_option maxRecDepth 100000
set_option linter.unusedVariables false
theorem o153 (a0 : List Dat) {r : List Dat} (h : ((E C 77 [.shr 82 a0]).bind fun d1 => ((E C 118 [.shr 82 a0, .shr 82 ((rd d1 0).L)]).bind fun d2 => (some [.bool ((rd d2 0).B)])) : R) = some r) : E C 153 [.shr 82 a0] = some r := E_st h (Cont.bind (Cont.call C 77 _) fun _ => (Cont.bind (Cont.call C 118 _) fun _ => (Cont.const _))) fun φ => by kernel_rfl
/-- clew/rset.Make -/
noncomputable def f77 : Func := Tryz.f77
def kp77 : List Nat := [0, 2, 3, 5, 6, 7, 8, 10, 11, 12, 13, 14, 31, 32, 33]
noncomputable def c77 (p : List Nat) : Code := pick f77 p
noncomputable def L77_2 (n : Nat) (m1 : Nat) (v0 v2 v3 v8 v12 : List Dat) (v13 v14 v32 v33 : Int) : R := loopIter (fun E K => evCode C (ev C n) n kp77 (c77 [1, 1, 1, 1, 1, 0, 1, 0, 0]) E K) [0, 2, 3, 8, 12, 13, 14, 31, 32, 33] (Kblk 2 (Kseq C (ev C n) n kp77 (c77 [1, 1, 1, 1, 1, 1]) (Ktop C 77 f77 [.und]))) m1 (cn [.shr 82 v0, .und, .own 2 0 82 v2, .own 3 0 82 v3] (un 4 (cn [.own 8 0 82 v8, .und, .und, .und, .shr 82 v12, .int .i64 v13, .int .i64 v14] (un 16 (cn [.view 3 0 3 0, .int .i64 v32, .int .i64 v33] (un 39 []))))))
noncomputable def M77_2 (v0 v2 v3 v8 v12 : List Dat) (v13 v14 v32 v33 : Int) : R := lim fun φ => L77_2 (φ 0) (φ 1) v0 v2 v3 v8 v12 v13 v14 v32 v33
theorem M77_2_c (v0 v2 v3 v8 v12 : List Dat) (v13 v14 v32 v33 : Int) : Cont (fun φ => L77_2 (φ 0) (φ 1) v0 v2 v3 v8 v12 v13 v14 v32 v33) (M77_2 v0 v2 v3 v8 v12 v13 v14 v32 v33) := Cont.re id _
theorem M77_2_e (v0 v2 v3 v8 v12 : List Dat) (v13 v14 v32 v33 : Int) : Cont (fun φ => L77_2 (φ 0) (φ 0) v0 v2 v3 v8 v12 v13 v14 v32 v33) (M77_2 v0 v2 v3 v8 v12 v13 v14 v32 v33) := Cont.re (toZ 1) fun φ => L77_2 (φ 0) (φ 1) v0 v2 v3 v8 v12 v13 v14 v32 v33
noncomputable def L77_1 (n : Nat) (m1 : Nat) (v0 v2 v3 v12 : List Dat) (v13 v14 : Int) : R := loopIter (fun E K => evCode C (ev C n) n kp77 (c77 [1, 1, 0, 1, 0, 0]) E K) [0, 2, 3, 12, 13, 14] (Kblk 0 (Kseq C (ev C n) n kp77 (c77 [1, 1, 1]) (Ktop C 77 f77 [.und]))) m1 (cn [.shr 82 v0, .und, .own 2 0 82 v2, .own 3 0 82 v3] (un 8 (cn [.shr 82 v12, .int .i64 v13, .int .i64 v14] (un 58 []))))
noncomputable def M77_1 (v0 v2 v3 v12 : List Dat) (v13 v14 : Int) : R := lim fun φ => L77_1 (φ 0) (φ 1) v0 v2 v3 v12 v13 v14
theorem M77_1_c (v0 v2 v3 v12 : List Dat) (v13 v14 : Int) : Cont (fun φ => L77_1 (φ 0) (φ 1) v0 v2 v3 v12 v13 v14) (M77_1 v0 v2 v3 v12 v13 v14) := Cont.re id _
theorem M77_1_e (v0 v2 v3 v12 : List Dat) (v13 v14 : Int) : Cont (fun φ => L77_1 (φ 0) (φ 0) v0 v2 v3 v12 v13 v14) (M77_1 v0 v2 v3 v12 v13 v14) := Cont.re (toZ 1) fun φ => L77_1 (φ 0) (φ 1) v0 v2 v3 v12 v13 v14
theorem M77_2_of (v0 v2 v3 v8 v12 : List Dat) (v13 v14 v32 v33 : Int) {r : List Dat} (h : (bif decide (v33 < v32) then (bif decide (0 ≤ v33) then (bif decide (v33 < (v3.length : Int)) then (bif decide (v33.toNat < v3.length) then (bif decide ((v8.length : Int) > 0) then (bif decide (0 ≤ (IntKind.i64.wrap ((v8.length : Int) - 1))) then (bif decide ((IntKind.i64.wrap ((v8.length : Int) - 1)) < (v8.length : Int)) then (bif decide ((IntKind.i64.wrap ((v8.length : Int) - 1)).toNat < v8.length) then (bif decide ((((rd v3 v33.toNat).C 0).I) ≤ (IntKind.i64.wrap ((((rd v8 ((IntKind.i64.wrap ((v8.length : Int) - 1)).toNat)).C 1).I) + 1))) then (bif decide (0 ≤ (IntKind.i64.wrap ((v8.length : Int) - 1))) then (bif decide ((IntKind.i64.wrap ((v8.length : Int) - 1)) < (v8.length : Int)) then (bif decide ((IntKind.i64.wrap ((v8.length : Int) - 1)).toNat < v8.length) then (bif decide (0 ≤ (IntKind.i64.wrap ((v8.length : Int) - 1))) then (bif decide ((IntKind.i64.wrap ((v8.length : Int) - 1)) < (v8.length : Int)) then (bif decide ((IntKind.i64.wrap ((v8.length : Int) - 1)).toNat < v8.length) then (M77_2 v0 v2 v3 (v8.set ((IntKind.i64.wrap ((v8.length : Int) - 1)).toNat) (.agg [(rd v8 ((IntKind.i64.wrap ((v8.length : Int) - 1)).toNat)).C 0, .int (if (((rd v3 v33.toNat).C 1).I) > (((rd v8 ((IntKind.i64.wrap ((v8.length : Int) - 1)).toNat)).C 1).I) then (((rd v3 v33.toNat).C 1).I) else (((rd v8 ((IntKind.i64.wrap ((v8.length : Int) - 1)).toNat)).C 1).I))])) v12 v13 v14 v32 (IntKind.i64.wrap (v33 + 1))) else none) else none) else none) else none) else none) else none) else (bif decide (v8.length + ([.agg [.int (((rd v3 v33.toNat).C 0).I), .int (((rd v3 v33.toNat).C 1).I)]] : List Dat).length ≤ capB 16) then (M77_2 v0 v2 v3 (v8 ++ ([.agg [.int (((rd v3 v33.toNat).C 0).I), .int (((rd v3 v33.toNat).C 1).I)]] : List Dat)) v12 v13 v14 v32 (IntKind.i64.wrap (v33 + 1))) else none)) else none) else none) else none) else (bif decide (v8.length + ([.agg [.int (((rd v3 v33.toNat).C 0).I), .int (((rd v3 v33.toNat).C 1).I)]] : List Dat).length ≤ capB 16) then (M77_2 v0 v2 v3 (v8 ++ ([.agg [.int (((rd v3 v33.toNat).C 0).I), .int (((rd v3 v33.toNat).C 1).I)]] : List Dat)) v12 v13 v14 v32 (IntKind.i64.wrap (v33 + 1))) else none)) else none) else none) else none) else (some [.list v8]) : R) = some r) : M77_2 v0 v2 v3 v8 v12 v13 v14 v32 v33 = some r := lim_st (g := fun φ => L77_2 (φ 0) (φ 1) v0 v2 v3 v8 v12 v13 v14 v32 v33) 1 h (Cont.bif (Cont.bif (Cont.bif (Cont.bif (Cont.bif (Cont.bif (Cont.bif (Cont.bif (Cont.bif (Cont.bif (Cont.bif (Cont.bif (Cont.bif (Cont.bif (Cont.bif (M77_2_c _ _ _ _ _ _ _ _ _) Cont.nn) Cont.nn) Cont.nn) Cont.nn) Cont.nn) Cont.nn) (Cont.bif (M77_2_c _ _ _ _ _ _ _ _ _) Cont.nn)) Cont.nn) Cont.nn) Cont.nn) (Cont.bif (M77_2_c _ _ _ _ _ _ _ _ _) Cont.nn)) Cont.nn) Cont.nn) Cont.nn) (Cont.const _)) fun φ m hm => (congrArg (fun q => L77_2 (φ 0) q v0 v2 v3 v8 v12 v13 v14 v32 v33) hm).trans (by kernel_rfl)
theorem M77_1_of (v0 v2 v3 v12 : List Dat) (v13 v14 : Int) {r : List Dat} (h : (bif decide (v14 < v13) then (bif decide (0 ≤ v14) then (bif decide (v14 < (v12.length : Int)) then (bif decide (v14.toNat < v12.length) then ((E C 113 [.agg [.int .i64 (((rd v12 v14.toNat).C 0).I), .int .i64 (((rd v12 v14.toNat).C 1).I)]]).bind fun d1 => (bif (rd d1 1).B then (bif decide (v3.length + ([.agg [.int (((rd d1 0).C 0).I), .int (((rd d1 0).C 1).I)]] : List Dat).length ≤ capB 16) then (M77_1 v0 v2 (v3 ++ ([.agg [.int (((rd d1 0).C 0).I), .int (((rd d1 0).C 1).I)]] : List Dat)) v12 v13 (IntKind.i64.wrap (v14 + 1))) else none) else (M77_1 v0 v2 v3 v12 v13 (IntKind.i64.wrap (v14 + 1))))) else none) else none) else none) else ((E C 114 [.shr 82 v3, .clo 115 [] []]).bind fun d2 => (M77_2 v0 v2 ((rd d2 0).L) ([] : List Dat) v12 v13 v14 (((rd d2 0).L).length : Int) 0)) : R) = some r) : M77_1 v0 v2 v3 v12 v13 v14 = some r := lim_st (g := fun φ => L77_1 (φ 0) (φ 1) v0 v2 v3 v12 v13 v14) 1 h (Cont.bif (Cont.bif (Cont.bif (Cont.bif (Cont.bind (Cont.call C 113 _) fun _ => (Cont.bif (Cont.bif (M77_1_c _ _ _ _ _ _) Cont.nn) (M77_1_c _ _ _ _ _ _))) Cont.nn) Cont.nn) Cont.nn) (Cont.bind (Cont.call C 114 _) fun _ => (M77_2_e _ _ _ _ _ _ _ _ _))) fun φ m hm => (congrArg (fun q => L77_1 (φ 0) q v0 v2 v3 v12 v13 v14) hm).trans (by kernel_rfl)
theorem o77 (a0 : List Dat) {r : List Dat} (h : (M77_1 a0 ([] : List Dat) ([] : List Dat) a0 (a0.length : Int) 0 : R) = some r) : E C 77 [.shr 82 a0] = some r := E_st h (M77_1_e _ _ _ _ _ _) fun φ => by kernel_rfl
/-- slices.Equal[[]clew/rset.Range,clew/rset.Range] -/
noncomputable def f118 : Func := Tryz.f118
def kp118 : List Nat := [0, 1, 4, 5, 12, 13]
noncomputable def c118 (p : List Nat) : Code := pick f118 p
noncomputable def L118_1 (n : Nat) (m1 : Nat) (v0 v1 : List Dat) (v4 : Bool) (v12 v13 : Int) : R := loopIter (fun E K => evCode C (ev C n) n kp118 (c118 [1, 1, 0, 1, 0, 0]) E K) [0, 1, 4, 12, 13] (Kblk 0 (Kseq C (ev C n) n kp118 (c118 [1, 1, 1]) (Ktop C 118 f118 [.und, .und]))) m1 (cn [.shr 82 v0, .shr 82 v1, .und, .und, .bool v4] (un 7 (cn [.int .i64 v12, .int .i64 v13] (un 12 []))))
noncomputable def M118_1 (v0 v1 : List Dat) (v4 : Bool) (v12 v13 : Int) : R := lim fun φ => L118_1 (φ 0) (φ 1) v0 v1 v4 v12 v13
theorem M118_1_c (v0 v1 : List Dat) (v4 : Bool) (v12 v13 : Int) : Cont (fun φ => L118_1 (φ 0) (φ 1) v0 v1 v4 v12 v13) (M118_1 v0 v1 v4 v12 v13) := Cont.re id _
theorem M118_1_e (v0 v1 : List Dat) (v4 : Bool) (v12 v13 : Int) : Cont (fun φ => L118_1 (φ 0) (φ 0) v0 v1 v4 v12 v13) (M118_1 v0 v1 v4 v12 v13) := Cont.re (toZ 1) fun φ => L118_1 (φ 0) (φ 1) v0 v1 v4 v12 v13
theorem M118_1_of (v0 v1 : List Dat) (v4 : Bool) (v12 v13 : Int) {r : List Dat} (h : (bif decide (v13 < v12) then (bif decide (0 ≤ v13) then (bif decide (v13 < (v0.length : Int)) then (bif decide (v13.toNat < v0.length) then (bif decide (0 ≤ v13) then (bif decide (v13 < (v1.length : Int)) then (bif decide (v13.toNat < v1.length) then (bif !(((((rd v0 v13.toNat).C 0).I) == (((rd v1 v13.toNat).C 0).I)) && (((((rd v0 v13.toNat).C 1).I) == (((rd v1 v13.toNat).C 1).I)) && true)) then (some [.bool false]) else (M118_1 v0 v1 v4 v12 (IntKind.i64.wrap (v13 + 1)))) else none) else none) else none) else none) else none) else none) else (some [.bool true]) : R) = some r) : M118_1 v0 v1 v4 v12 v13 = some r := lim_st (g := fun φ => L118_1 (φ 0) (φ 1) v0 v1 v4 v12 v13) 1 h (Cont.bif (Cont.bif (Cont.bif (Cont.bif (Cont.bif (Cont.bif (Cont.bif (Cont.bif (Cont.const _) (M118_1_c _ _ _ _ _)) Cont.nn) Cont.nn) Cont.nn) Cont.nn) Cont.nn) Cont.nn) (Cont.const _)) fun φ m hm => (congrArg (fun q => L118_1 (φ 0) q v0 v1 v4 v12 v13) hm).trans (by kernel_rfl)
theorem o118 (a0 a1 : List Dat) {r : List Dat} (h : (bif (a0.length : Int) != (a1.length : Int) then (some [.bool false]) else (M118_1 a0 a1 false (a0.length : Int) 0) : R) = some r) : E C 118 [.shr 82 a0, .shr 82 a1] = some r := E_st h (Cont.bif (Cont.const _) (M118_1_e _ _ _ _ _)) fun φ => by kernel_rfl
/-- clew/rset.Of -/
noncomputable def f215 : Func := Tryz.f215
theorem o215 (a0 : Int) {r : List Dat} (h : ((E C 77 [.shr 82 ([.agg [.int a0, .int a0]] : List Dat)]).bind fun d1 => (some [.list ((rd d1 0).L)]) : R) = some r) : E C 215 [.int .i64 a0] = some r := E_st h (Cont.bind (Cont.call C 77 _) fun _ => (Cont.const _)) fun φ => by kernel_rfl
theorem o113 (a0_0 a0_1 : Int) {r : List Dat} (h : (some [.agg [.int (if 0 > a0_0 then 0 else a0_0), .int (if 1114367 < a0_1 then 1114367 else a0_1)], .bool (decide ((if 0 > a0_0 then 0 else a0_0) ≤ (if 1114367 < a0_1 then 1114367 else a0_1)))] : R) = some r) : E C 113 [.agg [.int .i64 a0_0, .int .i64 a0_1]] = some r := E_st h (Cont.const _) fun φ => by kernel_rfl
/-- clew/rset.Not -/
noncomputable def f167 : Func := Tryz.f167
def kp167 : List Nat := [0, 2, 3, 4, 6, 8, 9, 10]
noncomputable def c167 (p : List Nat) : Code := pick f167 p
noncomputable def L167_1 (n : Nat) (m1 : Nat) (v0 v2 v3 : List Dat) (v4 : Int) (v8 : List Dat) (v9 v10 : Int) : R := loopIter (fun E K => evCode C (ev C n) n kp167 (c167 [1, 1, 1, 0, 1, 0, 0]) E K) [0, 2, 3, 4, 8, 9, 10] (Kblk 0 (Kseq C (ev C n) n kp167 (c167 [1, 1, 1, 1]) (Ktop C 167 f167 [.und]))) m1 (cn [.shr 82 v0, .und, .own 2 0 82 v2, .own 3 0 82 v3, .int .i64 v4, .und, .und, .und, .own 8 0 82 v8, .int .i64 v9, .int .i64 v10] (un 27 []))
noncomputable def M167_1 (v0 v2 v3 : List Dat) (v4 : Int) (v8 : List Dat) (v9 v10 : Int) : R := lim fun φ => L167_1 (φ 0) (φ 1) v0 v2 v3 v4 v8 v9 v10
theorem M167_1_c (v0 v2 v3 : List Dat) (v4 : Int) (v8 : List Dat) (v9 v10 : Int) : Cont (fun φ => L167_1 (φ 0) (φ 1) v0 v2 v3 v4 v8 v9 v10) (M167_1 v0 v2 v3 v4 v8 v9 v10) := Cont.re id _
theorem M167_1_e (v0 v2 v3 : List Dat) (v4 : Int) (v8 : List Dat) (v9 v10 : Int) : Cont (fun φ => L167_1 (φ 0) (φ 0) v0 v2 v3 v4 v8 v9 v10) (M167_1 v0 v2 v3 v4 v8 v9 v10) := Cont.re (toZ 1) fun φ => L167_1 (φ 0) (φ 1) v0 v2 v3 v4 v8 v9 v10
theorem M167_1_of (v0 v2 v3 : List Dat) (v4 : Int) (v8 : List Dat) (v9 v10 : Int) {r : List Dat} (h : (bif decide (v10 < v9) then (bif decide (0 ≤ v10) then (bif decide (v10 < (v8.length : Int)) then (bif decide (v10.toNat < v8.length) then (bif decide ((((rd v8 v10.toNat).C 0).I) > v4) then (bif decide (v3.length + ([.agg [.int v4, .int (IntKind.i64.wrap ((((rd v8 v10.toNat).C 0).I) - 1))]] : List Dat).length ≤ capB 16) then (M167_1 v0 v2 (v3 ++ ([.agg [.int v4, .int (IntKind.i64.wrap ((((rd v8 v10.toNat).C 0).I) - 1))]] : List Dat)) (IntKind.i64.wrap ((((rd v8 v10.toNat).C 1).I) + 1)) v8 v9 (IntKind.i64.wrap (v10 + 1))) else none) else (M167_1 v0 v2 v3 (IntKind.i64.wrap ((((rd v8 v10.toNat).C 1).I) + 1)) v8 v9 (IntKind.i64.wrap (v10 + 1)))) else none) else none) else none) else (bif decide (v4 ≤ 1114367) then (bif decide (v3.length + ([.agg [.int v4, .int 1114367]] : List Dat).length ≤ capB 16) then (some [.list (v3 ++ ([.agg [.int v4, .int 1114367]] : List Dat))]) else none) else (some [.list v3])) : R) = some r) : M167_1 v0 v2 v3 v4 v8 v9 v10 = some r := lim_st (g := fun φ => L167_1 (φ 0) (φ 1) v0 v2 v3 v4 v8 v9 v10) 1 h (Cont.bif (Cont.bif (Cont.bif (Cont.bif (Cont.bif (Cont.bif (M167_1_c _ _ _ _ _ _ _) Cont.nn) (M167_1_c _ _ _ _ _ _ _)) Cont.nn) Cont.nn) Cont.nn) (Cont.bif (Cont.bif (Cont.const _) Cont.nn) (Cont.const _))) fun φ m hm => (congrArg (fun q => L167_1 (φ 0) q v0 v2 v3 v4 v8 v9 v10) hm).trans (by kernel_rfl)
theorem o167 (a0 : List Dat) {r : List Dat} (h : ((E C 77 [.shr 82 a0]).bind fun d1 => (M167_1 a0 ([] : List Dat) ([] : List Dat) 0 ((rd d1 0).L) (((rd d1 0).L).length : Int) 0) : R) = some r) : E C 167 [.shr 82 a0] = some r := E_st h (Cont.bind (Cont.call C 77 _) fun _ => (M167_1_e _ _ _ _ _ _ _)) fun φ => by kernel_rfl
/-- clew/rset.Has -/
noncomputable def f32 : Func := Tryz.f32
theorem o32 (a0 : List Dat) (a1 : Int) {r : List Dat} (h : (bif decide (a1 < 0) then (some [.bool false]) else (bif decide (a1 > 1114367) then (some [.bool false]) else ((E C 75 [.shr 82 a0, .clo 76 [] [.sref 3 ([.int a1] : List Dat) 0 0]]).bind fun d1 => (some [.bool ((rd d1 0).B)]))) : R) = some r) : E C 32 [.shr 82 a0, .int .i64 a1] = some r := E_st h (Cont.bif (Cont.const _) (Cont.bif (Cont.const _) (Cont.bind (Cont.call C 75 _) fun _ => (Cont.const _)))) fun φ => by kernel_rfl
theorem o75_a (a0 : List Dat) (a1c0d0 : Int) {r : List Dat} (h : ((E C 112 [.shr 82 a0, .clo 76 [] [.sref 3 ([.int a1c0d0] : List Dat) 0 0]]).bind fun d1 => (some [.bool (decide (((rd d1 0).I) ≥ 0))]) : R) = some r) : E C 75 [.shr 82 a0, .clo 76 [] [.sref 3 ([.int a1c0d0] : List Dat) 0 0]] = some r := E_st h (Cont.bind (Cont.call C 112 _) fun _ => (Cont.const _)) fun φ => by kernel_rfl
/-- slices.IndexFunc[[]clew/rset.Range,clew/rset.Range] -/
noncomputable def f112 : Func := Tryz.f112
def kp112 : List Nat := [0, 1, 4, 5, 7, 8]
noncomputable def c112 (p : List Nat) : Code := pick f112 p
noncomputable def L112_a_1 (n : Nat) (m1 : Nat) (v0 : List Dat) (v1c0d0 v4 v7 v8 : Int) : R := loopIter (fun E K => evCode C (ev C n) n kp112 (c112 [1, 0, 1, 0, 0]) E K) [0, 1, 4, 7, 8] (Kblk 0 (Kseq C (ev C n) n kp112 (c112 [1, 1]) (Ktop C 112 f112 [.und, .und]))) m1 (cn [.shr 82 v0, .clo 76 [] [.sref 3 ([.int v1c0d0] : List Dat) 0 0], .und, .und, .int .i64 v4, .und, .und, .int .i64 v7, .int .i64 v8] (un 10 []))
noncomputable def M112_a_1 (v0 : List Dat) (v1c0d0 v4 v7 v8 : Int) : R := lim fun φ => L112_a_1 (φ 0) (φ 1) v0 v1c0d0 v4 v7 v8
theorem M112_a_1_c (v0 : List Dat) (v1c0d0 v4 v7 v8 : Int) : Cont (fun φ => L112_a_1 (φ 0) (φ 1) v0 v1c0d0 v4 v7 v8) (M112_a_1 v0 v1c0d0 v4 v7 v8) := Cont.re id _
theorem M112_a_1_e (v0 : List Dat) (v1c0d0 v4 v7 v8 : Int) : Cont (fun φ => L112_a_1 (φ 0) (φ 0) v0 v1c0d0 v4 v7 v8) (M112_a_1 v0 v1c0d0 v4 v7 v8) := Cont.re (toZ 1) fun φ => L112_a_1 (φ 0) (φ 1) v0 v1c0d0 v4 v7 v8
theorem M112_a_1_of (v0 : List Dat) (v1c0d0 v4 v7 v8 : Int) {r : List Dat} (h : (bif decide (v8 < v7) then (bif decide (0 ≤ v8) then (bif decide (v8 < (v0.length : Int)) then (bif decide (v8.toNat < v0.length) then ((E C 76 [.agg [.int .i64 (((rd v0 v8.toNat).C 0).I), .int .i64 (((rd v0 v8.toNat).C 1).I)], .sref 3 ([.int v1c0d0] : List Dat) 0 0]).bind fun d1 => (bif (rd d1 0).B then (some [.int v8]) else (M112_a_1 v0 v1c0d0 v4 v7 (IntKind.i64.wrap (v8 + 1))))) else none) else none) else none) else (some [.int (-1)]) : R) = some r) : M112_a_1 v0 v1c0d0 v4 v7 v8 = some r := lim_st (g := fun φ => L112_a_1 (φ 0) (φ 1) v0 v1c0d0 v4 v7 v8) 1 h (Cont.bif (Cont.bif (Cont.bif (Cont.bif (Cont.bind (Cont.call C 76 _) fun _ => (Cont.bif (Cont.const _) (M112_a_1_c _ _ _ _ _))) Cont.nn) Cont.nn) Cont.nn) (Cont.const _)) fun φ m hm => (congrArg (fun q => L112_a_1 (φ 0) q v0 v1c0d0 v4 v7 v8) hm).trans (by kernel_rfl)
theorem o112_a (a0 : List Dat) (a1c0d0 : Int) {r : List Dat} (h : (M112_a_1 a0 a1c0d0 0 (a0.length : Int) 0 : R) = some r) : E C 112 [.shr 82 a0, .clo 76 [] [.sref 3 ([.int a1c0d0] : List Dat) 0 0]] = some r := E_st h (M112_a_1_e _ _ _ _ _) fun φ => by kernel_rfl
theorem o76_a (a0_0 a0_1 a1d0 : Int) {r : List Dat} (h : (bif decide (0 < ([.int a1d0] : List Dat).length) then (bif decide (a0_0 ≤ ((rd ([.int a1d0] : List Dat) 0).I)) then (bif decide (0 < ([.int a1d0] : List Dat).length) then (some [.bool (decide (((rd ([.int a1d0] : List Dat) 0).I) ≤ a0_1))]) else none) else (some [.bool false])) else none : R) = some r) : E C 76 [.agg [.int .i64 a0_0, .int .i64 a0_1], .sref 3 ([.int a1d0] : List Dat) 0 0] = some r := E_st h (Cont.bif (Cont.bif (Cont.bif (Cont.const _) Cont.nn) (Cont.const _)) Cont.nn) fun φ => by kernel_rfl
end Go.Proofs.YtlofoifcdmeopaaGreatDoor.V
namespace Go.Proofs.YtlofoifcdmeopaaGreatDoor.V
open Go Go.Ev Go.RowKit
set_option linter.unusedVariables false
set_option linter.unusedSimpArgs false
theorem rsA (a b : List (Int × Int)) : rs (a ++ b) = rs a ++ rs b := List.map_append
theorem rs1 (p : Int × Int) : ([.agg [.int p.1, .int p.2]] : List Dat) = rs [p] := rfl
theorem rs_at (pre : List (Int × Int)) (r : Int × Int) (rest : List (Int × Int)) : rd (rs (pre ++ r :: rest)) pre.length = .agg [.int r.1, .int r.2] := by
  rw [rs_rd _ _ (by simp)]
  simp
theorem rs_set (done : List (Int × Int)) (c d : Int × Int) : (rs (done ++ [c])).set done.length (.agg [.int d.1, .int d.2]) = rs (done ++ [d]) := by
  unfold rs prs
  simp
theorem clip_E (a b : Int) : E C 113 [.agg [.int .i64 a, .int .i64 b]] = some [.agg [.int (mx a 0), .int (mn b 1114367)], .bool (decide (mx a 0 ≤ mn b 1114367))] := by
  apply o113
  rfl
theorem Sort_rs (l : List (Int × Int)) (h : l.length < 4611686018427387904) : E C 114 [.shr 82 (rs l), .clo 115 [] []] = some [.list (rs (sortP l))] := by
  refine E_given (h := gSortR 82 115) (by kernel_rfl) ?_
  simp only [gSortR]
  rw [rs_len, decide_eq_true h]
  show some [Dat.list (prs (sortP (unprs (prs l))))] = _
  rw [unprs_prs]
theorem Make_l2 (v0 v2 v12 : List Dat) (v13 v14 : Int) (xs : List (Int × Int)) (hx : ∀ r ∈ xs, okR r) (hlen : xs.length < 8796093022208) : ∀ (rest pre done : List (Int × Int)) (c : Int × Int), xs = pre ++ rest → done.length + 1 ≤ pre.length → 0 ≤ c.2 ∧ c.2 ≤ 1114367 →
    M77_2 v0 v2 (rs xs) (rs (done ++ [c])) v12 v13 v14 (xs.length : Int) (pre.length : Int) = some [.list (rs (done ++ mg c rest))] := by
  have hc16 : capB 16 = 8796093022208 := by decide
  intro rest
  induction rest with
  | nil =>
    intro pre done c hxs hd hc
    rw [List.append_nil] at hxs
    subst hxs
    apply M77_2_of
    rw [dF (by omega)]
    rfl
  | cons r rest ih =>
    intro pre done c hxs hd hc
    have hl : xs.length = pre.length + (rest.length + 1) := by rw [hxs]; simp
    have hrx : okR r := hx r (by rw [hxs]; simp)
    unfold okR at hrx
    have hat : rd (rs xs) pre.length = .agg [.int r.1, .int r.2] := by rw [hxs]; exact rs_at _ _ _
    have hdl : (rs (done ++ [c])).length = done.length + 1 := by rw [rs_len]; simp
    have hdc : rd (rs (done ++ [c])) done.length = .agg [.int c.1, .int c.2] := rs_at done c []
    have ew : IntKind.i64.wrap (((done.length + 1 : Nat) : Int) - 1) = ((done.length : Nat) : Int) := by rw [w64 (by omega) (by omega)]; omega
    have ek : IntKind.i64.wrap ((pre.length : Int) + 1) = (((pre ++ [r]).length : Nat) : Int) := by rw [w64 (by omega) (by omega)]; simp
    apply M77_2_of
    rw [rs_len, dT (by omega), ixT ⟨by omega, by omega⟩, hdl, dT (by omega), ew, Int.toNat_natCast, Int.toNat_natCast]
    rw [dT (by omega), dT (by omega), dT (by omega), hat, hdc]
    simp only [aggC0, aggC1, datI]
    rw [w64 (n := c.2 + 1) (by omega) (by omega), ek]
    by_cases h : r.1 ≤ c.2 + 1
    · rw [dT h, dT (by omega), dT (by omega), dT (by omega), dT (by omega), dT (by omega), dT (by omega)]
      have e1 := rs_set done c (c.1, mx c.2 r.2)
      have e2 : (if r.2 > c.2 then r.2 else c.2) = mx c.2 r.2 := rfl
      rw [e2]
      dsimp only at e1
      rw [e1]
      refine (ih (pre ++ [r]) done (c.1, mx c.2 r.2) (by rw [hxs]; simp) (by simp; omega) (by unfold mx; dsimp only; split <;> omega)).trans ?_
      have : mg c (r :: rest) = mg (c.1, mx c.2 r.2) rest := by rw [mg, if_pos h]
      rw [this]
    · rw [dF h, dT (by rw [List.length_singleton]; omega), rs1 r, ← rsA]
      refine (ih (pre ++ [r]) (done ++ [c]) r (by rw [hxs]; simp) (by simp; omega) ⟨by omega, by omega⟩).trans ?_
      have : mg c (r :: rest) = c :: mg r rest := by rw [mg, if_neg h]
      rw [this]
      simp
theorem Make_l2_top (v0 v2 v12 : List Dat) (v13 v14 : Int) (xs : List (Int × Int)) (hx : ∀ r ∈ xs, okR r) (hlen : xs.length < 8796093022208) : M77_2 v0 v2 (rs xs) [] v12 v13 v14 (xs.length : Int) 0 = some [.list (rs (mgT xs))] := by
  have hc16 : capB 16 = 8796093022208 := by decide
  cases xs with
  | nil =>
    apply M77_2_of
    rw [dF (by simp)]
    rfl
  | cons r rest =>
    have hrx := hx r (by simp)
    unfold okR at hrx
    have hl : (r :: rest).length = rest.length + 1 := rfl
    apply M77_2_of
    rw [rs_len, dT (by omega), dT (by omega), dT (by omega), dT (by omega), dF (by simp)]
    have hat : rd (rs (r :: rest)) (0 : Int).toNat = .agg [.int r.1, .int r.2] := rs_at [] r rest
    rw [hat]
    simp only [aggC0, aggC1, datI]
    rw [dT (by rw [List.length_singleton, List.length_nil]; omega), List.nil_append, rs1 r, show IntKind.i64.wrap (0 + 1) = ((([r] : List (Int × Int)).length : Nat) : Int) from by rw [w64 (by omega) (by omega)]; rfl]
    exact Make_l2 v0 v2 v12 v13 v14 (r :: rest) hx hlen rest [r] [] r rfl (by simp) ⟨by omega, by omega⟩
theorem Make_l1 (v0 v2 : List Dat) (xs : List (Int × Int)) (hlen : xs.length < 8796093022208) : ∀ (rest pre acc : List (Int × Int)), xs = pre ++ rest → acc.length ≤ pre.length → (∀ r ∈ acc, okR r) →
    M77_1 v0 v2 (rs acc) (rs xs) (xs.length : Int) (pre.length : Int) = some [.list (rs (mgT (sortP (acc ++ rest.filterMap clipR))))] := by
  have hc16 : capB 16 = 8796093022208 := by decide
  intro rest
  induction rest with
  | nil =>
    intro pre acc hxs ha hok
    rw [List.append_nil] at hxs
    subst hxs
    apply M77_1_of
    rw [dF (by omega), bT (Sort_rs acc (by omega))]
    simp only [rd0, datL, rs_len]
    refine (Make_l2_top _ _ _ _ _ (sortP acc) (fun r hr => hok r (mem_sortP.1 hr)) (by rw [sortP_length]; omega)).trans ?_
    simp
  | cons r rest ih =>
    intro pre acc hxs ha hok
    have hl : xs.length = pre.length + (rest.length + 1) := by rw [hxs]; simp
    have hat : rd (rs xs) pre.length = .agg [.int r.1, .int r.2] := by rw [hxs]; exact rs_at _ _ _
    have ek : IntKind.i64.wrap ((pre.length : Int) + 1) = (((pre ++ [r]).length : Nat) : Int) := by rw [w64 (by omega) (by omega)]; simp
    apply M77_1_of
    rw [rs_len, dT (by omega), ixT ⟨by omega, by omega⟩, Int.toNat_natCast, hat]
    simp only [aggC0, aggC1, datI]
    rw [bT (clip_E r.1 r.2), ek]
    simp only [rd0, rd1, datB, aggC0, aggC1, datI]
    by_cases h : mx r.1 0 ≤ mn r.2 1114367
    · have hcl : clipR r = some (mx r.1 0, mn r.2 1114367) := if_pos h
      rw [dT h, rs_len, dT (by rw [List.length_singleton]; omega), rs1 (mx r.1 0, mn r.2 1114367), ← rsA]
      refine (ih (pre ++ [r]) (acc ++ [(mx r.1 0, mn r.2 1114367)]) (by rw [hxs]; simp) (by simp; omega) (fun q hq => ?_)).trans ?_
      · rcases List.mem_append.1 hq with hq | hq
        · exact hok q hq
        · rw [List.mem_singleton.1 hq]
          exact okR_clip hcl
      · rw [List.filterMap_cons, hcl]
        simp
    · have hcl : clipR r = none := if_neg h
      rw [dF h]
      refine (ih (pre ++ [r]) acc (by rw [hxs]; simp) (by simp; omega) hok).trans ?_
      rw [List.filterMap_cons, hcl]
theorem Make_E (l : List (Int × Int)) (hlen : l.length < 8796093022208) : E C 77 [.shr 82 (rs l)] = some [.list (rs (mk l))] := by
  apply o77
  rw [rs_len]
  refine (Make_l1 _ _ l hlen l [] [] rfl (Nat.le_refl _) (fun r hr => by cases hr)).trans ?_
  rfl
theorem Equal_l1 (v4 : Bool) (xs ys : List (Int × Int)) (hlen : xs.length < 8796093022208) (hl : xs.length = ys.length) : ∀ (d k : Nat), xs.length - k = d → k ≤ xs.length →
    M118_1 (rs xs) (rs ys) v4 (xs.length : Int) (k : Int) = some [.bool (decide (xs.drop k = ys.drop k))] := by
  intro d
  induction d with
  | zero =>
    intro k hd hk
    apply M118_1_of
    rw [dF (by omega), List.drop_of_length_le (by omega), List.drop_of_length_le (by omega)]
    simp
  | succ d ih =>
    intro k hd hk
    have h1 : k < xs.length := by omega
    have h2 : k < ys.length := by omega
    apply M118_1_of
    rw [rs_len, rs_len, dT (by omega), ixT ⟨by omega, by omega⟩, ixT ⟨by omega, by omega⟩, Int.toNat_natCast, rs_rd xs k h1, rs_rd ys k h2]
    simp only [aggC0, aggC1, datI]
    rw [show IntKind.i64.wrap ((k : Int) + 1) = ((k + 1 : Nat) : Int) from by rw [w64 (by omega) (by omega)]; omega, ih (k + 1) (by omega) (by omega), List.drop_eq_getElem_cons h1, List.drop_eq_getElem_cons h2]
    by_cases e : xs[k] = ys[k]
    · rw [e, nF (by simp)]
      congr 3
      rw [decide_eq_decide, List.cons.injEq]
      simp only [true_and]
    · rw [nT, decide_eq_false]
      · intro h
        exact e (List.cons.inj h).1
      · rw [Bool.and_true, Bool.and_eq_false_iff]
        by_cases e1 : (xs[k]).1 = (ys[k]).1
        · exact .inr (beq_false_of_ne fun e2 => e (Prod.ext e1 e2))
        · exact .inl (beq_false_of_ne e1)
theorem Equal_E (a b : List (Int × Int)) (hlen : a.length < 8796093022208) : E C 118 [.shr 82 (rs a), .shr 82 (rs b)] = some [.bool (decide (a = b))] := by
  apply o118
  rw [rs_len, rs_len]
  by_cases h : a.length = b.length
  · rw [neF (by omega)]
    exact Equal_l1 false a b hlen h _ 0 rfl (by omega)
  · rw [neT (by omega), decide_eq_false (fun e => h (by rw [e]))]
theorem Right_E (l : List (Int × Int)) (hlen : l.length < 8796093022208) : E C 153 [.shr 82 (rs l)] = some [.bool (leastB l)] := by
  apply o153
  rw [bT (Make_E l hlen)]
  simp only [rd0, datL]
  rw [bT (Equal_E l (mk l) hlen)]
  simp only [rd0, datB]
  have : decide (l = mk l) = leastB l := by
    rw [Bool.eq_iff_iff, decide_eq_true_eq, leastB_iff, ← mk_eq_iff]
    exact eq_comm
  rw [this]
end Go.Proofs.YtlofoifcdmeopaaGreatDoor.V
namespace Go.Proofs.YtlofoifcdmeopaaGreatDoor.V
open Go Go.Ev Go.RowKit
set_option linter.unusedVariables false
set_option linter.unusedSimpArgs false
theorem Not_l1 (v0 v2 : List Dat) (xs : List (Int × Int)) (hx : ∀ r ∈ xs, okR r) (hlen : xs.length + 1 < 8796093022208) : ∀ (rest pre acc : List (Int × Int)) (n : Int), xs = pre ++ rest → acc.length ≤ pre.length → 0 ≤ n ∧ n ≤ 1114368 →
    M167_1 v0 v2 (rs acc) n (rs xs) (xs.length : Int) (pre.length : Int) = some [.list (rs (acc ++ notL n rest))] := by
  have hc16 : capB 16 = 8796093022208 := by decide
  intro rest
  induction rest with
  | nil =>
    intro pre acc n hxs ha hn
    rw [List.append_nil] at hxs
    subst hxs
    apply M167_1_of
    rw [dF (by omega)]
    unfold notL
    by_cases h : n ≤ 1114367
    · rw [dT h, if_pos h, rs_len, dT (by rw [List.length_singleton]; omega), rs1 (n, 1114367), ← rsA]
    · rw [dF h, if_neg h, List.append_nil]
  | cons r rest ih =>
    intro pre acc n hxs ha hn
    have hl : xs.length = pre.length + (rest.length + 1) := by rw [hxs]; simp
    have hrx : okR r := hx r (by rw [hxs]; simp)
    unfold okR at hrx
    have hat : rd (rs xs) pre.length = .agg [.int r.1, .int r.2] := by rw [hxs]; exact rs_at _ _ _
    have ek : IntKind.i64.wrap ((pre.length : Int) + 1) = (((pre ++ [r]).length : Nat) : Int) := by rw [w64 (by omega) (by omega)]; simp
    apply M167_1_of
    rw [rs_len, dT (by omega), ixT ⟨by omega, by omega⟩, Int.toNat_natCast, hat]
    simp only [aggC0, aggC1, datI]
    rw [ek, w64 (n := r.1 - 1) (by omega) (by omega), w64 (n := r.2 + 1) (by omega) (by omega)]
    unfold notL
    by_cases h : r.1 > n
    · rw [dT h, if_pos h, rs_len, dT (by rw [List.length_singleton]; omega), rs1 (n, r.1 - 1), ← rsA]
      refine (ih (pre ++ [r]) (acc ++ [(n, r.1 - 1)]) (r.2 + 1) (by rw [hxs]; simp) (by simp; omega) ⟨by omega, by omega⟩).trans ?_
      simp
    · rw [dF h, if_neg h]
      exact ih (pre ++ [r]) acc (r.2 + 1) (by rw [hxs]; simp) (by simp; omega) ⟨by omega, by omega⟩
theorem Not_E (l : List (Int × Int)) (hlen : l.length + 1 < 8796093022208) : E C 167 [.shr 82 (rs l)] = some [.list (rs (notR l))] := by
  have h := mk_length l
  apply o167
  rw [bT (Make_E l (by omega))]
  simp only [rd0, datL, rs_len]
  exact Not_l1 _ _ (mk l) (mk_least l).1 (by omega) (mk l) [] [] 0 rfl (Nat.le_refl _) (by omega)
theorem Has1_E (a b x : Int) : E C 76 [.agg [.int .i64 a, .int .i64 b], .sref 3 ([.int x] : List Dat) 0 0] = some [.bool (inR x (a, b))] := by
  apply o76_a
  rw [dT (by simp)]
  simp only [rd0, datI, inR]
  by_cases h : a ≤ x
  · rw [dT h, dT (by simp), decide_eq_true h]; rfl
  · rw [dF h, decide_eq_false h]; rfl
theorem Idx_loop (l : List (Int × Int)) (x : Int) (hl : l.length ≤ 140737488351232) (v4 : Int) : ∀ (d k : Nat), l.length - k = d → k ≤ l.length →
    ∃ r : Int, M112_a_1 (rs l) x v4 (l.length : Int) (k : Int) = some [.int r] ∧ (0 ≤ r ↔ (l.drop k).any (inR x) = true) := by
  intro d
  induction d with
  | zero =>
    intro k hd hk
    refine ⟨-1, ?_, ?_⟩
    · apply M112_a_1_of
      rw [dF (by omega)]
    · rw [List.drop_of_length_le (by omega)]
      simp
  | succ d ih =>
    intro k hd hk
    have hlt : k < l.length := by omega
    obtain ⟨r, h1, h2⟩ := ih (k + 1) (by omega) (by omega)
    have hdr : l.drop k = l[k] :: l.drop (k + 1) := List.drop_eq_getElem_cons hlt
    have e := Has1_E (l[k]).1 (l[k]).2 x
    rw [show ((l[k]).1, (l[k]).2) = l[k] from rfl] at e
    cases hb : inR x l[k] with
    | true =>
      refine ⟨k, ?_, ?_⟩
      · apply M112_a_1_of
        rw [rs_len, dT (by omega), dT (by omega), dT (by omega), dT (by omega), Int.toNat_natCast, rs_rd l k hlt]
        rw [hb] at e
        refine (bT e).trans ?_
        rfl
      · rw [hdr, List.any_cons, hb]
        simp
    | false =>
      refine ⟨r, ?_, ?_⟩
      · apply M112_a_1_of
        rw [rs_len, dT (by omega), dT (by omega), dT (by omega), dT (by omega), Int.toNat_natCast, rs_rd l k hlt]
        rw [hb] at e
        refine (bT e).trans ?_
        simp only [rd0, datB, cond_false]
        rw [w64 (by omega) (by omega)]
        exact h1
      · rw [hdr, List.any_cons, hb, h2]
        simp
theorem Has_E (l : List (Int × Int)) (x : Int) (hl : l.length ≤ 140737488351232) : E C 32 [.shr 82 (rs l), .int .i64 x] = some [.bool (hasB l x)] := by
  apply o32
  unfold hasB
  by_cases h0 : x < 0
  · rw [dT h0, decide_eq_false (show ¬ 0 ≤ x by omega)]; rfl
  rw [dF h0, decide_eq_true (show 0 ≤ x by omega)]
  by_cases h1 : x > 1114367
  · rw [dT h1, decide_eq_false (show ¬ x ≤ 1114367 by omega)]; rfl
  rw [dF h1, decide_eq_true (show x ≤ 1114367 by omega)]
  obtain ⟨r, k1, k2⟩ := Idx_loop l x hl 0 l.length 0 (by omega) (by omega)
  have e1 : E C 112 [.shr 82 (rs l), .clo 76 [] [.sref 3 ([.int x] : List Dat) 0 0]] = some [.int r] := by
    apply o112_a
    rw [rs_len]
    exact k1
  have e2 : E C 75 [.shr 82 (rs l), .clo 76 [] [.sref 3 ([.int x] : List Dat) 0 0]] = some [.bool (decide (r ≥ 0))] := by
    apply o75_a
    rw [bT e1]
    rfl
  rw [bT e2]
  simp only [rd0, datB]
  rw [List.drop_zero] at k2
  have : decide (r ≥ 0) = l.any (inR x) := by
    cases h : l.any (inR x) with
    | true => exact decide_eq_true (k2.2 h)
    | false => exact decide_eq_false (fun hr => by rw [k2.1 hr] at h; cases h)
  rw [this]
  rfl
end Go.Proofs.YtlofoifcdmeopaaGreatDoor.V
namespace Go.Proofs.YtlofoifcdmeopaaGreatDoor.V
open Go Go.Ev
set_option maxRecDepth 100000
set_option linter.unusedVariables false
/-- clew/fold.Close -/
noncomputable def f231 : Func := Tryz.f231
def kp231 : List Nat := [0, 2, 3, 5, 7, 10, 11, 12, 21, 22, 23]
noncomputable def c231 (p : List Nat) : Code := pick f231 p
noncomputable def L231_2 (n : Nat) (m1 : Nat) (m2 : Nat) (v0 v2 v3 : List Dat) (v5 : Int) (v10 : List Dat) (v11 v12 : Int) (v21 : List Dat) (v22 v23 : Int) : R := loopIter (fun E K => evCode C (ev C n) n kp231 (c231 [1, 1, 0, 1, 0, 0, 1, 1, 0, 0, 1, 1, 1, 0, 0]) E K) [0, 2, 3, 5, 10, 11, 12, 21, 22, 23] (Kblk 2 (Kblk 1 (Kseq C (ev C n) n kp231 (c231 [1, 1, 0, 1, 0, 0, 1, 1, 1]) (Klop (fun E K => evCode C (ev C n) n kp231 (c231 [1, 1, 0, 1, 0, 0]) E K) [0, 2, 3, 10, 11, 12] (Kblk 0 (Kseq C (ev C n) n kp231 (c231 [1, 1, 1]) (Ktop C 231 f231 [.und]))) m1)))) m2 (cn [.shr 82 v0, .und, .own 2 0 82 v2, .own 3 0 82 v3, .und, .int .i64 v5] (un 4 (cn [.shr 3 v10, .int .i64 v11, .int .i64 v12] (un 8 (cn [.own 21 0 3 v21, .int .i64 v22, .int .i64 v23] (un 13 []))))))
noncomputable def M231_2 (v0 v2 v3 : List Dat) (v5 : Int) (v10 : List Dat) (v11 v12 : Int) (v21 : List Dat) (v22 v23 : Int) : R := lim fun φ => L231_2 (φ 0) (φ 1) (φ 2) v0 v2 v3 v5 v10 v11 v12 v21 v22 v23
theorem M231_2_c (v0 v2 v3 : List Dat) (v5 : Int) (v10 : List Dat) (v11 v12 : Int) (v21 : List Dat) (v22 v23 : Int) : Cont (fun φ => L231_2 (φ 0) (φ 1) (φ 2) v0 v2 v3 v5 v10 v11 v12 v21 v22 v23) (M231_2 v0 v2 v3 v5 v10 v11 v12 v21 v22 v23) := Cont.re id _
theorem M231_2_e (v0 v2 v3 : List Dat) (v5 : Int) (v10 : List Dat) (v11 v12 : Int) (v21 : List Dat) (v22 v23 : Int) : Cont (fun φ => L231_2 (φ 0) (φ 1) (φ 0) v0 v2 v3 v5 v10 v11 v12 v21 v22 v23) (M231_2 v0 v2 v3 v5 v10 v11 v12 v21 v22 v23) := Cont.re (toZ 2) fun φ => L231_2 (φ 0) (φ 1) (φ 2) v0 v2 v3 v5 v10 v11 v12 v21 v22 v23
noncomputable def L231_1 (n : Nat) (m1 : Nat) (v0 v2 v3 v10 : List Dat) (v11 v12 : Int) : R := loopIter (fun E K => evCode C (ev C n) n kp231 (c231 [1, 1, 0, 1, 0, 0]) E K) [0, 2, 3, 10, 11, 12] (Kblk 0 (Kseq C (ev C n) n kp231 (c231 [1, 1, 1]) (Ktop C 231 f231 [.und]))) m1 (cn [.shr 82 v0, .und, .own 2 0 82 v2, .own 3 0 82 v3] (un 6 (cn [.shr 3 v10, .int .i64 v11, .int .i64 v12] (un 24 []))))
noncomputable def M231_1 (v0 v2 v3 v10 : List Dat) (v11 v12 : Int) : R := lim fun φ => L231_1 (φ 0) (φ 1) v0 v2 v3 v10 v11 v12
theorem M231_1_c (v0 v2 v3 v10 : List Dat) (v11 v12 : Int) : Cont (fun φ => L231_1 (φ 0) (φ 1) v0 v2 v3 v10 v11 v12) (M231_1 v0 v2 v3 v10 v11 v12) := Cont.re id _
theorem M231_1_e (v0 v2 v3 v10 : List Dat) (v11 v12 : Int) : Cont (fun φ => L231_1 (φ 0) (φ 0) v0 v2 v3 v10 v11 v12) (M231_1 v0 v2 v3 v10 v11 v12) := Cont.re (toZ 1) fun φ => L231_1 (φ 0) (φ 1) v0 v2 v3 v10 v11 v12
theorem M231_2_of (v0 v2 v3 : List Dat) (v5 : Int) (v10 : List Dat) (v11 v12 : Int) (v21 : List Dat) (v22 v23 : Int) {r : List Dat} (h : (bif decide (v23 < v22) then (bif decide (0 ≤ v23) then (bif decide (v23 < (v21.length : Int)) then (bif decide (v23.toNat < v21.length) then (bif decide (v3.length + ([.agg [.int ((rd v21 v23.toNat).I), .int ((rd v21 v23.toNat).I)]] : List Dat).length ≤ capB 16) then (M231_2 v0 v2 (v3 ++ ([.agg [.int ((rd v21 v23.toNat).I), .int ((rd v21 v23.toNat).I)]] : List Dat)) v5 v10 v11 v12 v21 v22 (IntKind.i64.wrap (v23 + 1))) else none) else none) else none) else none) else (M231_1 v0 v2 v3 v10 v11 (IntKind.i64.wrap (v12 + 1))) : R) = some r) : M231_2 v0 v2 v3 v5 v10 v11 v12 v21 v22 v23 = some r := lim_st (g := fun φ => L231_2 (φ 0) (φ 1) (φ 2) v0 v2 v3 v5 v10 v11 v12 v21 v22 v23) 2 h (Cont.bif (Cont.bif (Cont.bif (Cont.bif (Cont.bif (M231_2_c _ _ _ _ _ _ _ _ _ _) Cont.nn) Cont.nn) Cont.nn) Cont.nn) (M231_1_c _ _ _ _ _ _)) fun φ m hm => (congrArg (fun q => L231_2 (φ 0) (φ 1) q v0 v2 v3 v5 v10 v11 v12 v21 v22 v23) hm).trans (by kernel_rfl)
theorem M231_1_of (v0 v2 v3 v10 : List Dat) (v11 v12 : Int) {r : List Dat} (h : (bif decide (v12 < v11) then (bif decide (0 ≤ v12) then (bif decide (v12 < (v10.length : Int)) then (bif decide (v12.toNat < v10.length) then ((E C 32 [.shr 82 v0, .int .i64 ((rd v10 v12.toNat).I)]).bind fun d3 => (bif !((rd d3 0).B) then (M231_1 v0 v2 v3 v10 v11 (IntKind.i64.wrap (v12 + 1))) else ((E C 252 [.int .i64 ((rd v10 v12.toNat).I)]).bind fun d4 => (M231_2 v0 v2 v3 ((rd v10 v12.toNat).I) v10 v11 v12 ((rd d4 0).L) (((rd d4 0).L).length : Int) 0)))) else none) else none) else none) else ((E C 77 [.shr 82 v3]).bind fun d5 => (some [.list ((rd d5 0).L)])) : R) = some r) : M231_1 v0 v2 v3 v10 v11 v12 = some r := lim_st (g := fun φ => L231_1 (φ 0) (φ 1) v0 v2 v3 v10 v11 v12) 1 h (Cont.bif (Cont.bif (Cont.bif (Cont.bif (Cont.bind (Cont.call C 32 _) fun _ => (Cont.bif (M231_1_c _ _ _ _ _ _) (Cont.bind (Cont.call C 252 _) fun _ => (M231_2_e _ _ _ _ _ _ _ _ _ _)))) Cont.nn) Cont.nn) Cont.nn) (Cont.bind (Cont.call C 77 _) fun _ => (Cont.const _))) fun φ m hm => (congrArg (fun q => L231_1 (φ 0) q v0 v2 v3 v10 v11 v12) hm).trans (by kernel_rfl)
theorem o231 (a0 : List Dat) {r : List Dat} (h : ((E C 250 [.shr 82 a0]).bind fun d1 => ((E C 251 []).bind fun d2 => (M231_1 a0 ([] : List Dat) ((rd d1 0).L) ((rd d2 0).L) (((rd d2 0).L).length : Int) 0)) : R) = some r) : E C 231 [.shr 82 a0] = some r := E_st h (Cont.bind (Cont.call C 250 _) fun _ => (Cont.bind (Cont.call C 251 _) fun _ => (M231_1_e _ _ _ _ _ _))) fun φ => by kernel_rfl
/-- clew/fold.cased -/
noncomputable def f251 : Func := Tryz.f251
def kp251 : List Nat := [0, 1, 3, 4, 6, 7, 8, 9, 32, 33, 34]
noncomputable def c251 (p : List Nat) : Code := pick f251 p
noncomputable def L251_2 (n : Nat) (m1 : Nat) (m2 : Nat) (v0 v1 : List Dat) (v3_0 v3_1 v3_2 v3_3 v4 : Int) (v7 : List Dat) (v8 v9 : Int) : R := loopIter (fun E K => evCode C (ev C n) n kp251 (c251 [1, 1, 0, 1, 0, 0, 1, 1, 0, 0, 1, 1, 0, 0]) E K) [0, 1, 3, 4, 7, 8, 9] (Kblk 2 (Kblk 1 (Kseq C (ev C n) n kp251 (c251 [1, 1, 0, 1, 0, 0, 1, 1, 1]) (Klop (fun E K => evCode C (ev C n) n kp251 (c251 [1, 1, 0, 1, 0, 0]) E K) [0, 1, 7, 8, 9] (Kblk 0 (Kseq C (ev C n) n kp251 (c251 [1, 1, 1]) (Ktop C 251 f251 []))) m1)))) m2 (cn [.own 0 0 3 v0, .own 1 0 3 v1, .und, .box 311 [.int .i64 v3_0, .int .i64 v3_1, .int .i64 v3_2, .int .i64 v3_3], .int .i64 v4, .und, .und, .shr 311 v7, .int .i64 v8, .int .i64 v9] (un 37 []))
noncomputable def M251_2 (v0 v1 : List Dat) (v3_0 v3_1 v3_2 v3_3 v4 : Int) (v7 : List Dat) (v8 v9 : Int) : R := lim fun φ => L251_2 (φ 0) (φ 1) (φ 2) v0 v1 v3_0 v3_1 v3_2 v3_3 v4 v7 v8 v9
theorem M251_2_c (v0 v1 : List Dat) (v3_0 v3_1 v3_2 v3_3 v4 : Int) (v7 : List Dat) (v8 v9 : Int) : Cont (fun φ => L251_2 (φ 0) (φ 1) (φ 2) v0 v1 v3_0 v3_1 v3_2 v3_3 v4 v7 v8 v9) (M251_2 v0 v1 v3_0 v3_1 v3_2 v3_3 v4 v7 v8 v9) := Cont.re id _
theorem M251_2_e (v0 v1 : List Dat) (v3_0 v3_1 v3_2 v3_3 v4 : Int) (v7 : List Dat) (v8 v9 : Int) : Cont (fun φ => L251_2 (φ 0) (φ 1) (φ 0) v0 v1 v3_0 v3_1 v3_2 v3_3 v4 v7 v8 v9) (M251_2 v0 v1 v3_0 v3_1 v3_2 v3_3 v4 v7 v8 v9) := Cont.re (toZ 2) fun φ => L251_2 (φ 0) (φ 1) (φ 2) v0 v1 v3_0 v3_1 v3_2 v3_3 v4 v7 v8 v9
noncomputable def L251_3 (n : Nat) (m1 : Nat) (v0 v1 v7 : List Dat) (v8 v9 : Int) (v32 : List Dat) (v33 v34 : Int) : R := loopIter (fun E K => evCode C (ev C n) n kp251 (c251 [1, 1, 1, 0, 1, 0, 0]) E K) [0, 1, 7, 8, 9, 32, 33, 34] (Kblk 4 (Kseq C (ev C n) n kp251 (c251 [1, 1, 1, 1]) (Ktop C 251 f251 []))) m1 (cn [.own 0 0 3 v0, .own 1 0 3 v1] (un 5 (cn [.shr 311 v7, .int .i64 v8, .int .i64 v9] (un 22 (cn [.shr 315 v32, .int .i64 v33, .int .i64 v34] (un 12 []))))))
noncomputable def M251_3 (v0 v1 v7 : List Dat) (v8 v9 : Int) (v32 : List Dat) (v33 v34 : Int) : R := lim fun φ => L251_3 (φ 0) (φ 1) v0 v1 v7 v8 v9 v32 v33 v34
theorem M251_3_c (v0 v1 v7 : List Dat) (v8 v9 : Int) (v32 : List Dat) (v33 v34 : Int) : Cont (fun φ => L251_3 (φ 0) (φ 1) v0 v1 v7 v8 v9 v32 v33 v34) (M251_3 v0 v1 v7 v8 v9 v32 v33 v34) := Cont.re id _
theorem M251_3_e (v0 v1 v7 : List Dat) (v8 v9 : Int) (v32 : List Dat) (v33 v34 : Int) : Cont (fun φ => L251_3 (φ 0) (φ 0) v0 v1 v7 v8 v9 v32 v33 v34) (M251_3 v0 v1 v7 v8 v9 v32 v33 v34) := Cont.re (toZ 1) fun φ => L251_3 (φ 0) (φ 1) v0 v1 v7 v8 v9 v32 v33 v34
noncomputable def L251_1 (n : Nat) (m1 : Nat) (v0 v1 v7 : List Dat) (v8 v9 : Int) : R := loopIter (fun E K => evCode C (ev C n) n kp251 (c251 [1, 1, 0, 1, 0, 0]) E K) [0, 1, 7, 8, 9] (Kblk 0 (Kseq C (ev C n) n kp251 (c251 [1, 1, 1]) (Ktop C 251 f251 []))) m1 (cn [.own 0 0 3 v0, .own 1 0 3 v1] (un 5 (cn [.shr 311 v7, .int .i64 v8, .int .i64 v9] (un 37 []))))
noncomputable def M251_1 (v0 v1 v7 : List Dat) (v8 v9 : Int) : R := lim fun φ => L251_1 (φ 0) (φ 1) v0 v1 v7 v8 v9
theorem M251_1_c (v0 v1 v7 : List Dat) (v8 v9 : Int) : Cont (fun φ => L251_1 (φ 0) (φ 1) v0 v1 v7 v8 v9) (M251_1 v0 v1 v7 v8 v9) := Cont.re id _
theorem M251_1_e (v0 v1 v7 : List Dat) (v8 v9 : Int) : Cont (fun φ => L251_1 (φ 0) (φ 0) v0 v1 v7 v8 v9) (M251_1 v0 v1 v7 v8 v9) := Cont.re (toZ 1) fun φ => L251_1 (φ 0) (φ 1) v0 v1 v7 v8 v9
theorem M251_2_of (v0 v1 : List Dat) (v3_0 v3_1 v3_2 v3_3 v4 : Int) (v7 : List Dat) (v8 v9 : Int) {r : List Dat} (h : (bif decide (v4 ≤ v3_1) then (bif decide (v1.length + ([.int v4, .int (IntKind.i64.wrap (v4 + v3_3))] : List Dat).length ≤ capB 8) then (M251_2 v0 (v1 ++ ([.int v4, .int (IntKind.i64.wrap (v4 + v3_3))] : List Dat)) v3_0 v3_1 v3_2 v3_3 (IntKind.i64.wrap (v4 + v3_2)) v7 v8 v9) else none) else (M251_1 v0 v1 v7 v8 (IntKind.i64.wrap (v9 + 1))) : R) = some r) : M251_2 v0 v1 v3_0 v3_1 v3_2 v3_3 v4 v7 v8 v9 = some r := lim_st (g := fun φ => L251_2 (φ 0) (φ 1) (φ 2) v0 v1 v3_0 v3_1 v3_2 v3_3 v4 v7 v8 v9) 2 h (Cont.bif (Cont.bif (M251_2_c _ _ _ _ _ _ _ _ _ _) Cont.nn) (M251_1_c _ _ _ _ _)) fun φ m hm => (congrArg (fun q => L251_2 (φ 0) (φ 1) q v0 v1 v3_0 v3_1 v3_2 v3_3 v4 v7 v8 v9) hm).trans (by kernel_rfl)
theorem M251_3_of (v0 v1 v7 : List Dat) (v8 v9 : Int) (v32 : List Dat) (v33 v34 : Int) {r : List Dat} (h : (bif decide (v34 < v33) then (bif decide (0 ≤ v34) then (bif decide (v34 < (v32.length : Int)) then (bif decide (v34.toNat < v32.length) then (bif decide (v1.length + ([.int (((rd v32 v34.toNat).C 0).I), .int (((rd v32 v34.toNat).C 1).I)] : List Dat).length ≤ capB 8) then (M251_3 v0 (v1 ++ ([.int (((rd v32 v34.toNat).C 0).I), .int (((rd v32 v34.toNat).C 1).I)] : List Dat)) v7 v8 v9 v32 v33 (IntKind.i64.wrap (v34 + 1))) else none) else none) else none) else none) else (some [.list v1]) : R) = some r) : M251_3 v0 v1 v7 v8 v9 v32 v33 v34 = some r := lim_st (g := fun φ => L251_3 (φ 0) (φ 1) v0 v1 v7 v8 v9 v32 v33 v34) 1 h (Cont.bif (Cont.bif (Cont.bif (Cont.bif (Cont.bif (M251_3_c _ _ _ _ _ _ _ _) Cont.nn) Cont.nn) Cont.nn) Cont.nn) (Cont.const _)) fun φ m hm => (congrArg (fun q => L251_3 (φ 0) q v0 v1 v7 v8 v9 v32 v33 v34) hm).trans (by kernel_rfl)
theorem M251_1_of (v0 v1 v7 : List Dat) (v8 v9 : Int) {r : List Dat} (h : (bif decide (v9 < v8) then (bif decide (0 ≤ v9) then (bif decide (v9 < (v7.length : Int)) then (bif decide (v9.toNat < v7.length) then (M251_2 v0 v1 (((rd v7 v9.toNat).C 0).I) (((rd v7 v9.toNat).C 1).I) (((rd v7 v9.toNat).C 2).I) (((rd v7 v9.toNat).C 3).I) (((rd v7 v9.toNat).C 0).I) v7 v8 v9) else none) else none) else none) else ((E C 270 []).bind fun d2 => (M251_3 v0 v1 v7 v8 v9 ((rd d2 0).L) (((rd d2 0).L).length : Int) 0)) : R) = some r) : M251_1 v0 v1 v7 v8 v9 = some r := lim_st (g := fun φ => L251_1 (φ 0) (φ 1) v0 v1 v7 v8 v9) 1 h (Cont.bif (Cont.bif (Cont.bif (Cont.bif (M251_2_e _ _ _ _ _ _ _ _ _ _) Cont.nn) Cont.nn) Cont.nn) (Cont.bind (Cont.call C 270 _) fun _ => (M251_3_e _ _ _ _ _ _ _ _))) fun φ m hm => (congrArg (fun q => L251_1 (φ 0) q v0 v1 v7 v8 v9) hm).trans (by kernel_rfl)
theorem o251 {r : List Dat} (h : ((E C 269 []).bind fun d1 => (M251_1 ([] : List Dat) ([] : List Dat) ((rd d1 0).L) (((rd d1 0).L).length : Int) 0) : R) = some r) : E C 251 [] = some r := E_st h (Cont.bind (Cont.call C 269 _) fun _ => (M251_1_e _ _ _ _ _)) fun φ => by kernel_rfl
/-- clew/fold.Orbit -/
noncomputable def f252 : Func := Tryz.f252
def kp252 : List Nat := [0, 2, 3, 4, 6, 8, 19, 20, 21, 39, 40, 41]
noncomputable def c252 (p : List Nat) : Code := pick f252 p
noncomputable def L252_2 (n : Nat) (m1 : Nat) (v0 : Int) (v2 : List Dat) (v3 : Int) (v4 v19 : List Dat) (v20 v21 : Int) (v39 : List Dat) (v40 v41 : Int) : R := loopIter (fun E K => evCode C (ev C n) n kp252 (c252 [1, 1, 1, 1, 1, 0, 1, 0, 0]) E K) [0, 2, 3, 4, 19, 20, 21, 39, 40, 41] (Kblk 2 (Kseq C (ev C n) n kp252 (c252 [1, 1, 1, 1, 1, 1]) (Ktop C 252 f252 [.und]))) m1 (cn [.int .i64 v0, .und, .own 2 0 3 v2, .int .i64 v3, .own 4 0 3 v4] (un 14 (cn [.shr 311 v19, .int .i64 v20, .int .i64 v21] (un 17 (cn [.shr 315 v39, .int .i64 v40, .int .i64 v41] (un 16 []))))))
noncomputable def M252_2 (v0 : Int) (v2 : List Dat) (v3 : Int) (v4 v19 : List Dat) (v20 v21 : Int) (v39 : List Dat) (v40 v41 : Int) : R := lim fun φ => L252_2 (φ 0) (φ 1) v0 v2 v3 v4 v19 v20 v21 v39 v40 v41
theorem M252_2_c (v0 : Int) (v2 : List Dat) (v3 : Int) (v4 v19 : List Dat) (v20 v21 : Int) (v39 : List Dat) (v40 v41 : Int) : Cont (fun φ => L252_2 (φ 0) (φ 1) v0 v2 v3 v4 v19 v20 v21 v39 v40 v41) (M252_2 v0 v2 v3 v4 v19 v20 v21 v39 v40 v41) := Cont.re id _
theorem M252_2_e (v0 : Int) (v2 : List Dat) (v3 : Int) (v4 v19 : List Dat) (v20 v21 : Int) (v39 : List Dat) (v40 v41 : Int) : Cont (fun φ => L252_2 (φ 0) (φ 0) v0 v2 v3 v4 v19 v20 v21 v39 v40 v41) (M252_2 v0 v2 v3 v4 v19 v20 v21 v39 v40 v41) := Cont.re (toZ 1) fun φ => L252_2 (φ 0) (φ 1) v0 v2 v3 v4 v19 v20 v21 v39 v40 v41
noncomputable def L252_1 (n : Nat) (m1 : Nat) (v0 : Int) (v2 : List Dat) (v3 : Int) (v4 v19 : List Dat) (v20 v21 : Int) : R := loopIter (fun E K => evCode C (ev C n) n kp252 (c252 [1, 1, 1, 1, 0, 1, 0, 0]) E K) [0, 2, 3, 4, 19, 20, 21] (Kblk 0 (Kseq C (ev C n) n kp252 (c252 [1, 1, 1, 1, 1]) (Ktop C 252 f252 [.und]))) m1 (cn [.int .i64 v0, .und, .own 2 0 3 v2, .int .i64 v3, .own 4 0 3 v4] (un 14 (cn [.shr 311 v19, .int .i64 v20, .int .i64 v21] (un 36 []))))
noncomputable def M252_1 (v0 : Int) (v2 : List Dat) (v3 : Int) (v4 v19 : List Dat) (v20 v21 : Int) : R := lim fun φ => L252_1 (φ 0) (φ 1) v0 v2 v3 v4 v19 v20 v21
theorem M252_1_c (v0 : Int) (v2 : List Dat) (v3 : Int) (v4 v19 : List Dat) (v20 v21 : Int) : Cont (fun φ => L252_1 (φ 0) (φ 1) v0 v2 v3 v4 v19 v20 v21) (M252_1 v0 v2 v3 v4 v19 v20 v21) := Cont.re id _
theorem M252_1_e (v0 : Int) (v2 : List Dat) (v3 : Int) (v4 v19 : List Dat) (v20 v21 : Int) : Cont (fun φ => L252_1 (φ 0) (φ 0) v0 v2 v3 v4 v19 v20 v21) (M252_1 v0 v2 v3 v4 v19 v20 v21) := Cont.re (toZ 1) fun φ => L252_1 (φ 0) (φ 1) v0 v2 v3 v4 v19 v20 v21
theorem M252_2_of (v0 : Int) (v2 : List Dat) (v3 : Int) (v4 v19 : List Dat) (v20 v21 : Int) (v39 : List Dat) (v40 v41 : Int) {r : List Dat} (h : (bif decide (v41 < v40) then (bif decide (0 ≤ v41) then (bif decide (v41 < (v39.length : Int)) then (bif decide (v41.toNat < v39.length) then (bif (((rd v39 v41.toNat).C 1).I) == v3 then (bif decide (v4.length + ([.int (((rd v39 v41.toNat).C 0).I)] : List Dat).length ≤ capB 8) then (M252_2 v0 v2 v3 (v4 ++ ([.int (((rd v39 v41.toNat).C 0).I)] : List Dat)) v19 v20 v21 v39 v40 (IntKind.i64.wrap (v41 + 1))) else none) else (M252_2 v0 v2 v3 v4 v19 v20 v21 v39 v40 (IntKind.i64.wrap (v41 + 1)))) else none) else none) else none) else ((E C 273 [.shr 3 v4]).bind fun d5 => (some [.list ((rd d5 0).L)])) : R) = some r) : M252_2 v0 v2 v3 v4 v19 v20 v21 v39 v40 v41 = some r := lim_st (g := fun φ => L252_2 (φ 0) (φ 1) v0 v2 v3 v4 v19 v20 v21 v39 v40 v41) 1 h (Cont.bif (Cont.bif (Cont.bif (Cont.bif (Cont.bif (Cont.bif (M252_2_c _ _ _ _ _ _ _ _ _ _) Cont.nn) (M252_2_c _ _ _ _ _ _ _ _ _ _)) Cont.nn) Cont.nn) Cont.nn) (Cont.bind (Cont.call C 273 _) fun _ => (Cont.const _))) fun φ m hm => (congrArg (fun q => L252_2 (φ 0) q v0 v2 v3 v4 v19 v20 v21 v39 v40 v41) hm).trans (by kernel_rfl)
theorem M252_1_of (v0 : Int) (v2 : List Dat) (v3 : Int) (v4 v19 : List Dat) (v20 v21 : Int) {r : List Dat} (h : (bif decide (v21 < v20) then (bif decide (0 ≤ v21) then (bif decide (v21 < (v19.length : Int)) then (bif decide (v21.toNat < v19.length) then ((E C 272 [.agg [.int .i64 (((rd v19 v21.toNat).C 0).I), .int .i64 (((rd v19 v21.toNat).C 1).I), .int .i64 (((rd v19 v21.toNat).C 2).I), .int .i64 (((rd v19 v21.toNat).C 3).I)], .int .i64 (IntKind.i64.wrap (v3 - (((rd v19 v21.toNat).C 3).I)))]).bind fun d3 => (bif (rd d3 0).B then (bif decide (v4.length + ([.int (IntKind.i64.wrap (v3 - (((rd v19 v21.toNat).C 3).I)))] : List Dat).length ≤ capB 8) then (M252_1 v0 v2 v3 (v4 ++ ([.int (IntKind.i64.wrap (v3 - (((rd v19 v21.toNat).C 3).I)))] : List Dat)) v19 v20 (IntKind.i64.wrap (v21 + 1))) else none) else (M252_1 v0 v2 v3 v4 v19 v20 (IntKind.i64.wrap (v21 + 1))))) else none) else none) else none) else ((E C 270 []).bind fun d4 => (M252_2 v0 v2 v3 v4 v19 v20 v21 ((rd d4 0).L) (((rd d4 0).L).length : Int) 0)) : R) = some r) : M252_1 v0 v2 v3 v4 v19 v20 v21 = some r := lim_st (g := fun φ => L252_1 (φ 0) (φ 1) v0 v2 v3 v4 v19 v20 v21) 1 h (Cont.bif (Cont.bif (Cont.bif (Cont.bif (Cont.bind (Cont.call C 272 _) fun _ => (Cont.bif (Cont.bif (M252_1_c _ _ _ _ _ _ _) Cont.nn) (M252_1_c _ _ _ _ _ _ _))) Cont.nn) Cont.nn) Cont.nn) (Cont.bind (Cont.call C 270 _) fun _ => (M252_2_e _ _ _ _ _ _ _ _ _ _))) fun φ m hm => (congrArg (fun q => L252_1 (φ 0) q v0 v2 v3 v4 v19 v20 v21) hm).trans (by kernel_rfl)
theorem o252 (a0 : Int) {r : List Dat} (h : (bif decide (a0 < 0) then (some [.list ([] : List Dat)]) else (bif decide (a0 > 1114367) then (some [.list ([] : List Dat)]) else ((E C 271 [.int .i64 a0]).bind fun d1 => ((E C 269 []).bind fun d2 => (M252_1 a0 ([] : List Dat) ((rd d1 0).I) ([.int ((rd d1 0).I)] : List Dat) ((rd d2 0).L) (((rd d2 0).L).length : Int) 0)))) : R) = some r) : E C 252 [.int .i64 a0] = some r := E_st h (Cont.bif (Cont.const _) (Cont.bif (Cont.const _) (Cont.bind (Cont.call C 271 _) fun _ => (Cont.bind (Cont.call C 269 _) fun _ => (M252_1_e _ _ _ _ _ _ _))))) fun φ => by kernel_rfl
theorem o269 {r : List Dat} (h : (some [.list ([.agg [.int 65, .int 90, .int 1, .int 32], .agg [.int 192, .int 214, .int 1, .int 32], .agg [.int 216, .int 222, .int 1, .int 32], .agg [.int 256, .int 302, .int 2, .int 1], .agg [.int 306, .int 310, .int 2, .int 1], .agg [.int 313, .int 327, .int 2, .int 1], .agg [.int 330, .int 374, .int 2, .int 1], .agg [.int 377, .int 381, .int 2, .int 1], .agg [.int 913, .int 929, .int 1, .int 32], .agg [.int 931, .int 939, .int 1, .int 32], .agg [.int 1024, .int 1039, .int 1, .int 80], .agg [.int 1040, .int 1071, .int 1, .int 32], .agg [.int 1120, .int 1152, .int 2, .int 1], .agg [.int 1329, .int 1366, .int 1, .int 48], .agg [.int 7680, .int 7828, .int 2, .int 1], .agg [.int 9398, .int 9423, .int 1, .int 26], .agg [.int 65313, .int 65338, .int 1, .int 32], .agg [.int 66560, .int 66599, .int 1, .int 40]] : List Dat)] : R) = some r) : E C 269 [] = some r := E_st h (Cont.const _) fun φ => by kernel_rfl
theorem o270 {r : List Dat} (h : (some [.list ([.agg [.int 181, .int 956], .agg [.int 376, .int 255], .agg [.int 383, .int 115], .agg [.int 962, .int 963], .agg [.int 8490, .int 107], .agg [.int 8491, .int 229]] : List Dat)] : R) = some r) : E C 270 [] = some r := E_st h (Cont.const _) fun φ => by kernel_rfl
/-- clew/fold.base -/
noncomputable def f271 : Func := Tryz.f271
def kp271 : List Nat := [0, 2, 4, 6, 7, 8, 9, 20, 21, 22]
noncomputable def c271 (p : List Nat) : Code := pick f271 p
noncomputable def L271_2 (n : Nat) (m1 : Nat) (v0 v2 : Int) (v7 : List Dat) (v8 v9 : Int) (v20 : List Dat) (v21 v22 : Int) : R := loopIter (fun E K => evCode C (ev C n) n kp271 (c271 [1, 1, 0, 1, 0, 0]) E K) [0, 2, 7, 8, 9, 20, 21, 22] (Kblk 2 (Kseq C (ev C n) n kp271 (c271 [1, 1, 1]) (Ktop C 271 f271 [.und]))) m1 (cn [.int .i64 v0, .und, .int .i64 v2] (un 4 (cn [.shr 315 v7, .int .i64 v8, .int .i64 v9] (un 10 (cn [.shr 311 v20, .int .i64 v21, .int .i64 v22] (un 12 []))))))
noncomputable def M271_2 (v0 v2 : Int) (v7 : List Dat) (v8 v9 : Int) (v20 : List Dat) (v21 v22 : Int) : R := lim fun φ => L271_2 (φ 0) (φ 1) v0 v2 v7 v8 v9 v20 v21 v22
theorem M271_2_c (v0 v2 : Int) (v7 : List Dat) (v8 v9 : Int) (v20 : List Dat) (v21 v22 : Int) : Cont (fun φ => L271_2 (φ 0) (φ 1) v0 v2 v7 v8 v9 v20 v21 v22) (M271_2 v0 v2 v7 v8 v9 v20 v21 v22) := Cont.re id _
theorem M271_2_e (v0 v2 : Int) (v7 : List Dat) (v8 v9 : Int) (v20 : List Dat) (v21 v22 : Int) : Cont (fun φ => L271_2 (φ 0) (φ 0) v0 v2 v7 v8 v9 v20 v21 v22) (M271_2 v0 v2 v7 v8 v9 v20 v21 v22) := Cont.re (toZ 1) fun φ => L271_2 (φ 0) (φ 1) v0 v2 v7 v8 v9 v20 v21 v22
noncomputable def L271_1 (n : Nat) (m1 : Nat) (v0 v2 : Int) (v7 : List Dat) (v8 v9 : Int) : R := loopIter (fun E K => evCode C (ev C n) n kp271 (c271 [1, 0, 1, 0, 0]) E K) [0, 2, 7, 8, 9] (Kblk 0 (Kseq C (ev C n) n kp271 (c271 [1, 1]) (Ktop C 271 f271 [.und]))) m1 (cn [.int .i64 v0, .und, .int .i64 v2] (un 4 (cn [.shr 315 v7, .int .i64 v8, .int .i64 v9] (un 25 []))))
noncomputable def M271_1 (v0 v2 : Int) (v7 : List Dat) (v8 v9 : Int) : R := lim fun φ => L271_1 (φ 0) (φ 1) v0 v2 v7 v8 v9
theorem M271_1_c (v0 v2 : Int) (v7 : List Dat) (v8 v9 : Int) : Cont (fun φ => L271_1 (φ 0) (φ 1) v0 v2 v7 v8 v9) (M271_1 v0 v2 v7 v8 v9) := Cont.re id _
theorem M271_1_e (v0 v2 : Int) (v7 : List Dat) (v8 v9 : Int) : Cont (fun φ => L271_1 (φ 0) (φ 0) v0 v2 v7 v8 v9) (M271_1 v0 v2 v7 v8 v9) := Cont.re (toZ 1) fun φ => L271_1 (φ 0) (φ 1) v0 v2 v7 v8 v9
theorem M271_2_of (v0 v2 : Int) (v7 : List Dat) (v8 v9 : Int) (v20 : List Dat) (v21 v22 : Int) {r : List Dat} (h : (bif decide (v22 < v21) then (bif decide (0 ≤ v22) then (bif decide (v22 < (v20.length : Int)) then (bif decide (v22.toNat < v20.length) then ((E C 272 [.agg [.int .i64 (((rd v20 v22.toNat).C 0).I), .int .i64 (((rd v20 v22.toNat).C 1).I), .int .i64 (((rd v20 v22.toNat).C 2).I), .int .i64 (((rd v20 v22.toNat).C 3).I)], .int .i64 v0]).bind fun d3 => (bif (rd d3 0).B then (some [.int (IntKind.i64.wrap (v0 + (((rd v20 v22.toNat).C 3).I)))]) else (M271_2 v0 v2 v7 v8 v9 v20 v21 (IntKind.i64.wrap (v22 + 1))))) else none) else none) else none) else (some [.int v0]) : R) = some r) : M271_2 v0 v2 v7 v8 v9 v20 v21 v22 = some r := lim_st (g := fun φ => L271_2 (φ 0) (φ 1) v0 v2 v7 v8 v9 v20 v21 v22) 1 h (Cont.bif (Cont.bif (Cont.bif (Cont.bif (Cont.bind (Cont.call C 272 _) fun _ => (Cont.bif (Cont.const _) (M271_2_c _ _ _ _ _ _ _ _))) Cont.nn) Cont.nn) Cont.nn) (Cont.const _)) fun φ m hm => (congrArg (fun q => L271_2 (φ 0) q v0 v2 v7 v8 v9 v20 v21 v22) hm).trans (by kernel_rfl)
theorem M271_1_of (v0 v2 : Int) (v7 : List Dat) (v8 v9 : Int) {r : List Dat} (h : (bif decide (v9 < v8) then (bif decide (0 ≤ v9) then (bif decide (v9 < (v7.length : Int)) then (bif decide (v9.toNat < v7.length) then (bif (((rd v7 v9.toNat).C 0).I) == v0 then (some [.int (((rd v7 v9.toNat).C 1).I)]) else (M271_1 v0 v2 v7 v8 (IntKind.i64.wrap (v9 + 1)))) else none) else none) else none) else ((E C 269 []).bind fun d2 => (M271_2 v0 v2 v7 v8 v9 ((rd d2 0).L) (((rd d2 0).L).length : Int) 0)) : R) = some r) : M271_1 v0 v2 v7 v8 v9 = some r := lim_st (g := fun φ => L271_1 (φ 0) (φ 1) v0 v2 v7 v8 v9) 1 h (Cont.bif (Cont.bif (Cont.bif (Cont.bif (Cont.bif (Cont.const _) (M271_1_c _ _ _ _ _)) Cont.nn) Cont.nn) Cont.nn) (Cont.bind (Cont.call C 269 _) fun _ => (M271_2_e _ _ _ _ _ _ _ _))) fun φ m hm => (congrArg (fun q => L271_1 (φ 0) q v0 v2 v7 v8 v9) hm).trans (by kernel_rfl)
theorem o271 (a0 : Int) {r : List Dat} (h : ((E C 270 []).bind fun d1 => (M271_1 a0 0 ((rd d1 0).L) (((rd d1 0).L).length : Int) 0) : R) = some r) : E C 271 [.int .i64 a0] = some r := E_st h (Cont.bind (Cont.call C 270 _) fun _ => (M271_1_e _ _ _ _ _)) fun φ => by kernel_rfl
theorem o272 (a0_0 a0_1 a0_2 a0_3 a1 : Int) {r : List Dat} (h : (bif decide (a1 ≥ a0_0) then (bif decide (a1 ≤ a0_1) then (bif a0_2 != 0 then (some [.bool (((IntKind.i64.wrap (a1 - a0_0)).tmod a0_2) == 0)]) else none) else (some [.bool false])) else (some [.bool false]) : R) = some r) : E C 272 [.agg [.int .i64 a0_0, .int .i64 a0_1, .int .i64 a0_2, .int .i64 a0_3], .int .i64 a1] = some r := E_st h (Cont.bif (Cont.bif (Cont.bif (Cont.const _) Cont.nn) (Cont.const _)) (Cont.const _)) fun φ => by kernel_rfl
end Go.Proofs.YtlofoifcdmeopaaGreatDoor.V
namespace Go.Proofs.YtlofoifcdmeopaaGreatDoor.V
open Go Go.Ev Go.RowKit
set_option linter.unusedVariables false
set_option linter.unusedSimpArgs false
abbrev Row := Int × Int × Int × Int
def rowsL : List Row := [(65, 90, 1, 32), (192, 214, 1, 32), (216, 222, 1, 32), (256, 302, 2, 1), (306, 310, 2, 1), (313, 327, 2, 1), (330, 374, 2, 1), (377, 381, 2, 1), (913, 929, 1, 32), (931, 939, 1, 32), (1024, 1039, 1, 80), (1040, 1071, 1, 32), (1120, 1152, 2, 1), (1329, 1366, 1, 48), (7680, 7828, 2, 1), (9398, 9423, 1, 26), (65313, 65338, 1, 32), (66560, 66599, 1, 40)]
def sinL : List (Int × Int) := [(181, 956), (376, 255), (383, 115), (962, 963), (8490, 107), (8491, 229)]
def rowsD (l : List Row) : List Dat := l.map fun r => .agg [.int r.1, .int r.2.1, .int r.2.2.1, .int r.2.2.2]
theorem rowsD_rd (l : List Row) (i : Nat) (h : i < l.length) : rd (rowsD l) i = .agg [.int (l[i]).1, .int (l[i]).2.1, .int (l[i]).2.2.1, .int (l[i]).2.2.2] := by simp [rd, rowsD, h]
def upB (r : Row) (x : Int) : Bool := decide (r.1 ≤ x) && (decide (x ≤ r.2.1) && ((x - r.1) % r.2.2.1 == 0))
structure OkRow (r : Row) : Prop where
  f0 : 0 ≤ r.1
  f1 : r.1 ≤ 100000
  t1 : r.2.1 ≤ 100000
  s : r.2.2.1 = 1 ∨ r.2.2.1 = 2
  b0 : 0 < r.2.2.2
  b1 : r.2.2.2 ≤ 100
theorem rows_ok {r : Row} (h : r ∈ rowsL) : OkRow r := by
  have key : ∀ r, r ∈ rowsL → 0 ≤ r.1 ∧ r.1 ≤ 100000 ∧ r.2.1 ≤ 100000 ∧ (r.2.2.1 = 1 ∨ r.2.2.1 = 2) ∧ 0 < r.2.2.2 ∧ r.2.2.2 ≤ 100 := by decide
  obtain ⟨h1, h2, h3, h4, h5, h6⟩ := key r h
  exact ⟨h1, h2, h3, h4, h5, h6⟩
def findW (l : List Row) (x : Int) : Int := match l.find? (fun r => upB r x) with | some r => x + r.2.2.2 | none => x
def WS (s : List (Int × Int)) (x : Int) : Int := match s.find? (fun p => p.1 == x) with | some p => p.2 | none => findW rowsL x
/-- What a symbol goes with. -/
def W (x : Int) : Int := WS sinL x
theorem findW_cons (r : Row) (l : List Row) (x : Int) : findW (r :: l) x = if upB r x = true then x + r.2.2.2 else findW l x := by
  unfold findW
  rw [List.find?_cons]
  cases upB r x <;> rfl
theorem WS_cons (p : Int × Int) (s : List (Int × Int)) (x : Int) : WS (p :: s) x = if p.1 = x then p.2 else WS s x := by
  unfold WS
  rw [List.find?_cons]
  by_cases h : p.1 = x
  · rw [if_pos h, show (p.1 == x) = true from by simpa using h]
  · rw [if_neg h, beq_false_of_ne h]
theorem upper_E {r : Row} (hr : OkRow r) (x : Int) (hx : -1000000 ≤ x ∧ x ≤ 2000000) : E C 272 [.agg [.int .i64 r.1, .int .i64 r.2.1, .int .i64 r.2.2.1, .int .i64 r.2.2.2], .int .i64 x] = some [.bool (upB r x)] := by
  obtain ⟨g1, g2, g3, g4, g5, g6⟩ := hr
  apply o272
  unfold upB
  by_cases h0 : x ≥ r.1
  · rw [dT h0, decide_eq_true h0]
    by_cases h1 : x ≤ r.2.1
    · rw [dT h1, decide_eq_true h1, cT (by rcases g4 with h | h <;> rw [h] <;> rfl), w64 (by omega) (by omega), Int.tmod_eq_emod_of_nonneg (by omega)]
      rfl
    · rw [dF h1, decide_eq_false h1]; rfl
  · rw [dF h0, decide_eq_false h0]; rfl
theorem base_rows (l : List Row) (hl : ∀ r, r ∈ l → OkRow r) (hlen : l.length ≤ 1000) (x : Int) (hx : 0 ≤ x ∧ x ≤ 2000000) (v2 v8 v9 : Int) (v7 : List Dat) : ∀ (d k : Nat), l.length - k = d → k ≤ l.length →
    M271_2 x v2 v7 v8 v9 (rowsD l) (l.length : Int) (k : Int) = some [.int (findW (l.drop k) x)] := by
  intro d
  have hrl : (rowsD l).length = l.length := by simp [rowsD]
  induction d with
  | zero =>
    intro k hd hk
    apply M271_2_of
    rw [dF (by omega), List.drop_of_length_le (by omega)]
    rfl
  | succ d ih =>
    intro k hd hk
    have hlt : k < l.length := by omega
    have hr := hl _ (List.getElem_mem hlt)
    have hn := ih (k + 1) (by omega) (by omega)
    have hb1 := hr.b1
    have hb0 := hr.b0
    apply M271_2_of
    rw [hrl, dT (by omega), dT (by omega), dT (by omega), dT (by omega), Int.toNat_natCast, rowsD_rd l k hlt]
    refine (bT (upper_E hr x (by omega))).trans ?_
    rw [List.drop_eq_getElem_cons hlt, findW_cons]
    simp only [rd0, datB]
    cases hu : upB l[k] x with
    | true =>
      rw [if_pos rfl]
      show (some [.int (IntKind.i64.wrap (x + (l[k]).2.2.2))] : R) = _
      rw [w64 (by omega) (by omega)]
    | false =>
      rw [if_neg (by simp)]
      show M271_2 _ _ _ _ _ _ _ _ = _
      rw [w64 (by omega) (by omega)]
      exact hn
theorem rowsF_E : E C 269 [] = some [.list (rowsD rowsL)] := by
  apply o269
  rfl
theorem sinsF_E : E C 270 [] = some [.list (rs sinL)] := by
  apply o270
  rfl
theorem base_sin (s : List (Int × Int)) (hlen : s.length ≤ 1000) (x : Int) (hx : 0 ≤ x ∧ x ≤ 2000000) (v2 : Int) : ∀ (d k : Nat), s.length - k = d → k ≤ s.length →
    M271_1 x v2 (rs s) (s.length : Int) (k : Int) = some [.int (WS (s.drop k) x)] := by
  intro d
  have hrl : (rs s).length = s.length := rs_len s
  induction d with
  | zero =>
    intro k hd hk
    apply M271_1_of
    rw [dF (by omega), bT rowsF_E, List.drop_of_length_le (by omega)]
    simp only [rd0, datL]
    exact base_rows rowsL (fun r hr => rows_ok hr) (by decide) x hx _ _ _ _ rowsL.length 0 rfl (by omega)
  | succ d ih =>
    intro k hd hk
    have hlt : k < s.length := by omega
    have hn := ih (k + 1) (by omega) (by omega)
    apply M271_1_of
    rw [hrl, dT (by omega), dT (by omega), dT (by omega), dT (by omega), Int.toNat_natCast, rs_rd s k hlt, List.drop_eq_getElem_cons hlt, WS_cons]
    by_cases h : (s[k]).1 = x
    · rw [if_pos h]
      exact eT h
    · rw [if_neg h]
      refine (eF h).trans ?_
      rw [w64 (by omega) (by omega)]
      exact hn
theorem base_E (x : Int) (hx : 0 ≤ x ∧ x ≤ 2000000) : E C 271 [.int .i64 x] = some [.int (W x)] := by
  apply o271
  rw [bT sinsF_E]
  simp only [rd0, datL]
  exact base_sin sinL (by decide) x hx _ sinL.length 0 rfl (by omega)
/-! The document's. -/
theorem rowsL_len : rowsL.length = 18 := rfl
theorem rowsDL_len : (rowsD rowsL).length = 18 := rfl
theorem rsS_len : (rs sinL).length = 6 := rfl
end Go.Proofs.YtlofoifcdmeopaaGreatDoor.V
namespace Go.Proofs.YtlofoifcdmeopaaGreatDoor.V
open Go Go.Ev Go.RowKit
set_option linter.unusedVariables false
set_option linter.unusedSimpArgs false
def ups (l : List Row) (b : Int) : List Int := l.filterMap fun r => if upB r (b - r.2.2.2) = true then some (b - r.2.2.2) else none
def sins (l : List (Int × Int)) (b : Int) : List Int := l.filterMap fun s => if s.2 = b then some s.1 else none
def P (b : Int) : List Int := [b] ++ ups rowsL b ++ sins sinL b
theorem Sort_E (l : List Int) (h : l.length < 1000000) : E C 273 [.shr 3 (l.map .int)] = some [.list ((sortI l).map .int)] := by
  refine E_given (h := gSortI 3) (by kernel_rfl) ?_
  simp only [gSortI, ints_map, List.length_map]
  rw [show decide (l.length < 4611686018427387904) = true from decide_eq_true (by omega)]
  rfl
theorem cap8 : capB 8 = 17592186044416 := by decide
theorem orb_sin (b : Int) (v0 : Int) (v2 v19 : List Dat) (v20 v21 : Int) : ∀ (d k : Nat) (acc : List Int), 6 - k = d → k ≤ 6 → acc.length ≤ 100 + k →
    M252_2 v0 v2 b (acc.map .int) v19 v20 v21 (rs sinL) 6 (k : Int) = some [.list ((sortI (acc ++ sins (sinL.drop k) b)).map .int)] := by
  intro d
  have hc := cap8
  induction d with
  | zero =>
    intro k acc hd hk ha
    apply M252_2_of
    rw [dF (by omega), bT (Sort_E acc (by omega)), List.drop_of_length_le (by show sinL.length ≤ k; have : sinL.length = 6 := rfl; omega)]
    simp [sins]
  | succ d ih =>
    intro k acc hd hk ha
    have hlt : k < sinL.length := by show k < 6; omega
    apply M252_2_of
    rw [rsS_len, dT (by omega), dT (by omega), dT (by omega), dT (by omega), Int.toNat_natCast, rs_rd sinL k hlt, List.drop_eq_getElem_cons hlt]
    have c1 : ((Dat.agg [Dat.int (sinL[k]).1, Dat.int (sinL[k]).2]).C 1).I = (sinL[k]).2 := rfl
    have c0 : ((Dat.agg [Dat.int (sinL[k]).1, Dat.int (sinL[k]).2]).C 0).I = (sinL[k]).1 := rfl
    rw [c1, c0, w64 (by omega) (by omega)]
    have e : sins (sinL[k] :: sinL.drop (k + 1)) b = (if (sinL[k]).2 = b then [(sinL[k]).1] else []) ++ sins (sinL.drop (k + 1)) b := by
      unfold sins
      rw [List.filterMap_cons]
      by_cases h : (sinL[k]).2 = b
      · simp [h]
      · simp [h]
    rw [e]
    by_cases h : (sinL[k]).2 = b
    · rw [eT h, if_pos h, dT (by simp only [List.length_map, List.length_cons, List.length_nil]; omega)]
      have := ih (k + 1) (acc ++ [(sinL[k]).1]) (by omega) (by omega) (by simp; omega)
      simpa using this
    · rw [eF h, if_neg h]
      have := ih (k + 1) acc (by omega) (by omega) (by omega)
      simpa using this
theorem orb_rows (b : Int) (hb : 0 ≤ b ∧ b ≤ 2000000) (v0 : Int) (v2 : List Dat) : ∀ (d k : Nat) (acc : List Int), 18 - k = d → k ≤ 18 → acc.length ≤ 1 + k →
    M252_1 v0 v2 b (acc.map .int) (rowsD rowsL) 18 (k : Int) = some [.list ((sortI (acc ++ ups (rowsL.drop k) b ++ sins sinL b)).map .int)] := by
  intro d
  have hc := cap8
  induction d with
  | zero =>
    intro k acc hd hk ha
    apply M252_1_of
    rw [dF (by omega), bT sinsF_E]
    simp only [rd0, datL, rsS_len]
    refine (orb_sin b v0 v2 _ _ _ 6 0 acc rfl (by omega) (by omega)).trans ?_
    have e : rowsL.drop k = [] := List.drop_of_length_le (by rw [rowsL_len]; omega)
    rw [e, List.drop_zero]
    simp [ups]
  | succ d ih =>
    intro k acc hd hk ha
    have hlt : k < rowsL.length := by show k < 18; omega
    have hr := rows_ok (List.getElem_mem hlt)
    have hb1 := hr.b1
    have hb0 := hr.b0
    apply M252_1_of
    rw [rowsDL_len, dT (by omega), dT (by omega), dT (by omega), dT (by omega), Int.toNat_natCast, rowsD_rd rowsL k hlt, List.drop_eq_getElem_cons hlt]
    generalize rowsL[k] = r at hr hb0 hb1 ⊢
    have c0 : ((Dat.agg [Dat.int r.1, Dat.int r.2.1, Dat.int r.2.2.1, Dat.int r.2.2.2]).C 0).I = r.1 := rfl
    have c1 : ((Dat.agg [Dat.int r.1, Dat.int r.2.1, Dat.int r.2.2.1, Dat.int r.2.2.2]).C 1).I = r.2.1 := rfl
    have c2 : ((Dat.agg [Dat.int r.1, Dat.int r.2.1, Dat.int r.2.2.1, Dat.int r.2.2.2]).C 2).I = r.2.2.1 := rfl
    have c3 : ((Dat.agg [Dat.int r.1, Dat.int r.2.1, Dat.int r.2.2.1, Dat.int r.2.2.2]).C 3).I = r.2.2.2 := rfl
    rw [c0, c1, c2, c3, w64 (n := b - r.2.2.2) (by omega) (by omega), w64 (n := (k : Int) + 1) (by omega) (by omega), bT (upper_E hr _ (by omega))]
    have e : ups (r :: rowsL.drop (k + 1)) b = (if upB r (b - r.2.2.2) = true then [b - r.2.2.2] else []) ++ ups (rowsL.drop (k + 1)) b := by
      unfold ups
      rw [List.filterMap_cons]
      cases h : upB r (b - r.2.2.2) <;> simp
    rw [e]
    simp only [rd0, datB]
    cases hu : upB r (b - r.2.2.2) with
    | true =>
      rw [if_pos rfl, cT rfl, dT (by simp only [List.length_map, List.length_cons, List.length_nil]; omega)]
      have := ih (k + 1) (acc ++ [b - r.2.2.2]) (by omega) (by omega) (by simp; omega)
      simpa using this
    | false =>
      rw [if_neg (by simp), cF rfl]
      have := ih (k + 1) acc (by omega) (by omega) (by omega)
      simpa using this
theorem W_bound (x : Int) (hx : 0 ≤ x ∧ x ≤ 2000000) : 0 ≤ W x ∧ W x ≤ 2000100 ∧ (x ≤ 1114367 → W x ≤ 1114467) := by
  unfold W WS
  cases hf : sinL.find? (fun p => p.1 == x) with
  | some p =>
    have hm := List.mem_of_find?_eq_some hf
    have key : ∀ p, p ∈ sinL → 0 ≤ p.2 ∧ p.2 ≤ 1000 := by decide
    have := key p hm
    exact ⟨this.1, by show p.2 ≤ _; omega, fun _ => by show p.2 ≤ _; omega⟩
  | none =>
    show 0 ≤ findW rowsL x ∧ findW rowsL x ≤ 2000100 ∧ (x ≤ 1114367 → findW rowsL x ≤ 1114467)
    unfold findW
    cases hr : rowsL.find? (fun r => upB r x) with
    | some r =>
      have := rows_ok (List.mem_of_find?_eq_some hr)
      have h1 := this.b0
      have h2 := this.b1
      exact ⟨by show 0 ≤ x + r.2.2.2; omega, by show x + r.2.2.2 ≤ _; omega, fun _ => by show x + r.2.2.2 ≤ _; omega⟩
    | none => exact ⟨hx.1, by show x ≤ _; omega, fun h => by show x ≤ _; omega⟩
theorem Orbit_E (x : Int) : E C 252 [.int .i64 x] = some [.list (if 0 ≤ x ∧ x ≤ 1114367 then (sortI (P (W x))).map .int else [])] := by
  apply o252
  by_cases h0 : x < 0
  · rw [dT h0, if_neg (by omega)]
  by_cases h1 : x > 1114367
  · rw [dF h0, dT h1, if_neg (by omega)]
  have hb := W_bound x (by omega)
  rw [dF h0, dF h1, if_pos (by omega), bT (base_E x (by omega)), bT rowsF_E]
  simp only [rd0, datI, datL, rowsDL_len]
  exact orb_rows (W x) ⟨hb.1, by have := hb.2.2 (by omega); omega⟩ x [] 18 0 [W x] rfl (by omega) (by simp)
/-! The document's. -/
def fars : List Int := [80, 48, 40, 32, 26, 1, 0, -1]
def symL : List Int := [181, 376, 383, 962, 8490, 8491]
def g1 (b far : Int) : Option Int := if far ≥ 0 ∧ b - far ≥ 0 ∧ W (b - far) = b then some (b - far) else none
def g2 (b : Int) (acc : List Int) (y : Int) : List Int := if W y = b ∧ y ∉ acc then acc ++ [y] else acc
end Go.Proofs.YtlofoifcdmeopaaGreatDoor.V
namespace Go.Proofs.YtlofoifcdmeopaaGreatDoor.V
open Go Go.Ev Go.RowKit
set_option linter.unusedVariables false
set_option linter.unusedSimpArgs false
def g3 (b : Int) (acc : List Int) (y : Int) : List Int := if W y = b ∧ acc.all (fun z => z != y) = true then acc ++ [y] else acc
/-- What the document gathers. -/
def Q (b : Int) : List Int := symL.foldl (g3 b) (fars.filterMap (g1 b))
end Go.Proofs.YtlofoifcdmeopaaGreatDoor.V
namespace Go.Proofs.YtlofoifcdmeopaaGreatDoor.V
open Go Go.Ev Go.RowKit
set_option linter.unusedVariables false
set_option linter.unusedSimpArgs false
/-- All that is the same as a symbol. -/
def orbL (x : Int) : List Int := if 0 ≤ x ∧ x ≤ 1114367 then sortI (P (W x)) else []
theorem P_length (b : Int) : (P b).length ≤ 25 := by
  have h1 : (ups rowsL b).length ≤ 18 := List.length_filterMap_le _ _
  have h2 : (sins sinL b).length ≤ 6 := List.length_filterMap_le _ _
  unfold P
  rw [List.length_append, List.length_append, List.length_singleton]
  omega
theorem orbL_length (x : Int) : (orbL x).length ≤ 25 := by
  unfold orbL
  split
  · rw [sortI_length]; exact P_length _
  · simp
theorem Orbit2_E (x : Int) : E C 252 [.int .i64 x] = some [.list ((orbL x).map .int)] := by
  rw [Orbit_E x]
  unfold orbL
  split <;> rfl
def runL (by_ step hi : Int) : Nat → Int → List Int
  | 0, _ => []
  | n + 1, x => if x ≤ hi then x :: (x + by_) :: runL by_ step hi n (x + step) else []
theorem runL_length (by_ step hi : Int) : ∀ (n : Nat) (x : Int), (runL by_ step hi n x).length ≤ 2 * n
  | 0, x => by simp [runL]
  | n + 1, x => by
    have := runL_length by_ step hi n (x + step)
    unfold runL
    split <;> simp only [List.length_cons, List.length_nil] <;> omega
def casedR (r : Row) : List Int := runL r.2.2.2 r.2.2.1 r.2.1 200 r.1
def casedS (s : Int × Int) : List Int := [s.1, s.2]
def casedL : List Int := rowsL.flatMap casedR ++ sinL.flatMap casedS
theorem rows_short : ∀ r ∈ rowsL, r.2.1 - r.1 < 200 := by decide +kernel
theorem flatMap_length {α : Type} (f : α → List Int) (b : Nat) (h : ∀ a, (f a).length ≤ b) : ∀ L : List α, (L.flatMap f).length ≤ b * L.length
  | [] => by simp
  | a :: L => by
    have h1 := flatMap_length f b h L
    have h2 := h a
    rw [List.flatMap_cons, List.length_append, List.length_cons, Nat.mul_add]
    omega
theorem casedL_length : casedL.length ≤ 10000 := by
  have h1 := flatMap_length casedR 400 (fun r => runL_length _ _ _ 200 _) rowsL
  have h2 := flatMap_length casedS 2 (fun s => Nat.le_refl _) sinL
  have e1 : rowsL.length = 18 := rfl
  have e2 : sinL.length = 6 := rfl
  unfold casedL
  rw [List.length_append]
  omega
theorem rsI_at (pre : List Int) (r : Int) (rest : List Int) : (rd ((pre ++ r :: rest).map Dat.int) pre.length).I = r := by
  rw [rdB (by simp)]
  simp
theorem cap8' : capB 8 = 17592186044416 := by decide
theorem cased_3 (v0 v7 : List Dat) (v8 v9 : Int) : ∀ (rest pre : List (Int × Int)) (acc : List Int), sinL = pre ++ rest → acc.length + 2 * rest.length < 1000000 →
    M251_3 v0 (acc.map .int) v7 v8 v9 (rs sinL) 6 (pre.length : Int) = some [.list ((acc ++ rest.flatMap casedS).map .int)] := by
  have hc := cap8'
  intro rest
  induction rest with
  | nil =>
    intro pre acc hxs ha
    have hl : pre.length = 6 := by have := congrArg List.length hxs; simpa [sinL] using this.symm
    apply M251_3_of
    rw [dF (by omega)]
    simp
  | cons s rest ih =>
    intro pre acc hxs ha
    have hl : 6 = pre.length + (rest.length + 1) := by have := congrArg List.length hxs; simpa [sinL] using this
    simp only [List.length_cons] at ha
    have hat : rd (rs sinL) pre.length = .agg [.int s.1, .int s.2] := by rw [hxs]; exact rs_at _ _ _
    apply M251_3_of
    rw [dT (by omega), rsS_len, dT (by omega), dT (by omega), dT (by omega), Int.toNat_natCast, hat]
    simp only [aggC0, aggC1, datI, List.length_map]
    rw [dT (by simp only [List.length_cons, List.length_nil]; omega), show IntKind.i64.wrap ((pre.length : Int) + 1) = (((pre ++ [s]).length : Nat) : Int) from by rw [w64 (by omega) (by omega)]; simp]
    have := ih (pre ++ [s]) (acc ++ [s.1, s.2]) (by rw [hxs]; simp) (by simp only [List.length_append, List.length_cons, List.length_nil]; omega)
    rw [List.map_append] at this
    refine this.trans ?_
    simp [casedS]
theorem cased_2 (v0 v7 : List Dat) (v8 v9 : Int) {r : Row} (hr : OkRow r) (res : List Dat) : ∀ (n : Nat) (x : Int) (acc : List Int), r.2.1 - x < n → 0 ≤ x → x ≤ 200000 → acc.length + 2 * n < 1000000 →
    M251_1 v0 ((acc ++ runL r.2.2.2 r.2.2.1 r.2.1 n x).map .int) v7 v8 (IntKind.i64.wrap (v9 + 1)) = some res → M251_2 v0 (acc.map .int) r.1 r.2.1 r.2.2.1 r.2.2.2 x v7 v8 v9 = some res := by
  have hc := cap8'
  obtain ⟨g1, g2, g3, g4, g5, g6⟩ := hr
  intro n
  induction n with
  | zero =>
    intro x acc h1 h2 h3 h4 hE
    apply M251_2_of
    rw [dF (by omega)]
    simpa [runL] using hE
  | succ n ih =>
    intro x acc h1 h2 h3 h4 hE
    apply M251_2_of
    unfold runL at hE
    by_cases h : x ≤ r.2.1
    · rw [if_pos h] at hE
      rw [dT h, List.length_map, dT (by simp only [List.length_cons, List.length_nil]; omega), w64 (n := x + r.2.2.2) (by omega) (by omega), w64 (n := x + r.2.2.1) (by omega) (by omega)]
      have := ih (x + r.2.2.1) (acc ++ [x, x + r.2.2.2]) (by omega) (by omega) (by omega) (by simp only [List.length_append, List.length_cons, List.length_nil]; omega) (by simpa using hE)
      rw [List.map_append] at this
      exact this
    · rw [if_neg h, List.append_nil] at hE
      rw [dF h]
      exact hE
theorem cased_1 (v0 : List Dat) : ∀ (rest pre : List Row) (acc : List Int), rowsL = pre ++ rest → acc.length + 400 * rest.length < 100000 →
    M251_1 v0 (acc.map .int) (rowsD rowsL) 18 (pre.length : Int) = some [.list ((acc ++ rest.flatMap casedR ++ sinL.flatMap casedS).map .int)] := by
  intro rest
  induction rest with
  | nil =>
    intro pre acc hxs ha
    have hl : pre.length = 18 := by have := congrArg List.length hxs; simpa [rowsL] using this.symm
    apply M251_1_of
    rw [dF (by omega), bT sinsF_E]
    simp only [rd0, datL, rsS_len]
    refine (cased_3 _ _ _ _ sinL [] acc rfl (by simp only [List.length_nil] at ha; have : sinL.length = 6 := rfl; omega)).trans ?_
    simp
  | cons r rest ih =>
    intro pre acc hxs ha
    have hl : 18 = pre.length + (rest.length + 1) := by have := congrArg List.length hxs; simpa [rowsL] using this
    simp only [List.length_cons] at ha
    have hmem : r ∈ rowsL := by rw [hxs]; simp
    have hok := rows_ok hmem
    have hsh := rows_short r hmem
    have hat : rd (rowsD rowsL) pre.length = .agg [.int r.1, .int r.2.1, .int r.2.2.1, .int r.2.2.2] := by
      have hk : pre.length < rowsL.length := by rw [hxs]; simp
      rw [rowsD_rd rowsL _ hk]
      have : rowsL[pre.length] = r := by
        have h2 : rowsL[pre.length]? = some r := by rw [hxs]; simp
        exact Option.some.inj ((List.getElem?_eq_getElem hk).symm.trans h2)
      rw [this]
    have hrl := runL_length r.2.2.2 r.2.2.1 r.2.1 200 r.1
    have g0 := hok.f0
    have g1 := hok.f1
    apply M251_1_of
    rw [dT (by omega), rowsDL_len, dT (by omega), dT (by omega), dT (by omega), Int.toNat_natCast, hat]
    simp only [aggC0, aggC1, aggC2, aggC3, datI]
    obtain ⟨N, hN⟩ : ∃ N : Nat, N = 200 := ⟨_, rfl⟩
    rw [← hN] at hrl
    refine cased_2 _ _ _ _ hok _ N r.1 acc (by omega) g0 (by omega) (by omega) ?_
    rw [show IntKind.i64.wrap ((pre.length : Int) + 1) = (((pre ++ [r]).length : Nat) : Int) from by rw [w64 (by omega) (by omega)]; simp]
    have hcs : casedR r = runL r.2.2.2 r.2.2.1 r.2.1 N r.1 := by rw [hN]; rfl
    refine (ih (pre ++ [r]) (acc ++ runL r.2.2.2 r.2.2.1 r.2.1 N r.1) (by rw [hxs]; simp) (by rw [List.length_append]; omega)).trans ?_
    rw [← hcs]
    simp
theorem cased_E : E C 251 [] = some [.list (casedL.map .int)] := by
  apply o251
  rw [bT rowsF_E]
  simp only [rd0, datL, rowsDL_len]
  refine (cased_1 [] rowsL [] [] (List.nil_append _).symm (by have : rowsL.length = 18 := rfl; simp only [List.length_nil]; omega)).trans ?_
  rw [List.nil_append]
  unfold casedL
  rfl
def ptR (y : Int) : Int × Int := (y, y)
def addL (l : List (Int × Int)) (c : Int) : List (Int × Int) := if hasB l c = true then (orbL c).map ptR else []
def closeR (l : List (Int × Int)) : List (Int × Int) := mk (l ++ casedL.flatMap (addL l))
theorem addL_length (l : List (Int × Int)) (c : Int) : (addL l c).length ≤ 25 := by
  unfold addL
  split
  · rw [List.length_map]; exact orbL_length c
  · simp
theorem close_2 (v0 v2 : List Dat) (v5 : Int) (v10 : List Dat) (v11 v12 : Int) (os : List Int) (ho : os.length ≤ 25) (res : List Dat) : ∀ (rest pre : List Int) (acc : List (Int × Int)), os = pre ++ rest → acc.length + rest.length < 8000000 →
    M231_1 v0 v2 (rs (acc ++ rest.map ptR)) v10 v11 (IntKind.i64.wrap (v12 + 1)) = some res → M231_2 v0 v2 (rs acc) v5 v10 v11 v12 (os.map .int) (os.length : Int) (pre.length : Int) = some res := by
  have hc16 : capB 16 = 8796093022208 := by decide
  intro rest
  induction rest with
  | nil =>
    intro pre acc hxs ha hE
    have hl : os.length = pre.length := by rw [hxs]; simp
    apply M231_2_of
    rw [dF (by omega)]
    simpa using hE
  | cons y rest ih =>
    intro pre acc hxs ha hE
    simp only [List.length_cons] at ha
    have hl : os.length = pre.length + (rest.length + 1) := by rw [hxs]; simp
    have hat : (rd (os.map Dat.int) pre.length).I = y := by rw [hxs]; exact rsI_at _ _ _
    apply M231_2_of
    rw [List.length_map, dT (by omega), ixT ⟨by omega, by omega⟩, Int.toNat_natCast, hat, rs_len, dT (by rw [List.length_singleton]; omega), rs1 (y, y), ← rsA, show IntKind.i64.wrap ((pre.length : Int) + 1) = (((pre ++ [y]).length : Nat) : Int) from by rw [w64 (by omega) (by omega)]; simp]
    exact ih (pre ++ [y]) (acc ++ [(y, y)]) (by rw [hxs]; simp) (by rw [List.length_append, List.length_singleton]; omega) (by simpa [ptR] using hE)
theorem close_1 (l : List (Int × Int)) (hl0 : l.length ≤ 1000000) (v2 : List Dat) (xs : List Int) (hxl : xs.length ≤ 10000) : ∀ (rest pre : List Int) (acc : List (Int × Int)), xs = pre ++ rest → acc.length + 25 * rest.length < 4000000 →
    M231_1 (rs l) v2 (rs acc) (xs.map .int) (xs.length : Int) (pre.length : Int) = some [.list (rs (mk (acc ++ rest.flatMap (addL l))))] := by
  intro rest
  induction rest with
  | nil =>
    intro pre acc hxs ha
    have hl : xs.length = pre.length := by rw [hxs]; simp
    apply M231_1_of
    rw [dF (by omega), bT (Make_E acc (by simp only [List.length_nil] at ha; omega)), List.flatMap_nil, List.append_nil]
    rfl
  | cons c rest ih =>
    intro pre acc hxs ha
    simp only [List.length_cons] at ha
    have hl : xs.length = pre.length + (rest.length + 1) := by rw [hxs]; simp
    have hat : (rd (xs.map Dat.int) pre.length).I = c := by rw [hxs]; exact rsI_at _ _ _
    have hal := addL_length l c
    have hs := orbL_length c
    have ek : IntKind.i64.wrap ((pre.length : Int) + 1) = (((pre ++ [c]).length : Nat) : Int) := by rw [w64 (by omega) (by omega)]; simp
    have h := ih (pre ++ [c]) (acc ++ addL l c) (by rw [hxs]; simp) (by rw [List.length_append]; omega)
    rw [List.flatMap_cons, ← List.append_assoc]
    apply M231_1_of
    rw [List.length_map, dT (by omega), ixT ⟨by omega, by omega⟩, Int.toNat_natCast, hat, bT (Has_E l c (by omega))]
    simp only [rd0, datB]
    cases hc : hasB l c with
    | true =>
      have e : addL l c = (orbL c).map ptR := by unfold addL; rw [if_pos hc]
      rw [e] at h ⊢
      rw [nF rfl, bT (Orbit2_E c)]
      simp only [rd0, datL, List.length_map]
      exact close_2 _ _ _ _ _ _ (orbL c) hs _ (orbL c) [] acc rfl (by omega) (by rw [ek]; exact h)
    | false =>
      have e : addL l c = [] := by unfold addL; rw [if_neg (by rw [hc]; simp)]
      rw [e, List.append_nil] at h ⊢
      rw [nT rfl, ek]
      exact h
theorem Clone_E (l : List (Int × Int)) (h : l.length < 8796093022208) : E C 250 [.shr 82 (rs l)] = some [.list (rs l)] := by
  refine E_given (h := gClone 82) (by kernel_rfl) ?_
  simp only [gClone]
  rw [rs_len, decide_eq_true h]
  rfl
theorem Close_E (l : List (Int × Int)) (hl : l.length ≤ 1000000) : E C 231 [.shr 82 (rs l)] = some [.list (rs (closeR l))] := by
  have hc := casedL_length
  apply o231
  rw [bT (Clone_E l (by omega)), bT cased_E]
  simp only [rd0, datL, List.length_map]
  exact close_1 l hl _ casedL hc casedL [] l (List.nil_append _).symm (by omega)
theorem closeR_length (l : List (Int × Int)) : (closeR l).length ≤ l.length + 250000 := by
  have h := mk_length (l ++ casedL.flatMap (addL l))
  have hc := casedL_length
  have h2 : (casedL.flatMap (addL l)).length ≤ 25 * casedL.length := by
    generalize casedL = L
    induction L with
    | nil => simp
    | cons a L ih =>
      rw [List.flatMap_cons, List.length_append, List.length_cons, Nat.mul_add]
      have := addL_length l a
      omega
  rw [List.length_append] at h
  unfold closeR
  omega
end Go.Proofs.YtlofoifcdmeopaaGreatDoor.V
namespace Go.Proofs.YtlofoifcdmeopaaGreatDoor.V
open Go Go.Ev Go.RowKit
set_option linter.unusedVariables false
set_option linter.unusedSimpArgs false
theorem list_of {α : Type} (f : α → Dat) (P : α → Prop) : ∀ l : List Dat, (∀ x, x ∈ l → ∃ a, x = f a ∧ P a) → ∃ m : List α, l = m.map f ∧ ∀ a, a ∈ m → P a
  | [], _ => ⟨[], rfl, fun a h => by cases h⟩
  | x :: l, h => by
    obtain ⟨a, h1, h2⟩ := h x List.mem_cons_self
    obtain ⟨m, h3, h4⟩ := list_of f P l (fun y hy => h y (List.mem_cons_of_mem _ hy))
    refine ⟨a :: m, by rw [h1, h3]; rfl, fun b hb => ?_⟩
    rw [List.mem_cons] at hb
    cases hb with
    | inl e => rw [e]; exact h2
    | inr e => exact h4 b e
/-- A node. -/
structure Nd where
  kind : Int
  frm : Int
  to : Int
  num : Int
  min : Int
  max : Int
  mode : Int
  name : ByteArray
  set : List (Int × Int)
  kids : List Int
def nodeD (n : Nd) : Dat := .agg [.int n.kind, .int n.frm, .int n.to, .int n.num, .int n.min, .int n.max, .int n.mode, .str n.name, .list (rs n.set), .list (n.kids.map .int)]
structure OkN (n : Nd) : Prop where
  kind : i64P n.kind
  frm : i64P n.frm
  to : i64P n.to
  num : i64P n.num
  min : i64P n.min
  max : i64P n.max
  mode : i64P n.mode
  name : n.name.size ≤ 140737488351232
  set : n.set.length ≤ 8796093021952
  rng : ∀ p, p ∈ n.set → i64P p.1 ∧ i64P p.2
  kids : n.kids.length ≤ 17592186043904
  kid : ∀ x, x ∈ n.kids → i64P x
/-- A tree: its nodes, how many groups it has, their names. -/
structure Tr where
  ns : List Nd
  groups : Int
  names : List ByteArray
structure OkT (t : Tr) : Prop where
  ns : t.ns.length ≤ 1172812402928
  nd : ∀ n, n ∈ t.ns → OkN n
  groups : i64P t.groups
  names : t.names.length ≤ 8796093021952
def nsD (l : List Nd) : List Dat := l.map nodeD
def treeD (t : Tr) : Dat := .agg [.list (nsD t.ns), .int t.groups, .list (t.names.map .str)]
theorem nsD_len (l : List Nd) : (nsD l).length = l.length := List.length_map ..
theorem nsD_rd {l : List Nd} {i : Nat} (h : i < l.length) : rd (nsD l) i = nodeD l[i] := by simp [rd, nsD, h]
@[simp] theorem nd0 (n : Nd) : (nodeD n).C 0 = .int n.kind := (rfl)
@[simp] theorem nd1 (n : Nd) : (nodeD n).C 1 = .int n.frm := (rfl)
@[simp] theorem nd2 (n : Nd) : (nodeD n).C 2 = .int n.to := (rfl)
@[simp] theorem nd3 (n : Nd) : (nodeD n).C 3 = .int n.num := (rfl)
@[simp] theorem nd4 (n : Nd) : (nodeD n).C 4 = .int n.min := (rfl)
@[simp] theorem nd5 (n : Nd) : (nodeD n).C 5 = .int n.max := (rfl)
@[simp] theorem nd6 (n : Nd) : (nodeD n).C 6 = .int n.mode := (rfl)
@[simp] theorem nd7 (n : Nd) : (nodeD n).C 7 = .str n.name := (rfl)
@[simp] theorem nd8 (n : Nd) : (nodeD n).C 8 = .list (rs n.set) := (rfl)
@[simp] theorem nd9 (n : Nd) : (nodeD n).C 9 = .list (n.kids.map .int) := (rfl)
end Go.Proofs.YtlofoifcdmeopaaGreatDoor.V
namespace Go.Proofs.YtlofoifcdmeopaaGreatDoor.V
open Go Go.Ev
set_option maxRecDepth 100000
set_option linter.unusedVariables false
/-- clew/parse.Parse -/
noncomputable def f26 : Func := Tryz.f26
def kp26 : List Nat := [0, 2, 3, 4, 5, 6, 7, 8, 9, 17, 55, 56, 57]
noncomputable def c26 (p : List Nat) : Code := pick f26 p
noncomputable def L26_1 (n : Nat) (m1 : Nat) (v0 v2_0 : List Dat) (v2_1 : Int) (v2_2 : List Dat) (v3 v4 v6_0 v6_1 v6_2 v6_3 v6_4 v6_5 v6_6 : Int) (v6_7 : ByteArray) (v6_8 v6_9 v6_10 v7_0 : List Dat) (v7_1 : Int) (v7_2 v17_0 : List Dat) (v17_1 : Int) (v17_2 v17_3 v17_4 v17_5 : Bool) (v17_6 : Int) (v17_7 : List Dat) (v17_8 v17_9 v56 v57 : Int) : R := loopIter (fun E K => evCode C (ev C n) n kp26 (c26 [1, 1, 1, 1, 1, 1, 1, 0, 1, 0, 0]) E K) [0, 2, 3, 4, 5, 6, 7, 17, 55, 56, 57] (Kblk 0 (Kseq C (ev C n) n kp26 (c26 [1, 1, 1, 1, 1, 1, 1, 1]) (Ktop C 26 f26 [.und]))) m1 (cn [.shr 5 v0, .und, .box 25 [.own 2 1 38 v2_0, .int .i64 v2_1, .own 2 3 9 v2_2], .int .i64 v3, .int .i64 v4, .ref 17 0, .box 103 [.int .i64 v6_0, .int .i64 v6_1, .int .i64 v6_2, .int .i64 v6_3, .int .i64 v6_4, .int .i64 v6_5, .int .i64 v6_6, .str v6_7, .shr 82 v6_8, .shr 3 v6_9, .shr 103 v6_10], .box 25 [.own 7 1 38 v7_0, .int .i64 v7_1, .shr 9 v7_2]] (un 9 (cn [.box 100 [.shr 5 v17_0, .int .i64 v17_1, .bool v17_2, .bool v17_3, .bool v17_4, .bool v17_5, .int .i64 v17_6, .shr 9 v17_7, .int .i64 v17_8, .int .i64 v17_9]] (un 37 (cn [.view 7 0 7 1, .int .i64 v56, .int .i64 v57] (un 27 []))))))
noncomputable def M26_1 (v0 v2_0 : List Dat) (v2_1 : Int) (v2_2 : List Dat) (v3 v4 v6_0 v6_1 v6_2 v6_3 v6_4 v6_5 v6_6 : Int) (v6_7 : ByteArray) (v6_8 v6_9 v6_10 v7_0 : List Dat) (v7_1 : Int) (v7_2 v17_0 : List Dat) (v17_1 : Int) (v17_2 v17_3 v17_4 v17_5 : Bool) (v17_6 : Int) (v17_7 : List Dat) (v17_8 v17_9 v56 v57 : Int) : R := lim fun φ => L26_1 (φ 0) (φ 1) v0 v2_0 v2_1 v2_2 v3 v4 v6_0 v6_1 v6_2 v6_3 v6_4 v6_5 v6_6 v6_7 v6_8 v6_9 v6_10 v7_0 v7_1 v7_2 v17_0 v17_1 v17_2 v17_3 v17_4 v17_5 v17_6 v17_7 v17_8 v17_9 v56 v57
theorem M26_1_c (v0 v2_0 : List Dat) (v2_1 : Int) (v2_2 : List Dat) (v3 v4 v6_0 v6_1 v6_2 v6_3 v6_4 v6_5 v6_6 : Int) (v6_7 : ByteArray) (v6_8 v6_9 v6_10 v7_0 : List Dat) (v7_1 : Int) (v7_2 v17_0 : List Dat) (v17_1 : Int) (v17_2 v17_3 v17_4 v17_5 : Bool) (v17_6 : Int) (v17_7 : List Dat) (v17_8 v17_9 v56 v57 : Int) : Cont (fun φ => L26_1 (φ 0) (φ 1) v0 v2_0 v2_1 v2_2 v3 v4 v6_0 v6_1 v6_2 v6_3 v6_4 v6_5 v6_6 v6_7 v6_8 v6_9 v6_10 v7_0 v7_1 v7_2 v17_0 v17_1 v17_2 v17_3 v17_4 v17_5 v17_6 v17_7 v17_8 v17_9 v56 v57) (M26_1 v0 v2_0 v2_1 v2_2 v3 v4 v6_0 v6_1 v6_2 v6_3 v6_4 v6_5 v6_6 v6_7 v6_8 v6_9 v6_10 v7_0 v7_1 v7_2 v17_0 v17_1 v17_2 v17_3 v17_4 v17_5 v17_6 v17_7 v17_8 v17_9 v56 v57) := Cont.re id _
theorem M26_1_e (v0 v2_0 : List Dat) (v2_1 : Int) (v2_2 : List Dat) (v3 v4 v6_0 v6_1 v6_2 v6_3 v6_4 v6_5 v6_6 : Int) (v6_7 : ByteArray) (v6_8 v6_9 v6_10 v7_0 : List Dat) (v7_1 : Int) (v7_2 v17_0 : List Dat) (v17_1 : Int) (v17_2 v17_3 v17_4 v17_5 : Bool) (v17_6 : Int) (v17_7 : List Dat) (v17_8 v17_9 v56 v57 : Int) : Cont (fun φ => L26_1 (φ 0) (φ 0) v0 v2_0 v2_1 v2_2 v3 v4 v6_0 v6_1 v6_2 v6_3 v6_4 v6_5 v6_6 v6_7 v6_8 v6_9 v6_10 v7_0 v7_1 v7_2 v17_0 v17_1 v17_2 v17_3 v17_4 v17_5 v17_6 v17_7 v17_8 v17_9 v56 v57) (M26_1 v0 v2_0 v2_1 v2_2 v3 v4 v6_0 v6_1 v6_2 v6_3 v6_4 v6_5 v6_6 v6_7 v6_8 v6_9 v6_10 v7_0 v7_1 v7_2 v17_0 v17_1 v17_2 v17_3 v17_4 v17_5 v17_6 v17_7 v17_8 v17_9 v56 v57) := Cont.re (toZ 1) fun φ => L26_1 (φ 0) (φ 1) v0 v2_0 v2_1 v2_2 v3 v4 v6_0 v6_1 v6_2 v6_3 v6_4 v6_5 v6_6 v6_7 v6_8 v6_9 v6_10 v7_0 v7_1 v7_2 v17_0 v17_1 v17_2 v17_3 v17_4 v17_5 v17_6 v17_7 v17_8 v17_9 v56 v57
theorem M26_1_of (v0 v2_0 : List Dat) (v2_1 : Int) (v2_2 : List Dat) (v3 v4 v6_0 v6_1 v6_2 v6_3 v6_4 v6_5 v6_6 : Int) (v6_7 : ByteArray) (v6_8 v6_9 v6_10 v7_0 : List Dat) (v7_1 : Int) (v7_2 v17_0 : List Dat) (v17_1 : Int) (v17_2 v17_3 v17_4 v17_5 : Bool) (v17_6 : Int) (v17_7 : List Dat) (v17_8 v17_9 v56 v57 : Int) {r : List Dat} (h : (bif decide (v57 < v56) then (bif decide (0 ≤ v57) then (bif decide (v57 < (v7_0.length : Int)) then (bif decide (v57.toNat < v7_0.length) then (bif (((rd v7_0 v57.toNat).C 0).I) == 4 then (bif !((((rd v7_0 v57.toNat).C 7).S).toList == ByteArray.empty.toList) then ((E C 70 [.shr 9 v17_7, .str (((rd v7_0 v57.toNat).C 7).S)]).bind fun d5 => (bif decide (0 ≤ v57) then (bif decide (v57 < (v7_0.length : Int)) then (bif decide (v57.toNat < v7_0.length) then (M26_1 v0 v2_0 v2_1 v2_2 v3 v4 v6_0 v6_1 v6_2 v6_3 v6_4 v6_5 v6_6 v6_7 v6_8 v6_9 v6_10 (v7_0.set v57.toNat (.agg [(rd v7_0 v57.toNat).C 0, (rd v7_0 v57.toNat).C 1, (rd v7_0 v57.toNat).C 2, .int (if 0 > ((rd d5 0).I) then 0 else ((rd d5 0).I)), (rd v7_0 v57.toNat).C 4, (rd v7_0 v57.toNat).C 5, (rd v7_0 v57.toNat).C 6, (rd v7_0 v57.toNat).C 7, (rd v7_0 v57.toNat).C 8, (rd v7_0 v57.toNat).C 9])) v7_1 v7_2 v17_0 v17_1 v17_2 v17_3 v17_4 v17_5 v17_6 v17_7 v17_8 v17_9 v56 (IntKind.i64.wrap (v57 + 1))) else none) else none) else none)) else (M26_1 v0 v2_0 v2_1 v2_2 v3 v4 v6_0 v6_1 v6_2 v6_3 v6_4 v6_5 v6_6 v6_7 v6_8 v6_9 v6_10 v7_0 v7_1 v7_2 v17_0 v17_1 v17_2 v17_3 v17_4 v17_5 v17_6 v17_7 v17_8 v17_9 v56 (IntKind.i64.wrap (v57 + 1)))) else (M26_1 v0 v2_0 v2_1 v2_2 v3 v4 v6_0 v6_1 v6_2 v6_3 v6_4 v6_5 v6_6 v6_7 v6_8 v6_9 v6_10 v7_0 v7_1 v7_2 v17_0 v17_1 v17_2 v17_3 v17_4 v17_5 v17_6 v17_7 v17_8 v17_9 v56 (IntKind.i64.wrap (v57 + 1)))) else none) else none) else none) else (some [.agg [.list v7_0, .int v7_1, .list v7_2], .int 0, .int 0]) : R) = some r) : M26_1 v0 v2_0 v2_1 v2_2 v3 v4 v6_0 v6_1 v6_2 v6_3 v6_4 v6_5 v6_6 v6_7 v6_8 v6_9 v6_10 v7_0 v7_1 v7_2 v17_0 v17_1 v17_2 v17_3 v17_4 v17_5 v17_6 v17_7 v17_8 v17_9 v56 v57 = some r := lim_st (g := fun φ => L26_1 (φ 0) (φ 1) v0 v2_0 v2_1 v2_2 v3 v4 v6_0 v6_1 v6_2 v6_3 v6_4 v6_5 v6_6 v6_7 v6_8 v6_9 v6_10 v7_0 v7_1 v7_2 v17_0 v17_1 v17_2 v17_3 v17_4 v17_5 v17_6 v17_7 v17_8 v17_9 v56 v57) 1 h (Cont.bif (Cont.bif (Cont.bif (Cont.bif (Cont.bif (Cont.bif (Cont.bind (Cont.call C 70 _) fun _ => (Cont.bif (Cont.bif (Cont.bif (M26_1_c _ _ _ _ _ _ _ _ _ _ _ _ _ _ _ _ _ _ _ _ _ _ _ _ _ _ _ _ _ _ _ _) Cont.nn) Cont.nn) Cont.nn)) (M26_1_c _ _ _ _ _ _ _ _ _ _ _ _ _ _ _ _ _ _ _ _ _ _ _ _ _ _ _ _ _ _ _ _)) (M26_1_c _ _ _ _ _ _ _ _ _ _ _ _ _ _ _ _ _ _ _ _ _ _ _ _ _ _ _ _ _ _ _ _)) Cont.nn) Cont.nn) Cont.nn) (Cont.const _)) fun φ m hm => (congrArg (fun q => L26_1 (φ 0) q v0 v2_0 v2_1 v2_2 v3 v4 v6_0 v6_1 v6_2 v6_3 v6_4 v6_5 v6_6 v6_7 v6_8 v6_9 v6_10 v7_0 v7_1 v7_2 v17_0 v17_1 v17_2 v17_3 v17_4 v17_5 v17_6 v17_7 v17_8 v17_9 v56 v57) hm).trans (by kernel_rfl)
theorem o26 (a0 : List Dat) {r : List Dat} (h : (bif decide ((a0.length : Int) > 4096) then (some [.agg [.list ([] : List Dat), .int 0, .list ([] : List Dat)], .int 15, .int 0]) else ((E C 66 [.pbox [.shr 5 a0, .int .i64 0, .bool false, .bool false, .bool false, .bool false, .int .i64 0, .own 0 8 9 ([.str ByteArray.empty] : List Dat), .int .i64 0, .int .i64 0], .int .i64 0]).bind fun d1 => ((E C 67 [(psA (rd d1 1))]).bind fun d2 => (bif !((rd d2 0).B) then ((E C 68 [(psA (rd d2 1)), .int .i64 30, .int .i64 (((rd d2 1).C 1).I)]).bind fun d3 => (bif (((rd d3 0).C 8).I) != 0 then (some [.agg [.list ([] : List Dat), .int 0, .list ([] : List Dat)], .int (((rd d3 0).C 8).I), .int (((rd d3 0).C 9).I)]) else ((E C 69 [.agg [.int .i64 (((rd d1 0).C 0).I), .int .i64 (((rd d1 0).C 1).I), .int .i64 (((rd d1 0).C 2).I), .int .i64 (((rd d1 0).C 3).I), .int .i64 (((rd d1 0).C 4).I), .int .i64 (((rd d1 0).C 5).I), .int .i64 (((rd d1 0).C 6).I), .str (((rd d1 0).C 7).S), .shr 82 (((rd d1 0).C 8).L), .shr 3 (((rd d1 0).C 9).L), .shr 103 (((rd d1 0).C 10).L)], .own 1 0 38 ([] : List Dat)]).bind fun d4 => (M26_1 a0 ([] : List Dat) 0 ([] : List Dat) 0 0 (((rd d1 0).C 0).I) (((rd d1 0).C 1).I) (((rd d1 0).C 2).I) (((rd d1 0).C 3).I) (((rd d1 0).C 4).I) (((rd d1 0).C 5).I) (((rd d1 0).C 6).I) (((rd d1 0).C 7).S) (((rd d1 0).C 8).L) (((rd d1 0).C 9).L) (((rd d1 0).C 10).L) ((rd d4 0).L) (((rd d3 0).C 6).I) (((rd d3 0).C 7).L) (((rd d3 0).C 0).L) (((rd d3 0).C 1).I) (((rd d3 0).C 2).B) (((rd d3 0).C 3).B) (((rd d3 0).C 4).B) (((rd d3 0).C 5).B) (((rd d3 0).C 6).I) (((rd d3 0).C 7).L) (((rd d3 0).C 8).I) (((rd d3 0).C 9).I) (((rd d4 0).L).length : Int) 0)))) else (bif (((rd d2 1).C 8).I) != 0 then (some [.agg [.list ([] : List Dat), .int 0, .list ([] : List Dat)], .int (((rd d2 1).C 8).I), .int (((rd d2 1).C 9).I)]) else ((E C 69 [.agg [.int .i64 (((rd d1 0).C 0).I), .int .i64 (((rd d1 0).C 1).I), .int .i64 (((rd d1 0).C 2).I), .int .i64 (((rd d1 0).C 3).I), .int .i64 (((rd d1 0).C 4).I), .int .i64 (((rd d1 0).C 5).I), .int .i64 (((rd d1 0).C 6).I), .str (((rd d1 0).C 7).S), .shr 82 (((rd d1 0).C 8).L), .shr 3 (((rd d1 0).C 9).L), .shr 103 (((rd d1 0).C 10).L)], .own 1 0 38 ([] : List Dat)]).bind fun d6 => (M26_1 a0 ([] : List Dat) 0 ([] : List Dat) 0 0 (((rd d1 0).C 0).I) (((rd d1 0).C 1).I) (((rd d1 0).C 2).I) (((rd d1 0).C 3).I) (((rd d1 0).C 4).I) (((rd d1 0).C 5).I) (((rd d1 0).C 6).I) (((rd d1 0).C 7).S) (((rd d1 0).C 8).L) (((rd d1 0).C 9).L) (((rd d1 0).C 10).L) ((rd d6 0).L) (((rd d2 1).C 6).I) (((rd d2 1).C 7).L) (((rd d2 1).C 0).L) (((rd d2 1).C 1).I) (((rd d2 1).C 2).B) (((rd d2 1).C 3).B) (((rd d2 1).C 4).B) (((rd d2 1).C 5).B) (((rd d2 1).C 6).I) (((rd d2 1).C 7).L) (((rd d2 1).C 8).I) (((rd d2 1).C 9).I) (((rd d6 0).L).length : Int) 0)))))) : R) = some r) : E C 26 [.shr 5 a0] = some r := E_st h (Cont.bif (Cont.const _) (Cont.bind (Cont.call C 66 _) fun _ => (Cont.bind (Cont.call C 67 _) fun _ => (Cont.bif (Cont.bind (Cont.call C 68 _) fun _ => (Cont.bif (Cont.const _) (Cont.bind (Cont.call C 69 _) fun _ => (M26_1_e _ _ _ _ _ _ _ _ _ _ _ _ _ _ _ _ _ _ _ _ _ _ _ _ _ _ _ _ _ _ _ _)))) (Cont.bif (Cont.const _) (Cont.bind (Cont.call C 69 _) fun _ => (M26_1_e _ _ _ _ _ _ _ _ _ _ _ _ _ _ _ _ _ _ _ _ _ _ _ _ _ _ _ _ _ _ _ _))))))) fun φ => by kernel_rfl
/-- (*clew/parse.parser).alt -/
noncomputable def f66 : Func := Tryz.f66
def kp66 : List Nat := [0, 1, 4, 5, 6]
noncomputable def c66 (p : List Nat) : Code := pick f66 p
noncomputable def L66_1 (n : Nat) (m1 : Nat) (v0_0 : List Dat) (v0_1 : Int) (v0_2 v0_3 v0_4 v0_5 : Bool) (v0_6 : Int) (v0_7 : List Dat) (v0_8 v0_9 v1 v4_0 v4_1 v4_2 v4_3 v4_4 v4_5 v4_6 : Int) (v4_7 : ByteArray) (v4_8 v4_9 v4_10 : List Dat) (v5 : Int) (v6 : List Dat) : R := loopIter (fun E K => evCode C (ev C n) n kp66 (c66 [1, 1, 1, 0, 0, 0]) E K) [0, 1, 4, 5, 6] (Kblk 0 (Kseq C (ev C n) n kp66 (c66 [1, 1, 1, 1]) (Ktop C 66 f66 [.pbox [], .und]))) m1 (cn [.pbox [.shr 5 v0_0, .int .i64 v0_1, .bool v0_2, .bool v0_3, .bool v0_4, .bool v0_5, .int .i64 v0_6, .own 0 8 9 v0_7, .int .i64 v0_8, .int .i64 v0_9], .int .i64 v1, .und, .und, .box 103 [.int .i64 v4_0, .int .i64 v4_1, .int .i64 v4_2, .int .i64 v4_3, .int .i64 v4_4, .int .i64 v4_5, .int .i64 v4_6, .str v4_7, .own 4 9 82 v4_8, .own 4 10 3 v4_9, .own 4 11 103 v4_10], .int .i64 v5, .own 6 0 103 v6] (un 47 []))
noncomputable def M66_1 (v0_0 : List Dat) (v0_1 : Int) (v0_2 v0_3 v0_4 v0_5 : Bool) (v0_6 : Int) (v0_7 : List Dat) (v0_8 v0_9 v1 v4_0 v4_1 v4_2 v4_3 v4_4 v4_5 v4_6 : Int) (v4_7 : ByteArray) (v4_8 v4_9 v4_10 : List Dat) (v5 : Int) (v6 : List Dat) : R := lim fun φ => L66_1 (φ 0) (φ 1) v0_0 v0_1 v0_2 v0_3 v0_4 v0_5 v0_6 v0_7 v0_8 v0_9 v1 v4_0 v4_1 v4_2 v4_3 v4_4 v4_5 v4_6 v4_7 v4_8 v4_9 v4_10 v5 v6
theorem M66_1_c (v0_0 : List Dat) (v0_1 : Int) (v0_2 v0_3 v0_4 v0_5 : Bool) (v0_6 : Int) (v0_7 : List Dat) (v0_8 v0_9 v1 v4_0 v4_1 v4_2 v4_3 v4_4 v4_5 v4_6 : Int) (v4_7 : ByteArray) (v4_8 v4_9 v4_10 : List Dat) (v5 : Int) (v6 : List Dat) : Cont (fun φ => L66_1 (φ 0) (φ 1) v0_0 v0_1 v0_2 v0_3 v0_4 v0_5 v0_6 v0_7 v0_8 v0_9 v1 v4_0 v4_1 v4_2 v4_3 v4_4 v4_5 v4_6 v4_7 v4_8 v4_9 v4_10 v5 v6) (M66_1 v0_0 v0_1 v0_2 v0_3 v0_4 v0_5 v0_6 v0_7 v0_8 v0_9 v1 v4_0 v4_1 v4_2 v4_3 v4_4 v4_5 v4_6 v4_7 v4_8 v4_9 v4_10 v5 v6) := Cont.re id _
theorem M66_1_e (v0_0 : List Dat) (v0_1 : Int) (v0_2 v0_3 v0_4 v0_5 : Bool) (v0_6 : Int) (v0_7 : List Dat) (v0_8 v0_9 v1 v4_0 v4_1 v4_2 v4_3 v4_4 v4_5 v4_6 : Int) (v4_7 : ByteArray) (v4_8 v4_9 v4_10 : List Dat) (v5 : Int) (v6 : List Dat) : Cont (fun φ => L66_1 (φ 0) (φ 0) v0_0 v0_1 v0_2 v0_3 v0_4 v0_5 v0_6 v0_7 v0_8 v0_9 v1 v4_0 v4_1 v4_2 v4_3 v4_4 v4_5 v4_6 v4_7 v4_8 v4_9 v4_10 v5 v6) (M66_1 v0_0 v0_1 v0_2 v0_3 v0_4 v0_5 v0_6 v0_7 v0_8 v0_9 v1 v4_0 v4_1 v4_2 v4_3 v4_4 v4_5 v4_6 v4_7 v4_8 v4_9 v4_10 v5 v6) := Cont.re (toZ 1) fun φ => L66_1 (φ 0) (φ 1) v0_0 v0_1 v0_2 v0_3 v0_4 v0_5 v0_6 v0_7 v0_8 v0_9 v1 v4_0 v4_1 v4_2 v4_3 v4_4 v4_5 v4_6 v4_7 v4_8 v4_9 v4_10 v5 v6
theorem M66_1_of (v0_0 : List Dat) (v0_1 : Int) (v0_2 v0_3 v0_4 v0_5 : Bool) (v0_6 : Int) (v0_7 : List Dat) (v0_8 v0_9 v1 v4_0 v4_1 v4_2 v4_3 v4_4 v4_5 v4_6 : Int) (v4_7 : ByteArray) (v4_8 v4_9 v4_10 : List Dat) (v5 : Int) (v6 : List Dat) {r : List Dat} (h : ((E C 67 [.pbox [.shr 5 v0_0, .int .i64 v0_1, .bool v0_2, .bool v0_3, .bool v0_4, .bool v0_5, .int .i64 v0_6, .own 0 8 9 v0_7, .int .i64 v0_8, .int .i64 v0_9]]).bind fun d2 => (bif !((rd d2 0).B) then ((E C 109 [(psA (rd d2 1)), .int .i64 (((rd d2 1).C 1).I)]).bind fun d3 => (bif ((rd d3 0).I) == 124 then ((E C 108 [.pbox [.shr 5 (((rd d3 1).C 0).L), .int .i64 (IntKind.i64.wrap ((((rd d3 1).C 1).I) + 1)), .bool (((rd d3 1).C 2).B), .bool (((rd d3 1).C 3).B), .bool (((rd d3 1).C 4).B), .bool (((rd d3 1).C 5).B), .int .i64 (((rd d3 1).C 6).I), .own 0 8 9 (((rd d3 1).C 7).L), .int .i64 (((rd d3 1).C 8).I), .int .i64 (((rd d3 1).C 9).I)], .int .i64 v1]).bind fun d4 => (bif decide (v6.length + ([(psN (rd d4 0))] : List Dat).length ≤ capB 144) then (M66_1 (((rd d4 1).C 0).L) (((rd d4 1).C 1).I) (((rd d4 1).C 2).B) (((rd d4 1).C 3).B) (((rd d4 1).C 4).B) (((rd d4 1).C 5).B) (((rd d4 1).C 6).I) (((rd d4 1).C 7).L) (((rd d4 1).C 8).I) (((rd d4 1).C 9).I) v1 v4_0 v4_1 v4_2 v4_3 v4_4 v4_5 v4_6 v4_7 v4_8 v4_9 v4_10 v5 (v6 ++ ([(psN (rd d4 0))] : List Dat))) else none)) else (bif (v6.length : Int) == 1 then (bif decide (0 < (v6.length : Int)) then (bif decide (0 < v6.length) then (some [.agg [.int (((rd v6 0).C 0).I), .int (((rd v6 0).C 1).I), .int (((rd v6 0).C 2).I), .int (((rd v6 0).C 3).I), .int (((rd v6 0).C 4).I), .int (((rd v6 0).C 5).I), .int (((rd v6 0).C 6).I), .str (((rd v6 0).C 7).S), .list (((rd v6 0).C 8).L), .list (((rd v6 0).C 9).L), .list (((rd v6 0).C 10).L)], (psD (rd d3 1))]) else none) else none) else (some [.agg [.int 6, .int v5, .int (((rd d3 1).C 1).I), .int 0, .int 0, .int 0, .int 0, .str ByteArray.empty, .list ([] : List Dat), .list ([] : List Dat), .list v6], (psD (rd d3 1))])))) else (bif (v6.length : Int) == 1 then (bif decide (0 < (v6.length : Int)) then (bif decide (0 < v6.length) then (some [.agg [.int (((rd v6 0).C 0).I), .int (((rd v6 0).C 1).I), .int (((rd v6 0).C 2).I), .int (((rd v6 0).C 3).I), .int (((rd v6 0).C 4).I), .int (((rd v6 0).C 5).I), .int (((rd v6 0).C 6).I), .str (((rd v6 0).C 7).S), .list (((rd v6 0).C 8).L), .list (((rd v6 0).C 9).L), .list (((rd v6 0).C 10).L)], (psD (rd d2 1))]) else none) else none) else (some [.agg [.int 6, .int v5, .int (((rd d2 1).C 1).I), .int 0, .int 0, .int 0, .int 0, .str ByteArray.empty, .list ([] : List Dat), .list ([] : List Dat), .list v6], (psD (rd d2 1))]))) : R) = some r) : M66_1 v0_0 v0_1 v0_2 v0_3 v0_4 v0_5 v0_6 v0_7 v0_8 v0_9 v1 v4_0 v4_1 v4_2 v4_3 v4_4 v4_5 v4_6 v4_7 v4_8 v4_9 v4_10 v5 v6 = some r := lim_st (g := fun φ => L66_1 (φ 0) (φ 1) v0_0 v0_1 v0_2 v0_3 v0_4 v0_5 v0_6 v0_7 v0_8 v0_9 v1 v4_0 v4_1 v4_2 v4_3 v4_4 v4_5 v4_6 v4_7 v4_8 v4_9 v4_10 v5 v6) 1 h (Cont.bind (Cont.call C 67 _) fun _ => (Cont.bif (Cont.bind (Cont.call C 109 _) fun _ => (Cont.bif (Cont.bind (Cont.call C 108 _) fun _ => (Cont.bif (M66_1_c _ _ _ _ _ _ _ _ _ _ _ _ _ _ _ _ _ _ _ _ _ _ _ _) Cont.nn)) (Cont.bif (Cont.bif (Cont.bif (Cont.const _) Cont.nn) Cont.nn) (Cont.const _)))) (Cont.bif (Cont.bif (Cont.bif (Cont.const _) Cont.nn) Cont.nn) (Cont.const _)))) fun φ m hm => (congrArg (fun q => L66_1 (φ 0) q v0_0 v0_1 v0_2 v0_3 v0_4 v0_5 v0_6 v0_7 v0_8 v0_9 v1 v4_0 v4_1 v4_2 v4_3 v4_4 v4_5 v4_6 v4_7 v4_8 v4_9 v4_10 v5 v6) hm).trans (by kernel_rfl)
theorem o66 (p0_0 : List Dat) (p0_1 : Int) (p0_2 p0_3 p0_4 p0_5 : Bool) (p0_6 : Int) (p0_7 : List Dat) (p0_8 p0_9 a1 : Int) {r : List Dat} (h : ((E C 108 [.pbox [.shr 5 p0_0, .int .i64 p0_1, .bool p0_2, .bool p0_3, .bool p0_4, .bool p0_5, .int .i64 p0_6, .own 0 8 9 p0_7, .int .i64 p0_8, .int .i64 p0_9], .int .i64 a1]).bind fun d1 => (M66_1 (((rd d1 1).C 0).L) (((rd d1 1).C 1).I) (((rd d1 1).C 2).B) (((rd d1 1).C 3).B) (((rd d1 1).C 4).B) (((rd d1 1).C 5).B) (((rd d1 1).C 6).I) (((rd d1 1).C 7).L) (((rd d1 1).C 8).I) (((rd d1 1).C 9).I) a1 0 0 0 0 0 0 0 ByteArray.empty ([] : List Dat) ([] : List Dat) ([] : List Dat) p0_1 ([(psN (rd d1 0))] : List Dat)) : R) = some r) : E C 66 [.pbox [.shr 5 p0_0, .int .i64 p0_1, .bool p0_2, .bool p0_3, .bool p0_4, .bool p0_5, .int .i64 p0_6, .own 0 8 9 p0_7, .int .i64 p0_8, .int .i64 p0_9], .int .i64 a1] = some r := E_st h (Cont.bind (Cont.call C 108 _) fun _ => (M66_1_e _ _ _ _ _ _ _ _ _ _ _ _ _ _ _ _ _ _ _ _ _ _ _ _)) fun φ => by kernel_rfl
theorem o67 (p0_0 : List Dat) (p0_1 : Int) (p0_2 p0_3 p0_4 p0_5 : Bool) (p0_6 : Int) (p0_7 : List Dat) (p0_8 p0_9 : Int) {r : List Dat} (h : (bif p0_8 != 0 then (some [.bool true, .agg [.list p0_0, .int p0_1, .bool p0_2, .bool p0_3, .bool p0_4, .bool p0_5, .int p0_6, .list p0_7, .int p0_8, .int p0_9]]) else (some [.bool (decide (p0_1 ≥ (p0_0.length : Int))), .agg [.list p0_0, .int p0_1, .bool p0_2, .bool p0_3, .bool p0_4, .bool p0_5, .int p0_6, .list p0_7, .int p0_8, .int p0_9]]) : R) = some r) : E C 67 [.pbox [.shr 5 p0_0, .int .i64 p0_1, .bool p0_2, .bool p0_3, .bool p0_4, .bool p0_5, .int .i64 p0_6, .own 0 8 9 p0_7, .int .i64 p0_8, .int .i64 p0_9]] = some r := E_st h (Cont.bif (Cont.const _) (Cont.const _)) fun φ => by kernel_rfl
theorem o68 (p0_0 : List Dat) (p0_1 : Int) (p0_2 p0_3 p0_4 p0_5 : Bool) (p0_6 : Int) (p0_7 : List Dat) (p0_8 p0_9 a1 a2 : Int) {r : List Dat} (h : (bif p0_8 == 0 then (some [.agg [.list p0_0, .int p0_1, .bool p0_2, .bool p0_3, .bool p0_4, .bool p0_5, .int p0_6, .list p0_7, .int a1, .int a2]]) else (some [.agg [.list p0_0, .int p0_1, .bool p0_2, .bool p0_3, .bool p0_4, .bool p0_5, .int p0_6, .list p0_7, .int p0_8, .int p0_9]]) : R) = some r) : E C 68 [.pbox [.shr 5 p0_0, .int .i64 p0_1, .bool p0_2, .bool p0_3, .bool p0_4, .bool p0_5, .int .i64 p0_6, .own 0 8 9 p0_7, .int .i64 p0_8, .int .i64 p0_9], .int .i64 a1, .int .i64 a2] = some r := E_st h (Cont.bif (Cont.const _) (Cont.const _)) fun φ => by kernel_rfl
/-- clew/parse.number -/
noncomputable def f69 : Func := Tryz.f69
def kp69 : List Nat := [0, 1, 2, 4, 5, 6, 8, 17, 18, 19]
noncomputable def c69 (p : List Nat) : Code := pick f69 p
noncomputable def L69_1 (n : Nat) (m1 : Nat) (v0_0 v0_1 v0_2 v0_3 v0_4 v0_5 v0_6 : Int) (v0_7 : ByteArray) (v0_8 v0_9 v0_10 v1 : List Dat) (v2_0 v2_1 v2_2 v2_3 v2_4 v2_5 v2_6 : Int) (v2_7 : ByteArray) (v2_8 v2_9 v2_10 v4 : List Dat) (v5 : Int) (v6 v17 : List Dat) (v18 v19 : Int) : R := loopIter (fun E K => evCode C (ev C n) n kp69 (c69 [1, 1, 1, 1, 0, 1, 0, 0]) E K) [0, 1, 2, 4, 5, 6, 17, 18, 19] (Kblk 0 (Kseq C (ev C n) n kp69 (c69 [1, 1, 1, 1, 1]) (Ktop C 69 f69 [.und, .und]))) m1 (cn [.agg [.int .i64 v0_0, .int .i64 v0_1, .int .i64 v0_2, .int .i64 v0_3, .int .i64 v0_4, .int .i64 v0_5, .int .i64 v0_6, .str v0_7, .shr 82 v0_8, .shr 3 v0_9, .shr 103 v0_10], .own 1 0 38 v1, .box 103 [.int .i64 v2_0, .int .i64 v2_1, .int .i64 v2_2, .int .i64 v2_3, .int .i64 v2_4, .int .i64 v2_5, .int .i64 v2_6, .str v2_7, .shr 82 v2_8, .shr 3 v2_9, .shr 103 v2_10], .und, .own 4 0 38 v4, .int .i64 v5, .own 6 0 3 v6] (un 10 (cn [.shr 103 v17, .int .i64 v18, .int .i64 v19] (un 18 []))))
noncomputable def M69_1 (v0_0 v0_1 v0_2 v0_3 v0_4 v0_5 v0_6 : Int) (v0_7 : ByteArray) (v0_8 v0_9 v0_10 v1 : List Dat) (v2_0 v2_1 v2_2 v2_3 v2_4 v2_5 v2_6 : Int) (v2_7 : ByteArray) (v2_8 v2_9 v2_10 v4 : List Dat) (v5 : Int) (v6 v17 : List Dat) (v18 v19 : Int) : R := lim fun φ => L69_1 (φ 0) (φ 1) v0_0 v0_1 v0_2 v0_3 v0_4 v0_5 v0_6 v0_7 v0_8 v0_9 v0_10 v1 v2_0 v2_1 v2_2 v2_3 v2_4 v2_5 v2_6 v2_7 v2_8 v2_9 v2_10 v4 v5 v6 v17 v18 v19
theorem M69_1_c (v0_0 v0_1 v0_2 v0_3 v0_4 v0_5 v0_6 : Int) (v0_7 : ByteArray) (v0_8 v0_9 v0_10 v1 : List Dat) (v2_0 v2_1 v2_2 v2_3 v2_4 v2_5 v2_6 : Int) (v2_7 : ByteArray) (v2_8 v2_9 v2_10 v4 : List Dat) (v5 : Int) (v6 v17 : List Dat) (v18 v19 : Int) : Cont (fun φ => L69_1 (φ 0) (φ 1) v0_0 v0_1 v0_2 v0_3 v0_4 v0_5 v0_6 v0_7 v0_8 v0_9 v0_10 v1 v2_0 v2_1 v2_2 v2_3 v2_4 v2_5 v2_6 v2_7 v2_8 v2_9 v2_10 v4 v5 v6 v17 v18 v19) (M69_1 v0_0 v0_1 v0_2 v0_3 v0_4 v0_5 v0_6 v0_7 v0_8 v0_9 v0_10 v1 v2_0 v2_1 v2_2 v2_3 v2_4 v2_5 v2_6 v2_7 v2_8 v2_9 v2_10 v4 v5 v6 v17 v18 v19) := Cont.re id _
theorem M69_1_e (v0_0 v0_1 v0_2 v0_3 v0_4 v0_5 v0_6 : Int) (v0_7 : ByteArray) (v0_8 v0_9 v0_10 v1 : List Dat) (v2_0 v2_1 v2_2 v2_3 v2_4 v2_5 v2_6 : Int) (v2_7 : ByteArray) (v2_8 v2_9 v2_10 v4 : List Dat) (v5 : Int) (v6 v17 : List Dat) (v18 v19 : Int) : Cont (fun φ => L69_1 (φ 0) (φ 0) v0_0 v0_1 v0_2 v0_3 v0_4 v0_5 v0_6 v0_7 v0_8 v0_9 v0_10 v1 v2_0 v2_1 v2_2 v2_3 v2_4 v2_5 v2_6 v2_7 v2_8 v2_9 v2_10 v4 v5 v6 v17 v18 v19) (M69_1 v0_0 v0_1 v0_2 v0_3 v0_4 v0_5 v0_6 v0_7 v0_8 v0_9 v0_10 v1 v2_0 v2_1 v2_2 v2_3 v2_4 v2_5 v2_6 v2_7 v2_8 v2_9 v2_10 v4 v5 v6 v17 v18 v19) := Cont.re (toZ 1) fun φ => L69_1 (φ 0) (φ 1) v0_0 v0_1 v0_2 v0_3 v0_4 v0_5 v0_6 v0_7 v0_8 v0_9 v0_10 v1 v2_0 v2_1 v2_2 v2_3 v2_4 v2_5 v2_6 v2_7 v2_8 v2_9 v2_10 v4 v5 v6 v17 v18 v19
theorem M69_1_of (v0_0 v0_1 v0_2 v0_3 v0_4 v0_5 v0_6 : Int) (v0_7 : ByteArray) (v0_8 v0_9 v0_10 v1 : List Dat) (v2_0 v2_1 v2_2 v2_3 v2_4 v2_5 v2_6 : Int) (v2_7 : ByteArray) (v2_8 v2_9 v2_10 v4 : List Dat) (v5 : Int) (v6 v17 : List Dat) (v18 v19 : Int) {r : List Dat} (h : (bif decide (v19 < v18) then (bif decide (0 ≤ v19) then (bif decide (v19 < (v17.length : Int)) then (bif decide (v19.toNat < v17.length) then (bif decide (v6.length + ([.int (v1.length : Int)] : List Dat).length ≤ capB 8) then ((E C 69 [.agg [.int .i64 (((rd v17 v19.toNat).C 0).I), .int .i64 (((rd v17 v19.toNat).C 1).I), .int .i64 (((rd v17 v19.toNat).C 2).I), .int .i64 (((rd v17 v19.toNat).C 3).I), .int .i64 (((rd v17 v19.toNat).C 4).I), .int .i64 (((rd v17 v19.toNat).C 5).I), .int .i64 (((rd v17 v19.toNat).C 6).I), .str (((rd v17 v19.toNat).C 7).S), .shr 82 (((rd v17 v19.toNat).C 8).L), .shr 3 (((rd v17 v19.toNat).C 9).L), .shr 103 (((rd v17 v19.toNat).C 10).L)], .own 1 0 38 v1]).bind fun d1 => (M69_1 v0_0 v0_1 v0_2 v0_3 v0_4 v0_5 v0_6 v0_7 v0_8 v0_9 v0_10 ((rd d1 0).L) v2_0 v2_1 v2_2 v2_3 v2_4 v2_5 v2_6 v2_7 v2_8 v2_9 v2_10 v4 v5 (v6 ++ ([.int (v1.length : Int)] : List Dat)) v17 v18 (IntKind.i64.wrap (v19 + 1)))) else none) else none) else none) else none) else (bif decide (0 ≤ v5) then (bif decide (v5 < (v1.length : Int)) then (bif decide (v5.toNat < v1.length) then (some [.list (v1.set v5.toNat (.agg [(rd v1 v5.toNat).C 0, (rd v1 v5.toNat).C 1, (rd v1 v5.toNat).C 2, (rd v1 v5.toNat).C 3, (rd v1 v5.toNat).C 4, (rd v1 v5.toNat).C 5, (rd v1 v5.toNat).C 6, (rd v1 v5.toNat).C 7, (rd v1 v5.toNat).C 8, .list v6]))]) else none) else none) else none) : R) = some r) : M69_1 v0_0 v0_1 v0_2 v0_3 v0_4 v0_5 v0_6 v0_7 v0_8 v0_9 v0_10 v1 v2_0 v2_1 v2_2 v2_3 v2_4 v2_5 v2_6 v2_7 v2_8 v2_9 v2_10 v4 v5 v6 v17 v18 v19 = some r := lim_st (g := fun φ => L69_1 (φ 0) (φ 1) v0_0 v0_1 v0_2 v0_3 v0_4 v0_5 v0_6 v0_7 v0_8 v0_9 v0_10 v1 v2_0 v2_1 v2_2 v2_3 v2_4 v2_5 v2_6 v2_7 v2_8 v2_9 v2_10 v4 v5 v6 v17 v18 v19) 1 h (Cont.bif (Cont.bif (Cont.bif (Cont.bif (Cont.bif (Cont.bind (Cont.call C 69 _) fun _ => (M69_1_c _ _ _ _ _ _ _ _ _ _ _ _ _ _ _ _ _ _ _ _ _ _ _ _ _ _ _ _ _)) Cont.nn) Cont.nn) Cont.nn) Cont.nn) (Cont.bif (Cont.bif (Cont.bif (Cont.const _) Cont.nn) Cont.nn) Cont.nn)) fun φ m hm => (congrArg (fun q => L69_1 (φ 0) q v0_0 v0_1 v0_2 v0_3 v0_4 v0_5 v0_6 v0_7 v0_8 v0_9 v0_10 v1 v2_0 v2_1 v2_2 v2_3 v2_4 v2_5 v2_6 v2_7 v2_8 v2_9 v2_10 v4 v5 v6 v17 v18 v19) hm).trans (by kernel_rfl)
theorem o69 (a0_0 a0_1 a0_2 a0_3 a0_4 a0_5 a0_6 : Int) (a0_7 : ByteArray) (a0_8 a0_9 a0_10 a1 : List Dat) {r : List Dat} (h : (bif decide (a1.length + ([.agg [.int a0_0, .int a0_1, .int a0_2, .int a0_3, .int a0_4, .int a0_5, .int a0_6, .str a0_7, .list a0_8, .list a0_9]] : List Dat).length ≤ capB 120) then (M69_1 a0_0 a0_1 a0_2 a0_3 a0_4 a0_5 a0_6 a0_7 a0_8 a0_9 a0_10 (a1 ++ ([.agg [.int a0_0, .int a0_1, .int a0_2, .int a0_3, .int a0_4, .int a0_5, .int a0_6, .str a0_7, .list a0_8, .list a0_9]] : List Dat)) a0_0 a0_1 a0_2 a0_3 a0_4 a0_5 a0_6 a0_7 a0_8 a0_9 a0_10 ([] : List Dat) (a1.length : Int) ([] : List Dat) a0_10 (a0_10.length : Int) 0) else none : R) = some r) : E C 69 [.agg [.int .i64 a0_0, .int .i64 a0_1, .int .i64 a0_2, .int .i64 a0_3, .int .i64 a0_4, .int .i64 a0_5, .int .i64 a0_6, .str a0_7, .shr 82 a0_8, .shr 3 a0_9, .shr 103 a0_10], .own 1 0 38 a1] = some r := E_st h (Cont.bif (M69_1_e _ _ _ _ _ _ _ _ _ _ _ _ _ _ _ _ _ _ _ _ _ _ _ _ _ _ _ _ _) Cont.nn) fun φ => by kernel_rfl
/-- (*clew/parse.parser).row -/
noncomputable def f108 : Func := Tryz.f108
def kp108 : List Nat := [0, 1, 4, 5, 6, 20]
noncomputable def c108 (p : List Nat) : Code := pick f108 p
noncomputable def L108_1 (n : Nat) (m1 : Nat) (v0_0 : List Dat) (v0_1 : Int) (v0_2 v0_3 v0_4 v0_5 : Bool) (v0_6 : Int) (v0_7 : List Dat) (v0_8 v0_9 v1 v4_0 v4_1 v4_2 v4_3 v4_4 v4_5 v4_6 : Int) (v4_7 : ByteArray) (v4_8 v4_9 v4_10 : List Dat) (v5 : Int) (v6 : List Dat) : R := loopIter (fun E K => evCode C (ev C n) n kp108 (c108 [1, 1, 1, 0, 0, 0]) E K) [0, 1, 4, 5, 6] (Kblk 0 (Kseq C (ev C n) n kp108 (c108 [1, 1, 1, 1]) (Ktop C 108 f108 [.pbox [], .und]))) m1 (cn [.pbox [.shr 5 v0_0, .int .i64 v0_1, .bool v0_2, .bool v0_3, .bool v0_4, .bool v0_5, .int .i64 v0_6, .own 0 8 9 v0_7, .int .i64 v0_8, .int .i64 v0_9], .int .i64 v1, .und, .und, .box 103 [.int .i64 v4_0, .int .i64 v4_1, .int .i64 v4_2, .int .i64 v4_3, .int .i64 v4_4, .int .i64 v4_5, .int .i64 v4_6, .str v4_7, .own 4 9 82 v4_8, .own 4 10 3 v4_9, .own 4 11 103 v4_10], .int .i64 v5, .own 6 0 103 v6] (un 41 []))
noncomputable def M108_1 (v0_0 : List Dat) (v0_1 : Int) (v0_2 v0_3 v0_4 v0_5 : Bool) (v0_6 : Int) (v0_7 : List Dat) (v0_8 v0_9 v1 v4_0 v4_1 v4_2 v4_3 v4_4 v4_5 v4_6 : Int) (v4_7 : ByteArray) (v4_8 v4_9 v4_10 : List Dat) (v5 : Int) (v6 : List Dat) : R := lim fun φ => L108_1 (φ 0) (φ 1) v0_0 v0_1 v0_2 v0_3 v0_4 v0_5 v0_6 v0_7 v0_8 v0_9 v1 v4_0 v4_1 v4_2 v4_3 v4_4 v4_5 v4_6 v4_7 v4_8 v4_9 v4_10 v5 v6
theorem M108_1_c (v0_0 : List Dat) (v0_1 : Int) (v0_2 v0_3 v0_4 v0_5 : Bool) (v0_6 : Int) (v0_7 : List Dat) (v0_8 v0_9 v1 v4_0 v4_1 v4_2 v4_3 v4_4 v4_5 v4_6 : Int) (v4_7 : ByteArray) (v4_8 v4_9 v4_10 : List Dat) (v5 : Int) (v6 : List Dat) : Cont (fun φ => L108_1 (φ 0) (φ 1) v0_0 v0_1 v0_2 v0_3 v0_4 v0_5 v0_6 v0_7 v0_8 v0_9 v1 v4_0 v4_1 v4_2 v4_3 v4_4 v4_5 v4_6 v4_7 v4_8 v4_9 v4_10 v5 v6) (M108_1 v0_0 v0_1 v0_2 v0_3 v0_4 v0_5 v0_6 v0_7 v0_8 v0_9 v1 v4_0 v4_1 v4_2 v4_3 v4_4 v4_5 v4_6 v4_7 v4_8 v4_9 v4_10 v5 v6) := Cont.re id _
theorem M108_1_e (v0_0 : List Dat) (v0_1 : Int) (v0_2 v0_3 v0_4 v0_5 : Bool) (v0_6 : Int) (v0_7 : List Dat) (v0_8 v0_9 v1 v4_0 v4_1 v4_2 v4_3 v4_4 v4_5 v4_6 : Int) (v4_7 : ByteArray) (v4_8 v4_9 v4_10 : List Dat) (v5 : Int) (v6 : List Dat) : Cont (fun φ => L108_1 (φ 0) (φ 0) v0_0 v0_1 v0_2 v0_3 v0_4 v0_5 v0_6 v0_7 v0_8 v0_9 v1 v4_0 v4_1 v4_2 v4_3 v4_4 v4_5 v4_6 v4_7 v4_8 v4_9 v4_10 v5 v6) (M108_1 v0_0 v0_1 v0_2 v0_3 v0_4 v0_5 v0_6 v0_7 v0_8 v0_9 v1 v4_0 v4_1 v4_2 v4_3 v4_4 v4_5 v4_6 v4_7 v4_8 v4_9 v4_10 v5 v6) := Cont.re (toZ 1) fun φ => L108_1 (φ 0) (φ 1) v0_0 v0_1 v0_2 v0_3 v0_4 v0_5 v0_6 v0_7 v0_8 v0_9 v1 v4_0 v4_1 v4_2 v4_3 v4_4 v4_5 v4_6 v4_7 v4_8 v4_9 v4_10 v5 v6
theorem M108_1_of (v0_0 : List Dat) (v0_1 : Int) (v0_2 v0_3 v0_4 v0_5 : Bool) (v0_6 : Int) (v0_7 : List Dat) (v0_8 v0_9 v1 v4_0 v4_1 v4_2 v4_3 v4_4 v4_5 v4_6 : Int) (v4_7 : ByteArray) (v4_8 v4_9 v4_10 : List Dat) (v5 : Int) (v6 : List Dat) {r : List Dat} (h : ((E C 147 [.pbox [.shr 5 v0_0, .int .i64 v0_1, .bool v0_2, .bool v0_3, .bool v0_4, .bool v0_5, .int .i64 v0_6, .own 0 8 9 v0_7, .int .i64 v0_8, .int .i64 v0_9]]).bind fun d1 => (bif !((rd d1 0).B) then ((E C 148 [(psA (rd d1 1)), .int .i64 v1]).bind fun d2 => (bif decide (v6.length + ((rd d2 0).L).length ≤ capB 144) then (M108_1 (((rd d2 1).C 0).L) (((rd d2 1).C 1).I) (((rd d2 1).C 2).B) (((rd d2 1).C 3).B) (((rd d2 1).C 4).B) (((rd d2 1).C 5).B) (((rd d2 1).C 6).I) (((rd d2 1).C 7).L) (((rd d2 1).C 8).I) (((rd d2 1).C 9).I) v1 v4_0 v4_1 v4_2 v4_3 v4_4 v4_5 v4_6 v4_7 v4_8 v4_9 v4_10 v5 (v6 ++ ((rd d2 0).L))) else none)) else (bif (v6.length : Int) == 0 then (some [.agg [.int 1, .int v5, .int v5, .int 0, .int 0, .int 0, .int 0, .str ByteArray.empty, .list ([] : List Dat), .list ([] : List Dat), .list ([] : List Dat)], (psD (rd d1 1))]) else (bif (v6.length : Int) == 1 then (bif decide (0 < (v6.length : Int)) then (bif decide (0 < v6.length) then (some [.agg [.int (((rd v6 0).C 0).I), .int (((rd v6 0).C 1).I), .int (((rd v6 0).C 2).I), .int (((rd v6 0).C 3).I), .int (((rd v6 0).C 4).I), .int (((rd v6 0).C 5).I), .int (((rd v6 0).C 6).I), .str (((rd v6 0).C 7).S), .list (((rd v6 0).C 8).L), .list (((rd v6 0).C 9).L), .list (((rd v6 0).C 10).L)], (psD (rd d1 1))]) else none) else none) else (bif decide (0 < (v6.length : Int)) then (bif decide (0 < v6.length) then (bif decide (0 ≤ (IntKind.i64.wrap ((v6.length : Int) - 1))) then (bif decide ((IntKind.i64.wrap ((v6.length : Int) - 1)) < (v6.length : Int)) then (bif decide ((IntKind.i64.wrap ((v6.length : Int) - 1)).toNat < v6.length) then (some [.agg [.int 5, .int (((rd v6 0).C 1).I), .int (((rd v6 ((IntKind.i64.wrap ((v6.length : Int) - 1)).toNat)).C 2).I), .int 0, .int 0, .int 0, .int 0, .str ByteArray.empty, .list ([] : List Dat), .list ([] : List Dat), .list v6], (psD (rd d1 1))]) else none) else none) else none) else none) else none)))) : R) = some r) : M108_1 v0_0 v0_1 v0_2 v0_3 v0_4 v0_5 v0_6 v0_7 v0_8 v0_9 v1 v4_0 v4_1 v4_2 v4_3 v4_4 v4_5 v4_6 v4_7 v4_8 v4_9 v4_10 v5 v6 = some r := lim_st (g := fun φ => L108_1 (φ 0) (φ 1) v0_0 v0_1 v0_2 v0_3 v0_4 v0_5 v0_6 v0_7 v0_8 v0_9 v1 v4_0 v4_1 v4_2 v4_3 v4_4 v4_5 v4_6 v4_7 v4_8 v4_9 v4_10 v5 v6) 1 h (Cont.bind (Cont.call C 147 _) fun _ => (Cont.bif (Cont.bind (Cont.call C 148 _) fun _ => (Cont.bif (M108_1_c _ _ _ _ _ _ _ _ _ _ _ _ _ _ _ _ _ _ _ _ _ _ _ _) Cont.nn)) (Cont.bif (Cont.const _) (Cont.bif (Cont.bif (Cont.bif (Cont.const _) Cont.nn) Cont.nn) (Cont.bif (Cont.bif (Cont.bif (Cont.bif (Cont.bif (Cont.const _) Cont.nn) Cont.nn) Cont.nn) Cont.nn) Cont.nn))))) fun φ m hm => (congrArg (fun q => L108_1 (φ 0) q v0_0 v0_1 v0_2 v0_3 v0_4 v0_5 v0_6 v0_7 v0_8 v0_9 v1 v4_0 v4_1 v4_2 v4_3 v4_4 v4_5 v4_6 v4_7 v4_8 v4_9 v4_10 v5 v6) hm).trans (by kernel_rfl)
theorem o108 (p0_0 : List Dat) (p0_1 : Int) (p0_2 p0_3 p0_4 p0_5 : Bool) (p0_6 : Int) (p0_7 : List Dat) (p0_8 p0_9 a1 : Int) {r : List Dat} (h : (M108_1 p0_0 p0_1 p0_2 p0_3 p0_4 p0_5 p0_6 p0_7 p0_8 p0_9 a1 0 0 0 0 0 0 0 ByteArray.empty ([] : List Dat) ([] : List Dat) ([] : List Dat) p0_1 ([] : List Dat) : R) = some r) : E C 108 [.pbox [.shr 5 p0_0, .int .i64 p0_1, .bool p0_2, .bool p0_3, .bool p0_4, .bool p0_5, .int .i64 p0_6, .own 0 8 9 p0_7, .int .i64 p0_8, .int .i64 p0_9], .int .i64 a1] = some r := E_st h (M108_1_e _ _ _ _ _ _ _ _ _ _ _ _ _ _ _ _ _ _ _ _ _ _ _ _) fun φ => by kernel_rfl
theorem o109 (p0_0 : List Dat) (p0_1 : Int) (p0_2 p0_3 p0_4 p0_5 : Bool) (p0_6 : Int) (p0_7 : List Dat) (p0_8 p0_9 a1 : Int) {r : List Dat} (h : (bif decide (a1 ≥ (p0_0.length : Int)) then (some [.int 0, .agg [.list p0_0, .int p0_1, .bool p0_2, .bool p0_3, .bool p0_4, .bool p0_5, .int p0_6, .list p0_7, .int p0_8, .int p0_9]]) else (bif decide (0 ≤ a1) then (bif decide (a1 < (p0_0.length : Int)) then (bif decide (a1.toNat < p0_0.length) then (some [.int ((rd p0_0 a1.toNat).I), .agg [.list p0_0, .int p0_1, .bool p0_2, .bool p0_3, .bool p0_4, .bool p0_5, .int p0_6, .list p0_7, .int p0_8, .int p0_9]]) else none) else none) else none) : R) = some r) : E C 109 [.pbox [.shr 5 p0_0, .int .i64 p0_1, .bool p0_2, .bool p0_3, .bool p0_4, .bool p0_5, .int .i64 p0_6, .own 0 8 9 p0_7, .int .i64 p0_8, .int .i64 p0_9], .int .i64 a1] = some r := E_st h (Cont.bif (Cont.const _) (Cont.bif (Cont.bif (Cont.bif (Cont.const _) Cont.nn) Cont.nn) Cont.nn)) fun φ => by kernel_rfl
theorem o147 (p0_0 : List Dat) (p0_1 : Int) (p0_2 p0_3 p0_4 p0_5 : Bool) (p0_6 : Int) (p0_7 : List Dat) (p0_8 p0_9 : Int) {r : List Dat} (h : ((E C 177 [.pbox [.shr 5 p0_0, .int .i64 p0_1, .bool p0_2, .bool p0_3, .bool p0_4, .bool p0_5, .int .i64 p0_6, .own 0 8 9 p0_7, .int .i64 p0_8, .int .i64 p0_9]]).bind fun d1 => ((E C 67 [(psA (rd d1 0))]).bind fun d2 => (bif (rd d2 0).B then (some [.bool true, (psD (rd d2 1))]) else ((E C 109 [(psA (rd d2 1)), .int .i64 (((rd d2 1).C 1).I)]).bind fun d3 => (bif ((rd d3 0).I) == 124 then (some [.bool true, (psD (rd d3 1))]) else ((E C 109 [(psA (rd d3 1)), .int .i64 (((rd d3 1).C 1).I)]).bind fun d4 => (some [.bool (((rd d4 0).I) == 41), (psD (rd d4 1))])))))) : R) = some r) : E C 147 [.pbox [.shr 5 p0_0, .int .i64 p0_1, .bool p0_2, .bool p0_3, .bool p0_4, .bool p0_5, .int .i64 p0_6, .own 0 8 9 p0_7, .int .i64 p0_8, .int .i64 p0_9]] = some r := E_st h (Cont.bind (Cont.call C 177 _) fun _ => (Cont.bind (Cont.call C 67 _) fun _ => (Cont.bif (Cont.const _) (Cont.bind (Cont.call C 109 _) fun _ => (Cont.bif (Cont.const _) (Cont.bind (Cont.call C 109 _) fun _ => (Cont.const _))))))) fun φ => by kernel_rfl
theorem o148 (p0_0 : List Dat) (p0_1 : Int) (p0_2 p0_3 p0_4 p0_5 : Bool) (p0_6 : Int) (p0_7 : List Dat) (p0_8 p0_9 a1 : Int) {r : List Dat} (h : ((E C 178 [.pbox [.shr 5 p0_0, .int .i64 p0_1, .bool p0_2, .bool p0_3, .bool p0_4, .bool p0_5, .int .i64 p0_6, .own 0 8 9 p0_7, .int .i64 p0_8, .int .i64 p0_9]]).bind fun d1 => (bif (rd d1 1).B then ((E C 68 [(psA (rd d1 2)), .int .i64 31, .int .i64 p0_1]).bind fun d2 => (bif (((rd d2 0).C 8).I) != 0 then (some [.list ([] : List Dat), (psD (rd d2 0))]) else ((E C 179 [(psA (rd d2 0)), .int .i64 a1]).bind fun d3 => (bif (((rd d3 2).C 8).I) != 0 then (some [.list ([] : List Dat), (psD (rd d3 2))]) else ((E C 177 [(psA (rd d3 2))]).bind fun d4 => ((E C 178 [(psA (rd d4 0))]).bind fun d5 => (bif (rd d5 1).B then (bif !((rd d3 1).B) then ((E C 68 [(psA (rd d5 2)), .int .i64 31, .int .i64 (((rd d5 2).C 1).I)]).bind fun d6 => (some [.list ([] : List Dat), (psD (rd d6 0))])) else ((E C 180 [.agg [.int .i64 (((rd d3 0).C 0).I), .int .i64 (((rd d3 0).C 1).I), .int .i64 (((rd d3 0).C 2).I), .int .i64 (((rd d3 0).C 3).I), .int .i64 (((rd d3 0).C 4).I), .int .i64 (((rd d3 0).C 5).I), .int .i64 (((rd d3 0).C 6).I), .str (((rd d3 0).C 7).S), .shr 82 (((rd d3 0).C 8).L), .shr 3 (((rd d3 0).C 9).L), .shr 103 (((rd d3 0).C 10).L)], .int .i64 p0_1, .agg [.int .i64 (((rd d5 0).C 0).I), .int .i64 (((rd d5 0).C 1).I), .int .i64 (((rd d5 0).C 2).I), .int .i64 (((rd d5 0).C 3).I)]]).bind fun d7 => ((E C 177 [.pbox [.shr 5 (((rd d5 2).C 0).L), .int .i64 (((rd d5 0).C 3).I), .bool (((rd d5 2).C 2).B), .bool (((rd d5 2).C 3).B), .bool (((rd d5 2).C 4).B), .bool (((rd d5 2).C 5).B), .int .i64 (((rd d5 2).C 6).I), .own 0 8 9 (((rd d5 2).C 7).L), .int .i64 (((rd d5 2).C 8).I), .int .i64 (((rd d5 2).C 9).I)]]).bind fun d8 => ((E C 181 [.shr 5 (((rd d8 0).C 0).L), .int .i64 (((rd d8 0).C 1).I)]).bind fun d9 => (bif (rd d9 1).B then ((E C 68 [(psA (rd d8 0)), .int .i64 31, .int .i64 (((rd d8 0).C 1).I)]).bind fun d10 => (bif (((rd d7 0).C 0).I) == 0 then (some [.list ([] : List Dat), (psD (rd d10 0))]) else (some [.list ([(psN (rd d7 0))] : List Dat), (psD (rd d10 0))]))) else (bif ((rd d9 2).I) != 0 then ((E C 68 [(psA (rd d8 0)), .int .i64 31, .int .i64 (((rd d8 0).C 1).I)]).bind fun d11 => (bif (((rd d7 0).C 0).I) == 0 then (some [.list ([] : List Dat), (psD (rd d11 0))]) else (some [.list ([(psN (rd d7 0))] : List Dat), (psD (rd d11 0))]))) else (bif (((rd d7 0).C 0).I) == 0 then (some [.list ([] : List Dat), (psD (rd d8 0))]) else (some [.list ([(psN (rd d7 0))] : List Dat), (psD (rd d8 0))])))))))) else (bif (((rd d3 0).C 0).I) == 0 then (some [.list ([] : List Dat), (psD (rd d5 2))]) else (some [.list ([(psN (rd d3 0))] : List Dat), (psD (rd d5 2))]))))))))) else (bif (((rd d1 2).C 8).I) != 0 then (some [.list ([] : List Dat), (psD (rd d1 2))]) else ((E C 179 [(psA (rd d1 2)), .int .i64 a1]).bind fun d12 => (bif (((rd d12 2).C 8).I) != 0 then (some [.list ([] : List Dat), (psD (rd d12 2))]) else ((E C 177 [(psA (rd d12 2))]).bind fun d13 => ((E C 178 [(psA (rd d13 0))]).bind fun d14 => (bif (rd d14 1).B then (bif !((rd d12 1).B) then ((E C 68 [(psA (rd d14 2)), .int .i64 31, .int .i64 (((rd d14 2).C 1).I)]).bind fun d15 => (some [.list ([] : List Dat), (psD (rd d15 0))])) else ((E C 180 [.agg [.int .i64 (((rd d12 0).C 0).I), .int .i64 (((rd d12 0).C 1).I), .int .i64 (((rd d12 0).C 2).I), .int .i64 (((rd d12 0).C 3).I), .int .i64 (((rd d12 0).C 4).I), .int .i64 (((rd d12 0).C 5).I), .int .i64 (((rd d12 0).C 6).I), .str (((rd d12 0).C 7).S), .shr 82 (((rd d12 0).C 8).L), .shr 3 (((rd d12 0).C 9).L), .shr 103 (((rd d12 0).C 10).L)], .int .i64 p0_1, .agg [.int .i64 (((rd d14 0).C 0).I), .int .i64 (((rd d14 0).C 1).I), .int .i64 (((rd d14 0).C 2).I), .int .i64 (((rd d14 0).C 3).I)]]).bind fun d16 => ((E C 177 [.pbox [.shr 5 (((rd d14 2).C 0).L), .int .i64 (((rd d14 0).C 3).I), .bool (((rd d14 2).C 2).B), .bool (((rd d14 2).C 3).B), .bool (((rd d14 2).C 4).B), .bool (((rd d14 2).C 5).B), .int .i64 (((rd d14 2).C 6).I), .own 0 8 9 (((rd d14 2).C 7).L), .int .i64 (((rd d14 2).C 8).I), .int .i64 (((rd d14 2).C 9).I)]]).bind fun d17 => ((E C 181 [.shr 5 (((rd d17 0).C 0).L), .int .i64 (((rd d17 0).C 1).I)]).bind fun d18 => (bif (rd d18 1).B then ((E C 68 [(psA (rd d17 0)), .int .i64 31, .int .i64 (((rd d17 0).C 1).I)]).bind fun d19 => (bif (((rd d16 0).C 0).I) == 0 then (some [.list ([] : List Dat), (psD (rd d19 0))]) else (some [.list ([(psN (rd d16 0))] : List Dat), (psD (rd d19 0))]))) else (bif ((rd d18 2).I) != 0 then ((E C 68 [(psA (rd d17 0)), .int .i64 31, .int .i64 (((rd d17 0).C 1).I)]).bind fun d20 => (bif (((rd d16 0).C 0).I) == 0 then (some [.list ([] : List Dat), (psD (rd d20 0))]) else (some [.list ([(psN (rd d16 0))] : List Dat), (psD (rd d20 0))]))) else (bif (((rd d16 0).C 0).I) == 0 then (some [.list ([] : List Dat), (psD (rd d17 0))]) else (some [.list ([(psN (rd d16 0))] : List Dat), (psD (rd d17 0))])))))))) else (bif (((rd d12 0).C 0).I) == 0 then (some [.list ([] : List Dat), (psD (rd d14 2))]) else (some [.list ([(psN (rd d12 0))] : List Dat), (psD (rd d14 2))]))))))))) : R) = some r) : E C 148 [.pbox [.shr 5 p0_0, .int .i64 p0_1, .bool p0_2, .bool p0_3, .bool p0_4, .bool p0_5, .int .i64 p0_6, .own 0 8 9 p0_7, .int .i64 p0_8, .int .i64 p0_9], .int .i64 a1] = some r := E_st h (Cont.bind (Cont.call C 178 _) fun _ => (Cont.bif (Cont.bind (Cont.call C 68 _) fun _ => (Cont.bif (Cont.const _) (Cont.bind (Cont.call C 179 _) fun _ => (Cont.bif (Cont.const _) (Cont.bind (Cont.call C 177 _) fun _ => (Cont.bind (Cont.call C 178 _) fun _ => (Cont.bif (Cont.bif (Cont.bind (Cont.call C 68 _) fun _ => (Cont.const _)) (Cont.bind (Cont.call C 180 _) fun _ => (Cont.bind (Cont.call C 177 _) fun _ => (Cont.bind (Cont.call C 181 _) fun _ => (Cont.bif (Cont.bind (Cont.call C 68 _) fun _ => (Cont.bif (Cont.const _) (Cont.const _))) (Cont.bif (Cont.bind (Cont.call C 68 _) fun _ => (Cont.bif (Cont.const _) (Cont.const _))) (Cont.bif (Cont.const _) (Cont.const _)))))))) (Cont.bif (Cont.const _) (Cont.const _))))))))) (Cont.bif (Cont.const _) (Cont.bind (Cont.call C 179 _) fun _ => (Cont.bif (Cont.const _) (Cont.bind (Cont.call C 177 _) fun _ => (Cont.bind (Cont.call C 178 _) fun _ => (Cont.bif (Cont.bif (Cont.bind (Cont.call C 68 _) fun _ => (Cont.const _)) (Cont.bind (Cont.call C 180 _) fun _ => (Cont.bind (Cont.call C 177 _) fun _ => (Cont.bind (Cont.call C 181 _) fun _ => (Cont.bif (Cont.bind (Cont.call C 68 _) fun _ => (Cont.bif (Cont.const _) (Cont.const _))) (Cont.bif (Cont.bind (Cont.call C 68 _) fun _ => (Cont.bif (Cont.const _) (Cont.const _))) (Cont.bif (Cont.const _) (Cont.const _)))))))) (Cont.bif (Cont.const _) (Cont.const _)))))))))) fun φ => by kernel_rfl
theorem o177 (p0_0 : List Dat) (p0_1 : Int) (p0_2 p0_3 p0_4 p0_5 : Bool) (p0_6 : Int) (p0_7 : List Dat) (p0_8 p0_9 : Int) {r : List Dat} (h : (bif p0_5 then ((E C 205 [.shr 5 p0_0, .int .i64 p0_1]).bind fun d1 => (some [.agg [.list p0_0, .int ((rd d1 0).I), .bool p0_2, .bool p0_3, .bool p0_4, .bool p0_5, .int p0_6, .list p0_7, .int p0_8, .int p0_9]])) else (some [.agg [.list p0_0, .int p0_1, .bool p0_2, .bool p0_3, .bool p0_4, .bool p0_5, .int p0_6, .list p0_7, .int p0_8, .int p0_9]]) : R) = some r) : E C 177 [.pbox [.shr 5 p0_0, .int .i64 p0_1, .bool p0_2, .bool p0_3, .bool p0_4, .bool p0_5, .int .i64 p0_6, .own 0 8 9 p0_7, .int .i64 p0_8, .int .i64 p0_9]] = some r := E_st h (Cont.bif (Cont.bind (Cont.call C 205 _) fun _ => (Cont.const _)) (Cont.const _)) fun φ => by kernel_rfl
theorem o178 (p0_0 : List Dat) (p0_1 : Int) (p0_2 p0_3 p0_4 p0_5 : Bool) (p0_6 : Int) (p0_7 : List Dat) (p0_8 p0_9 : Int) {r : List Dat} (h : ((E C 181 [.shr 5 p0_0, .int .i64 p0_1]).bind fun d1 => (bif ((rd d1 2).I) != 0 then ((E C 68 [.pbox [.shr 5 p0_0, .int .i64 p0_1, .bool p0_2, .bool p0_3, .bool p0_4, .bool p0_5, .int .i64 p0_6, .own 0 8 9 p0_7, .int .i64 p0_8, .int .i64 p0_9], .int .i64 ((rd d1 2).I), .int .i64 p0_1]).bind fun d2 => (bif (rd d1 1).B then (some [.agg [.int (((rd d1 0).C 0).I), .int (((rd d1 0).C 1).I), .int (((rd d1 0).C 2).I), .int (((rd d1 0).C 3).I)], .bool ((((rd d2 0).C 8).I) == 0), (psD (rd d2 0))]) else (some [.agg [.int (((rd d1 0).C 0).I), .int (((rd d1 0).C 1).I), .int (((rd d1 0).C 2).I), .int (((rd d1 0).C 3).I)], .bool false, (psD (rd d2 0))]))) else (bif (rd d1 1).B then (some [.agg [.int (((rd d1 0).C 0).I), .int (((rd d1 0).C 1).I), .int (((rd d1 0).C 2).I), .int (((rd d1 0).C 3).I)], .bool (p0_8 == 0), .agg [.list p0_0, .int p0_1, .bool p0_2, .bool p0_3, .bool p0_4, .bool p0_5, .int p0_6, .list p0_7, .int p0_8, .int p0_9]]) else (some [.agg [.int (((rd d1 0).C 0).I), .int (((rd d1 0).C 1).I), .int (((rd d1 0).C 2).I), .int (((rd d1 0).C 3).I)], .bool false, .agg [.list p0_0, .int p0_1, .bool p0_2, .bool p0_3, .bool p0_4, .bool p0_5, .int p0_6, .list p0_7, .int p0_8, .int p0_9]]))) : R) = some r) : E C 178 [.pbox [.shr 5 p0_0, .int .i64 p0_1, .bool p0_2, .bool p0_3, .bool p0_4, .bool p0_5, .int .i64 p0_6, .own 0 8 9 p0_7, .int .i64 p0_8, .int .i64 p0_9]] = some r := E_st h (Cont.bind (Cont.call C 181 _) fun _ => (Cont.bif (Cont.bind (Cont.call C 68 _) fun _ => (Cont.bif (Cont.const _) (Cont.const _))) (Cont.bif (Cont.const _) (Cont.const _)))) fun φ => by kernel_rfl
theorem o179 (p0_0 : List Dat) (p0_1 : Int) (p0_2 p0_3 p0_4 p0_5 : Bool) (p0_6 : Int) (p0_7 : List Dat) (p0_8 p0_9 a1 : Int) {r : List Dat} (h : ((E C 109 [.pbox [.shr 5 p0_0, .int .i64 p0_1, .bool p0_2, .bool p0_3, .bool p0_4, .bool p0_5, .int .i64 p0_6, .own 0 8 9 p0_7, .int .i64 p0_8, .int .i64 p0_9], .int .i64 p0_1]).bind fun d1 => (bif ((rd d1 0).I) == 40 then ((E C 206 [(psA (rd d1 1)), .int .i64 (IntKind.i64.wrap (a1 + 1))]).bind fun d2 => (some [(psN (rd d2 0)), .bool ((rd d2 1).B), (psD (rd d2 2))])) else (bif ((rd d1 0).I) == 91 then ((E C 207 [.shr 5 (((rd d1 1).C 0).L), .int .i64 p0_1, .bool (((rd d1 1).C 2).B)]).bind fun d3 => (bif ((rd d3 2).I) != 0 then ((E C 68 [(psA (rd d1 1)), .int .i64 ((rd d3 2).I), .int .i64 ((rd d3 3).I)]).bind fun d4 => (some [.agg [.int 0, .int 0, .int 0, .int 0, .int 0, .int 0, .int 0, .str ByteArray.empty, .list ([] : List Dat), .list ([] : List Dat), .list ([] : List Dat)], .bool false, (psD (rd d4 0))])) else ((E C 208 [(psA (rd d1 1)), .int .i64 p0_1, .int .i64 ((rd d3 1).I), .shr 82 ((rd d3 0).L)]).bind fun d5 => (some [(psN (rd d5 0)), .bool true, (psD (rd d5 1))])))) else (bif ((rd d1 0).I) == 46 then ((E C 209 [.bool (((rd d1 1).C 4).B)]).bind fun d6 => ((E C 208 [(psA (rd d1 1)), .int .i64 p0_1, .int .i64 (IntKind.i64.wrap (p0_1 + 1)), .shr 82 ((rd d6 0).L)]).bind fun d7 => (some [(psN (rd d7 0)), .bool true, (psD (rd d7 1))]))) else (bif ((rd d1 0).I) == 94 then ((E C 211 [.bool (((rd d1 1).C 3).B), .int .i64 4, .int .i64 1]).bind fun d8 => ((E C 210 [(psA (rd d1 1)), .int .i64 p0_1, .int .i64 (IntKind.i64.wrap (p0_1 + 1)), .int .i64 ((rd d8 0).I)]).bind fun d9 => (some [(psN (rd d9 0)), .bool false, (psD (rd d9 1))]))) else (bif ((rd d1 0).I) == 36 then ((E C 211 [.bool (((rd d1 1).C 3).B), .int .i64 5, .int .i64 2]).bind fun d10 => ((E C 210 [(psA (rd d1 1)), .int .i64 p0_1, .int .i64 (IntKind.i64.wrap (p0_1 + 1)), .int .i64 ((rd d10 0).I)]).bind fun d11 => (some [(psN (rd d11 0)), .bool false, (psD (rd d11 1))]))) else (bif ((rd d1 0).I) == 92 then ((E C 212 [(psA (rd d1 1))]).bind fun d12 => (some [(psN (rd d12 0)), .bool ((((rd d12 0).C 0).I) != 3), (psD (rd d12 1))])) else ((E C 213 [.shr 5 (((rd d1 1).C 0).L), .int .i64 p0_1]).bind fun d13 => ((E C 215 [.int .i64 ((rd d13 0).I)]).bind fun d14 => ((E C 214 [(psA (rd d1 1)), .shr 82 ((rd d14 0).L)]).bind fun d15 => ((E C 208 [(psA (rd d15 1)), .int .i64 p0_1, .int .i64 (IntKind.i64.wrap (p0_1 + ((rd d13 1).I))), .shr 82 ((rd d15 0).L)]).bind fun d16 => (some [(psN (rd d16 0)), .bool true, (psD (rd d16 1))]))))))))))) : R) = some r) : E C 179 [.pbox [.shr 5 p0_0, .int .i64 p0_1, .bool p0_2, .bool p0_3, .bool p0_4, .bool p0_5, .int .i64 p0_6, .own 0 8 9 p0_7, .int .i64 p0_8, .int .i64 p0_9], .int .i64 a1] = some r := E_st h (Cont.bind (Cont.call C 109 _) fun _ => (Cont.bif (Cont.bind (Cont.call C 206 _) fun _ => (Cont.const _)) (Cont.bif (Cont.bind (Cont.call C 207 _) fun _ => (Cont.bif (Cont.bind (Cont.call C 68 _) fun _ => (Cont.const _)) (Cont.bind (Cont.call C 208 _) fun _ => (Cont.const _)))) (Cont.bif (Cont.bind (Cont.call C 209 _) fun _ => (Cont.bind (Cont.call C 208 _) fun _ => (Cont.const _))) (Cont.bif (Cont.bind (Cont.call C 211 _) fun _ => (Cont.bind (Cont.call C 210 _) fun _ => (Cont.const _))) (Cont.bif (Cont.bind (Cont.call C 211 _) fun _ => (Cont.bind (Cont.call C 210 _) fun _ => (Cont.const _))) (Cont.bif (Cont.bind (Cont.call C 212 _) fun _ => (Cont.const _)) (Cont.bind (Cont.call C 213 _) fun _ => (Cont.bind (Cont.call C 215 _) fun _ => (Cont.bind (Cont.call C 214 _) fun _ => (Cont.bind (Cont.call C 208 _) fun _ => (Cont.const _)))))))))))) fun φ => by kernel_rfl
theorem o180 (a0_0 a0_1 a0_2 a0_3 a0_4 a0_5 a0_6 : Int) (a0_7 : ByteArray) (a0_8 a0_9 a0_10 : List Dat) (a1 a2_0 a2_1 a2_2 a2_3 : Int) {r : List Dat} (h : ((E C 211 [.bool (a2_2 == 1), .int .i64 1, .int .i64 0]).bind fun d1 => (bif decide (a2_2 ≤ 1) then (some [.agg [.int 8, .int a1, .int a2_3, .int 0, .int a2_0, .int a2_1, .int ((rd d1 0).I), .str ByteArray.empty, .list ([] : List Dat), .list ([] : List Dat), .list ([.agg [.int a0_0, .int a0_1, .int a0_2, .int a0_3, .int a0_4, .int a0_5, .int a0_6, .str a0_7, .list a0_8, .list a0_9, .list a0_10]] : List Dat)]]) else (some [.agg [.int 9, .int a1, .int a2_3, .int 0, .int 0, .int 0, .int 0, .str ByteArray.empty, .list ([] : List Dat), .list ([] : List Dat), .list ([.agg [.int 8, .int a1, .int a2_3, .int 0, .int a2_0, .int a2_1, .int ((rd d1 0).I), .str ByteArray.empty, .list ([] : List Dat), .list ([] : List Dat), .list ([.agg [.int a0_0, .int a0_1, .int a0_2, .int a0_3, .int a0_4, .int a0_5, .int a0_6, .str a0_7, .list a0_8, .list a0_9, .list a0_10]] : List Dat)]] : List Dat)]])) : R) = some r) : E C 180 [.agg [.int .i64 a0_0, .int .i64 a0_1, .int .i64 a0_2, .int .i64 a0_3, .int .i64 a0_4, .int .i64 a0_5, .int .i64 a0_6, .str a0_7, .shr 82 a0_8, .shr 3 a0_9, .shr 103 a0_10], .int .i64 a1, .agg [.int .i64 a2_0, .int .i64 a2_1, .int .i64 a2_2, .int .i64 a2_3]] = some r := E_st h (Cont.bind (Cont.call C 211 _) fun _ => (Cont.bif (Cont.const _) (Cont.const _))) fun φ => by kernel_rfl
theorem o206 (p0_0 : List Dat) (p0_1 : Int) (p0_2 p0_3 p0_4 p0_5 : Bool) (p0_6 : Int) (p0_7 : List Dat) (p0_8 p0_9 a1 : Int) {r : List Dat} (h : (bif decide (a1 > 100) then ((E C 68 [.pbox [.shr 5 p0_0, .int .i64 p0_1, .bool p0_2, .bool p0_3, .bool p0_4, .bool p0_5, .int .i64 p0_6, .own 0 8 9 p0_7, .int .i64 p0_8, .int .i64 p0_9], .int .i64 39, .int .i64 p0_1]).bind fun d1 => (some [.agg [.int 0, .int 0, .int 0, .int 0, .int 0, .int 0, .int 0, .str ByteArray.empty, .list ([] : List Dat), .list ([] : List Dat), .list ([] : List Dat)], .bool false, (psD (rd d1 0))])) else ((E C 229 [.pbox [.shr 5 p0_0, .int .i64 p0_1, .bool p0_2, .bool p0_3, .bool p0_4, .bool p0_5, .int .i64 p0_6, .own 0 8 9 p0_7, .int .i64 p0_8, .int .i64 p0_9], .int .i64 p0_1]).bind fun d2 => (bif ((rd d2 0).C 7).B then (some [.agg [.int 0, .int 0, .int 0, .int 0, .int 0, .int 0, .int 0, .str ByteArray.empty, .list ([] : List Dat), .list ([] : List Dat), .list ([] : List Dat)], .bool false, .agg [.list (((rd d2 1).C 0).L), .int (((rd d2 1).C 1).I), .bool (((rd d2 0).C 3).B), .bool (((rd d2 0).C 4).B), .bool (((rd d2 0).C 5).B), .bool (((rd d2 0).C 6).B), .int (((rd d2 1).C 6).I), .list (((rd d2 1).C 7).L), .int (((rd d2 1).C 8).I), .int (((rd d2 1).C 9).I)]]) else (bif (((rd d2 1).C 8).I) != 0 then (some [.agg [.int 0, .int 0, .int 0, .int 0, .int 0, .int 0, .int 0, .str ByteArray.empty, .list ([] : List Dat), .list ([] : List Dat), .list ([] : List Dat)], .bool false, .agg [.list (((rd d2 1).C 0).L), .int (((rd d2 1).C 1).I), .bool (((rd d2 0).C 3).B), .bool (((rd d2 0).C 4).B), .bool (((rd d2 0).C 5).B), .bool (((rd d2 0).C 6).B), .int (((rd d2 1).C 6).I), .list (((rd d2 1).C 7).L), .int (((rd d2 1).C 8).I), .int (((rd d2 1).C 9).I)]]) else (bif (((rd d2 0).C 0).I) == 7 then (bif (((rd d2 1).C 6).I) == 99 then ((E C 68 [(psA (rd d2 1)), .int .i64 40, .int .i64 p0_1]).bind fun d3 => (some [.agg [.int 0, .int 0, .int 0, .int 0, .int 0, .int 0, .int 0, .str ByteArray.empty, .list ([] : List Dat), .list ([] : List Dat), .list ([] : List Dat)], .bool false, (psD (rd d3 0))])) else (bif decide ((((rd d2 1).C 7).L).length + ([.str (((rd d2 0).C 2).S)] : List Dat).length ≤ capB 16) then ((E C 66 [.pbox [.shr 5 (((rd d2 1).C 0).L), .int .i64 (((rd d2 1).C 1).I), .bool (((rd d2 0).C 3).B), .bool (((rd d2 0).C 4).B), .bool (((rd d2 0).C 5).B), .bool (((rd d2 0).C 6).B), .int .i64 (IntKind.i64.wrap ((((rd d2 1).C 6).I) + 1)), .own 0 8 9 ((((rd d2 1).C 7).L) ++ ([.str (((rd d2 0).C 2).S)] : List Dat)), .int .i64 (((rd d2 1).C 8).I), .int .i64 (((rd d2 1).C 9).I)], .int .i64 a1]).bind fun d4 => ((E C 109 [.pbox [.shr 5 (((rd d4 1).C 0).L), .int .i64 (((rd d4 1).C 1).I), .bool (((rd d2 1).C 2).B), .bool (((rd d2 1).C 3).B), .bool (((rd d2 1).C 4).B), .bool (((rd d2 1).C 5).B), .int .i64 (((rd d4 1).C 6).I), .own 0 8 9 (((rd d4 1).C 7).L), .int .i64 (((rd d4 1).C 8).I), .int .i64 (((rd d4 1).C 9).I)], .int .i64 (((rd d4 1).C 1).I)]).bind fun d5 => (bif ((rd d5 0).I) != 41 then ((E C 68 [(psA (rd d5 1)), .int .i64 30, .int .i64 p0_1]).bind fun d6 => (some [.agg [.int 0, .int 0, .int 0, .int 0, .int 0, .int 0, .int 0, .str ByteArray.empty, .list ([] : List Dat), .list ([] : List Dat), .list ([] : List Dat)], .bool false, (psD (rd d6 0))])) else ((E C 67 [(psA (rd d5 1))]).bind fun d7 => (bif (rd d7 0).B then ((E C 68 [(psA (rd d7 1)), .int .i64 30, .int .i64 p0_1]).bind fun d8 => (some [.agg [.int 0, .int 0, .int 0, .int 0, .int 0, .int 0, .int 0, .str ByteArray.empty, .list ([] : List Dat), .list ([] : List Dat), .list ([] : List Dat)], .bool false, (psD (rd d8 0))])) else (bif (((rd d2 0).C 0).I) == 0 then (some [(psN (rd d4 0)), .bool true, .agg [.list (((rd d7 1).C 0).L), .int (IntKind.i64.wrap ((((rd d7 1).C 1).I) + 1)), .bool (((rd d7 1).C 2).B), .bool (((rd d7 1).C 3).B), .bool (((rd d7 1).C 4).B), .bool (((rd d7 1).C 5).B), .int (((rd d7 1).C 6).I), .list (((rd d7 1).C 7).L), .int (((rd d7 1).C 8).I), .int (((rd d7 1).C 9).I)]]) else (some [.agg [.int (((rd d2 0).C 0).I), .int p0_1, .int (IntKind.i64.wrap ((((rd d7 1).C 1).I) + 1)), .int (IntKind.i64.wrap ((((rd d2 1).C 6).I) + 1)), .int 0, .int 0, .int 0, .str (((rd d2 0).C 2).S), .list ([] : List Dat), .list ([] : List Dat), .list ([(psN (rd d4 0))] : List Dat)], .bool true, .agg [.list (((rd d7 1).C 0).L), .int (IntKind.i64.wrap ((((rd d7 1).C 1).I) + 1)), .bool (((rd d7 1).C 2).B), .bool (((rd d7 1).C 3).B), .bool (((rd d7 1).C 4).B), .bool (((rd d7 1).C 5).B), .int (((rd d7 1).C 6).I), .list (((rd d7 1).C 7).L), .int (((rd d7 1).C 8).I), .int (((rd d7 1).C 9).I)]]))))))) else none)) else ((E C 66 [.pbox [.shr 5 (((rd d2 1).C 0).L), .int .i64 (((rd d2 1).C 1).I), .bool (((rd d2 0).C 3).B), .bool (((rd d2 0).C 4).B), .bool (((rd d2 0).C 5).B), .bool (((rd d2 0).C 6).B), .int .i64 (((rd d2 1).C 6).I), .own 0 8 9 (((rd d2 1).C 7).L), .int .i64 (((rd d2 1).C 8).I), .int .i64 (((rd d2 1).C 9).I)], .int .i64 a1]).bind fun d9 => ((E C 109 [.pbox [.shr 5 (((rd d9 1).C 0).L), .int .i64 (((rd d9 1).C 1).I), .bool (((rd d2 1).C 2).B), .bool (((rd d2 1).C 3).B), .bool (((rd d2 1).C 4).B), .bool (((rd d2 1).C 5).B), .int .i64 (((rd d9 1).C 6).I), .own 0 8 9 (((rd d9 1).C 7).L), .int .i64 (((rd d9 1).C 8).I), .int .i64 (((rd d9 1).C 9).I)], .int .i64 (((rd d9 1).C 1).I)]).bind fun d10 => (bif ((rd d10 0).I) != 41 then ((E C 68 [(psA (rd d10 1)), .int .i64 30, .int .i64 p0_1]).bind fun d11 => (some [.agg [.int 0, .int 0, .int 0, .int 0, .int 0, .int 0, .int 0, .str ByteArray.empty, .list ([] : List Dat), .list ([] : List Dat), .list ([] : List Dat)], .bool false, (psD (rd d11 0))])) else ((E C 67 [(psA (rd d10 1))]).bind fun d12 => (bif (rd d12 0).B then ((E C 68 [(psA (rd d12 1)), .int .i64 30, .int .i64 p0_1]).bind fun d13 => (some [.agg [.int 0, .int 0, .int 0, .int 0, .int 0, .int 0, .int 0, .str ByteArray.empty, .list ([] : List Dat), .list ([] : List Dat), .list ([] : List Dat)], .bool false, (psD (rd d13 0))])) else (bif (((rd d2 0).C 0).I) == 0 then (some [(psN (rd d9 0)), .bool true, .agg [.list (((rd d12 1).C 0).L), .int (IntKind.i64.wrap ((((rd d12 1).C 1).I) + 1)), .bool (((rd d12 1).C 2).B), .bool (((rd d12 1).C 3).B), .bool (((rd d12 1).C 4).B), .bool (((rd d12 1).C 5).B), .int (((rd d12 1).C 6).I), .list (((rd d12 1).C 7).L), .int (((rd d12 1).C 8).I), .int (((rd d12 1).C 9).I)]]) else (some [.agg [.int (((rd d2 0).C 0).I), .int p0_1, .int (IntKind.i64.wrap ((((rd d12 1).C 1).I) + 1)), .int (((rd d2 0).C 1).I), .int 0, .int 0, .int 0, .str (((rd d2 0).C 2).S), .list ([] : List Dat), .list ([] : List Dat), .list ([(psN (rd d9 0))] : List Dat)], .bool true, .agg [.list (((rd d12 1).C 0).L), .int (IntKind.i64.wrap ((((rd d12 1).C 1).I) + 1)), .bool (((rd d12 1).C 2).B), .bool (((rd d12 1).C 3).B), .bool (((rd d12 1).C 4).B), .bool (((rd d12 1).C 5).B), .int (((rd d12 1).C 6).I), .list (((rd d12 1).C 7).L), .int (((rd d12 1).C 8).I), .int (((rd d12 1).C 9).I)]]))))))))))) : R) = some r) : E C 206 [.pbox [.shr 5 p0_0, .int .i64 p0_1, .bool p0_2, .bool p0_3, .bool p0_4, .bool p0_5, .int .i64 p0_6, .own 0 8 9 p0_7, .int .i64 p0_8, .int .i64 p0_9], .int .i64 a1] = some r := E_st h (Cont.bif (Cont.bind (Cont.call C 68 _) fun _ => (Cont.const _)) (Cont.bind (Cont.call C 229 _) fun _ => (Cont.bif (Cont.const _) (Cont.bif (Cont.const _) (Cont.bif (Cont.bif (Cont.bind (Cont.call C 68 _) fun _ => (Cont.const _)) (Cont.bif (Cont.bind (Cont.call C 66 _) fun _ => (Cont.bind (Cont.call C 109 _) fun _ => (Cont.bif (Cont.bind (Cont.call C 68 _) fun _ => (Cont.const _)) (Cont.bind (Cont.call C 67 _) fun _ => (Cont.bif (Cont.bind (Cont.call C 68 _) fun _ => (Cont.const _)) (Cont.bif (Cont.const _) (Cont.const _))))))) Cont.nn)) (Cont.bind (Cont.call C 66 _) fun _ => (Cont.bind (Cont.call C 109 _) fun _ => (Cont.bif (Cont.bind (Cont.call C 68 _) fun _ => (Cont.const _)) (Cont.bind (Cont.call C 67 _) fun _ => (Cont.bif (Cont.bind (Cont.call C 68 _) fun _ => (Cont.const _)) (Cont.bif (Cont.const _) (Cont.const _)))))))))))) fun φ => by kernel_rfl
theorem o208 (p0_0 : List Dat) (p0_1 : Int) (p0_2 p0_3 p0_4 p0_5 : Bool) (p0_6 : Int) (p0_7 : List Dat) (p0_8 p0_9 a1 a2 : Int) (a3 : List Dat) {r : List Dat} (h : (some [.agg [.int 2, .int a1, .int a2, .int 0, .int 0, .int 0, .int 0, .str ByteArray.empty, .list a3, .list ([] : List Dat), .list ([] : List Dat)], .agg [.list p0_0, .int a2, .bool p0_2, .bool p0_3, .bool p0_4, .bool p0_5, .int p0_6, .list p0_7, .int p0_8, .int p0_9]] : R) = some r) : E C 208 [.pbox [.shr 5 p0_0, .int .i64 p0_1, .bool p0_2, .bool p0_3, .bool p0_4, .bool p0_5, .int .i64 p0_6, .own 0 8 9 p0_7, .int .i64 p0_8, .int .i64 p0_9], .int .i64 a1, .int .i64 a2, .shr 82 a3] = some r := E_st h (Cont.const _) fun φ => by kernel_rfl
theorem o211 (a0 : Bool) (a1 a2 : Int) {r : List Dat} (h : (bif a0 then (some [.int a1]) else (some [.int a2]) : R) = some r) : E C 211 [.bool a0, .int .i64 a1, .int .i64 a2] = some r := E_st h (Cont.bif (Cont.const _) (Cont.const _)) fun φ => by kernel_rfl
theorem o210 (p0_0 : List Dat) (p0_1 : Int) (p0_2 p0_3 p0_4 p0_5 : Bool) (p0_6 : Int) (p0_7 : List Dat) (p0_8 p0_9 a1 a2 a3 : Int) {r : List Dat} (h : (some [.agg [.int 3, .int a1, .int a2, .int a3, .int 0, .int 0, .int 0, .str ByteArray.empty, .list ([] : List Dat), .list ([] : List Dat), .list ([] : List Dat)], .agg [.list p0_0, .int a2, .bool p0_2, .bool p0_3, .bool p0_4, .bool p0_5, .int p0_6, .list p0_7, .int p0_8, .int p0_9]] : R) = some r) : E C 210 [.pbox [.shr 5 p0_0, .int .i64 p0_1, .bool p0_2, .bool p0_3, .bool p0_4, .bool p0_5, .int .i64 p0_6, .own 0 8 9 p0_7, .int .i64 p0_8, .int .i64 p0_9], .int .i64 a1, .int .i64 a2, .int .i64 a3] = some r := E_st h (Cont.const _) fun φ => by kernel_rfl
theorem o212 (p0_0 : List Dat) (p0_1 : Int) (p0_2 p0_3 p0_4 p0_5 : Bool) (p0_6 : Int) (p0_7 : List Dat) (p0_8 p0_9 : Int) {r : List Dat} (h : ((E C 232 [.shr 5 p0_0, .int .i64 p0_1]).bind fun d1 => (bif ((rd d1 1).I) != 0 then ((E C 68 [.pbox [.shr 5 p0_0, .int .i64 p0_1, .bool p0_2, .bool p0_3, .bool p0_4, .bool p0_5, .int .i64 p0_6, .own 0 8 9 p0_7, .int .i64 p0_8, .int .i64 p0_9], .int .i64 ((rd d1 1).I), .int .i64 p0_1]).bind fun d2 => (some [.agg [.int 0, .int 0, .int 0, .int 0, .int 0, .int 0, .int 0, .str ByteArray.empty, .list ([] : List Dat), .list ([] : List Dat), .list ([] : List Dat)], (psD (rd d2 0))])) else (bif (((rd d1 0).C 0).I) == 1 then ((E C 215 [.int .i64 (((rd d1 0).C 2).I)]).bind fun d3 => ((E C 214 [.pbox [.shr 5 p0_0, .int .i64 p0_1, .bool p0_2, .bool p0_3, .bool p0_4, .bool p0_5, .int .i64 p0_6, .own 0 8 9 p0_7, .int .i64 p0_8, .int .i64 p0_9], .shr 82 ((rd d3 0).L)]).bind fun d4 => ((E C 208 [(psA (rd d4 1)), .int .i64 p0_1, .int .i64 (((rd d1 0).C 1).I), .shr 82 ((rd d4 0).L)]).bind fun d5 => (some [(psN (rd d5 0)), (psD (rd d5 1))])))) else (bif (((rd d1 0).C 0).I) == 2 then ((E C 214 [.pbox [.shr 5 p0_0, .int .i64 p0_1, .bool p0_2, .bool p0_3, .bool p0_4, .bool p0_5, .int .i64 p0_6, .own 0 8 9 p0_7, .int .i64 p0_8, .int .i64 p0_9], .shr 82 (((rd d1 0).C 4).L)]).bind fun d6 => ((E C 208 [(psA (rd d6 1)), .int .i64 p0_1, .int .i64 (((rd d1 0).C 1).I), .shr 82 ((rd d6 0).L)]).bind fun d7 => (some [(psN (rd d7 0)), (psD (rd d7 1))]))) else (bif (((rd d1 0).C 0).I) == 3 then ((E C 210 [.pbox [.shr 5 p0_0, .int .i64 p0_1, .bool p0_2, .bool p0_3, .bool p0_4, .bool p0_5, .int .i64 p0_6, .own 0 8 9 p0_7, .int .i64 p0_8, .int .i64 p0_9], .int .i64 p0_1, .int .i64 (((rd d1 0).C 1).I), .int .i64 (((rd d1 0).C 2).I)]).bind fun d8 => (some [(psN (rd d8 0)), (psD (rd d8 1))])) else ((E C 211 [.bool p0_2, .int .i64 1, .int .i64 0]).bind fun d9 => (some [.agg [.int 4, .int p0_1, .int (((rd d1 0).C 1).I), .int (((rd d1 0).C 2).I), .int 0, .int 0, .int ((rd d9 0).I), .str (((rd d1 0).C 3).S), .list ([] : List Dat), .list ([] : List Dat), .list ([] : List Dat)], .agg [.list p0_0, .int (((rd d1 0).C 1).I), .bool p0_2, .bool p0_3, .bool p0_4, .bool p0_5, .int p0_6, .list p0_7, .int p0_8, .int p0_9]])))))) : R) = some r) : E C 212 [.pbox [.shr 5 p0_0, .int .i64 p0_1, .bool p0_2, .bool p0_3, .bool p0_4, .bool p0_5, .int .i64 p0_6, .own 0 8 9 p0_7, .int .i64 p0_8, .int .i64 p0_9]] = some r := E_st h (Cont.bind (Cont.call C 232 _) fun _ => (Cont.bif (Cont.bind (Cont.call C 68 _) fun _ => (Cont.const _)) (Cont.bif (Cont.bind (Cont.call C 215 _) fun _ => (Cont.bind (Cont.call C 214 _) fun _ => (Cont.bind (Cont.call C 208 _) fun _ => (Cont.const _)))) (Cont.bif (Cont.bind (Cont.call C 214 _) fun _ => (Cont.bind (Cont.call C 208 _) fun _ => (Cont.const _))) (Cont.bif (Cont.bind (Cont.call C 210 _) fun _ => (Cont.const _)) (Cont.bind (Cont.call C 211 _) fun _ => (Cont.const _))))))) fun φ => by kernel_rfl
theorem o214 (p0_0 : List Dat) (p0_1 : Int) (p0_2 p0_3 p0_4 p0_5 : Bool) (p0_6 : Int) (p0_7 : List Dat) (p0_8 p0_9 : Int) (a1 : List Dat) {r : List Dat} (h : (bif p0_2 then ((E C 231 [.shr 82 a1]).bind fun d1 => (some [.list ((rd d1 0).L), .agg [.list p0_0, .int p0_1, .bool p0_2, .bool p0_3, .bool p0_4, .bool p0_5, .int p0_6, .list p0_7, .int p0_8, .int p0_9]])) else (some [.list a1, .agg [.list p0_0, .int p0_1, .bool p0_2, .bool p0_3, .bool p0_4, .bool p0_5, .int p0_6, .list p0_7, .int p0_8, .int p0_9]]) : R) = some r) : E C 214 [.pbox [.shr 5 p0_0, .int .i64 p0_1, .bool p0_2, .bool p0_3, .bool p0_4, .bool p0_5, .int .i64 p0_6, .own 0 8 9 p0_7, .int .i64 p0_8, .int .i64 p0_9], .shr 82 a1] = some r := E_st h (Cont.bif (Cont.bind (Cont.call C 231 _) fun _ => (Cont.const _)) (Cont.const _)) fun φ => by kernel_rfl
theorem o229 (p0_0 : List Dat) (p0_1 : Int) (p0_2 p0_3 p0_4 p0_5 : Bool) (p0_6 : Int) (p0_7 : List Dat) (p0_8 p0_9 a1 : Int) {r : List Dat} (h : ((E C 109 [.pbox [.shr 5 p0_0, .int .i64 p0_1, .bool p0_2, .bool p0_3, .bool p0_4, .bool p0_5, .int .i64 p0_6, .own 0 8 9 p0_7, .int .i64 p0_8, .int .i64 p0_9], .int .i64 (IntKind.i64.wrap (a1 + 1))]).bind fun d1 => (bif ((rd d1 0).I) != 63 then (some [.agg [.int 7, .int 0, .str ByteArray.empty, .bool (((rd d1 1).C 2).B), .bool (((rd d1 1).C 3).B), .bool (((rd d1 1).C 4).B), .bool (((rd d1 1).C 5).B), .bool false], .agg [.list (((rd d1 1).C 0).L), .int (IntKind.i64.wrap (a1 + 1)), .bool (((rd d1 1).C 2).B), .bool (((rd d1 1).C 3).B), .bool (((rd d1 1).C 4).B), .bool (((rd d1 1).C 5).B), .int (((rd d1 1).C 6).I), .list (((rd d1 1).C 7).L), .int (((rd d1 1).C 8).I), .int (((rd d1 1).C 9).I)]]) else ((E C 109 [(psA (rd d1 1)), .int .i64 (IntKind.i64.wrap (a1 + 2))]).bind fun d2 => ((E C 109 [(psA (rd d2 1)), .int .i64 (IntKind.i64.wrap (a1 + 3))]).bind fun d3 => (bif ((rd d2 0).I) == 58 then (some [.agg [.int 0, .int 0, .str ByteArray.empty, .bool (((rd d3 1).C 2).B), .bool (((rd d3 1).C 3).B), .bool (((rd d3 1).C 4).B), .bool (((rd d3 1).C 5).B), .bool false], .agg [.list (((rd d3 1).C 0).L), .int (IntKind.i64.wrap (a1 + 3)), .bool (((rd d3 1).C 2).B), .bool (((rd d3 1).C 3).B), .bool (((rd d3 1).C 4).B), .bool (((rd d3 1).C 5).B), .int (((rd d3 1).C 6).I), .list (((rd d3 1).C 7).L), .int (((rd d3 1).C 8).I), .int (((rd d3 1).C 9).I)]]) else (bif ((rd d2 0).I) == 62 then (some [.agg [.int 9, .int 0, .str ByteArray.empty, .bool (((rd d3 1).C 2).B), .bool (((rd d3 1).C 3).B), .bool (((rd d3 1).C 4).B), .bool (((rd d3 1).C 5).B), .bool false], .agg [.list (((rd d3 1).C 0).L), .int (IntKind.i64.wrap (a1 + 3)), .bool (((rd d3 1).C 2).B), .bool (((rd d3 1).C 3).B), .bool (((rd d3 1).C 4).B), .bool (((rd d3 1).C 5).B), .int (((rd d3 1).C 6).I), .list (((rd d3 1).C 7).L), .int (((rd d3 1).C 8).I), .int (((rd d3 1).C 9).I)]]) else (bif ((rd d2 0).I) == 61 then ((E C 244 [.int .u8 ((rd d2 0).I), .int .i64 1, .int .i64 2]).bind fun d4 => (some [.agg [.int 10, .int ((rd d4 0).I), .str ByteArray.empty, .bool (((rd d3 1).C 2).B), .bool (((rd d3 1).C 3).B), .bool (((rd d3 1).C 4).B), .bool (((rd d3 1).C 5).B), .bool false], .agg [.list (((rd d3 1).C 0).L), .int (IntKind.i64.wrap (a1 + 3)), .bool (((rd d3 1).C 2).B), .bool (((rd d3 1).C 3).B), .bool (((rd d3 1).C 4).B), .bool (((rd d3 1).C 5).B), .int (((rd d3 1).C 6).I), .list (((rd d3 1).C 7).L), .int (((rd d3 1).C 8).I), .int (((rd d3 1).C 9).I)]])) else (bif ((rd d2 0).I) == 33 then ((E C 244 [.int .u8 ((rd d2 0).I), .int .i64 1, .int .i64 2]).bind fun d5 => (some [.agg [.int 10, .int ((rd d5 0).I), .str ByteArray.empty, .bool (((rd d3 1).C 2).B), .bool (((rd d3 1).C 3).B), .bool (((rd d3 1).C 4).B), .bool (((rd d3 1).C 5).B), .bool false], .agg [.list (((rd d3 1).C 0).L), .int (IntKind.i64.wrap (a1 + 3)), .bool (((rd d3 1).C 2).B), .bool (((rd d3 1).C 3).B), .bool (((rd d3 1).C 4).B), .bool (((rd d3 1).C 5).B), .int (((rd d3 1).C 6).I), .list (((rd d3 1).C 7).L), .int (((rd d3 1).C 8).I), .int (((rd d3 1).C 9).I)]])) else (bif ((rd d2 0).I) == 35 then ((E C 245 [.pbox [.shr 5 (((rd d3 1).C 0).L), .int .i64 (IntKind.i64.wrap (a1 + 3)), .bool (((rd d3 1).C 2).B), .bool (((rd d3 1).C 3).B), .bool (((rd d3 1).C 4).B), .bool (((rd d3 1).C 5).B), .int .i64 (((rd d3 1).C 6).I), .own 0 8 9 (((rd d3 1).C 7).L), .int .i64 (((rd d3 1).C 8).I), .int .i64 (((rd d3 1).C 9).I)], .int .i64 a1]).bind fun d6 => (some [.agg [.int (((rd d6 0).C 0).I), .int (((rd d6 0).C 1).I), .str (((rd d6 0).C 2).S), .bool (((rd d6 0).C 3).B), .bool (((rd d6 0).C 4).B), .bool (((rd d6 0).C 5).B), .bool (((rd d6 0).C 6).B), .bool (((rd d6 0).C 7).B)], (psD (rd d6 1))])) else (bif ((rd d2 0).I) == 60 then (bif ((rd d3 0).I) == 61 then ((E C 244 [.int .u8 ((rd d3 0).I), .int .i64 3, .int .i64 4]).bind fun d7 => (some [.agg [.int 10, .int ((rd d7 0).I), .str ByteArray.empty, .bool (((rd d3 1).C 2).B), .bool (((rd d3 1).C 3).B), .bool (((rd d3 1).C 4).B), .bool (((rd d3 1).C 5).B), .bool false], .agg [.list (((rd d3 1).C 0).L), .int (IntKind.i64.wrap (a1 + 4)), .bool (((rd d3 1).C 2).B), .bool (((rd d3 1).C 3).B), .bool (((rd d3 1).C 4).B), .bool (((rd d3 1).C 5).B), .int (((rd d3 1).C 6).I), .list (((rd d3 1).C 7).L), .int (((rd d3 1).C 8).I), .int (((rd d3 1).C 9).I)]])) else (bif ((rd d3 0).I) == 33 then ((E C 244 [.int .u8 ((rd d3 0).I), .int .i64 3, .int .i64 4]).bind fun d8 => (some [.agg [.int 10, .int ((rd d8 0).I), .str ByteArray.empty, .bool (((rd d3 1).C 2).B), .bool (((rd d3 1).C 3).B), .bool (((rd d3 1).C 4).B), .bool (((rd d3 1).C 5).B), .bool false], .agg [.list (((rd d3 1).C 0).L), .int (IntKind.i64.wrap (a1 + 4)), .bool (((rd d3 1).C 2).B), .bool (((rd d3 1).C 3).B), .bool (((rd d3 1).C 4).B), .bool (((rd d3 1).C 5).B), .int (((rd d3 1).C 6).I), .list (((rd d3 1).C 7).L), .int (((rd d3 1).C 8).I), .int (((rd d3 1).C 9).I)]])) else (bif ((rd d2 0).I) == 60 then ((E C 246 [.pbox [.shr 5 (((rd d3 1).C 0).L), .int .i64 (IntKind.i64.wrap (a1 + 3)), .bool (((rd d3 1).C 2).B), .bool (((rd d3 1).C 3).B), .bool (((rd d3 1).C 4).B), .bool (((rd d3 1).C 5).B), .int .i64 (((rd d3 1).C 6).I), .own 0 8 9 (((rd d3 1).C 7).L), .int .i64 (((rd d3 1).C 8).I), .int .i64 (((rd d3 1).C 9).I)], .int .i64 (IntKind.i64.wrap (a1 + 3))]).bind fun d9 => (some [.agg [.int (((rd d9 0).C 0).I), .int (((rd d9 0).C 1).I), .str (((rd d9 0).C 2).S), .bool (((rd d9 0).C 3).B), .bool (((rd d9 0).C 4).B), .bool (((rd d9 0).C 5).B), .bool (((rd d9 0).C 6).B), .bool (((rd d9 0).C 7).B)], (psD (rd d9 1))])) else ((E C 247 [.pbox [.shr 5 (((rd d3 1).C 0).L), .int .i64 (IntKind.i64.wrap (a1 + 2)), .bool (((rd d3 1).C 2).B), .bool (((rd d3 1).C 3).B), .bool (((rd d3 1).C 4).B), .bool (((rd d3 1).C 5).B), .int .i64 (((rd d3 1).C 6).I), .own 0 8 9 (((rd d3 1).C 7).L), .int .i64 (((rd d3 1).C 8).I), .int .i64 (((rd d3 1).C 9).I)]]).bind fun d10 => (some [.agg [.int (((rd d10 0).C 0).I), .int (((rd d10 0).C 1).I), .str (((rd d10 0).C 2).S), .bool (((rd d10 0).C 3).B), .bool (((rd d10 0).C 4).B), .bool (((rd d10 0).C 5).B), .bool (((rd d10 0).C 6).B), .bool (((rd d10 0).C 7).B)], (psD (rd d10 1))]))))) else (bif ((rd d2 0).I) == 60 then ((E C 246 [.pbox [.shr 5 (((rd d3 1).C 0).L), .int .i64 (IntKind.i64.wrap (a1 + 3)), .bool (((rd d3 1).C 2).B), .bool (((rd d3 1).C 3).B), .bool (((rd d3 1).C 4).B), .bool (((rd d3 1).C 5).B), .int .i64 (((rd d3 1).C 6).I), .own 0 8 9 (((rd d3 1).C 7).L), .int .i64 (((rd d3 1).C 8).I), .int .i64 (((rd d3 1).C 9).I)], .int .i64 (IntKind.i64.wrap (a1 + 3))]).bind fun d11 => (some [.agg [.int (((rd d11 0).C 0).I), .int (((rd d11 0).C 1).I), .str (((rd d11 0).C 2).S), .bool (((rd d11 0).C 3).B), .bool (((rd d11 0).C 4).B), .bool (((rd d11 0).C 5).B), .bool (((rd d11 0).C 6).B), .bool (((rd d11 0).C 7).B)], (psD (rd d11 1))])) else ((E C 247 [.pbox [.shr 5 (((rd d3 1).C 0).L), .int .i64 (IntKind.i64.wrap (a1 + 2)), .bool (((rd d3 1).C 2).B), .bool (((rd d3 1).C 3).B), .bool (((rd d3 1).C 4).B), .bool (((rd d3 1).C 5).B), .int .i64 (((rd d3 1).C 6).I), .own 0 8 9 (((rd d3 1).C 7).L), .int .i64 (((rd d3 1).C 8).I), .int .i64 (((rd d3 1).C 9).I)]]).bind fun d12 => (some [.agg [.int (((rd d12 0).C 0).I), .int (((rd d12 0).C 1).I), .str (((rd d12 0).C 2).S), .bool (((rd d12 0).C 3).B), .bool (((rd d12 0).C 4).B), .bool (((rd d12 0).C 5).B), .bool (((rd d12 0).C 6).B), .bool (((rd d12 0).C 7).B)], (psD (rd d12 1))])))))))))))) : R) = some r) : E C 229 [.pbox [.shr 5 p0_0, .int .i64 p0_1, .bool p0_2, .bool p0_3, .bool p0_4, .bool p0_5, .int .i64 p0_6, .own 0 8 9 p0_7, .int .i64 p0_8, .int .i64 p0_9], .int .i64 a1] = some r := E_st h (Cont.bind (Cont.call C 109 _) fun _ => (Cont.bif (Cont.const _) (Cont.bind (Cont.call C 109 _) fun _ => (Cont.bind (Cont.call C 109 _) fun _ => (Cont.bif (Cont.const _) (Cont.bif (Cont.const _) (Cont.bif (Cont.bind (Cont.call C 244 _) fun _ => (Cont.const _)) (Cont.bif (Cont.bind (Cont.call C 244 _) fun _ => (Cont.const _)) (Cont.bif (Cont.bind (Cont.call C 245 _) fun _ => (Cont.const _)) (Cont.bif (Cont.bif (Cont.bind (Cont.call C 244 _) fun _ => (Cont.const _)) (Cont.bif (Cont.bind (Cont.call C 244 _) fun _ => (Cont.const _)) (Cont.bif (Cont.bind (Cont.call C 246 _) fun _ => (Cont.const _)) (Cont.bind (Cont.call C 247 _) fun _ => (Cont.const _))))) (Cont.bif (Cont.bind (Cont.call C 246 _) fun _ => (Cont.const _)) (Cont.bind (Cont.call C 247 _) fun _ => (Cont.const _))))))))))))) fun φ => by kernel_rfl
theorem o244 (a0 a1 a2 : Int) {r : List Dat} (h : ((E C 211 [.bool (a0 == 61), .int .i64 a1, .int .i64 a2]).bind fun d1 => (some [.int ((rd d1 0).I)]) : R) = some r) : E C 244 [.int .u8 a0, .int .i64 a1, .int .i64 a2] = some r := E_st h (Cont.bind (Cont.call C 211 _) fun _ => (Cont.const _)) fun φ => by kernel_rfl
theorem o245 (p0_0 : List Dat) (p0_1 : Int) (p0_2 p0_3 p0_4 p0_5 : Bool) (p0_6 : Int) (p0_7 : List Dat) (p0_8 p0_9 a1 : Int) {r : List Dat} (h : (bif decide (0 ≤ a1) then (bif decide (a1 ≤ (p0_0.length : Int)) then (bif decide ((p0_0.length : Int) ≤ (p0_0.length : Int)) then ((E C 264 [.shr 5 ((p0_0.take ((p0_0.length : Int).toNat)).drop a1.toNat), .int .u8 41]).bind fun d1 => (bif decide (((rd d1 0).I) < 0) then ((E C 68 [.pbox [.shr 5 p0_0, .int .i64 p0_1, .bool p0_2, .bool p0_3, .bool p0_4, .bool p0_5, .int .i64 p0_6, .own 0 8 9 p0_7, .int .i64 p0_8, .int .i64 p0_9], .int .i64 30, .int .i64 a1]).bind fun d2 => (some [.agg [.int 0, .int 0, .str ByteArray.empty, .bool (((rd d2 0).C 2).B), .bool (((rd d2 0).C 3).B), .bool (((rd d2 0).C 4).B), .bool (((rd d2 0).C 5).B), .bool true], .agg [.list (((rd d2 0).C 0).L), .int (IntKind.i64.wrap ((IntKind.i64.wrap (a1 + ((rd d1 0).I))) + 1)), .bool (((rd d2 0).C 2).B), .bool (((rd d2 0).C 3).B), .bool (((rd d2 0).C 4).B), .bool (((rd d2 0).C 5).B), .int (((rd d2 0).C 6).I), .list (((rd d2 0).C 7).L), .int (((rd d2 0).C 8).I), .int (((rd d2 0).C 9).I)]])) else (some [.agg [.int 0, .int 0, .str ByteArray.empty, .bool p0_2, .bool p0_3, .bool p0_4, .bool p0_5, .bool true], .agg [.list p0_0, .int (IntKind.i64.wrap ((IntKind.i64.wrap (a1 + ((rd d1 0).I))) + 1)), .bool p0_2, .bool p0_3, .bool p0_4, .bool p0_5, .int p0_6, .list p0_7, .int p0_8, .int p0_9]]))) else none) else none) else none : R) = some r) : E C 245 [.pbox [.shr 5 p0_0, .int .i64 p0_1, .bool p0_2, .bool p0_3, .bool p0_4, .bool p0_5, .int .i64 p0_6, .own 0 8 9 p0_7, .int .i64 p0_8, .int .i64 p0_9], .int .i64 a1] = some r := E_st h (Cont.bif (Cont.bif (Cont.bif (Cont.bind (Cont.call C 264 _) fun _ => (Cont.bif (Cont.bind (Cont.call C 68 _) fun _ => (Cont.const _)) (Cont.const _))) Cont.nn) Cont.nn) Cont.nn) fun φ => by kernel_rfl
theorem o246 (p0_0 : List Dat) (p0_1 : Int) (p0_2 p0_3 p0_4 p0_5 : Bool) (p0_6 : Int) (p0_7 : List Dat) (p0_8 p0_9 a1 : Int) {r : List Dat} (h : ((E C 256 [.shr 5 p0_0, .int .i64 a1]).bind fun d1 => (bif ((rd d1 2).I) == 0 then ((E C 265 [.shr 9 p0_7, .str ((rd d1 0).S)]).bind fun d2 => (bif (rd d2 0).B then ((E C 68 [.pbox [.shr 5 p0_0, .int .i64 p0_1, .bool p0_2, .bool p0_3, .bool p0_4, .bool p0_5, .int .i64 p0_6, .own 0 8 9 p0_7, .int .i64 p0_8, .int .i64 p0_9], .int .i64 37, .int .i64 a1]).bind fun d3 => (some [.agg [.int 7, .int 0, .str ((rd d1 0).S), .bool (((rd d3 0).C 2).B), .bool (((rd d3 0).C 3).B), .bool (((rd d3 0).C 4).B), .bool (((rd d3 0).C 5).B), .bool false], .agg [.list (((rd d3 0).C 0).L), .int ((rd d1 1).I), .bool (((rd d3 0).C 2).B), .bool (((rd d3 0).C 3).B), .bool (((rd d3 0).C 4).B), .bool (((rd d3 0).C 5).B), .int (((rd d3 0).C 6).I), .list (((rd d3 0).C 7).L), .int (((rd d3 0).C 8).I), .int (((rd d3 0).C 9).I)]])) else (bif ((rd d1 2).I) != 0 then ((E C 68 [.pbox [.shr 5 p0_0, .int .i64 p0_1, .bool p0_2, .bool p0_3, .bool p0_4, .bool p0_5, .int .i64 p0_6, .own 0 8 9 p0_7, .int .i64 p0_8, .int .i64 p0_9], .int .i64 ((rd d1 2).I), .int .i64 a1]).bind fun d4 => (some [.agg [.int 7, .int 0, .str ((rd d1 0).S), .bool (((rd d4 0).C 2).B), .bool (((rd d4 0).C 3).B), .bool (((rd d4 0).C 4).B), .bool (((rd d4 0).C 5).B), .bool false], .agg [.list (((rd d4 0).C 0).L), .int ((rd d1 1).I), .bool (((rd d4 0).C 2).B), .bool (((rd d4 0).C 3).B), .bool (((rd d4 0).C 4).B), .bool (((rd d4 0).C 5).B), .int (((rd d4 0).C 6).I), .list (((rd d4 0).C 7).L), .int (((rd d4 0).C 8).I), .int (((rd d4 0).C 9).I)]])) else (some [.agg [.int 7, .int 0, .str ((rd d1 0).S), .bool p0_2, .bool p0_3, .bool p0_4, .bool p0_5, .bool false], .agg [.list p0_0, .int ((rd d1 1).I), .bool p0_2, .bool p0_3, .bool p0_4, .bool p0_5, .int p0_6, .list p0_7, .int p0_8, .int p0_9]])))) else (bif ((rd d1 2).I) != 0 then ((E C 68 [.pbox [.shr 5 p0_0, .int .i64 p0_1, .bool p0_2, .bool p0_3, .bool p0_4, .bool p0_5, .int .i64 p0_6, .own 0 8 9 p0_7, .int .i64 p0_8, .int .i64 p0_9], .int .i64 ((rd d1 2).I), .int .i64 a1]).bind fun d5 => (some [.agg [.int 7, .int 0, .str ((rd d1 0).S), .bool (((rd d5 0).C 2).B), .bool (((rd d5 0).C 3).B), .bool (((rd d5 0).C 4).B), .bool (((rd d5 0).C 5).B), .bool false], .agg [.list (((rd d5 0).C 0).L), .int ((rd d1 1).I), .bool (((rd d5 0).C 2).B), .bool (((rd d5 0).C 3).B), .bool (((rd d5 0).C 4).B), .bool (((rd d5 0).C 5).B), .int (((rd d5 0).C 6).I), .list (((rd d5 0).C 7).L), .int (((rd d5 0).C 8).I), .int (((rd d5 0).C 9).I)]])) else (some [.agg [.int 7, .int 0, .str ((rd d1 0).S), .bool p0_2, .bool p0_3, .bool p0_4, .bool p0_5, .bool false], .agg [.list p0_0, .int ((rd d1 1).I), .bool p0_2, .bool p0_3, .bool p0_4, .bool p0_5, .int p0_6, .list p0_7, .int p0_8, .int p0_9]]))) : R) = some r) : E C 246 [.pbox [.shr 5 p0_0, .int .i64 p0_1, .bool p0_2, .bool p0_3, .bool p0_4, .bool p0_5, .int .i64 p0_6, .own 0 8 9 p0_7, .int .i64 p0_8, .int .i64 p0_9], .int .i64 a1] = some r := E_st h (Cont.bind (Cont.call C 256 _) fun _ => (Cont.bif (Cont.bind (Cont.call C 265 _) fun _ => (Cont.bif (Cont.bind (Cont.call C 68 _) fun _ => (Cont.const _)) (Cont.bif (Cont.bind (Cont.call C 68 _) fun _ => (Cont.const _)) (Cont.const _)))) (Cont.bif (Cont.bind (Cont.call C 68 _) fun _ => (Cont.const _)) (Cont.const _)))) fun φ => by kernel_rfl
/-- (*clew/parse.parser).toggles -/
noncomputable def f247 : Func := Tryz.f247
def kp247 : List Nat := [0, 2, 3, 4, 5, 6]
noncomputable def c247 (p : List Nat) : Code := pick f247 p
noncomputable def L247_1 (n : Nat) (m1 : Nat) (v0_0 : List Dat) (v0_1 : Int) (v0_2 v0_3 v0_4 v0_5 : Bool) (v0_6 : Int) (v0_7 : List Dat) (v0_8 v0_9 v3_0 v3_1 : Int) (v3_2 : ByteArray) (v3_3 v3_4 v3_5 v3_6 v3_7 v4 v5 : Bool) : R := loopIter (fun E K => evCode C (ev C n) n kp247 (c247 [1, 1, 1, 0, 0]) E K) [0, 2, 3, 4, 5] (Kblk 0 (Ktop C 247 f247 [.pbox []])) m1 (cn [.pbox [.shr 5 v0_0, .int .i64 v0_1, .bool v0_2, .bool v0_3, .bool v0_4, .bool v0_5, .int .i64 v0_6, .own 0 8 9 v0_7, .int .i64 v0_8, .int .i64 v0_9], .und, .box 268 [.int .i64 0, .int .i64 0, .str ByteArray.empty, .bool false, .bool false, .bool false, .bool false, .bool false], .box 268 [.int .i64 v3_0, .int .i64 v3_1, .str v3_2, .bool v3_3, .bool v3_4, .bool v3_5, .bool v3_6, .bool v3_7], .bool v4, .bool v5] (un 58 []))
noncomputable def M247_1 (v0_0 : List Dat) (v0_1 : Int) (v0_2 v0_3 v0_4 v0_5 : Bool) (v0_6 : Int) (v0_7 : List Dat) (v0_8 v0_9 v3_0 v3_1 : Int) (v3_2 : ByteArray) (v3_3 v3_4 v3_5 v3_6 v3_7 v4 v5 : Bool) : R := lim fun φ => L247_1 (φ 0) (φ 1) v0_0 v0_1 v0_2 v0_3 v0_4 v0_5 v0_6 v0_7 v0_8 v0_9 v3_0 v3_1 v3_2 v3_3 v3_4 v3_5 v3_6 v3_7 v4 v5
theorem M247_1_c (v0_0 : List Dat) (v0_1 : Int) (v0_2 v0_3 v0_4 v0_5 : Bool) (v0_6 : Int) (v0_7 : List Dat) (v0_8 v0_9 v3_0 v3_1 : Int) (v3_2 : ByteArray) (v3_3 v3_4 v3_5 v3_6 v3_7 v4 v5 : Bool) : Cont (fun φ => L247_1 (φ 0) (φ 1) v0_0 v0_1 v0_2 v0_3 v0_4 v0_5 v0_6 v0_7 v0_8 v0_9 v3_0 v3_1 v3_2 v3_3 v3_4 v3_5 v3_6 v3_7 v4 v5) (M247_1 v0_0 v0_1 v0_2 v0_3 v0_4 v0_5 v0_6 v0_7 v0_8 v0_9 v3_0 v3_1 v3_2 v3_3 v3_4 v3_5 v3_6 v3_7 v4 v5) := Cont.re id _
theorem M247_1_e (v0_0 : List Dat) (v0_1 : Int) (v0_2 v0_3 v0_4 v0_5 : Bool) (v0_6 : Int) (v0_7 : List Dat) (v0_8 v0_9 v3_0 v3_1 : Int) (v3_2 : ByteArray) (v3_3 v3_4 v3_5 v3_6 v3_7 v4 v5 : Bool) : Cont (fun φ => L247_1 (φ 0) (φ 0) v0_0 v0_1 v0_2 v0_3 v0_4 v0_5 v0_6 v0_7 v0_8 v0_9 v3_0 v3_1 v3_2 v3_3 v3_4 v3_5 v3_6 v3_7 v4 v5) (M247_1 v0_0 v0_1 v0_2 v0_3 v0_4 v0_5 v0_6 v0_7 v0_8 v0_9 v3_0 v3_1 v3_2 v3_3 v3_4 v3_5 v3_6 v3_7 v4 v5) := Cont.re (toZ 1) fun φ => L247_1 (φ 0) (φ 1) v0_0 v0_1 v0_2 v0_3 v0_4 v0_5 v0_6 v0_7 v0_8 v0_9 v3_0 v3_1 v3_2 v3_3 v3_4 v3_5 v3_6 v3_7 v4 v5
theorem M247_1_of (v0_0 : List Dat) (v0_1 : Int) (v0_2 v0_3 v0_4 v0_5 : Bool) (v0_6 : Int) (v0_7 : List Dat) (v0_8 v0_9 v3_0 v3_1 : Int) (v3_2 : ByteArray) (v3_3 v3_4 v3_5 v3_6 v3_7 v4 v5 : Bool) {r : List Dat} (h : ((E C 109 [.pbox [.shr 5 v0_0, .int .i64 v0_1, .bool v0_2, .bool v0_3, .bool v0_4, .bool v0_5, .int .i64 v0_6, .own 0 8 9 v0_7, .int .i64 v0_8, .int .i64 v0_9], .int .i64 v0_1]).bind fun d1 => ((E C 266 [.pbox [.bool v3_3, .bool v3_4, .bool v3_5, .bool v3_6], .int .u8 ((rd d1 0).I), .bool v4]).bind fun d2 => (bif (rd d2 0).B then (M247_1 (((rd d1 1).C 0).L) (IntKind.i64.wrap ((((rd d1 1).C 1).I) + 1)) (((rd d1 1).C 2).B) (((rd d1 1).C 3).B) (((rd d1 1).C 4).B) (((rd d1 1).C 5).B) (((rd d1 1).C 6).I) (((rd d1 1).C 7).L) (((rd d1 1).C 8).I) (((rd d1 1).C 9).I) v3_0 v3_1 v3_2 (((rd d2 1).C 0).B) (((rd d2 1).C 1).B) (((rd d2 1).C 2).B) (((rd d2 1).C 3).B) v3_7 v4 true) else (bif ((rd d1 0).I) == 45 then (bif v4 then (M247_1 (((rd d1 1).C 0).L) (IntKind.i64.wrap ((((rd d1 1).C 1).I) + 1)) (((rd d1 1).C 2).B) (((rd d1 1).C 3).B) (((rd d1 1).C 4).B) (((rd d1 1).C 5).B) (((rd d1 1).C 6).I) (((rd d1 1).C 7).L) (((rd d1 1).C 8).I) (((rd d1 1).C 9).I) v3_0 v3_1 v3_2 (((rd d2 1).C 0).B) (((rd d2 1).C 1).B) (((rd d2 1).C 2).B) (((rd d2 1).C 3).B) v3_7 false false) else (bif v5 then (bif ((rd d1 0).I) == 58 then (some [.agg [.int v3_0, .int v3_1, .str v3_2, .bool (((rd d2 1).C 0).B), .bool (((rd d2 1).C 1).B), .bool (((rd d2 1).C 2).B), .bool (((rd d2 1).C 3).B), .bool (((rd d1 0).I) == 41)], .agg [.list (((rd d1 1).C 0).L), .int (IntKind.i64.wrap ((((rd d1 1).C 1).I) + 1)), .bool (((rd d1 1).C 2).B), .bool (((rd d1 1).C 3).B), .bool (((rd d1 1).C 4).B), .bool (((rd d1 1).C 5).B), .int (((rd d1 1).C 6).I), .list (((rd d1 1).C 7).L), .int (((rd d1 1).C 8).I), .int (((rd d1 1).C 9).I)]]) else (bif ((rd d1 0).I) == 41 then (some [.agg [.int v3_0, .int v3_1, .str v3_2, .bool (((rd d2 1).C 0).B), .bool (((rd d2 1).C 1).B), .bool (((rd d2 1).C 2).B), .bool (((rd d2 1).C 3).B), .bool (((rd d1 0).I) == 41)], .agg [.list (((rd d1 1).C 0).L), .int (IntKind.i64.wrap ((((rd d1 1).C 1).I) + 1)), .bool (((rd d1 1).C 2).B), .bool (((rd d1 1).C 3).B), .bool (((rd d1 1).C 4).B), .bool (((rd d1 1).C 5).B), .int (((rd d1 1).C 6).I), .list (((rd d1 1).C 7).L), .int (((rd d1 1).C 8).I), .int (((rd d1 1).C 9).I)]]) else ((E C 68 [(psA (rd d1 1)), .int .i64 35, .int .i64 (((rd d1 1).C 1).I)]).bind fun d3 => (some [.agg [.int v3_0, .int v3_1, .str v3_2, .bool (((rd d2 1).C 0).B), .bool (((rd d2 1).C 1).B), .bool (((rd d2 1).C 2).B), .bool (((rd d2 1).C 3).B), .bool v3_7], (psD (rd d3 0))])))) else ((E C 68 [(psA (rd d1 1)), .int .i64 35, .int .i64 (((rd d1 1).C 1).I)]).bind fun d4 => (some [.agg [.int v3_0, .int v3_1, .str v3_2, .bool (((rd d2 1).C 0).B), .bool (((rd d2 1).C 1).B), .bool (((rd d2 1).C 2).B), .bool (((rd d2 1).C 3).B), .bool v3_7], (psD (rd d4 0))])))) else (bif v5 then (bif ((rd d1 0).I) == 58 then (some [.agg [.int v3_0, .int v3_1, .str v3_2, .bool (((rd d2 1).C 0).B), .bool (((rd d2 1).C 1).B), .bool (((rd d2 1).C 2).B), .bool (((rd d2 1).C 3).B), .bool (((rd d1 0).I) == 41)], .agg [.list (((rd d1 1).C 0).L), .int (IntKind.i64.wrap ((((rd d1 1).C 1).I) + 1)), .bool (((rd d1 1).C 2).B), .bool (((rd d1 1).C 3).B), .bool (((rd d1 1).C 4).B), .bool (((rd d1 1).C 5).B), .int (((rd d1 1).C 6).I), .list (((rd d1 1).C 7).L), .int (((rd d1 1).C 8).I), .int (((rd d1 1).C 9).I)]]) else (bif ((rd d1 0).I) == 41 then (some [.agg [.int v3_0, .int v3_1, .str v3_2, .bool (((rd d2 1).C 0).B), .bool (((rd d2 1).C 1).B), .bool (((rd d2 1).C 2).B), .bool (((rd d2 1).C 3).B), .bool (((rd d1 0).I) == 41)], .agg [.list (((rd d1 1).C 0).L), .int (IntKind.i64.wrap ((((rd d1 1).C 1).I) + 1)), .bool (((rd d1 1).C 2).B), .bool (((rd d1 1).C 3).B), .bool (((rd d1 1).C 4).B), .bool (((rd d1 1).C 5).B), .int (((rd d1 1).C 6).I), .list (((rd d1 1).C 7).L), .int (((rd d1 1).C 8).I), .int (((rd d1 1).C 9).I)]]) else ((E C 68 [(psA (rd d1 1)), .int .i64 35, .int .i64 (((rd d1 1).C 1).I)]).bind fun d5 => (some [.agg [.int v3_0, .int v3_1, .str v3_2, .bool (((rd d2 1).C 0).B), .bool (((rd d2 1).C 1).B), .bool (((rd d2 1).C 2).B), .bool (((rd d2 1).C 3).B), .bool v3_7], (psD (rd d5 0))])))) else ((E C 68 [(psA (rd d1 1)), .int .i64 35, .int .i64 (((rd d1 1).C 1).I)]).bind fun d6 => (some [.agg [.int v3_0, .int v3_1, .str v3_2, .bool (((rd d2 1).C 0).B), .bool (((rd d2 1).C 1).B), .bool (((rd d2 1).C 2).B), .bool (((rd d2 1).C 3).B), .bool v3_7], (psD (rd d6 0))])))))) : R) = some r) : M247_1 v0_0 v0_1 v0_2 v0_3 v0_4 v0_5 v0_6 v0_7 v0_8 v0_9 v3_0 v3_1 v3_2 v3_3 v3_4 v3_5 v3_6 v3_7 v4 v5 = some r := lim_st (g := fun φ => L247_1 (φ 0) (φ 1) v0_0 v0_1 v0_2 v0_3 v0_4 v0_5 v0_6 v0_7 v0_8 v0_9 v3_0 v3_1 v3_2 v3_3 v3_4 v3_5 v3_6 v3_7 v4 v5) 1 h (Cont.bind (Cont.call C 109 _) fun _ => (Cont.bind (Cont.call C 266 _) fun _ => (Cont.bif (M247_1_c _ _ _ _ _ _ _ _ _ _ _ _ _ _ _ _ _ _ _ _) (Cont.bif (Cont.bif (M247_1_c _ _ _ _ _ _ _ _ _ _ _ _ _ _ _ _ _ _ _ _) (Cont.bif (Cont.bif (Cont.const _) (Cont.bif (Cont.const _) (Cont.bind (Cont.call C 68 _) fun _ => (Cont.const _)))) (Cont.bind (Cont.call C 68 _) fun _ => (Cont.const _)))) (Cont.bif (Cont.bif (Cont.const _) (Cont.bif (Cont.const _) (Cont.bind (Cont.call C 68 _) fun _ => (Cont.const _)))) (Cont.bind (Cont.call C 68 _) fun _ => (Cont.const _))))))) fun φ m hm => (congrArg (fun q => L247_1 (φ 0) q v0_0 v0_1 v0_2 v0_3 v0_4 v0_5 v0_6 v0_7 v0_8 v0_9 v3_0 v3_1 v3_2 v3_3 v3_4 v3_5 v3_6 v3_7 v4 v5) hm).trans (by kernel_rfl)
theorem o247 (p0_0 : List Dat) (p0_1 : Int) (p0_2 p0_3 p0_4 p0_5 : Bool) (p0_6 : Int) (p0_7 : List Dat) (p0_8 p0_9 : Int) {r : List Dat} (h : (M247_1 p0_0 p0_1 p0_2 p0_3 p0_4 p0_5 p0_6 p0_7 p0_8 p0_9 0 0 ByteArray.empty p0_2 p0_3 p0_4 p0_5 false true false : R) = some r) : E C 247 [.pbox [.shr 5 p0_0, .int .i64 p0_1, .bool p0_2, .bool p0_3, .bool p0_4, .bool p0_5, .int .i64 p0_6, .own 0 8 9 p0_7, .int .i64 p0_8, .int .i64 p0_9]] = some r := E_st h (M247_1_e _ _ _ _ _ _ _ _ _ _ _ _ _ _ _ _ _ _ _ _) fun φ => by kernel_rfl
/-- (*clew/parse.flags).letter -/
noncomputable def f266 : Func := Tryz.f266
theorem o266 (p0_0 p0_1 p0_2 p0_3 : Bool) (a1 : Int) (a2 : Bool) {r : List Dat} (h : (bif a1 == 105 then (some [.bool true, .agg [.bool a2, .bool p0_1, .bool p0_2, .bool p0_3]]) else (bif a1 == 109 then (some [.bool true, .agg [.bool p0_0, .bool a2, .bool p0_2, .bool p0_3]]) else (bif a1 == 115 then (some [.bool true, .agg [.bool p0_0, .bool p0_1, .bool a2, .bool p0_3]]) else (bif a1 == 120 then (some [.bool true, .agg [.bool p0_0, .bool p0_1, .bool p0_2, .bool a2]]) else (some [.bool false, .agg [.bool p0_0, .bool p0_1, .bool p0_2, .bool p0_3]])))) : R) = some r) : E C 266 [.pbox [.bool p0_0, .bool p0_1, .bool p0_2, .bool p0_3], .int .u8 a1, .bool a2] = some r := E_st h (Cont.bif (Cont.const _) (Cont.bif (Cont.const _) (Cont.bif (Cont.const _) (Cont.bif (Cont.const _) (Cont.const _))))) fun φ => by kernel_rfl
end Go.Proofs.YtlofoifcdmeopaaGreatDoor.V
namespace Go.Proofs.YtlofoifcdmeopaaGreatDoor.V
open Go Go.Ev Go.RowKit
set_option linter.unusedVariables false
set_option linter.unusedSimpArgs false
/-- What a parser holds, but for its pattern. -/
structure PS where
  k : Int
  fo : Bool
  li : Bool
  al : Bool
  wi : Bool
  gr : Int
  nm : List ByteArray
  e : Int
  wh : Int
abbrev pv (b : List Int) (s : PS) : AV := .pbox [.shr 5 (b.map .int), .int .i64 s.k, .bool s.fo, .bool s.li, .bool s.al, .bool s.wi, .int .i64 s.gr, .own 0 8 9 (s.nm.map .str), .int .i64 s.e, .int .i64 s.wh]
def pd (b : List Int) (s : PS) : Dat := .agg [.list (b.map .int), .int s.k, .bool s.fo, .bool s.li, .bool s.al, .bool s.wi, .int s.gr, .list (s.nm.map .str), .int s.e, .int s.wh]
theorem pd0 (b : List Int) (s : PS) : (pd b s).C 0 = .list (b.map .int) := (rfl)
theorem pd1 (b : List Int) (s : PS) : (pd b s).C 1 = .int s.k := (rfl)
theorem pd2 (b : List Int) (s : PS) : (pd b s).C 2 = .bool s.fo := (rfl)
theorem pd3 (b : List Int) (s : PS) : (pd b s).C 3 = .bool s.li := (rfl)
theorem pd4 (b : List Int) (s : PS) : (pd b s).C 4 = .bool s.al := (rfl)
theorem pd5 (b : List Int) (s : PS) : (pd b s).C 5 = .bool s.wi := (rfl)
theorem pd6 (b : List Int) (s : PS) : (pd b s).C 6 = .int s.gr := (rfl)
theorem pd7 (b : List Int) (s : PS) : (pd b s).C 7 = .list (s.nm.map .str) := (rfl)
theorem pd8 (b : List Int) (s : PS) : (pd b s).C 8 = .int s.e := (rfl)
theorem pd9 (b : List Int) (s : PS) : (pd b s).C 9 = .int s.wh := (rfl)
/-- A part: its node, and its kids. -/
def ptD (n : Nd) (ks : List Dat) : Dat := .agg [.int n.kind, .int n.frm, .int n.to, .int n.num, .int n.min, .int n.max, .int n.mode, .str n.name, .list (rs n.set), .list (n.kids.map .int), .list ks]
abbrev ptV (n : Nd) (ks : List Dat) : AV := .agg [.int .i64 n.kind, .int .i64 n.frm, .int .i64 n.to, .int .i64 n.num, .int .i64 n.min, .int .i64 n.max, .int .i64 n.mode, .str n.name, .shr 82 (rs n.set), .shr 3 (n.kids.map .int), .shr 103 ks]
theorem pt0 (n : Nd) (ks : List Dat) : (ptD n ks).C 0 = .int n.kind := (rfl)
theorem pt1 (n : Nd) (ks : List Dat) : (ptD n ks).C 1 = .int n.frm := (rfl)
theorem pt2 (n : Nd) (ks : List Dat) : (ptD n ks).C 2 = .int n.to := (rfl)
theorem pt3 (n : Nd) (ks : List Dat) : (ptD n ks).C 3 = .int n.num := (rfl)
theorem pt4 (n : Nd) (ks : List Dat) : (ptD n ks).C 4 = .int n.min := (rfl)
theorem pt5 (n : Nd) (ks : List Dat) : (ptD n ks).C 5 = .int n.max := (rfl)
theorem pt6 (n : Nd) (ks : List Dat) : (ptD n ks).C 6 = .int n.mode := (rfl)
theorem pt7 (n : Nd) (ks : List Dat) : (ptD n ks).C 7 = .str n.name := (rfl)
theorem pt8 (n : Nd) (ks : List Dat) : (ptD n ks).C 8 = .list (rs n.set) := (rfl)
theorem pt9 (n : Nd) (ks : List Dat) : (ptD n ks).C 9 = .list (n.kids.map .int) := (rfl)
theorem pt10 (n : Nd) (ks : List Dat) : (ptD n ks).C 10 = .list ks := (rfl)
theorem stP : (∀ d : Dat, psA d = .pbox [.shr 5 ((d.C 0).L), .int .i64 ((d.C 1).I), .bool ((d.C 2).B), .bool ((d.C 3).B), .bool ((d.C 4).B), .bool ((d.C 5).B), .int .i64 ((d.C 6).I), .own 0 8 9 ((d.C 7).L), .int .i64 ((d.C 8).I), .int .i64 ((d.C 9).I)]) ∧ (∀ d : Dat, psD d = .agg [.list ((d.C 0).L), .int ((d.C 1).I), .bool ((d.C 2).B), .bool ((d.C 3).B), .bool ((d.C 4).B), .bool ((d.C 5).B), .int ((d.C 6).I), .list ((d.C 7).L), .int ((d.C 8).I), .int ((d.C 9).I)]) ∧ (∀ d : Dat, psN d = .agg [.int ((d.C 0).I), .int ((d.C 1).I), .int ((d.C 2).I), .int ((d.C 3).I), .int ((d.C 4).I), .int ((d.C 5).I), .int ((d.C 6).I), .str ((d.C 7).S), .list ((d.C 8).L), .list ((d.C 9).L), .list ((d.C 10).L)]) ∧ (∀ (a : Dat) (l : List Dat), rd (a :: l) 0 = a) ∧ (∀ (a b : Dat) (l : List Dat), rd (a :: b :: l) 1 = b) ∧ (∀ (a b c : Dat) (l : List Dat), rd (a :: b :: c :: l) 2 = c) ∧ (∀ (a b c d : Dat) (l : List Dat), rd (a :: b :: c :: d :: l) 3 = d) ∧ (∀ (b : List Int) (s : PS), (pd b s).C 0 = .list (b.map .int)) ∧ (∀ (b : List Int) (s : PS), (pd b s).C 1 = .int s.k) ∧ (∀ (b : List Int) (s : PS), (pd b s).C 2 = .bool s.fo) ∧ (∀ (b : List Int) (s : PS), (pd b s).C 3 = .bool s.li) ∧ (∀ (b : List Int) (s : PS), (pd b s).C 4 = .bool s.al) ∧ (∀ (b : List Int) (s : PS), (pd b s).C 5 = .bool s.wi) ∧ (∀ (b : List Int) (s : PS), (pd b s).C 6 = .int s.gr) ∧ (∀ (b : List Int) (s : PS), (pd b s).C 7 = .list (s.nm.map .str)) ∧ (∀ (b : List Int) (s : PS), (pd b s).C 8 = .int s.e) ∧ (∀ (b : List Int) (s : PS), (pd b s).C 9 = .int s.wh) ∧ (∀ (n : Nd) (ks : List Dat), (ptD n ks).C 0 = .int n.kind) ∧ (∀ (n : Nd) (ks : List Dat), (ptD n ks).C 1 = .int n.frm) ∧ (∀ (n : Nd) (ks : List Dat), (ptD n ks).C 2 = .int n.to) ∧ (∀ (n : Nd) (ks : List Dat), (ptD n ks).C 3 = .int n.num) ∧ (∀ (n : Nd) (ks : List Dat), (ptD n ks).C 4 = .int n.min) ∧ (∀ (n : Nd) (ks : List Dat), (ptD n ks).C 5 = .int n.max) ∧ (∀ (n : Nd) (ks : List Dat), (ptD n ks).C 6 = .int n.mode) ∧ (∀ (n : Nd) (ks : List Dat), (ptD n ks).C 7 = .str n.name) ∧ (∀ (n : Nd) (ks : List Dat), (ptD n ks).C 8 = .list (rs n.set)) ∧ (∀ (n : Nd) (ks : List Dat), (ptD n ks).C 9 = .list (n.kids.map .int)) ∧ (∀ (n : Nd) (ks : List Dat), (ptD n ks).C 10 = .list ks) ∧ (∀ l : List Dat, (Dat.list l).L = l) ∧ (∀ n : Int, (Dat.int n).I = n) ∧ (∀ b : Bool, (Dat.bool b).B = b) ∧ (∀ s : ByteArray, (Dat.str s).S = s) := ⟨fun _ => rfl, fun _ => rfl, fun _ => rfl, rd0, rd1, rd2, rd3, pd0, pd1, pd2, pd3, pd4, pd5, pd6, pd7, pd8, pd9, pt0, pt1, pt2, pt3, pt4, pt5, pt6, pt7, pt8, pt9, pt10, datL, datI, datB, datS⟩
theorem agA : (∀ (a : Dat) (l : List Dat), (Dat.agg (a :: l)).C 0 = a) ∧ (∀ (a b : Dat) (l : List Dat), (Dat.agg (a :: b :: l)).C 1 = b) ∧ (∀ (a b c : Dat) (l : List Dat), (Dat.agg (a :: b :: c :: l)).C 2 = c) ∧ (∀ (a b c d : Dat) (l : List Dat), (Dat.agg (a :: b :: c :: d :: l)).C 3 = d) ∧ (∀ (a b c d e : Dat) (l : List Dat), (Dat.agg (a :: b :: c :: d :: e :: l)).C 4 = e) ∧ (∀ (a b c d e f : Dat) (l : List Dat), (Dat.agg (a :: b :: c :: d :: e :: f :: l)).C 5 = f) := ⟨aggC0, aggC1, aggC2, aggC3, aggC4, aggC5⟩
def nd0P : Nd := ⟨0, 0, 0, 0, 0, 0, 0, ByteArray.empty, [], []⟩
def overB (b : List Int) (s : PS) : Bool := s.e != 0 || decide (s.k ≥ (b.length : Int))
def failS (s : PS) (e at_ : Int) : PS := if s.e = 0 then { s with e := e, wh := at_ } else s
def skipS (b : List Int) (s : PS) : PS := bif s.wi then { s with k := blankR b s.k } else s
def endsB (b : List Int) (s : PS) : Bool := overB b (skipS b s) || atB b (skipS b s).k == 124 || atB b (skipS b s).k == 41
theorem over_E (b : List Int) (s : PS) : E C 67 [pv b s] = some [.bool (overB b s), pd b s] := by
  apply o67
  unfold overB
  by_cases h : s.e = 0
  · rw [neF h, List.length_map, show (s.e != 0) = false by simp [h], Bool.false_or]; rfl
  · rw [neT h, show (s.e != 0) = true by simp [h], Bool.true_or]; rfl
theorem fail_E (b : List Int) (s : PS) (e a : Int) : E C 68 [pv b s, .int .i64 e, .int .i64 a] = some [pd b (failS s e a)] := by
  apply o68
  unfold failS
  by_cases h : s.e = 0
  · rw [eT h, if_pos h]; rfl
  · rw [eF h, if_neg h]; rfl
theorem byteAt_E (b : List Int) (s : PS) (i : Int) (hi : 0 ≤ i) : E C 109 [pv b s, .int .i64 i] = some [.int (atB b i), pd b s] := by
  apply o109
  rw [List.length_map]
  by_cases h : i ≥ (b.length : Int)
  · rw [dT h, atB_out (by omega)]; rfl
  · rw [dF h, ixT ⟨hi, by omega⟩, rdA ⟨hi, by omega⟩]; rfl
theorem skip_E (b : List Int) (hb : b.length ≤ 140737488351232) (s : PS) (hk : i64P s.k) : E C 177 [pv b s] = some [pd b (skipS b s)] := by
  apply o177
  unfold skipS
  cases hw : s.wi with
  | true => rw [cond_true, cond_true, bT (Blank_E b hb s.k hk)]; rfl
  | false => rw [cond_false, cond_false, ← hw]; rfl
theorem ends_E (b : List Int) (hb : b.length ≤ 140737488351232) (s : PS) (hk : i64P s.k) (h0 : 0 ≤ (skipS b s).k) : E C 147 [pv b s] = some [.bool (endsB b s), pd b (skipS b s)] := by
  apply o147
  rw [bT (skip_E b hb s hk)]
  simp only [stP, agA]
  rw [bT (over_E b (skipS b s))]
  simp only [stP, agA]
  unfold endsB
  cases overB b (skipS b s) with
  | true => rfl
  | false =>
  rw [cond_false, Bool.false_or, bT (byteAt_E b (skipS b s) _ h0)]
  simp only [stP, agA]
  by_cases h : atB b (skipS b s).k = 124
  · rw [eT h, show (atB b (skipS b s).k == 124) = true by simp [h], Bool.true_or]; rfl
  rw [eF h, show (atB b (skipS b s).k == 124) = false by simp [h], Bool.false_or, bT (byteAt_E b (skipS b s) _ h0)]
  rfl
theorem set_E (b : List Int) (s : PS) (f t : Int) (l : List (Int × Int)) : E C 208 [pv b s, .int .i64 f, .int .i64 t, .shr 82 (rs l)] = some [ptD ⟨2, f, t, 0, 0, 0, 0, ByteArray.empty, l, []⟩ [], pd b { s with k := t }] := by
  apply o208
  rfl
theorem hold_E (b : List Int) (s : PS) (f t w : Int) : E C 210 [pv b s, .int .i64 f, .int .i64 t, .int .i64 w] = some [ptD ⟨3, f, t, w, 0, 0, 0, ByteArray.empty, [], []⟩ [], pd b { s with k := t }] := by
  apply o210
  rfl
theorem closed_E (b : List Int) (s : PS) (l : List (Int × Int)) (hl : l.length ≤ 1000000) : E C 214 [pv b s, .shr 82 (rs l)] = some [.list (rs (bif s.fo then closeR l else l)), pd b s] := by
  apply o214
  cases hf : s.fo with
  | true => rw [cond_true, cond_true, bT (Close_E l hl), ← hf]; rfl
  | false => rw [cond_false, cond_false, ← hf]; rfl
theorem either_E (c : Bool) (x y : Int) : E C 211 [.bool c, .int .i64 x, .int .i64 y] = some [.int (bif c then x else y)] := by
  apply o211
  cases c <;> rfl
theorem look_E (c x y : Int) : E C 244 [.int .u8 c, .int .i64 x, .int .i64 y] = some [.int (bif c == 61 then x else y)] := by
  apply o244
  rw [bT (either_E _ _ _)]
  rfl
theorem Of1_E (x : Int) : E C 215 [.int .i64 x] = some [.list (rs (mk [(x, x)]))] := by
  apply o215
  rw [show ([.agg [.int x, .int x]] : List Dat) = rs [(x, x)] from rfl, bT (Make_E [(x, x)] (show 1 < 8796093022208 by decide))]
  rfl
/-- The quantifier at a place: what is found, whether it counts, the state behind. -/
def countS (b : List Int) (s : PS) : PS := let c := ((rd (countR b s.k) 2).I); if c = 0 then s else failS s c s.k
theorem countR_len (b : List Int) (i : Int) : ∃ q0 q1 q2 q3 : Int, ∃ ok : Bool, ∃ e : Int, countR b i = [.agg [.int q0, .int q1, .int q2, .int q3], .bool ok, .int e] ∧ (e ≠ 0 → ok = false ∧ e = 34) := by
  unfold countR
  split
  · exact ⟨_, _, _, _, _, _, rfl, fun h => absurd rfl h⟩
  · unfold finC
    split
    · exact ⟨_, _, _, _, _, _, rfl, fun h => ⟨rfl, rfl⟩⟩
    · split
      · exact ⟨_, _, _, _, _, _, rfl, fun h => absurd rfl h⟩
      · split
        · exact ⟨_, _, _, _, _, _, rfl, fun h => absurd rfl h⟩
        · exact ⟨_, _, _, _, _, _, rfl, fun h => absurd rfl h⟩
theorem count_E (b : List Int) (hb : b.length ≤ 140737488351232) (s : PS) : E C 178 [pv b s] = some [rd (countR b s.k) 0, .bool ((rd (countR b s.k) 1).B && (s.e == 0)), pd b (countS b s)] := by
  obtain ⟨q0, q1, q2, q3, ok, e, hq, he⟩ := countR_len b s.k
  apply o178
  rw [bT (Count_E b hb s.k)]
  unfold countS
  rw [hq]
  simp only [stP, agA]
  by_cases h : e = 0
  · rw [neF h, if_pos h]
    cases ok with
    | true => rw [cond_true, Bool.true_and]; rfl
    | false => rfl
  · obtain ⟨rfl, rfl⟩ := he h
    rw [neT h, if_neg h, bT (fail_E b s _ _)]
    rfl
end Go.Proofs.YtlofoifcdmeopaaGreatDoor.V
namespace Go.Proofs.YtlofoifcdmeopaaGreatDoor.V
open Go Go.Ev Go.RowKit
set_option linter.unusedVariables false
set_option linter.unusedSimpArgs false
theorem count_no (b : List Int) (hb : b.length ≤ 140737488351232) (s : PS) (h : cntQ b s.k = none) : E C 178 [pv b s] = some [.agg [.int 0, .int 0, .int 0, .int 0], .bool false, pd b s] := by
  have hc : countR b s.k = noneC := by unfold countR; rw [h]
  have := count_E b hb s
  rw [hc] at this
  unfold countS at this
  rw [hc] at this
  exact this
theorem pc_ok (b : List Int) (hb : b.length ≤ 140737488351232) (s : PS) (d : Int) (he : s.e = 0) (h1 : cntQ b s.k = none) {n : Nd} {ks : List Dat} {may : Bool} {s1 : PS} (hat : E C 179 [pv b s, .int .i64 d] = some [ptD n ks, .bool may, pd b s1]) (e1 : s1.e = 0) (hk1 : i64P s1.k) (h2 : cntQ b (skipS b s1).k = none) (hk : n.kind ≠ 0) : E C 148 [pv b s, .int .i64 d] = some [.list [ptD n ks], pd b (skipS b s1)] := by
  apply o148
  rw [bT (count_no b hb s h1)]
  simp only [stP, agA]
  rw [cond_false, neF he, bT hat]
  simp only [stP, agA]
  rw [neF e1, bT (skip_E b hb s1 hk1)]
  simp only [stP, agA]
  rw [bT (count_no b hb (skipS b s1) h2)]
  simp only [stP, agA]
  rw [cond_false, eF hk]
  rfl
theorem atom_par (b : List Int) (s : PS) (d : Int) (hd : 0 ≤ d ∧ d ≤ 1000) (h0 : 0 ≤ s.k) (hc : atB b s.k = 40) {n : Nd} {ks : List Dat} {may : Bool} {s1 : PS} (hg : E C 206 [pv b s, .int .i64 (d + 1)] = some [ptD n ks, .bool may, pd b s1]) : E C 179 [pv b s, .int .i64 d] = some [ptD n ks, .bool may, pd b s1] := by
  apply o179
  rw [bT (byteAt_E b s _ h0)]
  simp only [stP, agA]
  rw [eT hc, w64 (by omega) (by omega), bT hg]
  rfl
theorem atom_lit (b : List Int) (hbb : isBytes b = true) (hb : b.length ≤ 140737488351232) (s : PS) (d : Int) (h0 : 0 ≤ s.k ∧ s.k ≤ 140737488351232) (hc : atB b s.k ≠ 40 ∧ atB b s.k ≠ 91 ∧ atB b s.k ≠ 46 ∧ atB b s.k ≠ 94 ∧ atB b s.k ≠ 36 ∧ atB b s.k ≠ 92) (hs : 0 ≤ (symR b s.k).2 ∧ (symR b s.k).2 ≤ 4) : E C 179 [pv b s, .int .i64 d] = some [ptD ⟨2, s.k, s.k + (symR b s.k).2, 0, 0, 0, 0, ByteArray.empty, bif s.fo then closeR (mk [((symR b s.k).1, (symR b s.k).1)]) else mk [((symR b s.k).1, (symR b s.k).1)], []⟩ [], .bool true, pd b { s with k := s.k + (symR b s.k).2 }] := by
  obtain ⟨c1, c2, c3, c4, c5, c6⟩ := hc
  apply o179
  rw [bT (byteAt_E b s _ h0.1)]
  simp only [stP, agA]
  rw [eF c1, eF c2, eF c3, eF c4, eF c5, eF c6, bT (At_E b hbb hb s.k)]
  simp only [stP, agA]
  rw [bT (Of1_E _)]
  simp only [stP, agA]
  rw [bT (closed_E b s _ (mk1_len _))]
  simp only [stP, agA]
  rw [w64 (by omega) (by omega), bT (set_E b s _ _ _)]
  rfl
where
  mk1_len (x : Int) : (mk [(x, x)]).length ≤ 1000000 := Nat.le_trans (mk_length [(x, x)]) (show 1 ≤ 1000000 by decide)
theorem open_E (b : List Int) (s : PS) (f : Int) (hf : 0 ≤ f ∧ f ≤ 140737488351232) (hq : atB b (f + 1) ≠ 63) : E C 229 [pv b s, .int .i64 f] = some [.agg [.int 7, .int 0, .str ByteArray.empty, .bool s.fo, .bool s.li, .bool s.al, .bool s.wi, .bool false], pd b { s with k := f + 1 }] := by
  apply o229
  rw [w64 (n := f + 1) (by omega) (by omega), bT (byteAt_E b s _ (by omega))]
  simp only [stP, agA]
  rw [neT hq]
  rfl
theorem cap144 : capB 144 = 977343669134 := by decide
/-- A row of one piece. -/
theorem row_one (b : List Int) (hb : b.length ≤ 140737488351232) (s : PS) (d : Int) (hw : s.wi = false) (hk : i64P s.k) (h0 : 0 ≤ s.k) (hn : endsB b s = false) {x : Dat} {l : List Dat} {s1 : PS} (hp : E C 148 [pv b s, .int .i64 d] = some [.list l, pd b s1]) (hl : l.length ≤ 1) (w1 : s1.wi = false) (k1 : i64P s1.k) (h1 : 0 ≤ s1.k) (he : endsB b s1 = true) : E C 108 [pv b s, .int .i64 d] = some [(match l with | [] => ptD ⟨1, s.k, s.k, 0, 0, 0, 0, ByteArray.empty, [], []⟩ [] | x :: _ => .agg [.int (x.C 0).I, .int (x.C 1).I, .int (x.C 2).I, .int (x.C 3).I, .int (x.C 4).I, .int (x.C 5).I, .int (x.C 6).I, .str (x.C 7).S, .list (x.C 8).L, .list (x.C 9).L, .list (x.C 10).L]), pd b s1] := by
  have sk : skipS b s = s := by unfold skipS; rw [hw]; rfl
  have sk1 : skipS b s1 = s1 := by unfold skipS; rw [w1]; rfl
  apply o108
  apply M108_1_of
  have e0 := ends_E b hb s hk (by rw [sk]; exact h0)
  rw [sk, hn] at e0
  rw [bT e0]
  simp only [stP, agA]
  rw [nF' rfl, bT hp]
  simp only [stP, agA]
  rw [cap144, dT (by show 0 + l.length ≤ _; omega)]
  apply M108_1_of
  have e1 := ends_E b hb s1 k1 (by rw [sk1]; exact h1)
  rw [sk1, he] at e1
  rw [bT e1]
  simp only [stP, agA]
  rw [nF rfl]
  match l, hl with
  | [], _ => rfl
  | [x], _ => rfl
where
  nF' {α : Type} {b : Bool} {x y : α} (h : b = false) : (bif !b then x else y) = x := nT h
theorem alt_one (b : List Int) (s : PS) (d : Int) {n : Nd} {ks : List Dat} {s1 : PS} (hr : E C 108 [pv b s, .int .i64 d] = some [ptD n ks, pd b s1]) (h1 : 0 ≤ s1.k) (hc : overB b s1 = true ∨ atB b s1.k ≠ 124) : E C 66 [pv b s, .int .i64 d] = some [ptD n ks, pd b s1] := by
  apply o66
  rw [bT hr]
  simp only [stP, agA]
  apply M66_1_of
  rw [bT (over_E b s1)]
  simp only [stP, agA]
  cases ho : overB b s1 with
  | true => rfl
  | false =>
    rw [nT rfl, bT (byteAt_E b s1 _ h1)]
    simp only [stP, agA]
    rcases hc with hc | hc
    · rw [ho] at hc; cases hc
    · rw [eF hc]; rfl
end Go.Proofs.YtlofoifcdmeopaaGreatDoor.V
namespace Go.Proofs.YtlofoifcdmeopaaGreatDoor.V
open Go Go.Ev Go.RowKit
set_option linter.unusedVariables false
set_option linter.unusedSimpArgs false
def isSym (x : Int) : Bool := decide ((0 ≤ x ∧ x ≤ 55295) ∨ (57344 ≤ x ∧ x ≤ 1114111) ∨ (1114240 ≤ x ∧ x ≤ 1114367))
theorem isSym_iff (x : Int) : isSym x = true ↔ (0 ≤ x ∧ x ≤ 55295) ∨ (57344 ≤ x ∧ x ≤ 1114111) ∨ (1114240 ≤ x ∧ x ≤ 1114367) := by
  unfold isSym
  rw [decide_eq_true_eq]
theorem isSym_dec {x : Int} {c : Prop} [Decidable c] (h : c ↔ (0 ≤ x ∧ x ≤ 55295) ∨ (57344 ≤ x ∧ x ≤ 1114111) ∨ (1114240 ≤ x ∧ x ≤ 1114367)) : decide c = isSym x := by
  unfold isSym
  exact decide_eq_decide.2 h
theorem isSym_true {x : Int} (h : (0 ≤ x ∧ x ≤ 55295) ∨ (57344 ≤ x ∧ x ≤ 1114111) ∨ (1114240 ≤ x ∧ x ≤ 1114367)) : true = isSym x := ((isSym_iff x).mpr h).symm
theorem isSym_false {x : Int} (h : ¬ ((0 ≤ x ∧ x ≤ 55295) ∨ (57344 ≤ x ∧ x ≤ 1114111) ∨ (1114240 ≤ x ∧ x ≤ 1114367))) : false = isSym x := (Bool.eq_false_iff.mpr (fun e => h ((isSym_iff x).mp e))).symm
/-- A hexadecimal digit's number; -1: it is none. -/
def hexV (c : Int) : Int := if 48 ≤ c ∧ c ≤ 57 then c - 48 else if 97 ≤ c ∧ c ≤ 102 then c - 87 else if 65 ≤ c ∧ c ≤ 70 then c - 55 else -1
theorem hexV_in (c : Int) : -1 ≤ hexV c ∧ hexV c ≤ 15 := by
  unfold hexV
  split
  · omega
  split
  · omega
  split <;> omega
theorem hex_E (c : Int) : E C 302 [.int .u8 c] = some [.int (hexV c)] := by
  apply o302
  rw [bT (digit_E c)]
  simp only [rd0, datB]
  unfold hexV
  cases hd : digB c with
  | true =>
    have h := digB_iff.1 hd
    rw [cT rfl, w8 (by omega) (by omega), w64 (by omega) (by omega), if_pos h]
  | false =>
    have h := digB_no.1 hd
    rw [cF rfl, if_neg h]
    by_cases c1 : c ≥ 97
    · by_cases c2 : c ≤ 102
      · rw [dT c1, dT c2, w8 (by omega) (by omega), w64 (n := c - 97) (by omega) (by omega), w64 (by omega) (by omega), if_pos ⟨c1, c2⟩, show c - 97 + 10 = c - 87 by omega]
      · rw [dT c1, dF c2, dT (by omega), dF (by omega), if_neg (by omega), if_neg (by omega)]
    · rw [dF c1, if_neg (by omega)]
      by_cases c3 : c ≥ 65
      · by_cases c4 : c ≤ 70
        · rw [dT c3, dT c4, w8 (by omega) (by omega), w64 (n := c - 65) (by omega) (by omega), w64 (by omega) (by omega), if_pos ⟨c3, c4⟩, show c - 65 + 10 = c - 55 by omega]
        · rw [dT c3, dF c4, if_neg (by omega)]
      · rw [dF c3, if_neg (by omega)]
theorem bs_size (s : List UInt8) : (bs s).size = s.length := by
  show s.toArray.size = _
  simp
/-- A number of at most so many hexadecimal digits; how many they are. -/
def hexG : Nat → List Int → Int → Int × Nat
  | 0, _, a => (a, 0)
  | m + 1, l, a => match l with
    | [] => (a, 0)
    | c :: l => if hexV c ≥ 0 then ((hexG m l (a * 16 + hexV c)).1, (hexG m l (a * 16 + hexV c)).2 + 1) else (a, 0)
theorem hexG_le : ∀ (m : Nat) (l : List Int) (a : Int), (hexG m l a).2 ≤ m ∧ (hexG m l a).2 ≤ l.length
  | 0, l, a => ⟨Nat.le_refl _, Nat.zero_le _⟩
  | m + 1, [], a => ⟨Nat.zero_le _, Nat.le_refl _⟩
  | m + 1, c :: l, a => by
    have := hexG_le m l (a * 16 + hexV c)
    unfold hexG
    dsimp only
    split
    · simp only [List.length_cons]; omega
    · simp
theorem hexG_drop {b : List Int} {k : Nat} (m : Nat) (a : Int) : hexG (m + 1) (b.drop k) a = if hexV (atB b (k : Int)) ≥ 0 then ((hexG m (b.drop (k + 1)) (a * 16 + hexV (atB b (k : Int)))).1, (hexG m (b.drop (k + 1)) (a * 16 + hexV (atB b (k : Int)))).2 + 1) else (a, 0) := by
  by_cases h : k < b.length
  · rw [List.drop_eq_getElem_cons h, hexG, atB_in h]
  · rw [List.drop_of_length_le (by omega), atB_out (by omega), if_neg (by decide)]
    rfl
theorem pow16 {k : Nat} (h : k ≤ 6) : (16 : Int) ^ k ≤ 16777216 := by
  have : k = 0 ∨ k = 1 ∨ k = 2 ∨ k = 3 ∨ k = 4 ∨ k = 5 ∨ k = 6 := by omega
  rcases this with rfl | rfl | rfl | rfl | rfl | rfl | rfl <;> decide
theorem hexes_loop (b : List Int) (hb : b.length ≤ 140737488351232) (i : Nat) (hi : i ≤ b.length + 10) (most : Nat) (hm : most ≤ 6) (v6 v7 : Int) : ∀ (m k : Nat) (a : Int), k + m = most → 0 ≤ a → a + 1 ≤ 16 ^ k →
    M284_1 (b.map .int) (i : Int) (most : Int) v6 v7 a (k : Int) = some [.int (hexG m (b.drop (i + k)) a).1, .int (((k + (hexG m (b.drop (i + k)) a).2 : Nat)) : Int)] := by
  intro m
  induction m with
  | zero =>
    intro k a hk h0 h1
    apply M284_1_of
    rw [dF (by omega)]
    rfl
  | succ m ih =>
    intro k a hk h0 h1
    have hp := pow16 (k := k) (by omega)
    have ew : IntKind.i64.wrap ((i : Int) + (k : Int)) = ((i + k : Nat) : Int) := by rw [w64 (by omega) (by omega)]; omega
    have hh := hexV_in (atB b ((i + k : Nat) : Int))
    apply M284_1_of
    rw [dT (by omega), ew, bT (at_E b _)]
    simp only [rd0, datI]
    rw [bT (hex_E _)]
    simp only [rd0, datI]
    rw [hexG_drop]
    by_cases h : hexV (atB b ((i + k : Nat) : Int)) ≥ 0
    · have hin : i + k < b.length := Classical.byContradiction fun hn => by
        rw [atB_out (by omega)] at h
        exact absurd h (by decide)
      rw [dT h, if_pos h, List.length_map, ixT ⟨by omega, by omega⟩, rdA ⟨by omega, by omega⟩, bT (hex_E _)]
      simp only [rd0, datI]
      rw [w64 (n := a * 16) (by omega) (by omega), w64 (n := a * 16 + hexV (atB b ((i + k : Nat) : Int))) (by omega) (by omega), show IntKind.i64.wrap ((k : Int) + 1) = ((k + 1 : Nat) : Int) from by rw [w64 (by omega) (by omega)]; omega]
      have hps : (16 : Int) ^ (k + 1) = 16 ^ k * 16 := Int.pow_succ 16 k
      refine (ih (k + 1) _ (by omega) (by omega) (by rw [hps]; omega)).trans ?_
      rw [show i + (k + 1) = i + k + 1 from rfl]
      have e : ∀ n : Nat, ((k + 1 + n : Nat) : Int) = ((k + (n + 1) : Nat) : Int) := fun n => by omega
      rw [e]
    · rw [dF h, if_neg h]
      rfl
theorem hexes_E (b : List Int) (hb : b.length ≤ 140737488351232) (i : Nat) (hi : i ≤ b.length + 10) (most : Nat) (hm : most ≤ 6) : E C 284 [.shr 5 (b.map .int), .int .i64 (i : Int), .int .i64 (most : Int)] = some [.int (hexG most (b.drop i) 0).1, .int (((hexG most (b.drop i) 0).2 : Nat) : Int)] := by
  apply o284
  refine (hexes_loop b hb i hi most hm 0 0 most 0 0 (by omega) (by omega) (by decide)).trans ?_
  rw [Nat.add_zero, Nat.zero_add]
theorem hexes6_E (b : List Int) (hb : b.length ≤ 140737488351232) (i : Nat) (hi : i ≤ b.length + 10) : E C 284 [.shr 5 (b.map .int), .int .i64 (i : Int), .int .i64 6] = some [.int (hexG 6 (b.drop i) 0).1, .int (((hexG 6 (b.drop i) 0).2 : Nat) : Int)] := hexes_E b hb i hi 6 (by omega)
theorem hexes2_E (b : List Int) (hb : b.length ≤ 140737488351232) (i : Nat) (hi : i ≤ b.length + 10) : E C 284 [.shr 5 (b.map .int), .int .i64 (i : Int), .int .i64 2] = some [.int (hexG 2 (b.drop i) 0).1, .int (((hexG 2 (b.drop i) 0).2 : Nat) : Int)] := hexes_E b hb i hi 2 (by omega)
theorem Is_E (x : Int) : E C 97 [.int .i64 x] = some [.bool (isSym x)] := by
  apply o97
  by_cases h0 : x < 0
  · rw [dT h0, isSym_false (x := x) (by omega)]
  rw [dF h0]
  by_cases h1 : x > 1114367
  · rw [dT h1, isSym_false (x := x) (by omega)]
  rw [dF h1]
  by_cases h2 : x > 1114111
  · rw [dT h2, isSym_dec (x := x) (by omega)]
  rw [dF h2]
  by_cases h3 : x < 55296
  · rw [dT h3, isSym_true (x := x) (by omega)]
  · rw [dF h3, isSym_dec (x := x) (by omega)]
/-- A symbol by its number, behind the x: the number, and behind it. -/
def codeS (b : List Int) (j : Nat) : Option (Int × Nat) :=
  if atB b (j : Int) = 123 then
    if (hexG 6 (b.drop (j + 1)) 0).2 = 0 ∨ atB b ((j + 1 + (hexG 6 (b.drop (j + 1)) 0).2 : Nat) : Int) ≠ 125 ∨ isSym (hexG 6 (b.drop (j + 1)) 0).1 = false then none
    else some ((hexG 6 (b.drop (j + 1)) 0).1, j + (hexG 6 (b.drop (j + 1)) 0).2 + 2)
  else if (hexG 2 (b.drop j) 0).2 < 2 then none
  else some ((hexG 2 (b.drop j) 0).1, j + 2)
def itemP (kind to num : Int) (s : ByteArray) (l : List Dat) (e : Int) : List Dat := [.agg [.int kind, .int to, .int num, .str s, .list l], .int e]
def codeP : Option (Int × Nat) → List Dat
  | none => itemP 0 0 0 ByteArray.empty [] 32
  | some p => itemP 1 (p.2 : Int) p.1 ByteArray.empty [] 0
theorem code_E (b : List Int) (hb : b.length ≤ 140737488351232) (j : Nat) (hj : j ≤ b.length + 5) : E C 274 [.shr 5 (b.map .int), .int .i64 (j : Int)] = some (codeP (codeS b j)) := by
  apply o274
  rw [bT (at_E b _)]
  simp only [rd0, datI]
  unfold codeS
  by_cases h : atB b (j : Int) = 123
  · have g := hexG_le 6 (b.drop (j + 1)) 0
    rw [eT h, if_pos h, show IntKind.i64.wrap ((j : Int) + 1) = ((j + 1 : Nat) : Int) from by rw [w64 (by omega) (by omega)]; omega, bT (hexes6_E b hb (j + 1) (by omega))]
    simp only [rd0, rd1, datI]
    by_cases c1 : (hexG 6 (b.drop (j + 1)) 0).2 = 0
    · rw [eT (by omega), if_pos (.inl c1)]; rfl
    rw [eF (by omega), show IntKind.i64.wrap (((j + 1 : Nat) : Int) + (((hexG 6 (b.drop (j + 1)) 0).2 : Nat) : Int)) = ((j + 1 + (hexG 6 (b.drop (j + 1)) 0).2 : Nat) : Int) from by rw [w64 (by omega) (by omega)]; omega, bT (at_E b _)]
    simp only [rd0, datI]
    by_cases c2 : atB b ((j + 1 + (hexG 6 (b.drop (j + 1)) 0).2 : Nat) : Int) = 125
    · rw [neF c2, bT (Is_E _)]
      simp only [rd0, datB]
      cases c3 : isSym (hexG 6 (b.drop (j + 1)) 0).1 with
      | false => rw [nT rfl, if_pos (.inr (.inr rfl))]; rfl
      | true =>
        rw [nF rfl, if_neg (by rintro (h | h | h) <;> first | exact c1 h | exact h c2 | cases h), show IntKind.i64.wrap (IntKind.i64.wrap ((j : Int) + (((hexG 6 (b.drop (j + 1)) 0).2 : Nat) : Int)) + 2) = ((j + (hexG 6 (b.drop (j + 1)) 0).2 + 2 : Nat) : Int) from by rw [w64 (n := (j : Int) + _) (by omega) (by omega), w64 (by omega) (by omega)]; omega]
        rfl
    · rw [neT c2, if_pos (.inr (.inl c2))]; rfl
  · have g := hexG_le 2 (b.drop j) 0
    rw [eF h, if_neg h, bT (hexes2_E b hb j (by omega))]
    simp only [rd0, rd1, datI]
    by_cases c1 : (hexG 2 (b.drop j) 0).2 < 2
    · rw [dT (by omega), if_pos c1]; rfl
    · rw [dF (by omega), if_neg c1, show IntKind.i64.wrap ((j : Int) + (((hexG 2 (b.drop j) 0).2 : Nat) : Int)) = ((j + 2 : Nat) : Int) from by rw [w64 (by omega) (by omega)]; omega]
      rfl
end Go.Proofs.YtlofoifcdmeopaaGreatDoor.V
namespace Go.Proofs.YtlofoifcdmeopaaGreatDoor.V
open Go Go.Ev Go.RowKit
set_option linter.unusedVariables false
set_option linter.unusedSimpArgs false
def wB (c : Int) : Bool := letB c || (c == 95 || digB c)
def wlen : List Int → Nat
  | [] => 0
  | c :: l => if wB c = true then wlen l + 1 else 0
theorem wlen_drop {b : List Int} {k : Nat} (h : k < b.length) : wlen (b.drop k) = if wB (atB b k) = true then wlen (b.drop (k + 1)) + 1 else 0 := by
  rw [List.drop_eq_getElem_cons h, wlen, atB_in h]
theorem wlen_end {b : List Int} {k : Nat} (h : wB (atB b k) = false) : wlen (b.drop k) = 0 := by
  by_cases hk : k < b.length
  · rw [wlen_drop hk, h]; rfl
  · rw [List.drop_of_length_le (by omega)]; rfl
def subB (b : List Int) (i k : Int) : ByteArray := strOf (((b.map Dat.int).take k.toNat).drop i.toNat)
def errN : List Dat := [.str ByteArray.empty, .int 0, .int 36]
def finN (b : List Int) (i k : Int) : List Dat := if i < 0 ∨ k = i ∨ k - i > 32 ∨ atB b k ≠ 62 then errN else [.str (subB b i k), .int (k + 1), .int 0]
theorem fin_ok (b : List Int) (hb : b.length ≤ 140737488351232) (i : Int) (k : Nat) (hik : i ≤ (k : Int)) (hi : i64P i) (hk : k ≤ b.length ∨ i = (k : Int) ∨ i < 0) :
    (bif decide (i < 0) then (some [.str ByteArray.empty, .int 0, .int 36]) else (bif (k : Int) == i then (some [.str ByteArray.empty, .int 0, .int 36]) else (bif decide ((IntKind.i64.wrap ((k : Int) - i)) > 32) then (some [.str ByteArray.empty, .int 0, .int 36]) else ((E C 217 [.shr 5 (b.map .int), .int .i64 (k : Int)]).bind fun d7 => (bif ((rd d7 0).I) != 62 then (some [.str ByteArray.empty, .int 0, .int 36]) else (bif decide (0 ≤ i) then (bif decide (i ≤ (k : Int)) then (bif decide ((k : Int) ≤ (((b.map Dat.int).length : Nat) : Int)) then (some [.str (strOf (((b.map Dat.int).take (k : Int).toNat).drop i.toNat)), .int (IntKind.i64.wrap ((k : Int) + 1)), .int 0]) else none) else none) else none))))) : R) = some (finN b i (k : Int)) := by
  unfold finN errN
  by_cases c1 : i < 0
  · rw [dT c1, if_pos (.inl c1)]
  by_cases c2 : (k : Int) = i
  · rw [dF c1, eT c2, if_pos (.inr (.inl c2))]
  have hkl : k ≤ b.length := by omega
  rw [dF c1, eF c2, w64 (by omega) (by omega), w64 (by omega) (by omega)]
  by_cases c3 : (k : Int) - i > 32
  · rw [dT c3, if_pos (.inr (.inr (.inl c3)))]
  rw [dF c3, bT (at_E b _)]
  simp only [rd0, datI, List.length_map]
  by_cases c4 : atB b (k : Int) = 62
  · rw [neF c4, dT (by omega), dT (by omega), dT (by omega), if_neg (by rintro (h | h | h | h) <;> first | exact h c4 | omega)]
    rfl
  · rw [neT c4, if_pos (.inr (.inr (.inr c4)))]
theorem name_loop (b : List Int) (hb : b.length ≤ 140737488351232) (i : Int) (hi : i64P i) (v4 : ByteArray) (v5 v6 : Int) : ∀ (d k : Nat), b.length - k = d → i ≤ (k : Int) → (k ≤ b.length ∨ i = (k : Int) ∨ i < 0) → (i = (k : Int) → digB (atB b k) = false) →
    M256_1 (b.map .int) i v4 v5 v6 (k : Int) (atB b (k : Int)) = some (finN b i (((k + wlen (b.drop k) : Nat)) : Int)) := by
  intro d
  induction d with
  | zero =>
    intro k hd hik hkl hdg
    have h0 : atB b (k : Int) = 0 := atB_out (by omega)
    have hw : wB (atB b (k : Int)) = false := by rw [h0]; rfl
    apply M256_1_of
    rw [bT (letter_E _), h0, show letB 0 = false from rfl]
    simp only [rd0, datB]
    rw [cF rfl, eF (by omega), bT (digit_E _), show digB 0 = false from rfl]
    simp only [rd0, datB]
    rw [cF rfl, wlen_end hw]
    exact fin_ok b hb i k hik hi hkl
  | succ d ih =>
    intro k hd hik hkl hdg
    have hlt : k < b.length := by omega
    have nx := ih (k + 1) (by omega) (by omega) (by omega) (by omega)
    have ew : IntKind.i64.wrap ((k : Int) + 1) = ((k + 1 : Nat) : Int) := by rw [w64 (by omega) (by omega)]; omega
    have hs : ∀ h : wB (atB b (k : Int)) = true, (((k + 1) + wlen (b.drop (k + 1)) : Nat)) = (k + wlen (b.drop k) : Nat) := fun h => by
      rw [wlen_drop hlt, if_pos h]; omega
    apply M256_1_of
    rw [bT (letter_E _)]
    simp only [rd0, datB]
    cases h1 : letB (atB b (k : Int)) with
    | true =>
      rw [cT rfl, ew, bT (at_E b _)]
      simp only [rd0, datI]
      rw [nx, hs (by simp [wB, h1])]
    | false =>
      rw [cF rfl]
      by_cases h2 : atB b (k : Int) = 95
      · rw [eT h2, ew, bT (at_E b _)]
        simp only [rd0, datI]
        rw [nx, hs (by simp [wB, h2])]
      rw [eF h2, bT (digit_E _)]
      simp only [rd0, datB]
      cases h3 : digB (atB b (k : Int)) with
      | true =>
        have hne : ¬ i = (k : Int) := fun h => by rw [hdg h] at h3; cases h3
        rw [cT rfl, dT (by omega), ew, bT (at_E b _)]
        simp only [rd0, datI]
        rw [nx, hs (by simp [wB, h3])]
      | false =>
        rw [cF rfl, wlen_end (by simp [wB, h1, h2, h3])]
        exact fin_ok b hb i k hik hi hkl
/-- What a name is read as. -/
def nameR (b : List Int) (i : Int) : List Dat := if i < 0 ∨ i ≥ (b.length : Int) ∨ digB (atB b i) = true then errN else finN b i (i + wlen (b.drop i.toNat))
theorem Name_E (b : List Int) (hb : b.length ≤ 140737488351232) (i : Int) (hi : i64P i) : E C 256 [.shr 5 (b.map .int), .int .i64 i] = some (nameR b i) := by
  apply o256
  rw [bT (at_E b _)]
  simp only [rd0, datI]
  unfold nameR
  by_cases h : 0 > i
  · rw [if_pos h, if_pos (.inl h)]
    refine (name_loop b hb i hi _ _ _ _ 0 rfl (by omega) (.inr (.inr h)) (by omega)).trans ?_
    unfold finN
    rw [if_pos (.inl h)]
  · rw [if_neg h]
    obtain ⟨k, rfl⟩ : ∃ k : Nat, i = (k : Int) := ⟨i.toNat, by omega⟩
    cases hg : digB (atB b (k : Int)) with
    | true =>
      rw [if_pos (.inr (.inr rfl))]
      have hl : letB (atB b (k : Int)) = false := by
        rw [digB_iff] at hg
        rw [letB_no]
        omega
      have hg' := digB_iff.1 hg
      apply M256_1_of
      rw [bT (letter_E _), hl]
      simp only [rd0, datB]
      rw [cF rfl, eF (by omega), bT (digit_E _), hg]
      simp only [rd0, datB]
      rw [cT rfl, dF (by omega), dF (by omega), eT rfl]
      rfl
    | false =>
      refine (name_loop b hb (k : Int) hi _ _ _ _ k rfl (by omega) (.inr (.inl rfl)) (fun _ => hg)).trans ?_
      by_cases hl : (k : Int) ≥ (b.length : Int)
      · rw [if_pos (.inr (.inl hl)), wlen_end (by rw [atB_out (by omega)]; rfl)]
        unfold finN
        rw [if_pos (.inr (.inl (by omega)))]
      · rw [if_neg (by rintro (h' | h' | h') <;> first | omega | cases h'), Int.toNat_natCast]
        congr 1
end Go.Proofs.YtlofoifcdmeopaaGreatDoor.V
namespace Go.Proofs.YtlofoifcdmeopaaGreatDoor.V
open Go Go.Ev Go.RowKit
end Go.Proofs.YtlofoifcdmeopaaGreatDoor.V
namespace Go.Proofs.YtlofoifcdmeopaaGreatDoor.V
open Go Go.Ev
set_option maxRecDepth 100000
set_option linter.unusedVariables false
theorem o209 (a0 : Bool) {r : List Dat} (h : (bif a0 then ((E C 167 [.shr 82 ([] : List Dat)]).bind fun d1 => (some [.list ((rd d1 0).L)])) else ((E C 215 [.int .i64 10]).bind fun d2 => ((E C 167 [.shr 82 ((rd d2 0).L)]).bind fun d3 => (some [.list ((rd d3 0).L)]))) : R) = some r) : E C 209 [.bool a0] = some r := E_st h (Cont.bif (Cont.bind (Cont.call C 167 _) fun _ => (Cont.const _)) (Cont.bind (Cont.call C 215 _) fun _ => (Cont.bind (Cont.call C 167 _) fun _ => (Cont.const _)))) fun φ => by kernel_rfl
theorem o276 (a0 : Int) {r : List Dat} (h : (bif a0 == 100 then ((E C 285 [.str (bs [100, 105, 103, 105, 116])]).bind fun d1 => (some [.list ((rd d1 0).L), .bool true])) else (bif a0 == 119 then ((E C 285 [.str (bs [119, 111, 114, 100])]).bind fun d2 => (some [.list ((rd d2 0).L), .bool true])) else (bif a0 == 115 then ((E C 285 [.str (bs [115, 112, 97, 99, 101])]).bind fun d3 => (some [.list ((rd d3 0).L), .bool true])) else (bif a0 == 68 then (bif a0 == 68 then ((E C 276 [.int .u8 (IntKind.u8.wrap ((IntKind.u8.wrap (a0 + 97)) - 65))]).bind fun d4 => ((E C 167 [.shr 82 ((rd d4 0).L)]).bind fun d5 => (some [.list ((rd d5 0).L), .bool true]))) else (some [.list ([] : List Dat), .bool false])) else (bif a0 == 87 then (bif a0 == 87 then ((E C 276 [.int .u8 (IntKind.u8.wrap ((IntKind.u8.wrap (a0 + 97)) - 65))]).bind fun d6 => ((E C 167 [.shr 82 ((rd d6 0).L)]).bind fun d7 => (some [.list ((rd d7 0).L), .bool true]))) else (some [.list ([] : List Dat), .bool false])) else (bif a0 == 83 then ((E C 276 [.int .u8 (IntKind.u8.wrap ((IntKind.u8.wrap (a0 + 97)) - 65))]).bind fun d8 => ((E C 167 [.shr 82 ((rd d8 0).L)]).bind fun d9 => (some [.list ((rd d9 0).L), .bool true]))) else (some [.list ([] : List Dat), .bool false])))))) : R) = some r) : E C 276 [.int .u8 a0] = some r := E_st h (Cont.bif (Cont.bind (Cont.call C 285 _) fun _ => (Cont.const _)) (Cont.bif (Cont.bind (Cont.call C 285 _) fun _ => (Cont.const _)) (Cont.bif (Cont.bind (Cont.call C 285 _) fun _ => (Cont.const _)) (Cont.bif (Cont.bif (Cont.bind (Cont.call C 276 _) fun _ => (Cont.bind (Cont.call C 167 _) fun _ => (Cont.const _))) (Cont.const _)) (Cont.bif (Cont.bif (Cont.bind (Cont.call C 276 _) fun _ => (Cont.bind (Cont.call C 167 _) fun _ => (Cont.const _))) (Cont.const _)) (Cont.bif (Cont.bind (Cont.call C 276 _) fun _ => (Cont.bind (Cont.call C 167 _) fun _ => (Cont.const _))) (Cont.const _))))))) fun φ => by kernel_rfl
theorem o282 (a0 : ByteArray) {r : List Dat} (h : ((E C 290 []).bind fun d1 => ((E C 291 [.shr 342 ((rd d1 0).L), .clo 292 [] [.sref 9 ([.str a0] : List Dat) 0 0]]).bind fun d2 => (bif decide (((rd d2 0).I) < 0) then (some [.list ([] : List Dat), .bool false]) else (bif decide (0 ≤ ((rd d2 0).I)) then (bif decide (((rd d2 0).I) < (((rd d1 0).L).length : Int)) then (bif decide (((rd d2 0).I).toNat < ((rd d1 0).L).length) then (some [.list (((rd ((rd d1 0).L) (((rd d2 0).I).toNat)).C 1).L), .bool true]) else none) else none) else none))) : R) = some r) : E C 282 [.str a0] = some r := E_st h (Cont.bind (Cont.call C 290 _) fun _ => (Cont.bind (Cont.call C 291 _) fun _ => (Cont.bif (Cont.const _) (Cont.bif (Cont.bif (Cont.bif (Cont.const _) Cont.nn) Cont.nn) Cont.nn)))) fun φ => by kernel_rfl
theorem o285 (a0 : ByteArray) {r : List Dat} (h : ((E C 282 [.str a0]).bind fun d1 => (some [.list ((rd d1 0).L)]) : R) = some r) : E C 285 [.str a0] = some r := E_st h (Cont.bind (Cont.call C 282 _) fun _ => (Cont.const _)) fun φ => by kernel_rfl
theorem o290 {r : List Dat} (h : (some [.list ([.agg [.str (bs [97, 108, 110, 117, 109]), .list ([.agg [.int 48, .int 57], .agg [.int 65, .int 90], .agg [.int 97, .int 122]] : List Dat)], .agg [.str (bs [97, 108, 112, 104, 97]), .list ([.agg [.int 65, .int 90], .agg [.int 97, .int 122]] : List Dat)], .agg [.str (bs [97, 115, 99, 105, 105]), .list ([.agg [.int 0, .int 127]] : List Dat)], .agg [.str (bs [98, 108, 97, 110, 107]), .list ([.agg [.int 9, .int 9], .agg [.int 32, .int 32]] : List Dat)], .agg [.str (bs [99, 110, 116, 114, 108]), .list ([.agg [.int 0, .int 31], .agg [.int 127, .int 127]] : List Dat)], .agg [.str (bs [100, 105, 103, 105, 116]), .list ([.agg [.int 48, .int 57]] : List Dat)], .agg [.str (bs [103, 114, 97, 112, 104]), .list ([.agg [.int 33, .int 126]] : List Dat)], .agg [.str (bs [108, 111, 119, 101, 114]), .list ([.agg [.int 97, .int 122]] : List Dat)], .agg [.str (bs [112, 114, 105, 110, 116]), .list ([.agg [.int 32, .int 126]] : List Dat)], .agg [.str (bs [112, 117, 110, 99, 116]), .list ([.agg [.int 33, .int 47], .agg [.int 58, .int 64], .agg [.int 91, .int 96], .agg [.int 123, .int 126]] : List Dat)], .agg [.str (bs [115, 112, 97, 99, 101]), .list ([.agg [.int 9, .int 13], .agg [.int 32, .int 32]] : List Dat)], .agg [.str (bs [117, 112, 112, 101, 114]), .list ([.agg [.int 65, .int 90]] : List Dat)], .agg [.str (bs [119, 111, 114, 100]), .list ([.agg [.int 48, .int 57], .agg [.int 65, .int 90], .agg [.int 95, .int 95], .agg [.int 97, .int 122]] : List Dat)], .agg [.str (bs [120, 100, 105, 103, 105, 116]), .list ([.agg [.int 48, .int 57], .agg [.int 65, .int 70], .agg [.int 97, .int 102]] : List Dat)]] : List Dat)] : R) = some r) : E C 290 [] = some r := E_st h (Cont.const _) fun φ => by kernel_rfl
/-- slices.IndexFunc[[]clew/class.named,clew/class.named] -/
noncomputable def f291 : Func := Tryz.f291
def kp291 : List Nat := [0, 1, 4, 5, 7, 8]
noncomputable def c291 (p : List Nat) : Code := pick f291 p
noncomputable def L291_a_1 (n : Nat) (m1 : Nat) (v0 : List Dat) (v1c0d0 : ByteArray) (v4 v7 v8 : Int) : R := loopIter (fun E K => evCode C (ev C n) n kp291 (c291 [1, 0, 1, 0, 0]) E K) [0, 1, 4, 7, 8] (Kblk 0 (Kseq C (ev C n) n kp291 (c291 [1, 1]) (Ktop C 291 f291 [.und, .und]))) m1 (cn [.shr 342 v0, .clo 292 [] [.sref 9 ([.str v1c0d0] : List Dat) 0 0], .und, .und, .int .i64 v4, .und, .und, .int .i64 v7, .int .i64 v8] (un 10 []))
noncomputable def M291_a_1 (v0 : List Dat) (v1c0d0 : ByteArray) (v4 v7 v8 : Int) : R := lim fun φ => L291_a_1 (φ 0) (φ 1) v0 v1c0d0 v4 v7 v8
theorem M291_a_1_c (v0 : List Dat) (v1c0d0 : ByteArray) (v4 v7 v8 : Int) : Cont (fun φ => L291_a_1 (φ 0) (φ 1) v0 v1c0d0 v4 v7 v8) (M291_a_1 v0 v1c0d0 v4 v7 v8) := Cont.re id _
theorem M291_a_1_e (v0 : List Dat) (v1c0d0 : ByteArray) (v4 v7 v8 : Int) : Cont (fun φ => L291_a_1 (φ 0) (φ 0) v0 v1c0d0 v4 v7 v8) (M291_a_1 v0 v1c0d0 v4 v7 v8) := Cont.re (toZ 1) fun φ => L291_a_1 (φ 0) (φ 1) v0 v1c0d0 v4 v7 v8
theorem M291_a_1_of (v0 : List Dat) (v1c0d0 : ByteArray) (v4 v7 v8 : Int) {r : List Dat} (h : (bif decide (v8 < v7) then (bif decide (0 ≤ v8) then (bif decide (v8 < (v0.length : Int)) then (bif decide (v8.toNat < v0.length) then ((E C 292 [.agg [.str (((rd v0 v8.toNat).C 0).S), .shr 82 (((rd v0 v8.toNat).C 1).L)], .sref 9 ([.str v1c0d0] : List Dat) 0 0]).bind fun d1 => (bif (rd d1 0).B then (some [.int v8]) else (M291_a_1 v0 v1c0d0 v4 v7 (IntKind.i64.wrap (v8 + 1))))) else none) else none) else none) else (some [.int (-1)]) : R) = some r) : M291_a_1 v0 v1c0d0 v4 v7 v8 = some r := lim_st (g := fun φ => L291_a_1 (φ 0) (φ 1) v0 v1c0d0 v4 v7 v8) 1 h (Cont.bif (Cont.bif (Cont.bif (Cont.bif (Cont.bind (Cont.call C 292 _) fun _ => (Cont.bif (Cont.const _) (M291_a_1_c _ _ _ _ _))) Cont.nn) Cont.nn) Cont.nn) (Cont.const _)) fun φ m hm => (congrArg (fun q => L291_a_1 (φ 0) q v0 v1c0d0 v4 v7 v8) hm).trans (by kernel_rfl)
theorem o291_a (a0 : List Dat) (a1c0d0 : ByteArray) {r : List Dat} (h : (M291_a_1 a0 a1c0d0 0 (a0.length : Int) 0 : R) = some r) : E C 291 [.shr 342 a0, .clo 292 [] [.sref 9 ([.str a1c0d0] : List Dat) 0 0]] = some r := E_st h (M291_a_1_e _ _ _ _ _) fun φ => by kernel_rfl
theorem o292_a (a0_0 : ByteArray) (a0_1 : List Dat) (a1d0 : ByteArray) {r : List Dat} (h : (bif decide (0 < ([.str a1d0] : List Dat).length) then (some [.bool (a0_0.toList == ((rd ([.str a1d0] : List Dat) 0).S).toList)]) else none : R) = some r) : E C 292 [.agg [.str a0_0, .shr 82 a0_1], .sref 9 ([.str a1d0] : List Dat) 0 0] = some r := E_st h (Cont.bif (Cont.const _) Cont.nn) fun φ => by kernel_rfl
end Go.Proofs.YtlofoifcdmeopaaGreatDoor.V
namespace Go.Proofs.YtlofoifcdmeopaaGreatDoor.V
open Go Go.Ev Go.RowKit
set_option linter.unusedVariables false
set_option linter.unusedSimpArgs false
def allN : List (List UInt8 × List (Int × Int)) := [([97, 108, 110, 117, 109], [(48, 57), (65, 90), (97, 122)]), ([97, 108, 112, 104, 97], [(65, 90), (97, 122)]), ([97, 115, 99, 105, 105], [(0, 127)]), ([98, 108, 97, 110, 107], [(9, 9), (32, 32)]), ([99, 110, 116, 114, 108], [(0, 31), (127, 127)]), ([100, 105, 103, 105, 116], [(48, 57)]), ([103, 114, 97, 112, 104], [(33, 126)]), ([108, 111, 119, 101, 114], [(97, 122)]), ([112, 114, 105, 110, 116], [(32, 126)]), ([112, 117, 110, 99, 116], [(33, 47), (58, 64), (91, 96), (123, 126)]), ([115, 112, 97, 99, 101], [(9, 13), (32, 32)]), ([117, 112, 112, 101, 114], [(65, 90)]), ([119, 111, 114, 100], [(48, 57), (65, 90), (95, 95), (97, 122)]), ([120, 100, 105, 103, 105, 116], [(48, 57), (65, 70), (97, 102)])]
def allD (l : List (List UInt8 × List (Int × Int))) : List Dat := l.map fun p => .agg [.str (bs p.1), .list (rs p.2)]
theorem all_E : E C 290 [] = some [.list (allD allN)] := by
  apply o290
  rfl
def findN (s : ByteArray) : List (List UInt8 × List (Int × Int)) → Option (List (Int × Int))
  | [] => none
  | p :: l => bif (bs p.1).toList == s.toList then some p.2 else findN s l
theorem Nam1_E (a : ByteArray) (l : List Dat) (s : ByteArray) : E C 292 [.agg [.str a, .shr 82 l], .sref 9 ([.str s] : List Dat) 0 0] = some [.bool (a.toList == s.toList)] := by
  apply o292_a
  rw [dT (by simp)]
  rfl
theorem allD_rd (l : List (List UInt8 × List (Int × Int))) (k : Nat) (h : k < l.length) : rd (allD l) k = .agg [.str (bs (l[k]).1), .list (rs (l[k]).2)] := by simp [rd, allD, h]
theorem allD_len (l : List (List UInt8 × List (Int × Int))) : (allD l).length = l.length := by simp [allD]
theorem nam_loop (l : List (List UInt8 × List (Int × Int))) (hl : l.length ≤ 1000) (s : ByteArray) (v4 : Int) : ∀ (d k : Nat), l.length - k = d → k ≤ l.length →
    ∃ r : Int, M291_a_1 (allD l) s v4 (l.length : Int) (k : Int) = some [.int r] ∧ (findN s (l.drop k) = none → r = -1) ∧ ∀ x, findN s (l.drop k) = some x → ∃ j : Nat, r = (j : Int) ∧ ∃ h : j < l.length, (l[j]).2 = x := by
  intro d
  induction d with
  | zero =>
    intro k hd hk
    refine ⟨-1, ?_, fun _ => rfl, fun x h => ?_⟩
    · apply M291_a_1_of
      rw [dF (by omega)]
    · rw [List.drop_of_length_le (by omega)] at h
      cases h
  | succ d ih =>
    intro k hd hk
    have hlt : k < l.length := by omega
    obtain ⟨r, h1, h2, h3⟩ := ih (k + 1) (by omega) (by omega)
    rw [List.drop_eq_getElem_cons hlt]
    unfold findN
    cases hb : ((bs (l[k]).1).toList == s.toList) with
    | true =>
      refine ⟨k, ?_, (fun h => by cases h), fun x h => ⟨k, rfl, hlt, Option.some.inj h⟩⟩
      apply M291_a_1_of
      rw [allD_len, dT (by omega), ixT ⟨by omega, by omega⟩, Int.toNat_natCast, allD_rd l k hlt]
      refine (bT (Nam1_E _ _ s)).trans ?_
      exact cT hb
    | false =>
      refine ⟨r, ?_, h2, h3⟩
      apply M291_a_1_of
      rw [allD_len, dT (by omega), ixT ⟨by omega, by omega⟩, Int.toNat_natCast, allD_rd l k hlt]
      refine (bT (Nam1_E _ _ s)).trans ?_
      refine (cF hb).trans ?_
      rw [w64 (by omega) (by omega)]
      exact h1
def namedD (o : Option (List (Int × Int))) : List Dat := match o with
  | none => [.list [], .bool false]
  | some l => [.list (rs l), .bool true]
theorem Named_E (s : ByteArray) : E C 282 [.str s] = some (namedD (findN s allN)) := by
  obtain ⟨r, h1, h2, h3⟩ := nam_loop allN (by decide) s 0 allN.length 0 (by omega) (by omega)
  rw [List.drop_zero] at h2 h3
  have e1 : E C 291 [.shr 342 (allD allN), .clo 292 [] [.sref 9 ([.str s] : List Dat) 0 0]] = some [.int r] := by
    apply o291_a
    rw [allD_len]
    exact h1
  apply o282
  rw [bT all_E]
  simp only [rd0, datL]
  rw [bT e1]
  simp only [rd0, datI, allD_len]
  cases hf : findN s allN with
  | none => rw [h2 hf, dT (by omega)]; rfl
  | some x =>
    obtain ⟨j, rfl, hj, hx⟩ := h3 x hf
    rw [dF (by omega), ixT ⟨by omega, by omega⟩, Int.toNat_natCast, allD_rd allN j hj, hx]
    rfl
theorem must_E (s : ByteArray) (l : List (Int × Int)) (h : findN s allN = some l) : E C 285 [.str s] = some [.list (rs l)] := by
  apply o285
  rw [bT (Named_E s), h]
  rfl
def digL : List (Int × Int) := [(48, 57)]
def wrdL : List (Int × Int) := [(48, 57), (65, 90), (95, 95), (97, 122)]
def spcL : List (Int × Int) := [(9, 13), (32, 32)]
theorem find_dig : findN (bs [100, 105, 103, 105, 116]) allN = some digL := by kernel_rfl
theorem find_wrd : findN (bs [119, 111, 114, 100]) allN = some wrdL := by kernel_rfl
theorem find_spc : findN (bs [115, 112, 97, 99, 101]) allN = some spcL := by kernel_rfl
/-- The set of a letter. -/
def ofL (c : Int) : Option (List (Int × Int)) :=
  if c = 100 then some digL else if c = 119 then some wrdL else if c = 115 then some spcL else if c = 68 then some (notR digL) else if c = 87 then some (notR wrdL) else if c = 83 then some (notR spcL) else none
theorem Of_low (c : Int) (l : List (Int × Int)) (h : (c = 100 ∧ l = digL) ∨ (c = 119 ∧ l = wrdL) ∨ (c = 115 ∧ l = spcL)) : E C 276 [.int .u8 c] = some [.list (rs l), .bool true] := by
  apply o276
  rcases h with ⟨rfl, rfl⟩ | ⟨rfl, rfl⟩ | ⟨rfl, rfl⟩
  · rw [eT rfl, bT (must_E _ _ find_dig)]; rfl
  · rw [eF (by decide), eT rfl, bT (must_E _ _ find_wrd)]; rfl
  · rw [eF (by decide), eF (by decide), eT rfl, bT (must_E _ _ find_spc)]; rfl
theorem Of_E (c : Int) : E C 276 [.int .u8 c] = some (namedD (ofL c)) := by
  unfold ofL
  by_cases c1 : c = 100
  · rw [if_pos c1, Of_low c digL (.inl ⟨c1, rfl⟩)]; rfl
  rw [if_neg c1]
  by_cases c2 : c = 119
  · rw [if_pos c2, Of_low c wrdL (.inr (.inl ⟨c2, rfl⟩))]; rfl
  rw [if_neg c2]
  by_cases c3 : c = 115
  · rw [if_pos c3, Of_low c spcL (.inr (.inr ⟨c3, rfl⟩))]; rfl
  rw [if_neg c3]
  apply o276
  rw [eF c1, eF c2, eF c3]
  by_cases c4 : c = 68
  · rw [if_pos c4, eT c4, eT c4, c4, show IntKind.u8.wrap (IntKind.u8.wrap (68 + 97) - 65) = 100 from by decide, bT (Of_low 100 digL (.inl ⟨rfl, rfl⟩))]
    simp only [rd0, datL]
    rw [bT (Not_E digL (by decide))]; rfl
  rw [if_neg c4, eF c4]
  by_cases c5 : c = 87
  · rw [if_pos c5, eT c5, eT c5, c5, show IntKind.u8.wrap (IntKind.u8.wrap (87 + 97) - 65) = 119 from by decide, bT (Of_low 119 wrdL (.inr (.inl ⟨rfl, rfl⟩)))]
    simp only [rd0, datL]
    rw [bT (Not_E wrdL (by decide))]; rfl
  rw [if_neg c5, eF c5]
  by_cases c6 : c = 83
  · rw [if_pos c6, eT c6, c6, show IntKind.u8.wrap (IntKind.u8.wrap (83 + 97) - 65) = 115 from by decide, bT (Of_low 115 spcL (.inr (.inr ⟨rfl, rfl⟩)))]
    simp only [rd0, datL]
    rw [bT (Not_E spcL (by decide))]; rfl
  · rw [if_neg c6, eF c6]; rfl
/-! The document's. -/
theorem ofL_len {c : Int} {l : List (Int × Int)} (h : ofL c = some l) : l.length ≤ 10 ∧ leastP l := by
  have hd : leastP digL := (leastB_iff _).1 (by decide)
  have hw : leastP wrdL := (leastB_iff _).1 (by decide)
  have hs : leastP spcL := (leastB_iff _).1 (by decide)
  have d1 : digL.length = 1 := rfl
  have d2 : wrdL.length = 4 := rfl
  have d3 : spcL.length = 2 := rfl
  have n1 := notR_length digL
  have n2 := notR_length wrdL
  have n3 := notR_length spcL
  unfold ofL at h
  split at h
  · obtain rfl := Option.some.inj h; exact ⟨by decide, hd⟩
  split at h
  · obtain rfl := Option.some.inj h; exact ⟨by decide, hw⟩
  split at h
  · obtain rfl := Option.some.inj h; exact ⟨by decide, hs⟩
  split at h
  · obtain rfl := Option.some.inj h; exact ⟨by omega, notR_least _⟩
  split at h
  · obtain rfl := Option.some.inj h; exact ⟨by omega, notR_least _⟩
  split at h
  · obtain rfl := Option.some.inj h; exact ⟨by omega, notR_least _⟩
  · cases h
end Go.Proofs.YtlofoifcdmeopaaGreatDoor.V
namespace Go.Proofs.YtlofoifcdmeopaaGreatDoor.V
open Go Go.Ev Go.RowKit
set_option linter.unusedVariables false
set_option linter.unusedSimpArgs false
/-- What a backslash makes. -/
inductive Esc where
  | lit (n to : Int)
  | cls (c to : Int)
  | hld (n to : Int)
  | ref (n to : Int)
  | key (s : ByteArray) (to : Int)
  | err (e : Int)
def progD : Esc → List Dat
  | .lit n to => itemP 1 to n ByteArray.empty [] 0
  | .cls c to => itemP 2 to 0 ByteArray.empty (rs ((ofL c).getD [])) 0
  | .hld n to => itemP 3 to n ByteArray.empty [] 0
  | .ref n to => itemP 4 to n ByteArray.empty [] 0
  | .key s to => itemP 5 to 0 s [] 0
  | .err e => itemP 0 0 0 ByteArray.empty [] e
def simD : Option Esc → List Dat
  | none => [.agg [.int 0, .int 0, .int 0, .str ByteArray.empty, .list []], .bool false, .int 0]
  | some x => [rd (progD x) 0, .bool true, rd (progD x) 1]
def ctrl (c : Int) : Int := if c = 110 then 10 else if c = 116 then 9 else if c = 114 then 13 else if c = 102 then 12 else if c = 118 then 11 else if c = 97 then 7 else if c = 101 then 27 else -1
def heldV (c : Int) : Int := if c = 65 then 1 else if c = 90 then 2 else if c = 122 then 3 else if c = 98 then 6 else if c = 66 then 7 else 0
theorem control_E (c : Int) : E C 275 [.int .u8 c] = some [.int (ctrl c)] := by
  apply o275
  unfold ctrl
  by_cases h0 : c = 110
  · rw [eT h0, if_pos h0]
  rw [eF h0, if_neg h0]
  by_cases h1 : c = 116
  · rw [eT h1, if_pos h1]
  rw [eF h1, if_neg h1]
  by_cases h2 : c = 114
  · rw [eT h2, if_pos h2]
  rw [eF h2, if_neg h2]
  by_cases h3 : c = 102
  · rw [eT h3, if_pos h3]
  rw [eF h3, if_neg h3]
  by_cases h4 : c = 118
  · rw [eT h4, if_pos h4]
  rw [eF h4, if_neg h4]
  by_cases h5 : c = 97
  · rw [eT h5, if_pos h5]
  rw [eF h5, if_neg h5]
  by_cases h6 : c = 101
  · rw [eT h6, if_pos h6]
  rw [eF h6, if_neg h6]
theorem held_E (c : Int) : E C 254 [.int .u8 c] = some [.int (heldV c)] := by
  apply o254
  unfold heldV
  by_cases h0 : c = 65
  · rw [eT h0, if_pos h0]
  rw [eF h0, if_neg h0]
  by_cases h1 : c = 90
  · rw [eT h1, if_pos h1]
  rw [eF h1, if_neg h1]
  by_cases h2 : c = 122
  · rw [eT h2, if_pos h2]
  rw [eF h2, if_neg h2]
  by_cases h3 : c = 98
  · rw [eT h3, if_pos h3]
  rw [eF h3, if_neg h3]
  by_cases h4 : c = 66
  · rw [eT h4, if_pos h4]
  rw [eF h4, if_neg h4]
/-- What is alike beside classes and within them. -/
def simpleS (b : List Int) (i : Nat) : Option Esc :=
  if atB b ((i + 1 : Nat) : Int) = 120 then some (match codeS b (i + 2) with | none => .err 32 | some p => .lit p.1 (p.2 : Int))
  else if ctrl (atB b ((i + 1 : Nat) : Int)) ≥ 0 then some (.lit (ctrl (atB b ((i + 1 : Nat) : Int))) ((i + 2 : Nat) : Int))
  else if (ofL (atB b ((i + 1 : Nat) : Int))).isSome = true then some (.cls (atB b ((i + 1 : Nat) : Int)) ((i + 2 : Nat) : Int))
  else if letB (atB b ((i + 1 : Nat) : Int)) = true ∨ digB (atB b ((i + 1 : Nat) : Int)) = true then none
  else if b.length ≤ i + 1 then some (.err 32)
  else some (.lit (symA b (i + 1)).1 (((i + 1 : Nat) : Int) + (symA b (i + 1)).2))
def keyS (l : List Dat) : Esc := if (rd l 2).I ≠ 0 then .err (rd l 2).I else .key (rd l 0).S (rd l 1).I
def restS (b : List Int) (i : Nat) : Esc :=
  if heldV (atB b ((i + 1 : Nat) : Int)) > 0 then .hld (heldV (atB b ((i + 1 : Nat) : Int))) ((i + 2 : Nat) : Int)
  else if 49 ≤ atB b ((i + 1 : Nat) : Int) ∧ atB b ((i + 1 : Nat) : Int) ≤ 57 then
    if digB (atB b ((i + 2 : Nat) : Int)) = true then .ref ((atB b ((i + 1 : Nat) : Int) - 48) * 10 + (atB b ((i + 2 : Nat) : Int) - 48)) ((i + 3 : Nat) : Int)
    else .ref (atB b ((i + 1 : Nat) : Int) - 48) ((i + 2 : Nat) : Int)
  else if atB b ((i + 1 : Nat) : Int) ≠ 107 then .err 32
  else if atB b ((i + 2 : Nat) : Int) ≠ 60 then .err 36
  else keyS (nameR b ((i + 3 : Nat) : Int))
def escS (b : List Int) (i : Int) (inner : Bool) : Esc :=
  if atB b i ≠ 92 then .err 10
  else match simpleS b i.toNat with
    | some x => x
    | none => if inner = true then (if atB b ((i.toNat + 1 : Nat) : Int) = 98 then .lit 8 ((i.toNat + 2 : Nat) : Int) else .err 32) else restS b i.toNat
theorem simple_E {b : List Int} (hb : isBytes b = true) (hbl : b.length ≤ 140737488351232) (i : Nat) (hi : i < b.length) : E C 253 [.shr 5 (b.map .int), .int .i64 (i : Int)] = some (simD (simpleS b i)) := by
  have e1 : IntKind.i64.wrap ((i : Int) + 1) = ((i + 1 : Nat) : Int) := by rw [w64 (by omega) (by omega)]; omega
  have e2 : IntKind.i64.wrap ((i : Int) + 2) = ((i + 2 : Nat) : Int) := by rw [w64 (by omega) (by omega)]; omega
  apply o253
  rw [e1, e2, bT (at_E b _)]
  simp only [rd0, datI]
  unfold simpleS
  by_cases c1 : atB b ((i + 1 : Nat) : Int) = 120
  · rw [eT c1, if_pos c1, bT (code_E b hbl (i + 2) (by omega))]
    cases codeS b (i + 2) <;> rfl
  rw [eF c1, if_neg c1, bT (control_E _)]
  simp only [rd0, datI]
  by_cases c2 : ctrl (atB b ((i + 1 : Nat) : Int)) ≥ 0
  · rw [dT c2, if_pos c2]; rfl
  rw [dF c2, if_neg c2, bT (Of_E _)]
  cases h3 : ofL (atB b ((i + 1 : Nat) : Int)) with
  | some l =>
    rw [if_pos (show (some l).isSome = true from rfl)]
    show (some [_, _, _] : R) = some [_, _, _]
    simp only [namedD, rd0, rd1, datL, progD, itemP, h3, Option.getD_some]
  | none =>
    rw [if_neg (show ¬ (none : Option (List (Int × Int))).isSome = true by simp)]
    simp only [namedD, rd1, datB]
    rw [cF rfl, bT (letter_E _)]
    simp only [rd0, datB]
    cases h4 : letB (atB b ((i + 1 : Nat) : Int)) with
    | true => rw [cT rfl, if_pos (.inl rfl)]; rfl
    | false =>
      rw [cF rfl, bT (digit_E _)]
      simp only [rd0, datB]
      cases h5 : digB (atB b ((i + 1 : Nat) : Int)) with
      | true => rw [cT rfl, if_pos (.inr rfl)]; rfl
      | false =>
        rw [cF rfl, if_neg (by simp), bT (At_E b hb hbl _)]
        simp only [rd0, rd1, datI]
        unfold symR
        by_cases c6 : b.length ≤ i + 1
        · rw [if_neg (by omega), eT rfl, if_pos c6]; rfl
        · have hs := symA_small hb (i + 1) (by omega)
          rw [if_pos (by omega), Int.toNat_natCast, eF (by omega), if_neg c6, w64 (by omega) (by omega)]
          rfl
theorem rest_P {b : List Int} (hb : isBytes b = true) (hbl : b.length ≤ 140737488351232) (i : Nat) (hi : i < b.length) : ((E C 254 [.int .u8 (atB b ((i + 1 : Nat) : Int))]).bind fun d4 => (bif decide (((rd d4 0).I) > 0) then (some [.agg [.int 3, .int ((i + 2 : Nat) : Int), .int ((rd d4 0).I), .str ByteArray.empty, .list ([] : List Dat)], .int 0]) else (bif decide ((atB b ((i + 1 : Nat) : Int)) ≥ 49) then (bif decide ((atB b ((i + 1 : Nat) : Int)) ≤ 57) then ((E C 217 [.shr 5 (b.map .int), .int .i64 ((i + 2 : Nat) : Int)]).bind fun d5 => ((E C 255 [.int .u8 ((rd d5 0).I)]).bind fun d6 => (bif (rd d6 0).B then (some [.agg [.int 4, .int (IntKind.i64.wrap (((i + 2 : Nat) : Int) + 1)), .int (IntKind.i64.wrap ((IntKind.i64.wrap ((IntKind.i64.wrap (IntKind.u8.wrap ((atB b ((i + 1 : Nat) : Int)) - 48))) * 10)) + (IntKind.i64.wrap (IntKind.u8.wrap (((rd d5 0).I) - 48))))), .str ByteArray.empty, .list ([] : List Dat)], .int 0]) else (some [.agg [.int 4, .int ((i + 2 : Nat) : Int), .int (IntKind.i64.wrap (IntKind.u8.wrap ((atB b ((i + 1 : Nat) : Int)) - 48))), .str ByteArray.empty, .list ([] : List Dat)], .int 0])))) else (bif (atB b ((i + 1 : Nat) : Int)) != 107 then (some [.agg [.int 0, .int 0, .int 0, .str ByteArray.empty, .list ([] : List Dat)], .int 32]) else ((E C 217 [.shr 5 (b.map .int), .int .i64 ((i + 2 : Nat) : Int)]).bind fun d7 => (bif ((rd d7 0).I) != 60 then (some [.agg [.int 0, .int 0, .int 0, .str ByteArray.empty, .list ([] : List Dat)], .int 36]) else ((E C 256 [.shr 5 (b.map .int), .int .i64 ((i + 3 : Nat) : Int)]).bind fun d8 => (bif ((rd d8 2).I) != 0 then (some [.agg [.int 0, .int 0, .int 0, .str ByteArray.empty, .list ([] : List Dat)], .int ((rd d8 2).I)]) else (some [.agg [.int 5, .int ((rd d8 1).I), .int 0, .str ((rd d8 0).S), .list ([] : List Dat)], .int 0]))))))) else (bif (atB b ((i + 1 : Nat) : Int)) != 107 then (some [.agg [.int 0, .int 0, .int 0, .str ByteArray.empty, .list ([] : List Dat)], .int 32]) else ((E C 217 [.shr 5 (b.map .int), .int .i64 ((i + 2 : Nat) : Int)]).bind fun d7 => (bif ((rd d7 0).I) != 60 then (some [.agg [.int 0, .int 0, .int 0, .str ByteArray.empty, .list ([] : List Dat)], .int 36]) else ((E C 256 [.shr 5 (b.map .int), .int .i64 ((i + 3 : Nat) : Int)]).bind fun d8 => (bif ((rd d8 2).I) != 0 then (some [.agg [.int 0, .int 0, .int 0, .str ByteArray.empty, .list ([] : List Dat)], .int ((rd d8 2).I)]) else (some [.agg [.int 5, .int ((rd d8 1).I), .int 0, .str ((rd d8 0).S), .list ([] : List Dat)], .int 0]))))))))) = some (progD (restS b i)) := by
  have hc := atB_byte hb ((i + 1 : Nat) : Int)
  have hd := atB_byte hb ((i + 2 : Nat) : Int)
  have keyT : ¬ (49 ≤ atB b ((i + 1 : Nat) : Int) ∧ atB b ((i + 1 : Nat) : Int) ≤ 57) → ¬ heldV (atB b ((i + 1 : Nat) : Int)) > 0 → (bif (atB b ((i + 1 : Nat) : Int)) != 107 then (some [.agg [.int 0, .int 0, .int 0, .str ByteArray.empty, .list ([] : List Dat)], .int 32]) else ((E C 217 [.shr 5 (b.map .int), .int .i64 ((i + 2 : Nat) : Int)]).bind fun d7 => (bif ((rd d7 0).I) != 60 then (some [.agg [.int 0, .int 0, .int 0, .str ByteArray.empty, .list ([] : List Dat)], .int 36]) else ((E C 256 [.shr 5 (b.map .int), .int .i64 ((i + 3 : Nat) : Int)]).bind fun d8 => (bif ((rd d8 2).I) != 0 then (some [.agg [.int 0, .int 0, .int 0, .str ByteArray.empty, .list ([] : List Dat)], .int ((rd d8 2).I)]) else (some [.agg [.int 5, .int ((rd d8 1).I), .int 0, .str ((rd d8 0).S), .list ([] : List Dat)], .int 0]))))) : R) = some (progD (restS b i)) := fun g1 g2 => by
    unfold restS
    rw [if_neg g2, if_neg g1]
    by_cases c3 : atB b ((i + 1 : Nat) : Int) = 107
    · rw [neF c3, if_neg (by simpa using c3), bT (at_E b _)]
      simp only [rd0, datI]
      by_cases c4 : atB b ((i + 2 : Nat) : Int) = 60
      · rw [neF c4, if_neg (by simpa using c4), bT (Name_E b hbl _ ⟨by omega, by omega⟩)]
        unfold keyS
        by_cases c5 : (rd (nameR b ((i + 3 : Nat) : Int)) 2).I = 0
        · rw [neF c5, if_neg (by simpa using c5)]; rfl
        · rw [neT c5, if_pos c5]; rfl
      · rw [neT c4, if_pos c4]; rfl
    · rw [neT c3, if_pos c3]; rfl
  rw [bT (held_E _)]
  simp only [rd0, datI]
  by_cases c1 : heldV (atB b ((i + 1 : Nat) : Int)) > 0
  · unfold restS
    rw [dT c1, if_pos c1]; rfl
  rw [dF c1]
  by_cases c2 : atB b ((i + 1 : Nat) : Int) ≥ 49
  · rw [dT c2]
    by_cases c3 : atB b ((i + 1 : Nat) : Int) ≤ 57
    · unfold restS
      rw [dT c3, if_neg c1, if_pos ⟨c2, c3⟩, bT (at_E b _)]
      simp only [rd0, datI]
      rw [bT (digit_E _)]
      simp only [rd0, datB]
      rw [w8 (n := atB b ((i + 1 : Nat) : Int) - 48) (by omega) (by omega), w64 (n := atB b ((i + 1 : Nat) : Int) - 48) (by omega) (by omega), w64 (n := (atB b ((i + 1 : Nat) : Int) - 48) * 10) (by omega) (by omega)]
      cases h4 : digB (atB b ((i + 2 : Nat) : Int)) with
      | true =>
        have h4' := digB_iff.1 h4
        rw [cT rfl, if_pos rfl, w8 (n := atB b ((i + 2 : Nat) : Int) - 48) (by omega) (by omega), w64 (n := atB b ((i + 2 : Nat) : Int) - 48) (by omega) (by omega), w64 (n := (atB b ((i + 1 : Nat) : Int) - 48) * 10 + (atB b ((i + 2 : Nat) : Int) - 48)) (by omega) (by omega), w64 (n := ((i + 2 : Nat) : Int) + 1) (by omega) (by omega)]
        rfl
      | false => rw [cF rfl, if_neg (by simp)]; rfl
    · rw [dF c3]
      exact keyT (by omega) c1
  · rw [dF c2]
    exact keyT (by omega) c1
theorem Escape_E {b : List Int} (hb : isBytes b = true) (hbl : b.length ≤ 140737488351232) (i : Int) : E C 232 [.shr 5 (b.map .int), .int .i64 i] = some (progD (escS b i false)) := by
  apply o232
  rw [bT (at_E b _)]
  simp only [rd0, datI]
  unfold escS
  by_cases c0 : atB b i = 92
  · have hin := atB_some (b := b) (i := i) (by rw [c0]; decide)
    obtain ⟨k, rfl⟩ : ∃ k : Nat, i = (k : Int) := ⟨i.toNat, by omega⟩
    have e1 : IntKind.i64.wrap ((k : Int) + 1) = ((k + 1 : Nat) : Int) := by rw [w64 (by omega) (by omega)]; omega
    have e2 : IntKind.i64.wrap ((k : Int) + 2) = ((k + 2 : Nat) : Int) := by rw [w64 (by omega) (by omega)]; omega
    have e3 : IntKind.i64.wrap ((k : Int) + 3) = ((k + 3 : Nat) : Int) := by rw [w64 (by omega) (by omega)]; omega
    rw [neF c0, if_neg (by simpa using c0), bT (simple_E hb hbl k (by omega)), Int.toNat_natCast]
    cases hs : simpleS b k with
    | some x =>
      show (some _ : R) = _
      cases x <;> rfl
    | none =>
      show (bif false then _ else _ : R) = _
      rw [cond_false, e1, e2, e3, bT (at_E b _)]
      simp only [rd0, datI]
      exact rest_P hb hbl k (by omega)
  · rw [neT c0, if_pos c0]; rfl
theorem Inner_E {b : List Int} (hb : isBytes b = true) (hbl : b.length ≤ 140737488351232) (i : Int) : E C 268 [.shr 5 (b.map .int), .int .i64 i] = some (progD (escS b i true)) := by
  apply o268
  rw [bT (at_E b _)]
  simp only [rd0, datI]
  unfold escS
  by_cases c0 : atB b i = 92
  · have hin := atB_some (b := b) (i := i) (by rw [c0]; decide)
    obtain ⟨k, rfl⟩ : ∃ k : Nat, i = (k : Int) := ⟨i.toNat, by omega⟩
    have e1 : IntKind.i64.wrap ((k : Int) + 1) = ((k + 1 : Nat) : Int) := by rw [w64 (by omega) (by omega)]; omega
    have e2 : IntKind.i64.wrap ((k : Int) + 2) = ((k + 2 : Nat) : Int) := by rw [w64 (by omega) (by omega)]; omega
    rw [neF c0, if_neg (by simpa using c0), bT (simple_E hb hbl k (by omega)), Int.toNat_natCast]
    cases hs : simpleS b k with
    | some x =>
      show (some _ : R) = _
      cases x <;> rfl
    | none =>
      show (bif false then _ else _ : R) = _
      rw [cond_false, e1, e2, bT (at_E b _)]
      simp only [rd0, datI]
      by_cases c1 : atB b ((k + 1 : Nat) : Int) = 98
      · rw [eT c1, if_pos trivial, if_pos c1]; rfl
      · rw [eF c1, if_pos trivial, if_neg c1]; rfl
  · rw [neT c0, if_pos c0]; rfl
end Go.Proofs.YtlofoifcdmeopaaGreatDoor.V
namespace Go.Proofs.YtlofoifcdmeopaaGreatDoor.V
open Go Go.Ev Go.RowKit
set_option linter.unusedVariables false
set_option linter.unusedSimpArgs false
def wi (x a b : Int) : Bool := decide (x ≥ a) && decide (x ≤ b)
def emptyS (s : ByteArray) : Bool := s.toList == ByteArray.empty.toList
def al8 (num k : Int) : Bool := bif k == 10 then wi num 1 4 else num == 0
def al7 (num k : Int) : Bool := bif k == 7 then wi num 1 99 else al8 num k
def al6 (num : Int) (name : ByteArray) (k : Int) : Bool := bif k == 4 then (wi num 1 99 || (num == 0 && !emptyS name)) else al7 num k
def al5 (num : Int) (name : ByteArray) (k : Int) : Bool := bif k == 3 then wi num 1 7 else al6 num name k
def al4 (num mi ma mode : Int) (name : ByteArray) (k : Int) : Bool := (mi == 0 && ma == 0 && !(mode != 0 && k != 4) && wi mode 0 1) && al5 num name k
def al3 (num mi ma mode : Int) (name : ByteArray) (k : Int) : Bool := bif k == 8 then (num == 0 && wi mode 0 1 && wi mi 0 1000 && (ma == -1 || (decide (ma ≥ mi) && wi ma 1 1000))) else al4 num mi ma mode name k
def kidsB (k kids : Int) : Bool := !(decide (k ≤ 4) && kids != 0) && !(k == 5 && !wi kids 2 4096) && !(k == 6 && !wi kids 2 4097) && !(decide (k ≥ 7) && kids != 1)
def namB (name : ByteArray) (set : List (Int × Int)) (k : Int) : Bool := !(!emptyS name && k != 7 && k != 4) && !(decide ((set.length : Int) > 0) && k != 2) && leastB set
def aloneB (n : Nd) : Bool := (wi n.kind 1 10 && !decide (n.frm < 0) && !decide (n.to < n.frm) && !decide (n.to > 4096) && !decide ((n.name.size : Int) > 32)) && (namB n.name n.set n.kind && (kidsB n.kind (n.kids.length : Int) && al3 n.num n.min n.max n.mode n.name n.kind))
end Go.Proofs.YtlofoifcdmeopaaGreatDoor.V
namespace Go.Proofs.YtlofoifcdmeopaaGreatDoor.V
open Go Go.Ev Go.RowKit
set_option linter.unusedVariables false
set_option linter.unusedSimpArgs false
def cloS (s : PS) (l : List (Int × Int)) : List (Int × Int) := bif s.fo then closeR l else l
/-- What an escape is, as a part. -/
def escP (b : List Int) (s : PS) : Nd × PS := match escS b s.k false with
  | .lit n to => (⟨2, s.k, to, 0, 0, 0, 0, ByteArray.empty, cloS s (mk [(n, n)]), []⟩, { s with k := to })
  | .cls c to => (⟨2, s.k, to, 0, 0, 0, 0, ByteArray.empty, cloS s ((ofL c).getD []), []⟩, { s with k := to })
  | .hld n to => (⟨3, s.k, to, n, 0, 0, 0, ByteArray.empty, [], []⟩, { s with k := to })
  | .ref n to => (⟨4, s.k, to, n, 0, 0, bif s.fo then 1 else 0, ByteArray.empty, [], []⟩, { s with k := to })
  | .key a to => (⟨4, s.k, to, 0, 0, 0, bif s.fo then 1 else 0, a, [], []⟩, { s with k := to })
  | .err e => (nd0P, failS s e s.k)
theorem ofL_lenP (c : Int) : ((ofL c).getD []).length ≤ 1000000 := by
  unfold ofL
  (repeat' split) <;> first | decide | exact Nat.le_trans (Nat.le_of_lt_succ (by decide)) (Nat.le_refl 1000000)
theorem escape_E (b : List Int) (hbb : isBytes b = true) (hb : b.length ≤ 140737488351232) (s : PS) (he : ∀ e, escS b s.k false = .err e → e ≠ 0) : E C 212 [pv b s] = some [ptD (escP b s).1 [], pd b (escP b s).2] := by
  have h1 := Escape_E hbb hb s.k
  apply o212
  rw [bT h1]
  unfold escP cloS
  cases h : escS b s.k false with
  | lit n to =>
    simp only [progD, itemP, stP, agA]
    rw [neF rfl, eT rfl, bT (Of1_E n)]
    simp only [stP, agA]
    rw [bT (closed_E b s _ (atom_lit.mk1_len n))]
    simp only [stP, agA]
    rw [bT (set_E b s _ _ _)]
    rfl
  | cls c to =>
    simp only [progD, itemP, stP, agA]
    rw [neF rfl, eF (by decide), eT rfl, bT (closed_E b s _ (ofL_lenP c))]
    simp only [stP, agA]
    rw [bT (set_E b s _ _ _)]
    rfl
  | hld n to =>
    simp only [progD, itemP, stP, agA]
    rw [neF rfl, eF (by decide), eF (by decide), eT rfl, bT (hold_E b s _ _ _)]
    rfl
  | ref n to =>
    simp only [progD, itemP, stP, agA]
    rw [neF rfl, eF (by decide), eF (by decide), eF (by decide), bT (either_E _ _ _)]
    rfl
  | key a to =>
    simp only [progD, itemP, stP, agA]
    rw [neF rfl, eF (by decide), eF (by decide), eF (by decide), bT (either_E _ _ _)]
    rfl
  | err e =>
    simp only [progD, itemP, stP, agA]
    rw [neT (he e h), bT (fail_E b s _ _)]
    rfl
/-- What the document's Alone says of a node that will have so many kids. -/
def AloneN (n : Nd) (c : Nat) : Prop := ∀ ks : List Int, ks.length = c → aloneB { n with kids := ks } = true
theorem alone_of {n : Nd} {c : Nat} (hk : wi n.kind 1 10 = true) (h1 : 0 ≤ n.frm) (h2 : n.frm ≤ n.to) (h3 : n.to ≤ 4096) (h4 : (n.name.size : Int) ≤ 32) (h5 : namB n.name n.set n.kind = true) (h6 : kidsB n.kind (c : Int) = true) (h7 : al3 n.num n.min n.max n.mode n.name n.kind = true) : AloneN n c := fun ks e => by
  unfold aloneB
  dsimp only
  rw [e, hk, h5, h6, h7, decide_eq_false (by omega), decide_eq_false (by omega), decide_eq_false (by omega), decide_eq_false (by omega)]
  rfl
theorem empty_empty : emptyS ByteArray.empty = true := by unfold emptyS; exact beq_self_eq_true _
theorem namB_none (l : List (Int × Int)) (k : Int) (hl : leastB l = true) (h : k = 2 ∨ l = []) : namB ByteArray.empty l k = true := by
  unfold namB
  rw [empty_empty, hl]
  rcases h with rfl | rfl
  · cases decide ((l.length : Int) > 0) <;> rfl
  · rfl
theorem least_nil : leastB [] = true := (leastB_iff _).2 ⟨fun r h => (by cases h), List.Pairwise.nil⟩
theorem alone_set {f t : Int} {l : List (Int × Int)} (h1 : 0 ≤ f) (h2 : f ≤ t) (h3 : t ≤ 4096) (hl : leastB l = true) : AloneN ⟨2, f, t, 0, 0, 0, 0, ByteArray.empty, l, []⟩ 0 :=
  alone_of (show wi 2 1 10 = true from rfl) h1 h2 h3 (show ((0 : Nat) : Int) ≤ 32 by decide) (namB_none l 2 hl (.inl rfl)) (show kidsB 2 ((0 : Nat) : Int) = true from rfl) (by show al3 0 0 0 0 ByteArray.empty 2 = true; rfl)
theorem alone_empty {f : Int} (h1 : 0 ≤ f) (h3 : f ≤ 4096) : AloneN ⟨1, f, f, 0, 0, 0, 0, ByteArray.empty, [], []⟩ 0 :=
  alone_of (show wi 1 1 10 = true from rfl) h1 (Int.le_refl f) h3 (show ((0 : Nat) : Int) ≤ 32 by decide) (namB_none [] 1 least_nil (.inr rfl)) (show kidsB 1 ((0 : Nat) : Int) = true from rfl) (by show al3 0 0 0 0 ByteArray.empty 1 = true; rfl)
theorem wi_of {x a b : Int} (h1 : a ≤ x) (h2 : x ≤ b) : wi x a b = true := by unfold wi; rw [decide_eq_true h1, decide_eq_true h2]; rfl
theorem alone_hold {f t w : Int} (h1 : 0 ≤ f) (h2 : f ≤ t) (h3 : t ≤ 4096) (hw : 1 ≤ w ∧ w ≤ 7) : AloneN ⟨3, f, t, w, 0, 0, 0, ByteArray.empty, [], []⟩ 0 :=
  alone_of (show wi 3 1 10 = true from rfl) h1 h2 h3 (show ((0 : Nat) : Int) ≤ 32 by decide) (namB_none [] 3 least_nil (.inr rfl)) (show kidsB 3 ((0 : Nat) : Int) = true from rfl) (by show al3 w 0 0 0 ByteArray.empty 3 = true; show (true && wi w 1 7) = true; rw [wi_of hw.1 hw.2]; rfl)
theorem alone_back {f t n : Int} {fo : Bool} {a : ByteArray} (h1 : 0 ≤ f) (h2 : f ≤ t) (h3 : t ≤ 4096) (ha : (a.size : Int) ≤ 32) (hn : (1 ≤ n ∧ n ≤ 99) ∨ (n = 0 ∧ emptyS a = false)) : AloneN ⟨4, f, t, n, 0, 0, bif fo then 1 else 0, a, [], []⟩ 0 :=
  alone_of (show wi 4 1 10 = true from rfl) h1 h2 h3 ha (by
    show namB a [] 4 = true
    unfold namB
    rw [least_nil]
    cases emptyS a <;> rfl) (show kidsB 4 ((0 : Nat) : Int) = true from rfl) (by
    show al3 n 0 0 (bif fo then 1 else 0) a 4 = true
    have h : (wi n 1 99 || (n == 0 && !emptyS a)) = true := by
      rcases hn with hn | ⟨rfl, hn⟩
      · rw [wi_of hn.1 hn.2]; rfl
      · rw [hn]; rfl
    cases fo
    · show (true && (wi n 1 99 || (n == 0 && !emptyS a))) = true
      rw [h]; rfl
    · show (true && (wi n 1 99 || (n == 0 && !emptyS a))) = true
      rw [h]; rfl)
theorem alone_group {f t n : Int} {a : ByteArray} (h1 : 0 ≤ f) (h2 : f ≤ t) (h3 : t ≤ 4096) (ha : (a.size : Int) ≤ 32) (hn : 1 ≤ n ∧ n ≤ 99) : AloneN ⟨7, f, t, n, 0, 0, 0, a, [], []⟩ 1 :=
  alone_of (show wi 7 1 10 = true from rfl) h1 h2 h3 ha (by
    show namB a [] 7 = true
    unfold namB
    rw [least_nil]
    cases emptyS a <;> rfl) (show kidsB 7 ((1 : Nat) : Int) = true from rfl) (by show (true && wi n 1 99) = true; rw [wi_of hn.1 hn.2]; rfl)
theorem alone_atomic {f t : Int} (h1 : 0 ≤ f) (h2 : f ≤ t) (h3 : t ≤ 4096) : AloneN ⟨9, f, t, 0, 0, 0, 0, ByteArray.empty, [], []⟩ 1 :=
  alone_of (show wi 9 1 10 = true from rfl) h1 h2 h3 (show ((0 : Nat) : Int) ≤ 32 by decide) (namB_none [] 9 least_nil (.inr rfl)) (show kidsB 9 ((1 : Nat) : Int) = true from rfl) rfl
theorem alone_look {f t n : Int} (h1 : 0 ≤ f) (h2 : f ≤ t) (h3 : t ≤ 4096) (hn : 1 ≤ n ∧ n ≤ 4) : AloneN ⟨10, f, t, n, 0, 0, 0, ByteArray.empty, [], []⟩ 1 :=
  alone_of (show wi 10 1 10 = true from rfl) h1 h2 h3 (show ((0 : Nat) : Int) ≤ 32 by decide) (namB_none [] 10 least_nil (.inr rfl)) (show kidsB 10 ((1 : Nat) : Int) = true from rfl) (by show (true && wi n 1 4) = true; rw [wi_of hn.1 hn.2]; rfl)
theorem alone_repeat {f t mi ma mo : Int} (h1 : 0 ≤ f) (h2 : f ≤ t) (h3 : t ≤ 4096) (hmo : 0 ≤ mo ∧ mo ≤ 1) (hmi : 0 ≤ mi ∧ mi ≤ 1000) (hma : ma = -1 ∨ (mi ≤ ma ∧ 1 ≤ ma ∧ ma ≤ 1000)) : AloneN ⟨8, f, t, 0, mi, ma, mo, ByteArray.empty, [], []⟩ 1 :=
  alone_of (show wi 8 1 10 = true from rfl) h1 h2 h3 (show ((0 : Nat) : Int) ≤ 32 by decide) (namB_none [] 8 least_nil (.inr rfl)) (show kidsB 8 ((1 : Nat) : Int) = true from rfl) (by
    show (true && wi mo 0 1 && wi mi 0 1000 && (ma == -1 || (decide (ma ≥ mi) && wi ma 1 1000))) = true
    rw [wi_of hmo.1 hmo.2, wi_of hmi.1 hmi.2]
    rcases hma with rfl | ⟨a1, a2, a3⟩
    · rfl
    · rw [decide_eq_true (show ma ≥ mi from a1), wi_of a2 a3]; simp)
theorem alone_cat {f t : Int} {c : Nat} (h1 : 0 ≤ f) (h2 : f ≤ t) (h3 : t ≤ 4096) (hc : 2 ≤ c ∧ c ≤ 4096) : AloneN ⟨5, f, t, 0, 0, 0, 0, ByteArray.empty, [], []⟩ c :=
  alone_of (show wi 5 1 10 = true from rfl) h1 h2 h3 (show ((0 : Nat) : Int) ≤ 32 by decide) (namB_none [] 5 least_nil (.inr rfl)) (by
    show (true && !(true && !wi (c : Int) 2 4096) && true && true) = true
    rw [wi_of (by omega) (by omega)]; rfl) rfl
theorem alone_alt {f t : Int} {c : Nat} (h1 : 0 ≤ f) (h2 : f ≤ t) (h3 : t ≤ 4096) (hc : 2 ≤ c ∧ c ≤ 4097) : AloneN ⟨6, f, t, 0, 0, 0, 0, ByteArray.empty, [], []⟩ c :=
  alone_of (show wi 6 1 10 = true from rfl) h1 h2 h3 (show ((0 : Nat) : Int) ≤ 32 by decide) (namB_none [] 6 least_nil (.inr rfl)) (by
    show (true && true && !(true && !wi (c : Int) 2 4097) && true) = true
    rw [wi_of (by omega) (by omega)]; rfl) rfl
theorem cloS_least (s : PS) {l : List (Int × Int)} (hl : leastB l = true) : leastB (cloS s l) = true := by
  unfold cloS
  cases s.fo with
  | true => exact (leastB_iff _).2 (mk_least _)
  | false => exact hl
end Go.Proofs.YtlofoifcdmeopaaGreatDoor.V
namespace Go.Proofs.YtlofoifcdmeopaaGreatDoor.V
open Go Go.Ev Go.RowKit
set_option linter.unusedVariables false
set_option linter.unusedSimpArgs false
end Go.Proofs.YtlofoifcdmeopaaGreatDoor.V
