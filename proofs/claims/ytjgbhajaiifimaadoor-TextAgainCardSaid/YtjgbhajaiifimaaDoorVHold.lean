/- TextHolds: anything holds at any place just if the document says so. -/
import Derived.Test.YtjgbhajaiifimaaDoorVHas
import Derived.Test.YtjgbhajaiifimaaDoorVLong
namespace Go.Proofs.YtjgbhajaiifimaaDoor.V
open Go Go.Ev Go.RowKit
set_option linter.unusedVariables false
set_option linter.unusedSimpArgs false
/-- A list of ranges, as data. -/
def rs (l : List (Int × Int)) : List Dat := l.map fun p => .agg [.int p.1, .int p.2]
theorem rs_rd (l : List (Int × Int)) (i : Nat) (h : i < l.length) : rd (rs l) i = .agg [.int (l[i]).1, .int (l[i]).2] := by simp [rd, rs, h]
def inR (x : Int) (p : Int × Int) : Bool := decide (p.1 ≤ x) && decide (x ≤ p.2)
theorem Has1_E (a b x : Int) : E C 57 [.agg [.int .i64 a, .int .i64 b], .sref 3 ([.int x] : List Dat) 0 0] = some [.bool (inR x (a, b))] := by
  apply o57_a
  rw [dT (by simp)]
  simp only [rd0, datI, inR]
  by_cases h : a ≤ x
  · rw [dT h, dT (by simp), decide_eq_true h]; rfl
  · rw [dF h, decide_eq_false h]; rfl
theorem Idx_loop (l : List (Int × Int)) (x : Int) (hl : l.length ≤ 140737488351232) (v4 : Int) : ∀ (d k : Nat), l.length - k = d → k ≤ l.length →
    ∃ r : Int, M63_a_1 (rs l) x v4 (l.length : Int) (k : Int) = some [.int r] ∧ (0 ≤ r ↔ (l.drop k).any (inR x) = true) := by
  intro d
  induction d with
  | zero =>
    intro k hd hk
    refine ⟨-1, ?_, ?_⟩
    · apply M63_a_1_of
      rw [dF (by omega)]
    · rw [List.drop_of_length_le (by omega)]
      simp
  | succ d ih =>
    intro k hd hk
    have hlt : k < l.length := by omega
    obtain ⟨r, h1, h2⟩ := ih (k + 1) (by omega) (by omega)
    have hrl : (rs l).length = l.length := by simp [rs]
    have hdr : l.drop k = l[k] :: l.drop (k + 1) := List.drop_eq_getElem_cons hlt
    cases hb : inR x l[k] with
    | true =>
      refine ⟨k, ?_, ?_⟩
      · apply M63_a_1_of
        rw [hrl, dT (by omega), dT (by omega), dT (by omega), dT (by omega), Int.toNat_natCast, rs_rd l k hlt]
        have e := Has1_E (l[k]).1 (l[k]).2 x
        rw [show ((l[k]).1, (l[k]).2) = l[k] from rfl, hb] at e
        refine (bT e).trans ?_
        rfl
      · rw [hdr, List.any_cons, hb]
        simp
    | false =>
      refine ⟨r, ?_, ?_⟩
      · apply M63_a_1_of
        rw [hrl, dT (by omega), dT (by omega), dT (by omega), dT (by omega), Int.toNat_natCast, rs_rd l k hlt]
        have e := Has1_E (l[k]).1 (l[k]).2 x
        rw [show ((l[k]).1, (l[k]).2) = l[k] from rfl, hb] at e
        refine (bT e).trans ?_
        simp only [rd0, datB, cond_false]
        rw [w64 (by omega) (by omega)]
        exact h1
      · rw [hdr, List.any_cons, hb, h2]
        simp
theorem Has_E (l : List (Int × Int)) (x : Int) (hl : l.length ≤ 140737488351232) : E C 49 [.shr 62 (rs l), .int .i64 x] = some [.bool (decide (0 ≤ x) && (decide (x ≤ 1114367) && l.any (inR x)))] := by
  apply o49
  by_cases h0 : x < 0
  · rw [dT h0, decide_eq_false (show ¬ 0 ≤ x by omega)]; rfl
  rw [dF h0, decide_eq_true (show 0 ≤ x by omega)]
  by_cases h1 : x > 1114367
  · rw [dT h1, decide_eq_false (show ¬ x ≤ 1114367 by omega)]; rfl
  rw [dF h1, decide_eq_true (show x ≤ 1114367 by omega)]
  obtain ⟨r, k1, k2⟩ := Idx_loop l x hl 0 l.length 0 (by omega) (by omega)
  have e1 : E C 63 [.shr 62 (rs l), .clo 57 [] [.sref 3 ([.int x] : List Dat) 0 0]] = some [.int r] := by
    apply o63_a
    rw [show (rs l).length = l.length by simp [rs]]
    exact k1
  have e2 : E C 56 [.shr 62 (rs l), .clo 57 [] [.sref 3 ([.int x] : List Dat) 0 0]] = some [.bool (decide (r ≥ 0))] := by
    apply o56_a
    rw [bT e1]
    rfl
  rw [bT e2]
  simp only [rd0, datB]
  rw [List.drop_zero] at k2
  have : decide (r ≥ 0) = l.any (inR x) := by
    cases h : l.any (inR x) with
    | true => exact decide_eq_true (k2.2 h)
    | false => exact decide_eq_false (fun hr => by rw [k2.1 hr] at h; cases h)
  rw [this]
  rfl
def wordR : List (Int × Int) := [(48, 57), (65, 90), (95, 95), (97, 122)]
theorem must_E : E C 58 [.str (bs [119, 111, 114, 100])] = some [.list (rs wordR)] := E_from 40 fun n => by kernel_rfl
theorem Word_E (x : Int) : E C 52 [.int .i64 x] = some [.bool (wordB x)] := by
  apply o52
  have hw : wordB x = (decide (x ≤ 1114367) && (decide (0 ≤ x) && (decide (x ≤ 1114367) && wordR.any (inR x)))) := by
    rw [Bool.eq_iff_iff]
    simp only [wordB, wordR, inR, List.any_cons, List.any_nil, Bool.or_eq_true, Bool.and_eq_true, decide_eq_true_eq, beq_iff_eq, Bool.or_false]
    omega
  by_cases h : x ≤ 1114367
  · rw [dT h, bT must_E]
    simp only [rd0, datL]
    rw [bT (Has_E wordR x (by decide))]
    simp only [rd0, datB]
    rw [hw, decide_eq_true h]
    rfl
  · rw [dF h, hw, decide_eq_false h]
    rfl
theorem word1_E (l : List Int) (i : Int) : E C 43 [.agg [.shr 3 (l.map .int)], .int .i64 i] = some [.bool (wordB (atP l i))] := by
  apply o43
  rw [bT (At2_E l i)]
  simp only [rd0, datI]
  rw [bT (Word_E _)]
  rfl
theorem word2_E (l : List Int) (i : Int) : E C 44 [.shr 3 (l.map .int), .int .i64 i] = some [.bool (wordB (atP l i))] := by
  apply o44
  rw [bT (RefAt13_E l i)]
  simp only [rd0, datI]
  rw [bT (HasWord_E _)]
  rfl
/-- What holds at a place. -/
def holdB (l : List Int) (what i : Int) : Bool :=
  if i < 0 ∨ i > (l.length : Int) then false
  else if what = 1 then i == 0
  else if what = 2 then (i == (l.length : Int)) || ((i == (l.length : Int) - 1) && (atP l i == 10))
  else if what = 3 then i == (l.length : Int)
  else if what = 4 then (i == 0) || (atP l (i - 1) == 10)
  else if what = 5 then (i == (l.length : Int)) || (atP l i == 10)
  else if what = 6 then !(wordB (atP l (i - 1)) == wordB (atP l i))
  else if what = 7 then wordB (atP l (i - 1)) == wordB (atP l i)
  else false
theorem Hold1_E (l : List Int) (hl : l.length ≤ 1000000000000) (what i : Int) : E C 30 [.agg [.shr 3 (l.map .int)], .int .i64 what, .int .i64 i] = some [.bool (holdB l what i)] := by
  apply o30
  simp only [List.length_map]
  unfold holdB
  by_cases h0 : i < 0
  · rw [dT h0, if_pos (.inl h0)]
  by_cases h1 : i > (l.length : Int)
  · rw [dF h0, dT h1, if_pos (.inr h1)]
  rw [dF h0, dF h1, if_neg (by omega), w64 (n := (l.length : Int) - 1) (by omega) (by omega), w64 (n := i - 1) (by omega) (by omega)]
  by_cases w1 : what = 1
  · rw [eT w1, if_pos w1]
  rw [eF w1, if_neg w1]
  by_cases w2 : what = 2
  · rw [eT w2, if_pos w2]
    by_cases g1 : i = (l.length : Int)
    · rw [eT g1, g1]; simp
    rw [eF g1]
    by_cases g2 : i = (l.length : Int) - 1
    · rw [eT g2, bT (At2_E l i)]
      simp only [rd0, datI]
      rw [beq_false_of_ne g1, show (i == (l.length : Int) - 1) = true from by simpa using g2]
      rfl
    · rw [eF g2, beq_false_of_ne g1, beq_false_of_ne g2]
      rfl
  rw [eF w2, if_neg w2]
  by_cases w3 : what = 3
  · rw [eT w3, if_pos w3]
  rw [eF w3, if_neg w3]
  by_cases w4 : what = 4
  · rw [eT w4, if_pos w4]
    by_cases g1 : i = 0
    · rw [eT g1, g1]; simp
    · rw [eF g1, bT (At2_E l _), beq_false_of_ne g1]
      rfl
  rw [eF w4, if_neg w4]
  by_cases w5 : what = 5
  · rw [eT w5, if_pos w5]
    by_cases g1 : i = (l.length : Int)
    · rw [eT g1, g1]; simp
    · rw [eF g1, bT (At2_E l _), beq_false_of_ne g1]
      rfl
  rw [eF w5, if_neg w5]
  by_cases w6 : what = 6
  · rw [eT w6, if_pos w6, bT (word1_E l _), bT (word1_E l _)]
    rfl
  rw [eF w6, if_neg w6]
  by_cases w7 : what = 7
  · rw [eT w7, if_pos w7, bT (word1_E l _), bT (word1_E l _)]
    rfl
  rw [eF w7, if_neg w7]
/-- No symbol is below nought. -/
def pos (l : List Int) : Prop := ∀ x, x ∈ l → 0 ≤ x
theorem atP_neg {l : List Int} (hp : pos l) (i : Int) : atP l i < 0 ↔ ¬ (0 ≤ i ∧ i < (l.length : Int)) := by
  unfold atP
  by_cases h : 0 ≤ i ∧ i < (l.length : Int)
  · rw [if_pos h]
    have hi : i.toNat < l.length := by omega
    have := hp _ (List.getElem_mem hi)
    rw [List.getD_eq_getElem?_getD, List.getElem?_eq_getElem hi]
    simp only [Option.getD_some]
    omega
  · rw [if_neg h]
    omega
theorem Hold2_E (l : List Int) (hp : pos l) (hl : l.length ≤ 1000000000000) (what i : Int) : E C 31 [.shr 3 (l.map .int), .int .i64 what, .int .i64 i] = some [.bool (holdB l what i)] := by
  apply o31
  simp only [List.length_map]
  unfold holdB
  by_cases h0 : i < 0
  · rw [dT h0, if_pos (.inl h0)]
  by_cases h1 : i > (l.length : Int)
  · rw [dF h0, dT h1, if_pos (.inr h1)]
  rw [dF h0, dF h1, if_neg (by omega), w64 (n := i - 1) (by omega) (by omega), w64 (n := i + 1) (by omega) (by omega), bT (RefAt13_E l _), bT (RefAt13_E l _)]
  simp only [rd0, datI]
  have n1 := atP_neg hp (i - 1)
  have n2 := atP_neg hp i
  have n3 := atP_neg hp (i + 1)
  by_cases w1 : what = 1
  · rw [eT w1, if_pos w1]
    have : decide (atP l (i - 1) < 0) = (i == 0) := by
      rw [Bool.eq_iff_iff, decide_eq_true_eq, beq_iff_eq]; omega
    rw [this]
  rw [eF w1, if_neg w1]
  by_cases w2 : what = 2
  · rw [eT w2, if_pos w2]
    by_cases g1 : i = (l.length : Int)
    · rw [dT (n2.2 (by omega)), g1]; simp
    rw [dF (fun h => by have := n2.1 h; omega), beq_false_of_ne g1]
    by_cases g2 : atP l i = 10
    · rw [eT g2, bT (RefAt13_E l _), g2]
      simp only [rd0, datI]
      have : decide (atP l (i + 1) < 0) = (i == (l.length : Int) - 1) := by
        rw [Bool.eq_iff_iff, decide_eq_true_eq, beq_iff_eq]; omega
      rw [this]
      simp
    · rw [eF g2, beq_false_of_ne g2]
      simp
  rw [eF w2, if_neg w2]
  by_cases w3 : what = 3
  · rw [eT w3, if_pos w3]
    have : decide (atP l i < 0) = (i == (l.length : Int)) := by
      rw [Bool.eq_iff_iff, decide_eq_true_eq, beq_iff_eq]; omega
    rw [this]
  rw [eF w3, if_neg w3]
  by_cases w4 : what = 4
  · rw [eT w4, if_pos w4]
    by_cases g1 : i = 0
    · rw [dT (n1.2 (by omega)), g1]; simp
    · rw [dF (fun h => by have := n1.1 h; omega), beq_false_of_ne g1]
      rfl
  rw [eF w4, if_neg w4]
  by_cases w5 : what = 5
  · rw [eT w5, if_pos w5]
    by_cases g1 : i = (l.length : Int)
    · rw [dT (n2.2 (by omega)), g1]; simp
    · rw [dF (fun h => by have := n2.1 h; omega), beq_false_of_ne g1]
      rfl
  rw [eF w5, if_neg w5]
  by_cases w6 : what = 6
  · rw [eT w6, if_pos w6, bT (word2_E l _), bT (word2_E l _)]
    rfl
  rw [eF w6, if_neg w6]
  by_cases w7 : what = 7
  · rw [eT w7, if_pos w7, bT (word2_E l _), bT (word2_E l _)]
    rfl
  rw [eF w7, if_neg w7]
theorem eachL_pos {b : List Int} (hb : isBytes b = true) : ∀ (k i : Nat) (p : Nat × Int), p ∈ eachL k b i → 0 ≤ p.2 ∧ p.2 ≤ 1114367
  | 0, _, _, h => by simp [eachL] at h
  | k + 1, i, p, h => by
    simp only [eachL] at h
    split at h
    · rename_i hi
      rcases List.mem_cons.1 h with rfl | h
      · have := symA_small hb i hi
        exact ⟨this.1, this.2.1⟩
      · exact eachL_pos hb k _ p h
    · cases h
theorem syms_pos {b : List Int} (hb : isBytes b = true) : pos (symsR b) := fun x hx => by
  unfold symsR at hx
  obtain ⟨p, hp, rfl⟩ := List.mem_map.1 hx
  exact (eachL_pos hb _ _ p hp).1
theorem TextHolds_pure (e0 e1 e2 : Dat) (h0 : fitT C.T 9 22 e0) (h1 : fitT C.T 9 3 e1) (h2 : fitT C.T 9 3 e2) : E C 10 [.shr 5 e0.L, .int .i64 e1.I, .int .i64 e2.I] = some [.bool true] := by
  obtain ⟨b, rfl, hb, hbl⟩ := fit_bytes h0
  apply o10
  rw [bT anchor_E]
  simp only [rd0, datB, datL, Bool.not_true, cond_false, List.length_map]
  by_cases g : (b.length : Int) > 5000
  · rw [dT g]
  have hsl := symsR_length (b := b)
  rw [dF g, bT (New_ok hb (by omega)), bT (RefAll_E hb (by omega))]
  simp only [rd0, rd1, datI, datL]
  rw [eT rfl]
  have hL : ((Dat.agg [Dat.list ((symsR b).map .int)]).C 0).L = (symsR b).map .int := rfl
  rw [hL, bT (Hold1_E (symsR b) (by omega) _ _), bT (Hold2_E (symsR b) (syms_pos hb) (by omega) _ _)]
  simp
end Go.Proofs.YtjgbhajaiifimaaDoor.V
