/- Chapter 05 in plain Lean: the sets with names are the document's, and each is the least one. -/
import Derived.Test.YteploglmfmhppaaL02c
import Derived.Test.YteploglmfmhppaaGRefHas
import Derived.Test.YteploglmfmhppaaGNamed
import Derived.Test.YteploglmfmhppaaPx18
namespace Go.Proofs.Yteploglmfmhppaa.P
open Go.RowKit Go.Proofs.YteploglmfmhppaaW.PrintWords Go.Proofs.YteploglmfmhppaaW.PrintLast Go.Proofs.YteploglmfmhppaaW.PrintMore
set_option linter.unusedVariables false
set_option linter.unusedSimpArgs false

theorem all_names : refNames = allN.map (fun y => y.f0) := rfl
theorem hasB_or (l : List S42) (x : Int) : hasB l x = true ↔ 0 ≤ x ∧ x ≤ 1114367 ∧ ∃ r ∈ l, r.f0 ≤ x ∧ x ≤ r.f1 := hasB_iff l x
set_option maxRecDepth 20000 in
theorem all_bits (x : Int) : refBits x = allN.map (fun y => hasB y.f1 x) := by
  unfold refBits
  simp only [allN, class_all.f, Option.getD_some, List.map_cons, List.map_nil, List.cons.injEq, and_true]
  refine ⟨?_, ?_, ?_, ?_, ?_, ?_, ?_, ?_, ?_, ?_, ?_, ?_, ?_, ?_⟩
  all_goals (rw [Bool.eq_iff_iff]; simp only [inB, hasB, inR, List.any_cons, List.any_nil, Bool.or_false, Bool.or_eq_true, Bool.and_eq_true, decide_eq_true_eq, beq_iff_eq, Bool.not_eq_eq_eq_not, Bool.not_true, Bool.and_eq_false_iff, decide_eq_false_iff_not]; omega)
theorem pick_find (s : ByteArray) (x : Int) : ∀ L : List S84, refPick s (L.map (fun y => y.f0)) (L.map fun y => hasB y.f1 x) = match L.find? (fun y => y.f0 == s) with
    | some y => (hasB y.f1 x, true)
    | none => (false, false)
  | [] => rfl
  | a :: L => by
    simp only [List.map_cons, refPick]
    by_cases h : (a.f0 == s) = true
    · rw [if_pos h, List.find?_cons_of_pos (p := fun y : S84 => y.f0 == s) h]
    · rw [if_neg h, List.find?_cons_of_neg (p := fun y : S84 => y.f0 == s) h, pick_find s x L]
theorem named_pick (s : ByteArray) (x : Int) : refPick s refNames (refBits x) = (hasB (namedR s).1 x, (namedR s).2) := by
  rw [all_names, all_bits, pick_find, namedR]
  cases allN.find? (fun y => y.f0 == s) with
  | none => simp [hasB]
  | some y => rfl
set_option maxRecDepth 20000 in
theorem all_least : ∀ y ∈ allN, leastP y.f1 ∧ y.f1.length ≤ 4 := by
  intro y hy
  simp only [allN, class_all.f, Option.getD_some, List.mem_cons, List.not_mem_nil, or_false] at hy
  rcases hy with rfl | rfl | rfl | rfl | rfl | rfl | rfl | rfl | rfl | rfl | rfl | rfl | rfl | rfl
  all_goals (refine ⟨⟨?_, ?_⟩, ?_⟩ <;> (try unfold okR) <;> decide)
theorem named_least (s : ByteArray) : leastP (namedR s).1 ∧ (namedR s).1.length ≤ 4 := by
  rw [namedR]
  cases h : allN.find? (fun y => y.f0 == s) with
  | none => exact ⟨⟨by simp, List.Pairwise.nil⟩, by simp⟩
  | some y => exact all_least y (List.mem_of_find?_eq_some h)
theorem named_none (s : ByteArray) (h : (namedR s).2 = false) : (namedR s).1 = [] := by
  rw [namedR] at h ⊢
  cases hf : allN.find? (fun y => y.f0 == s) with
  | none => rfl
  | some y => rw [hf] at h; cases h
theorem Right_least (l : List S42) (h : leastP l) (hl : l.length < 1000000) : Ev (fun k => rset_Right.f k l) true := by
  have h2 := Right_ev l (by omega)
  rwa [(leastB_iff _).mpr h] at h2

def nDigit : ByteArray := ⟨#[100, 105, 103, 105, 116]⟩
def nWord : ByteArray := ⟨#[119, 111, 114, 100]⟩
def nSpace : ByteArray := ⟨#[115, 112, 97, 99, 101]⟩
theorem named_digit : namedR nDigit = ([⟨48, 57⟩], true) := by decide +kernel
theorem named_blank : namedR ⟨#[98, 108, 97, 110, 107]⟩ = ([⟨9, 9⟩, ⟨32, 32⟩], true) := by decide +kernel
theorem not_digit : notR [⟨48, 57⟩] = [⟨0, 47⟩, ⟨58, 1114367⟩] := by
  refine least_unique _ _ (notR_least _) ⟨fun r hr => ?_, ?_⟩ fun x => ?_
  · simp only [List.mem_cons, List.not_mem_nil, or_false] at hr
    rcases hr with rfl | rfl <;> (unfold okR; decide)
  · decide
  · rw [notR_has]
    unfold hasP
    simp only [List.mem_cons, List.not_mem_nil, or_false, exists_eq_left, exists_eq_or_imp]
    omega
/-- A letter's set, as the program makes it. -/
def ofR (c : Int) : List S42 × Bool := if c = 100 then ((namedR nDigit).1, true) else if c = 119 then ((namedR nWord).1, true) else if c = 115 then ((namedR nSpace).1, true)
  else if c = 68 then (notR (namedR nDigit).1, true) else if c = 87 then (notR (namedR nWord).1, true) else if c = 83 then (notR (namedR nSpace).1, true) else ([], false)
theorem must_eq (s : ByteArray) : class_must.f s = some (namedR s).1 := rfl
theorem Of_low (c : Int) (s : ByteArray) (h : (c = 100 ∧ s = nDigit) ∨ (c = 119 ∧ s = nWord) ∨ (c = 115 ∧ s = nSpace)) (k : Nat) : class_Of.f (k + 1) c = some ((namedR s).1, true) := by
  simp only [class_Of.f, must_eq, Option.bind_some]
  rcases h with ⟨rfl, rfl⟩ | ⟨rfl, rfl⟩ | ⟨rfl, rfl⟩
  · rfl
  · rfl
  · rfl
theorem Of_up (c : Int) (s : ByteArray) (h : (c = 68 ∧ s = nDigit) ∨ (c = 87 ∧ s = nWord) ∨ (c = 83 ∧ s = nSpace)) : Ev (fun k => class_Of.f k c) (notR (namedR s).1, true) := by
  obtain ⟨K, hK⟩ := Not_ev (namedR s).1 (by have := (named_least s).2; omega)
  refine ⟨K + 3, fun k hk => ?_⟩
  obtain ⟨k, rfl⟩ : ∃ j, k = j + 3 := ⟨k - 3, by omega⟩
  have g : rset_Not.f (k + 1) (namedR s).1 = some (notR (namedR s).1) := hK (k + 1) (by omega)
  rcases h with ⟨rfl, rfl⟩ | ⟨rfl, rfl⟩ | ⟨rfl, rfl⟩
  · have e : class_Of.f (k + 1) 100 = some ((namedR nDigit).1, true) := Of_low 100 nDigit (.inl ⟨rfl, rfl⟩) k
    have e2 : class_Of.f (k + 3) 68 = class_Of.j0 (k + 2) 68 true := by simp only [class_Of.f]; rfl
    refine e2.trans ?_
    simp only [class_Of.j0]
    rw [if_pos trivial, show ((((68 : Int) + 97) % 256) - 65) % 256 = 100 from rfl, e, Option.bind_some, g, Option.bind_some]
  · have e : class_Of.f (k + 1) 119 = some ((namedR nWord).1, true) := Of_low 119 nWord (.inr (.inl ⟨rfl, rfl⟩)) k
    have e2 : class_Of.f (k + 3) 87 = class_Of.j0 (k + 2) 87 true := by simp only [class_Of.f]; rfl
    refine e2.trans ?_
    simp only [class_Of.j0]
    rw [if_pos trivial, show ((((87 : Int) + 97) % 256) - 65) % 256 = 119 from rfl, e, Option.bind_some, g, Option.bind_some]
  · have e : class_Of.f (k + 1) 115 = some ((namedR nSpace).1, true) := Of_low 115 nSpace (.inr (.inr ⟨rfl, rfl⟩)) k
    have e2 : class_Of.f (k + 3) 83 = class_Of.j0 (k + 2) 83 true := by simp only [class_Of.f]; rfl
    refine e2.trans ?_
    simp only [class_Of.j0]
    rw [if_pos trivial, show ((((83 : Int) + 97) % 256) - 65) % 256 = 115 from rfl, e, Option.bind_some, g, Option.bind_some]
theorem Of_no (c : Int) (h : c ≠ 100 ∧ c ≠ 119 ∧ c ≠ 115 ∧ c ≠ 68 ∧ c ≠ 87 ∧ c ≠ 83) : Ev (fun k => class_Of.f k c) ([], false) := by
  obtain ⟨h1, h2, h3, h4, h5, h6⟩ := h
  refine ⟨2, fun k hk => ?_⟩
  obtain ⟨k, rfl⟩ : ∃ j, k = j + 2 := ⟨k - 2, by omega⟩
  simp only [class_Of.f]
  rw [if_neg h1, if_neg h2, if_neg h3, if_neg h4, if_neg h5, beq_eq_false_iff_ne.mpr h6]
  simp only [class_Of.j0]
  rw [if_neg (by simp)]
theorem Of_ev (c : Int) : Ev (fun k => class_Of.f k c) (ofR c) := by
  have low : ∀ s, ((c = 100 ∧ s = nDigit) ∨ (c = 119 ∧ s = nWord) ∨ (c = 115 ∧ s = nSpace)) → Ev (fun k => class_Of.f k c) ((namedR s).1, true) := fun s h => ⟨1, fun k hk => by
    obtain ⟨k, rfl⟩ : ∃ j, k = j + 1 := ⟨k - 1, by omega⟩
    exact Of_low c s h k⟩
  unfold ofR
  split
  · exact low _ (.inl ⟨by assumption, rfl⟩)
  split
  · exact low _ (.inr (.inl ⟨by assumption, rfl⟩))
  split
  · exact low _ (.inr (.inr ⟨by assumption, rfl⟩))
  split
  · exact Of_up c _ (.inl ⟨by assumption, rfl⟩)
  split
  · exact Of_up c _ (.inr (.inl ⟨by assumption, rfl⟩))
  split
  · exact Of_up c _ (.inr (.inr ⟨by assumption, rfl⟩))
  · exact Of_no c ⟨by assumption, by assumption, by assumption, by assumption, by assumption, by assumption⟩
theorem anchor05_ev : Ev (fun k => clewlaw05_anchor.f k) true := by
  unfold clewlaw05_anchor.f
  have h68 : ofR 68 = ([⟨0, 47⟩, ⟨58, 1114367⟩], true) := by
    have : ofR 68 = (notR (namedR nDigit).1, true) := rfl
    rw [this, named_digit, not_digit]
  refine Ev.bind_some (v := ([⟨9, 9⟩, ⟨32, 32⟩], true)) (by rw [← named_blank]; rfl) (Ev.bind (Of_ev 68) ?_)
  rw [h68]
  exact Ev.const _

end Go.Proofs.Yteploglmfmhppaa.P
