/- Chapter 05 in plain Lean, third part: the law of the dot and of a word's symbols. -/
import Derived.Test.YteploglmfmhppaaL05
import Derived.Test.YteploglmfmhppaaPx21
namespace Go.Proofs.Yteploglmfmhppaa.P
open Go.RowKit Go.Proofs.YteploglmfmhppaaW.PrintWords Go.Proofs.YteploglmfmhppaaW.PrintLast Go.Proofs.YteploglmfmhppaaW.PrintMore
set_option linter.unusedVariables false
set_option linter.unusedSimpArgs false

/-- What a dot stands for. -/
def anyR (lines : Bool) : List S42 := if lines = true then notR [] else notR (mk [⟨10, 10⟩])
theorem Any_ev (lines : Bool) : Ev (fun k => class_Any.f k lines) (anyR lines) := by
  unfold class_Any.f anyR rset_Of.f
  cases lines with
  | true => exact Ev.pos rfl (Ev.bind (Not_ev [] (by simp)) (Ev.const _))
  | false =>
    have hm := mk_length [(⟨10, 10⟩ : S42)]
    refine Ev.neg (by simp) (Ev.bind (Ev.bind (Make_ev _ (by simp)) (Ev.const _)) (Ev.bind (Not_ev _ ?_) (Ev.const _)))
    simp only [List.length_cons, List.length_nil] at hm
    omega
theorem anyR_least (lines : Bool) : leastP (anyR lines) ∧ (anyR lines).length ≤ 5 := by
  unfold anyR
  cases lines with
  | true => exact ⟨notR_least _, by have := notR_length []; simpa using Nat.le_trans this (by decide)⟩
  | false =>
    refine ⟨notR_least _, ?_⟩
    have h1 := notR_length (mk [(⟨10, 10⟩ : S42)])
    have h2 := mk_length [(⟨10, 10⟩ : S42)]
    simp only [List.length_cons, List.length_nil] at h2
    simp only [Bool.false_eq_true, if_false]
    omega
theorem anyR_hasB (lines : Bool) (x : Int) : hasB (anyR lines) x = (decide (0 ≤ x) && decide (x ≤ 1114367) && (lines || (x != 10))) := by
  unfold anyR
  cases lines with
  | true =>
    simp only [if_true, notR_hasB, Bool.true_or, Bool.and_true]
    simp only [hasB, List.any_nil, Bool.and_false, Bool.not_false, Bool.and_true]
  | false =>
    simp only [Bool.false_eq_true, if_false, notR_hasB, mk_hasB, Bool.false_or]
    rw [Bool.eq_iff_iff]
    simp only [hasB, inR, List.any_cons, List.any_nil, Bool.or_false, Bool.and_eq_true, decide_eq_true_eq, bne_iff_ne, ne_eq, Bool.not_eq_eq_eq_not, Bool.not_true, Bool.and_eq_false_iff, decide_eq_false_iff_not]
    omega
theorem Word_eq (x : Int) : class_Word.f x = some (hasB (namedR nWord).1 x) := by
  unfold class_Word.f
  by_cases h : x ≤ 1114367
  · rw [if_pos h]
    rfl
  · rw [if_neg h]
    unfold hasB
    rw [decide_eq_false h, Bool.and_false, Bool.false_and]
theorem ClassAny_pure (lines : Bool) (x : Int) (_ : (Lit.int .i64 x).wf = true) : ∃ k, clewlaw05_ClassAny.f k lines x = some true := by
  refine Ev.one ?_
  unfold clewlaw05_ClassAny.f
  have hn := anyR_least lines
  have href : clewref05_Has.f ⟨#[119, 111, 114, 100]⟩ x = some (hasB (namedR nWord).1 x, (namedR nWord).2) := by
    unfold clewref05_Has.f
    rw [named_pick]
    rfl
  have hh := anyR_hasB lines x
  have tail : Ev (fun k => (rset_Right.f k (anyR lines)).bind fun t => (if t = true then ((class_Word.f x).bind fun t2 => (some (t2 == hasB (namedR nWord).1 x))) else (some false))) true := by
    refine Ev.bind (Right_least _ hn.1 (by omega)) (Ev.pos rfl (Ev.bind_some (Word_eq x) ?_))
    rw [beq_self_eq_true]
    exact Ev.const _
  refine Ev.bind anchor05_ev (Ev.pos rfl (Ev.bind (Any_ev lines) (Ev.bind_some href (Ev.bind_some (v := hasB (anyR lines) x) rfl ?_))))
  rw [hh]
  by_cases h0 : x ≥ 0
  · rw [decide_eq_true (show 0 ≤ x from h0), Bool.true_and]
    refine Ev.pos h0 ?_
    by_cases h1 : x ≤ 1114367
    · rw [decide_eq_true h1, Bool.true_and]
      refine Ev.pos h1 ?_
      cases lines with
      | true => exact Ev.pos rfl (Ev.pos (by simp) tail)
      | false => exact Ev.neg (by simp) (Ev.pos (by simp) tail)
    · rw [decide_eq_false h1, Bool.false_and]
      exact Ev.neg h1 (Ev.pos rfl tail)
  · rw [decide_eq_false (show ¬ 0 ≤ x from h0), Bool.false_and, Bool.false_and]
    exact Ev.neg h0 (Ev.pos rfl tail)

end Go.Proofs.Yteploglmfmhppaa.P
