/- Chapter 05 in plain Lean, second part: the laws of the names and of the letters. -/
import Derived.Test.YteploglmfmhppaaL05
import Derived.Test.YteploglmfmhppaaPx20
namespace Go.Proofs.Yteploglmfmhppaa.P
open Go.RowKit Go.Proofs.YteploglmfmhppaaW.PrintWords Go.Proofs.YteploglmfmhppaaW.PrintLast Go.Proofs.YteploglmfmhppaaW.PrintMore
set_option linter.unusedVariables false
set_option linter.unusedSimpArgs false

theorem refHas_eq (s : ByteArray) (x : Int) : clewref05_Has.f s x = some (hasB (namedR s).1 x, (namedR s).2) := by
  unfold clewref05_Has.f
  rw [named_pick]
theorem ClassNamed_pure (s : ByteArray) (x : Int) (_ : s.size ≤ 140737488351232) (_ : (Lit.int .i64 x).wf = true) : ∃ k, clewlaw05_ClassNamed.f k s x = some true := by
  refine Ev.one ?_
  unfold clewlaw05_ClassNamed.f
  have hn := named_least s
  refine Ev.bind anchor05_ev (Ev.pos rfl (Ev.bind_some (v := namedR s) rfl (Ev.bind_some (refHas_eq s x) (Ev.pos (by simp) (Ev.bind_some (v := hasB (namedR s).1 x) rfl (Ev.pos (by simp) (Ev.bind (Right_least _ hn.1 (by omega)) (Ev.pos rfl ?_))))))))
  by_cases h : (namedR s).2 = true
  · exact Ev.pos h (Ev.const _)
  · refine Ev.neg h ?_
    rw [named_none s (by simpa using h)]
    exact Ev.const _

theorem within_eq (x : Int) : clewref05_within.f x 0 1114367 = some (decide (0 ≤ x) && decide (x ≤ 1114367)) := by
  unfold clewref05_within.f
  by_cases h : x ≥ 0
  · rw [if_pos h, decide_eq_true (show 0 ≤ x from h), Bool.true_and]
  · rw [if_neg h, decide_eq_false (show ¬ 0 ≤ x from h), Bool.false_and]
theorem hasB_within (l : List S42) (x : Int) : (hasB l x && (decide (0 ≤ x) && decide (x ≤ 1114367))) = hasB l x := by
  rw [Bool.eq_iff_iff]
  simp only [Bool.and_eq_true, decide_eq_true_eq, hasB_iff]
  constructor
  · exact fun h => h.1
  · exact fun h => ⟨h, h.1, h.2.1⟩
/-- The last step of the document's answer for a letter. -/
theorem RefOf_j4 (c x : Int) (s : ByteArray) (not : Bool) (h83 : c ≠ 83) (hs : (namedR s).2 = true) (k : Nat) : clewref05_Of.j4 (k + 1) c x s not false = some ((hasB (namedR s).1 x != not) && (decide (0 ≤ x) && decide (x ≤ 1114367)), true) := by
  simp only [clewref05_Of.j4]
  rw [if_neg (by simp), refHas_eq, Option.bind_some, hs, if_pos rfl]
  by_cases h : ((hasB (namedR s).1 x) != not) = true
  · rw [if_pos h, within_eq, Option.bind_some, h, Bool.true_and]
  · rw [if_neg h, Bool.eq_false_iff.mpr h, Bool.false_and]
theorem RefOf_s (c x : Int) (k : Nat) : clewref05_Of.j4 (k + 1) c x ⟨#[]⟩ false true = some ((hasB (namedR nSpace).1 x != (c == 83)) && (decide (0 ≤ x) && decide (x ≤ 1114367)), true) := by
  have hs : (namedR nSpace).2 = true := by decide +kernel
  simp only [clewref05_Of.j4]
  rw [if_pos trivial, show (⟨#[115, 112, 97, 99, 101]⟩ : ByteArray) = nSpace from rfl, refHas_eq, Option.bind_some, hs, if_pos rfl]
  by_cases h : ((hasB (namedR nSpace).1 x) != (c == 83)) = true
  · rw [if_pos h, within_eq, Option.bind_some, h, Bool.true_and]
  · rw [if_neg h, Bool.eq_false_iff.mpr h, Bool.false_and]
theorem RefOf_ev (c x : Int) : Ev (fun k => clewref05_Of.f k c x) (hasB (ofR c).1 x, (ofR c).2) := by
  have hd : (namedR nDigit).2 = true := by decide +kernel
  have hw : (namedR nWord).2 = true := by decide +kernel
  refine ⟨5, fun k hk => ?_⟩
  obtain ⟨k, rfl⟩ : ∃ j, k = j + 5 := ⟨k - 5, by omega⟩
  show clewref05_Of.f (k + 5) c x = _
  have pos : ∀ l : List S42, ((hasB l x != false) && (decide (0 ≤ x) && decide (x ≤ 1114367))) = hasB l x := fun l => by rw [Bool.bne_false, hasB_within]
  have neg : ∀ l : List S42, ((hasB l x != true) && (decide (0 ≤ x) && decide (x ≤ 1114367))) = hasB (notR l) x := fun l => by rw [Bool.bne_true, notR_hasB, Bool.and_comm]
  by_cases h1 : c = 100
  · subst h1
    have e : clewref05_Of.f (k + 5) 100 x = clewref05_Of.j4 (k + 1) 100 x nDigit false false := rfl
    rw [e, RefOf_j4 _ _ _ _ (by decide) hd, pos]
    rfl
  by_cases h2 : c = 119
  · subst h2
    have e : clewref05_Of.f (k + 5) 119 x = clewref05_Of.j4 (k + 1) 119 x nWord false false := rfl
    rw [e, RefOf_j4 _ _ _ _ (by decide) hw, pos]
    rfl
  by_cases h3 : c = 115
  · subst h3
    have e : clewref05_Of.f (k + 5) 115 x = clewref05_Of.j4 (k + 1) 115 x ⟨#[]⟩ false true := rfl
    rw [e, RefOf_s, show ((115 : Int) == 83) = false from rfl, pos]
    rfl
  by_cases h4 : c = 68
  · subst h4
    have e : clewref05_Of.f (k + 5) 68 x = clewref05_Of.j4 (k + 1) 68 x nDigit true false := rfl
    rw [e, RefOf_j4 _ _ _ _ (by decide) hd, neg]
    rfl
  by_cases h5 : c = 87
  · subst h5
    have e : clewref05_Of.f (k + 5) 87 x = clewref05_Of.j4 (k + 1) 87 x nWord true false := rfl
    rw [e, RefOf_j4 _ _ _ _ (by decide) hw, neg]
    rfl
  by_cases h6 : c = 83
  · subst h6
    have e : clewref05_Of.f (k + 5) 83 x = clewref05_Of.j4 (k + 1) 83 x ⟨#[]⟩ false true := rfl
    rw [e, RefOf_s, show ((83 : Int) == 83) = true from rfl, neg]
    rfl
  have e : clewref05_Of.f (k + 5) c x = clewref05_Of.j4 (k + 1) c x ⟨#[]⟩ false false := by
    unfold clewref05_Of.f
    rw [if_neg h1, beq_eq_false_iff_ne.mpr h4]
    simp only [clewref05_Of.j0]
    rw [if_neg (by simp)]
    simp only [clewref05_Of.j1]
    rw [if_neg h2, beq_eq_false_iff_ne.mpr h5]
    simp only [clewref05_Of.j2]
    rw [if_neg (by simp)]
    simp only [clewref05_Of.j3]
    rw [if_neg h3, beq_eq_false_iff_ne.mpr h6]
  have hempty : namedR ⟨#[]⟩ = ([], false) := by decide +kernel
  have ho : ofR c = ([], false) := by
    unfold ofR
    rw [if_neg h1, if_neg h2, if_neg h3, if_neg h4, if_neg h5, if_neg h6]
  rw [e]
  simp only [clewref05_Of.j4]
  rw [if_neg (by simp), refHas_eq, Option.bind_some, hempty, if_neg (by simp), ho]
  simp [hasB]
theorem ofR_least (c : Int) : leastP (ofR c).1 ∧ (ofR c).1.length ≤ 5 := by
  have low := fun s => named_least s
  have up := fun s : ByteArray => (⟨notR_least (namedR s).1, by have := notR_length (namedR s).1; have := (named_least s).2; omega⟩ : leastP (notR (namedR s).1) ∧ (notR (namedR s).1).length ≤ 5)
  unfold ofR
  split
  · exact ⟨(low _).1, Nat.le_succ_of_le (low _).2⟩
  split
  · exact ⟨(low _).1, Nat.le_succ_of_le (low _).2⟩
  split
  · exact ⟨(low _).1, Nat.le_succ_of_le (low _).2⟩
  split
  · exact up _
  split
  · exact up _
  split
  · exact up _
  · exact ⟨⟨by simp, List.Pairwise.nil⟩, by simp⟩
theorem ofR_none (c : Int) (h : (ofR c).2 = false) : (ofR c).1 = [] := by
  unfold ofR at h ⊢
  repeat' split at h
  all_goals first | (simp at h; done) | skip
  all_goals simp_all
theorem ClassOf_pure (c : Int) (x : Int) (_ : (Lit.int .u8 c).wf = true) (_ : (Lit.int .i64 x).wf = true) : ∃ k, clewlaw05_ClassOf.f k c x = some true := by
  refine Ev.one ?_
  unfold clewlaw05_ClassOf.f
  have hn := ofR_least c
  refine Ev.bind anchor05_ev (Ev.pos rfl (Ev.bind (Of_ev c) (Ev.bind (RefOf_ev c x) (Ev.pos (by simp) (Ev.bind_some (v := hasB (ofR c).1 x) rfl (Ev.pos (by simp) (Ev.bind (Right_least _ hn.1 (by omega)) (Ev.pos rfl ?_))))))))
  by_cases h : (ofR c).2 = true
  · exact Ev.pos h (Ev.const _)
  · refine Ev.neg h ?_
    rw [ofR_none c (by simpa using h)]
    exact Ev.const _

end Go.Proofs.Yteploglmfmhppaa.P
