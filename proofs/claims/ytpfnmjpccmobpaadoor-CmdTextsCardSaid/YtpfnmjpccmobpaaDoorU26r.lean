/- CmdReads: any line is the document's command, or has the document's error. -/
import Derived.Test.YtpfnmjpccmobpaaDoorUCmr
import Derived.Test.YtpfnmjpccmobpaaDoorVXLCmdReads
import Derived.Test.YtpfnmjpccmobpaaDoorUA26
namespace Go.Proofs.YtpfnmjpccmobpaaDoor.V
open Go Go.Ev Go.RowKit
set_option linter.unusedVariables false
set_option linter.unusedSimpArgs false
theorem bs_of (s : ByteArray) : ∃ l : List UInt8, s = bs l := ⟨s.data.toList, by simp [bs]⟩
theorem fit_strS {k : Nat} {d : Dat} (h : fitT C.T (k + 1) 9 d) : ∃ s : List UInt8, d = .str (bs s) := by
  simp only [fitT] at h
  obtain ⟨ti', h1, h2⟩ := h
  obtain rfl := Option.some.inj ((show C.T 9 = some ⟨1, 16, [.str], false, .scal⟩ from rfl).symm.trans h1)
  obtain ⟨c, h3, h4⟩ := h2
  simp only [List.cons.injEq, and_true] at h3
  subst h3
  obtain ⟨s, rfl, _⟩ := h4
  obtain ⟨l, rfl⟩ := bs_of s
  exact ⟨l, rfl⟩
/-- May a command be? -/
def okC (a b c d : Int) : Bool := bif decide (1 ≤ a ∧ a ≤ 14) then (bif a == 7 then (b == 0 && (decide (1 ≤ c ∧ c ≤ 5) && (decide (0 ≤ d) && decide (d ≤ 2147483647)))) else (c == 0 && (d == 0 && (bif mostOf a == 0 then b == 0 else (decide (0 ≤ b) && decide (b ≤ 2147483647)))))) else false
theorem nm_ne : ∀ k : Nat, 1 ≤ k → k ≤ 14 → nmL.getD k [] ≠ [] := by
  intro k h1 h2
  have : k = 1 ∨ k = 2 ∨ k = 3 ∨ k = 4 ∨ k = 5 ∨ k = 6 ∨ k = 7 ∨ k = 8 ∨ k = 9 ∨ k = 10 ∨ k = 11 ∨ k = 12 ∨ k = 13 ∨ k = 14 := by omega
  rcases this with rfl | rfl | rfl | rfl | rfl | rfl | rfl | rfl | rfl | rfl | rfl | rfl | rfl | rfl <;> decide
theorem wh_ne : ∀ k : Nat, 1 ≤ k → k ≤ 5 → whL.getD k [] ≠ [] := by
  intro k h1 h2
  have : k = 1 ∨ k = 2 ∨ k = 3 ∨ k = 4 ∨ k = 5 := by omega
  rcases this with rfl | rfl | rfl | rfl | rfl <;> decide
theorem RightC_E (a b c d : Int) : E C 54 [.agg [.int .i64 a, .int .i64 b, .int .i64 c, .int .i64 d]] = some [.bool (okC a b c d)] := by
  apply o54
  rw [bT (args_E a), bT (Name_E a)]
  simp only [rd0, rd1, datS, datI]
  rw [bsE, strEq]
  unfold okC
  by_cases h1 : 1 ≤ a ∧ a ≤ 14
  · rw [if_pos h1, dF (nm_ne _ (by omega) (by omega)), decide_eq_true h1, cond_true]
    by_cases h7 : a = 7
    · rw [eT h7, eT h7, bT (ptWord_E c)]
      simp only [rd0, datS]
      rw [strEq]
      by_cases hb : b = 0
      · rw [eT hb, beq_iff_eq.2 hb]
        by_cases hc : 1 ≤ c ∧ c ≤ 5
        · rw [if_pos hc, decide_eq_false (wh_ne _ (by omega) (by omega)), nT rfl, decide_eq_true hc]
          by_cases hd : d ≥ 0
          · rw [dT hd, decide_eq_true (show 0 ≤ d from hd)]; rfl
          · rw [dF hd, decide_eq_false (show ¬ 0 ≤ d from hd)]; rfl
        · rw [if_neg hc, decide_eq_true rfl, nF rfl, decide_eq_false hc]; rfl
      · rw [eF hb, beq_eq_false_iff_ne.2 hb]; rfl
    · rw [eF h7, eF h7]
      by_cases hm : mostOf a = 0
      · rw [eT hm, eT hm, beq_self_eq_true]
        cases b == 0 <;> cases c == 0 <;> cases d == 0 <;> rfl
      · rw [eF hm, eF hm]
        by_cases hb : b ≥ 0
        · rw [dT hb, decide_eq_true (show 0 ≤ b from hb)]
          cases c == 0 <;> cases d == 0 <;> cases decide (b ≤ 2147483647) <;> rfl
        · rw [dF hb, decide_eq_false (show ¬ 0 ≤ b from hb)]
          cases c == 0 <;> cases d == 0 <;> rfl
  · rw [if_neg h1, dT rfl, decide_eq_false h1]
    rfl
/-- What is read, with its error. -/
structure RdOk (l : List Dat) : Prop where
  h : (∃ e, l = errD e ∧ e ≠ 0) ∨ ∃ a b c d, l = cmdD a b c d ∧ okC a b c d = true
theorem numB_in : ∀ (l : List UInt8) (n m : Nat), n ≤ 2147483647 → numB l n = some m → m ≤ 2147483647
  | [], n, m, h, e => by
    obtain rfl := Option.some.inj e
    exact h
  | c :: l, n, m, h, e => by
    rw [numB] at e
    split at e
    · rename_i hc
      exact numB_in l _ m hc.2.2 e
    · cases e
theorem numO_in {w : List UInt8} {n : Int} (h : numO w = some n) : 0 ≤ n ∧ n ≤ 2147483647 := by
  unfold numO numL at h
  cases w with
  | nil => cases h
  | cons c l =>
    rw [show (c :: l).isEmpty = false from rfl, cond_false] at h
    cases hn : numB (c :: l) 0 with
    | none => rw [hn] at h; cases h
    | some m =>
      rw [hn] at h
      obtain rfl := Option.some.inj h
      have := numB_in _ _ _ (by omega) hn
      show 0 ≤ (m : Int) ∧ (m : Int) ≤ 2147483647
      omega
theorem kindO_in {w : List UInt8} {n : Int} (h : kindO w = some n) : 0 ≤ n ∧ n ≤ 2147483647 := by
  have hf := firstK_in w (kdL.drop 1) 1
  have hl : (kdL.drop 1).length = 14 := rfl
  unfold kindO at h
  split at h
  · exact numO_in h
  · obtain rfl := Option.some.inj h
    omega
theorem addEnd_ok (f : Int) (b : List UInt8) (hf : 0 ≤ f ∧ f ≤ 5) : RdOk (addEnd f b) := by
  unfold addEnd
  by_cases h0 : f = 0
  · rw [if_pos h0]; exact ⟨.inl ⟨60, rfl, by omega⟩⟩
  rw [if_neg h0]
  have key : ∀ o : Option Int, (∀ n, o = some n → 0 ≤ n ∧ n ≤ 2147483647) → RdOk (match o with | none => errD 61 | some n => cmdD 7 0 f n) := fun o ho => by
    cases o with
    | none => exact ⟨.inl ⟨61, rfl, by omega⟩⟩
    | some n =>
      obtain ⟨h1, h2⟩ := ho n rfl
      refine ⟨.inr ⟨7, 0, f, n, rfl, ?_⟩⟩
      unfold okC
      rw [decide_eq_true (show (1 : Int) ≤ 7 ∧ (7 : Int) ≤ 14 by omega), decide_eq_true (show 1 ≤ f ∧ f ≤ 5 by omega), decide_eq_true h1, decide_eq_true h2]
      rfl
  exact key _ fun n hn => by
    split at hn
    · exact kindO_in hn
    · exact numO_in hn
theorem readW_ok (ws : List (List UInt8)) : RdOk (readW ws) := by
  cases ws with
  | nil => exact ⟨.inl ⟨62, rfl, by omega⟩⟩
  | cons w rest =>
    have hin := opOf_in w
    rw [readW_cons]
    unfold readV
    by_cases h0 : opOf w = 0
    · rw [if_pos h0]; exact ⟨.inl ⟨60, rfl, by omega⟩⟩
    rw [if_neg h0]
    by_cases h1 : (rest.length : Int) < leastOf (opOf w) ∨ (rest.length : Int) > mostOf (opOf w)
    · rw [if_pos h1]; exact ⟨.inl ⟨62, rfl, by omega⟩⟩
    rw [if_neg h1]
    by_cases h7 : opOf w = 7
    · rw [if_pos h7]
      have hf := firstK_in (rest.getD 0 []) (whL.drop 1) 1
      have hl : (whL.drop 1).length = 5 := rfl
      exact addEnd_ok _ _ (by omega)
    rw [if_neg h7]
    have d1 : decide (1 ≤ opOf w ∧ opOf w ≤ 14) = true := decide_eq_true ⟨by omega, by omega⟩
    by_cases hm : mostOf (opOf w) = 0
    · rw [if_pos hm]
      refine ⟨.inr ⟨opOf w, 0, 0, 0, rfl, ?_⟩⟩
      unfold okC
      rw [d1, cond_true, eF h7, hm]
      rfl
    · rw [if_neg hm]
      cases rest with
      | nil =>
        refine ⟨.inr ⟨opOf w, 1, 0, 0, rfl, ?_⟩⟩
        unfold okC
        rw [d1, cond_true, eF h7, eF hm]
        rfl
      | cons x r =>
        cases hn : numO x with
        | none => simp only [hn]; exact ⟨.inl ⟨61, rfl, by omega⟩⟩
        | some n =>
          obtain ⟨g1, g2⟩ := numO_in hn
          simp only [hn]
          refine ⟨.inr ⟨opOf w, n, 0, 0, rfl, ?_⟩⟩
          unfold okC
          rw [d1, cond_true, eF h7, eF hm, decide_eq_true g1, decide_eq_true g2]
          rfl
theorem CmdReads_pure (e0 : Dat) (h0 : fitT C.T 9 9 e0) : E C 13 [.str e0.S] = some [.bool true] := by
  obtain ⟨s, rfl⟩ := fit_strS h0
  apply o13
  rw [bT anchor26_E]
  simp only [rd0, datB, datS]
  rw [nF rfl, bsZ]
  by_cases g : (s.length : Int) > 1000
  · rw [dT g]
  rw [dF g, bT (Read_E s (by omega)), bT (ReadR_E s (by omega))]
  rcases (readW_ok (wordsL s [])).h with ⟨e, he, hne⟩ | ⟨a, b, c, d, he, hok⟩
  · rw [he]
    unfold errD
    simp only [rd0, rd1, aggC0, aggC1, aggC2, aggC3, datI]
    rw [eT rfl, bT (RightC_E 0 0 0 0), beq_eq_false_iff_ne.2 hne]
    rfl
  · rw [he]
    unfold cmdD
    simp only [rd0, rd1, aggC0, aggC1, aggC2, aggC3, datI]
    rw [bT (RightC_E a b c d), hok]
    simp only [beq_self_eq_true]
    rfl
end Go.Proofs.YtpfnmjpccmobpaaDoor.V
