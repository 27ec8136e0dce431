/- The library's fields of a line are its words. -/
import Derived.Test.YtpfnmjpccmobpaaDoorUGf
namespace Go.Ev
open Go
set_option linter.unusedVariables false
set_option linter.unusedSimpArgs false
def blR (x : Nat) : Bool := x == 32 || x == 9
def blN (x : Nat) : Bool := x == 32 || x == 9
theorem isBl_N (c : UInt8) : isBl c = blN c.toNat := by
  have h1 : (c == 32) = (c.toNat == 32) := by
    by_cases h : c = 32
    · subst h; rfl
    · have hn : c.toNat ≠ 32 := fun e => h (UInt8.toNat_inj.1 (show c.toNat = (32 : UInt8).toNat from e))
      rw [beq_eq_false_iff_ne.2 h, beq_eq_false_iff_ne.2 hn]
  have h2 : (c == 9) = (c.toNat == 9) := by
    by_cases h : c = 9
    · subst h; rfl
    · have hn : c.toNat ≠ 9 := fun e => h (UInt8.toNat_inj.1 (show c.toNat = (9 : UInt8).toNat from e))
      rw [beq_eq_false_iff_ne.2 h, beq_eq_false_iff_ne.2 hn]
  unfold isBl blN
  rw [h1, h2]
theorem decN_bl (n b0 b1 b2 b3 : Nat) (h0 : b0 < 256) (h1 : b1 < 256) (h2 : b2 < 256) (h3 : b3 < 256) (hn : 1 ≤ n) : 1 ≤ (Lib.decodeN n b0 b1 b2 b3).2 ∧ (Lib.decodeN n b0 b1 b2 b3).2 ≤ n ∧ (Lib.decodeN n b0 b1 b2 b3).2 ≤ 4 ∧
    ((b0 = 32 ∨ b0 = 9) ∧ (Lib.decodeN n b0 b1 b2 b3) = (b0, 1) ∨ (b0 ≠ 32 ∧ b0 ≠ 9) ∧ (Lib.decodeN n b0 b1 b2 b3).1 ≠ 32 ∧ (Lib.decodeN n b0 b1 b2 b3).1 ≠ 9 ∧ ((Lib.decodeN n b0 b1 b2 b3).2 ≥ 2 → b1 ≥ 128) ∧ ((Lib.decodeN n b0 b1 b2 b3).2 ≥ 3 → b2 ≥ 128) ∧ ((Lib.decodeN n b0 b1 b2 b3).2 ≥ 4 → b3 ≥ 128)) := by
  unfold Lib.decodeN
  split
  · rename_i h
    refine ⟨by simp, by simpa using hn, by simp, ?_⟩
    by_cases c : b0 = 32 ∨ b0 = 9
    · exact .inl ⟨c, rfl⟩
    · refine .inr ⟨by omega, ?_, ?_, ?_, ?_, ?_⟩ <;> dsimp only <;> omega
  · repeat' split
    all_goals (dsimp only; refine ⟨by omega, by omega, by omega, .inr ⟨by omega, by omega, by omega, by omega, by omega, by omega⟩⟩)
/-- The bytes behind one another that are no blanks belong to one word. -/
theorem wordsL_run : ∀ (x l cur : List UInt8), (∀ c, c ∈ x → isBl c = false) → wordsL (x ++ l) cur = wordsL l (cur ++ x)
  | [], l, cur, _ => by simp
  | c :: x, l, cur, h => by
    show wordsL (c :: (x ++ l)) cur = _
    rw [wordsL, h c List.mem_cons_self, cond_false, wordsL_run x l (cur ++ [c]) fun d hd => h d (List.mem_cons_of_mem _ hd), List.append_assoc]
    rfl
def curOf (l : List UInt8) (pos : Nat) : Option Nat → List UInt8
  | none => []
  | some a => (l.take pos).drop a
def fin (s : ByteArray) (x : List (Nat × Nat)) : List ByteArray := x.map fun p => s.extract p.1 p.2
theorem ext_eq (s : ByteArray) (a b : Nat) : s.extract a b = ⟨((s.data.toList.take b).drop a).toArray⟩ := by
  apply ByteArray.ext
  rw [ByteArray.data_extract]
  apply Array.ext'
  rw [Array.toList_extract, List.extract_eq_take_drop]
  show _ = (s.data.toList.take b).drop a
  rw [List.drop_take]
theorem get_at (s : ByteArray) (i : Nat) (h : i < s.size) : s.get! i = s.data.toList[i]'h := by
  obtain ⟨⟨l⟩⟩ := s
  have h : i < l.length := h
  show (Array.mk l)[i]! = l[i]
  rw [getElem!_pos _ i h]
  rfl
theorem spans_words (s : ByteArray) : ∀ (f pos : Nat) (st : Option Nat) (acc : List (Nat × Nat)), s.size ≤ pos + f → pos ≤ s.size → (∀ a, st = some a → a < pos) →
    fin s (Lib.closeSpans s (Lib.spansFromP blR s f pos st acc)) = fin s acc ++ (wordsL (s.data.toList.drop pos) (curOf s.data.toList pos st)).map fun w => ⟨w.toArray⟩
  | 0, pos, st, acc, h1, h2, h3 => by
    have hp : pos = s.size := by omega
    have hd : s.data.toList.drop pos = [] := List.drop_of_length_le (by rw [hp]; exact Nat.le_refl _)
    rw [hd]
    exact spans_end s pos st acc hp h3
  | f + 1, pos, st, acc, h1, h2, h3 => by
    unfold Lib.spansFromP
    by_cases hlt : pos < s.size
    · rw [if_pos hlt]
      have hdec := Lib.decode_at s pos
      have hn := decN_bl (s.size - pos) _ _ _ _ (UInt8.toNat_lt (s.get! pos)) (UInt8.toNat_lt (s.get! (pos + 1))) (UInt8.toNat_lt (s.get! (pos + 2))) (UInt8.toNat_lt (s.get! (pos + 3))) (by omega)
      rw [← hdec] at hn
      obtain ⟨g1, g2, g3, g4⟩ := hn
      have hl : s.data.toList.length = s.size := rfl
      have hpl : pos < s.data.toList.length := hlt
      have hgp := get_at s pos hlt
      rcases g4 with ⟨c1, c2⟩ | ⟨c1, c2, c3, c4, c5, c6⟩
      · have hbl : blR (Utf8.decode s pos).1 = true := by rw [c2]; unfold blR; rcases c1 with e | e <;> rw [e] <;> rfl
        have hk : (Utf8.decode s pos).2 = 1 := by rw [c2]
        have hb : isBl (s.data.toList[pos]'hlt) = true := by rw [isBl_N, ← hgp]; unfold blN; rcases c1 with e | e <;> rw [e] <;> rfl
        rw [if_pos hbl, hk, List.drop_eq_getElem_cons hpl, wordsL, hb, cond_true]
        cases st with
        | none =>
          show fin s (Lib.closeSpans s (Lib.spansFromP blR s f (pos + 1) none acc)) = _
          rw [spans_words s f (pos + 1) none acc (by omega) (by omega) (fun a h => by cases h)]
          rfl
        | some a =>
          have ha := h3 a rfl
          show fin s (Lib.closeSpans s (Lib.spansFromP blR s f (pos + 1) none (acc ++ [(a, pos)]))) = _
          rw [spans_words s f (pos + 1) none (acc ++ [(a, pos)]) (by omega) (by omega) (fun a h => by cases h)]
          have hne : (curOf s.data.toList pos (some a)).isEmpty = false := by
            show ((s.data.toList.take pos).drop a).isEmpty = false
            rw [List.isEmpty_eq_false_iff]
            intro e
            have := congrArg List.length e
            simp only [List.length_drop, List.length_take, List.length_nil] at this
            omega
          rw [hne, cond_false, List.map_cons]
          show fin s (acc ++ [(a, pos)]) ++ _ = fin s acc ++ (_ :: _)
          unfold fin
          rw [List.map_append, List.append_assoc]
          congr 1
          show [s.extract a pos] ++ _ = _
          rw [ext_eq]
          rfl
      · have hbl : ¬ blR (Utf8.decode s pos).1 = true := by
          unfold blR
          rw [beq_eq_false_iff_ne.2 c2, beq_eq_false_iff_ne.2 c3]
          decide
        rw [if_neg hbl]
        obtain ⟨k, hk⟩ : ∃ k, (Utf8.decode s pos).2 = k := ⟨_, rfl⟩
        rw [hk] at g1 g2 g3 c4 c5 c6 ⊢
        have hrun : ∀ c, c ∈ (s.data.toList.drop pos).take k → isBl c = false := by
          intro c hc
          obtain ⟨j, hj, rfl⟩ := List.mem_iff_getElem.1 hc
          rw [List.length_take, List.length_drop] at hj
          rw [List.getElem_take, List.getElem_drop, isBl_N, ← get_at s (pos + j) (by omega)]
          have hjj : j = 0 ∨ j = 1 ∨ j = 2 ∨ j = 3 := by omega
          unfold blN
          have key : (s.get! (pos + j)).toNat ≠ 32 ∧ (s.get! (pos + j)).toNat ≠ 9 := by
            rcases hjj with rfl | rfl | rfl | rfl
            · exact c1
            · have := c4 (by omega); omega
            · have := c5 (by omega); omega
            · have := c6 (by omega); omega
          rw [beq_eq_false_iff_ne.2 key.1, beq_eq_false_iff_ne.2 key.2]
          rfl
        have hsplit : s.data.toList.drop pos = (s.data.toList.drop pos).take k ++ s.data.toList.drop (pos + k) := by
          rw [← List.drop_drop, List.take_append_drop]
        have hw : ∀ cur, wordsL (s.data.toList.drop pos) cur = wordsL (s.data.toList.drop (pos + k)) (cur ++ (s.data.toList.drop pos).take k) := fun cur => by
          conv => lhs; rw [hsplit]
          exact wordsL_run _ _ cur hrun
        cases st with
        | none =>
          show fin s (Lib.closeSpans s (Lib.spansFromP blR s f (pos + k) (some pos) acc)) = _
          rw [spans_words s f (pos + k) (some pos) acc (by omega) (by omega) (fun a h => by obtain rfl := Option.some.inj h; omega), hw]
          congr 3
          show (s.data.toList.take (pos + k)).drop pos = [] ++ _
          rw [List.nil_append, List.drop_take]
          congr 1
          omega
        | some a =>
          have ha := h3 a rfl
          show fin s (Lib.closeSpans s (Lib.spansFromP blR s f (pos + k) (some a) acc)) = _
          rw [spans_words s f (pos + k) (some a) acc (by omega) (by omega) (fun a' h => by obtain rfl := Option.some.inj h; omega), hw]
          congr 3
          show (s.data.toList.take (pos + k)).drop a = (s.data.toList.take pos).drop a ++ _
          have e : s.data.toList.take (pos + k) = s.data.toList.take pos ++ (s.data.toList.drop pos).take k := by rw [List.take_add]
          rw [e, List.drop_append_of_le_length (by rw [List.length_take]; omega)]
    · rw [if_neg hlt]
      have hp : pos = s.size := by omega
      have hd : s.data.toList.drop pos = [] := List.drop_of_length_le (by rw [hp]; exact Nat.le_refl _)
      rw [hd]
      exact spans_end s pos st acc hp h3
where
  spans_end (s : ByteArray) (pos : Nat) (st : Option Nat) (acc : List (Nat × Nat)) (hp : pos = s.size) (h3 : ∀ a, st = some a → a < pos) : fin s (Lib.closeSpans s (acc, st)) = fin s acc ++ (wordsL [] (curOf s.data.toList pos st)).map fun w => ⟨w.toArray⟩ := by
    cases st with
    | none => show fin s acc = fin s acc ++ []; rw [List.append_nil]
    | some a =>
      have ha := h3 a rfl
      have hl : s.data.toList.length = s.size := rfl
      have hne : (curOf s.data.toList pos (some a)).isEmpty = false := by
        show ((s.data.toList.take pos).drop a).isEmpty = false
        rw [List.isEmpty_eq_false_iff]
        intro e
        have := congrArg List.length e
        simp only [List.length_drop, List.length_take, List.length_nil] at this
        omega
      rw [wordsL, hne, cond_false]
      show fin s (acc ++ [(a, s.size)]) = _
      unfold fin
      rw [List.map_append]
      congr 1
      show [s.extract a s.size] = _
      rw [ext_eq, hp]
      rfl
theorem fields_words (s : ByteArray) : Lib.goFieldsP blR s = (wordsL s.data.toList []).map fun w => ⟨w.toArray⟩ := by
  have := spans_words s s.size 0 none [] (by omega) (by omega) (fun a h => by cases h)
  exact this
end Go.Ev
