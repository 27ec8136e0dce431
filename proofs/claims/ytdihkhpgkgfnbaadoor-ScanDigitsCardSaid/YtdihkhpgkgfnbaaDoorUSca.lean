/- Package scan's small readers, and the document's: bytes at places, blanks, names. -/
import Derived.Test.YtdihkhpgkgfnbaaDoorUBas
import Derived.Test.YtdihkhpgkgfnbaaDoorVTSc
namespace Go.Proofs.YtdihkhpgkgfnbaaDoor.V
open Go Go.Ev Go.RowKit
set_option linter.unusedVariables false
set_option linter.unusedSimpArgs false
theorem at_E (b : List Int) (i : Int) : E C 9 [.shr 5 (b.map .int), .int .i64 i] = some [.int (atB b i)] := by
  apply o9
  rw [List.length_map]
  by_cases h0 : i < 0
  · rw [dT h0, atB_out (by omega)]
  by_cases h1 : i ≥ (b.length : Int)
  · rw [dF h0, dT h1, atB_out (by omega)]
  rw [dF h0, dF h1, ixT ⟨by omega, by omega⟩, rdA ⟨by omega, by omega⟩]
theorem letter_E (c : Int) : E C 22 [.int .u8 c] = some [.bool (letB c)] := by
  apply o22
  unfold letB
  by_cases h0 : c ≥ 97
  · by_cases h1 : c ≤ 122
    · rw [dT h0, dT h1, decide_eq_true (show 97 ≤ c from h0), decide_eq_true h1]; rfl
    · rw [dT h0, dF h1, dT (by omega), decide_eq_false h1, decide_eq_true (show 65 ≤ c by omega)]; simp
  · rw [dF h0, decide_eq_false (show ¬ 97 ≤ c from h0)]
    by_cases h2 : c ≥ 65
    · rw [dT h2, decide_eq_true (show 65 ≤ c from h2)]; simp
    · rw [dF h2, decide_eq_false (show ¬ 65 ≤ c from h2)]; simp
theorem digit_E (c : Int) : E C 12 [.int .u8 c] = some [.bool (digB c)] := by
  apply o12
  unfold digB
  by_cases h : c ≥ 48
  · rw [dT h, decide_eq_true (show 48 ≤ c from h)]; rfl
  · rw [dF h, decide_eq_false (show ¬ 48 ≤ c from h)]; rfl
/-- How many bytes are skipped; is it a remark? -/
def skipL : Bool → List Int → Nat
  | _, [] => 0
  | r, c :: l => if c = 10 then skipL false l + 1 else if c = 35 then skipL true l + 1 else if r = false ∧ c ≠ 32 ∧ (c < 9 ∨ 13 < c) then 0 else skipL r l + 1
theorem skipL_le : ∀ (l : List Int) (r : Bool), skipL r l ≤ l.length
  | [], _ => Nat.le_refl _
  | c :: l, r => by
    unfold skipL
    have h1 := skipL_le l false
    have h2 := skipL_le l true
    have h3 := skipL_le l r
    simp only [List.length_cons]
    repeat' split
    all_goals omega
theorem skipL_again : ∀ (l : List Int) (r : Bool), skipL false (l.drop (skipL r l)) = 0
  | [], _ => by simp [skipL]
  | c :: l, r => by
    have h1 := skipL_again l false
    have h2 := skipL_again l true
    have h3 := skipL_again l r
    obtain ⟨n, hn⟩ : ∃ n, skipL r (c :: l) = n := ⟨_, rfl⟩
    rw [hn]
    unfold skipL at hn
    split at hn
    · rw [← hn]; exact h1
    split at hn
    · rw [← hn]; exact h2
    split at hn
    · rename_i c1 c2 c3
      rw [← hn, List.drop_zero]
      unfold skipL
      rw [if_neg c1, if_neg c2, if_pos ⟨rfl, c3.2⟩]
    · rw [← hn]; exact h3
theorem skipL_drop {b : List Int} {k : Nat} (h : k < b.length) (r : Bool) : skipL r (b.drop k) = if b[k] = 10 then skipL false (b.drop (k + 1)) + 1 else if b[k] = 35 then skipL true (b.drop (k + 1)) + 1 else if r = false ∧ b[k] ≠ 32 ∧ (b[k] < 9 ∨ 13 < b[k]) then 0 else skipL r (b.drop (k + 1)) + 1 := by
  rw [List.drop_eq_getElem_cons h, skipL]
def blankR (b : List Int) (i : Int) : Int := mx i 0 + skipL false (b.drop (mx i 0).toNat)
end Go.Proofs.YtdihkhpgkgfnbaaDoor.V
