/- Package scan's small readers, and the document's: bytes at places, blanks, names. -/
import Derived.Test.YtlofoifcdmeopaaGreatDoorUBas
import Derived.Test.YtlofoifcdmeopaaGreatDoorVUSc
namespace Go.Proofs.YtlofoifcdmeopaaGreatDoor.V
open Go Go.Ev Go.RowKit
set_option linter.unusedVariables false
set_option linter.unusedSimpArgs false
theorem at_E (b : List Int) (i : Int) : E C 217 [.shr 5 (b.map .int), .int .i64 i] = some [.int (atB b i)] := by
  apply o217
  rw [List.length_map]
  by_cases h0 : i < 0
  · rw [dT h0, atB_out (by omega)]
  by_cases h1 : i ≥ (b.length : Int)
  · rw [dF h0, dT h1, atB_out (by omega)]
  rw [dF h0, dF h1, ixT ⟨by omega, by omega⟩, rdA ⟨by omega, by omega⟩]
theorem letter_E (c : Int) : E C 277 [.int .u8 c] = some [.bool (letB c)] := by
  apply o277
  unfold letB
  by_cases h0 : c ≥ 97
  · by_cases h1 : c ≤ 122
    · rw [dT h0, dT h1, decide_eq_true (show 97 ≤ c from h0), decide_eq_true h1]; rfl
    · rw [dT h0, dF h1, dT (by omega), decide_eq_false h1, decide_eq_true (show 65 ≤ c by omega)]; simp
  · rw [dF h0, decide_eq_false (show ¬ 97 ≤ c from h0)]
    by_cases h2 : c ≥ 65
    · rw [dT h2, decide_eq_true (show 65 ≤ c from h2)]; simp
    · rw [dF h2, decide_eq_false (show ¬ 65 ≤ c from h2)]; simp
theorem digit_E (c : Int) : E C 255 [.int .u8 c] = some [.bool (digB c)] := by
  apply o255
  unfold digB
  by_cases h : c ≥ 48
  · rw [dT h, decide_eq_true (show 48 ≤ c from h)]; rfl
  · rw [dF h, decide_eq_false (show ¬ 48 ≤ c from h)]; rfl
/-- How many bytes are skipped; is it a remark? -/
def skipL : Bool → List Int → Nat
  | _, [] => 0
  | r, c :: l => if c = 10 then skipL false l + 1 else if c = 35 then skipL true l + 1 else if r = false ∧ c ≠ 32 ∧ (c < 9 ∨ 13 < c) then 0 else skipL r l + 1
theorem skipL_le : ∀ (l : List Int) (r : Bool), skipL r l ≤ l.length
  | [], _ => Nat.le_refl _
  | c :: l, r => by
    unfold skipL
    have h1 := skipL_le l false
    have h2 := skipL_le l true
    have h3 := skipL_le l r
    simp only [List.length_cons]
    repeat' split
    all_goals omega
theorem skipL_again : ∀ (l : List Int) (r : Bool), skipL false (l.drop (skipL r l)) = 0
  | [], _ => by simp [skipL]
  | c :: l, r => by
    have h1 := skipL_again l false
    have h2 := skipL_again l true
    have h3 := skipL_again l r
    obtain ⟨n, hn⟩ : ∃ n, skipL r (c :: l) = n := ⟨_, rfl⟩
    rw [hn]
    unfold skipL at hn
    split at hn
    · rw [← hn]; exact h1
    split at hn
    · rw [← hn]; exact h2
    split at hn
    · rename_i c1 c2 c3
      rw [← hn, List.drop_zero]
      unfold skipL
      rw [if_neg c1, if_neg c2, if_pos ⟨rfl, c3.2⟩]
    · rw [← hn]; exact h3
theorem skipL_drop {b : List Int} {k : Nat} (h : k < b.length) (r : Bool) : skipL r (b.drop k) = if b[k] = 10 then skipL false (b.drop (k + 1)) + 1 else if b[k] = 35 then skipL true (b.drop (k + 1)) + 1 else if r = false ∧ b[k] ≠ 32 ∧ (b[k] < 9 ∨ 13 < b[k]) then 0 else skipL r (b.drop (k + 1)) + 1 := by
  rw [List.drop_eq_getElem_cons h, skipL]
def blankR (b : List Int) (i : Int) : Int := mx i 0 + skipL false (b.drop (mx i 0).toNat)
theorem blank1_loop (b : List Int) (hb : b.length ≤ 140737488351232) (v4 : Int) : ∀ (d k : Nat), b.length - k = d → k ≤ 9223372036854775807 →
    M205_1 (b.map .int) (k : Int) v4 = some [.int ((k : Int) + skipL false (b.drop k))] ∧ ∀ v5, M205_2 (b.map .int) (k : Int) v4 v5 = some [.int ((k : Int) + skipL true (b.drop k))] := by
  intro d
  induction d with
  | zero =>
    intro k hd hk
    have e1 : M205_1 (b.map .int) (k : Int) v4 = some [.int ((k : Int) + skipL false (b.drop k))] := by
      apply M205_1_of
      rw [List.length_map, dF (by omega), List.drop_of_length_le (by omega)]
      simp [skipL]
    refine ⟨e1, fun v5 => ?_⟩
    apply M205_2_of
    rw [List.length_map, dF (by omega), e1, List.drop_of_length_le (by omega)]
    simp [skipL]
  | succ d ih =>
    intro k hd hk
    have hlt : k < b.length := by omega
    obtain ⟨i1, i2⟩ := ih (k + 1) (by omega) (by omega)
    have ew : IntKind.i64.wrap ((k : Int) + 1) = ((k + 1 : Nat) : Int) := by rw [w64 (by omega) (by omega)]; omega
    have sk : ∀ (n : Nat), ((k + 1 : Nat) : Int) + n = (k : Int) + ((n + 1 : Nat) : Int) := fun n => by omega
    have e2 : ∀ v5, b[k] ≠ 10 → M205_2 (b.map .int) (k : Int) v4 v5 = some [.int ((k : Int) + skipL true (b.drop k))] := fun v5 c1 => by
      apply M205_2_of
      rw [List.length_map, dT (by omega), ixT ⟨by omega, by omega⟩, Int.toNat_natCast, rdB hlt, neT c1, ew, i2, skipL_drop hlt, if_neg c1, sk]
      by_cases c2 : b[k] = 35
      · rw [if_pos c2]
      · rw [if_neg c2, if_neg (by simp)]
    have e1 : M205_1 (b.map .int) (k : Int) v4 = some [.int ((k : Int) + skipL false (b.drop k))] := by
      apply M205_1_of
      rw [List.length_map, dT (by omega), ixT ⟨by omega, by omega⟩, Int.toNat_natCast, rdB hlt, ew, i1, skipL_drop hlt, sk]
      by_cases c1 : b[k] = 32
      · rw [eT c1, if_neg (by omega), if_neg (by omega), if_neg (by simp [c1])]
      rw [eF c1]
      by_cases c2 : b[k] ≥ 9
      · rw [dT c2]
        by_cases c3 : b[k] ≤ 13
        · rw [dT c3]
          by_cases c4 : b[k] = 10
          · rw [if_pos c4]
          · rw [if_neg c4, if_neg (by omega), if_neg (by rintro ⟨_, _, h⟩; omega)]
        · rw [dF c3, if_neg (by omega)]
          by_cases c4 : b[k] = 35
          · rw [eT c4, if_pos c4, e2 _ (by omega), skipL_drop hlt, if_neg (by omega), if_pos c4]
          · rw [eF c4, if_neg c4, if_pos ⟨rfl, c1, by omega⟩]; simp
      · rw [dF c2, eF (by omega), if_neg (by omega), if_neg (by omega), if_pos ⟨rfl, c1, by omega⟩]; simp
    refine ⟨e1, fun v5 => ?_⟩
    by_cases c1 : b[k] = 10
    · apply M205_2_of
      rw [List.length_map, dT (by omega), ixT ⟨by omega, by omega⟩, Int.toNat_natCast, rdB hlt, neF c1, e1, skipL_drop hlt, skipL_drop hlt, if_pos c1, if_pos c1]
    · exact e2 v5 c1
theorem Blank_E (b : List Int) (hb : b.length ≤ 140737488351232) (i : Int) (hi : i64P i) : E C 205 [.shr 5 (b.map .int), .int .i64 i] = some [.int (blankR b i)] := by
  apply o205
  unfold blankR mx
  by_cases h : 0 > i
  · rw [if_pos h]
    exact (blank1_loop b hb 0 _ 0 rfl (by omega)).1
  · rw [if_neg h]
    obtain ⟨k, rfl⟩ : ∃ k : Nat, i = (k : Int) := ⟨i.toNat, by omega⟩
    exact (blank1_loop b hb 0 _ k rfl (by have := hi.2; omega)).1
end Go.Proofs.YtlofoifcdmeopaaGreatDoor.V
