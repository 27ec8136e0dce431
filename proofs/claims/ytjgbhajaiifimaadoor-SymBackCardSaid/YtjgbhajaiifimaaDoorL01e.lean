/- Chapter 01 in plain Lean, fifth part: the laws of bytes, there and back. -/
import Derived.Test.YtjgbhajaiifimaaDoorL01d
import Derived.Test.YtjgbhajaiifimaaDoorL01c
import Derived.Test.YtjgbhajaiifimaaDoorPx7
namespace Go.Proofs.YtjgbhajaiifimaaDoor.P
open Go.RowKit Go.Proofs.YtjgbhajaiifimaaDoorW.PrintWords Go.Proofs.YtjgbhajaiifimaaDoorW.PrintLast Go.Proofs.YtjgbhajaiifimaaDoorW.PrintMore
set_option linter.unusedVariables false
set_option linter.unusedSimpArgs false

/-- Some numbers' bytes, and whether all are symbols. -/
def bytesR (l : List Int) : List Int × Int := if l.all isSym = true then (l.flatMap putR, 0) else ([], 10)
theorem flat_length {l : List Int} (h : l.all isSym = true) : (l.flatMap putR).length ≤ 4 * l.length := by
  induction l with
  | nil => simp
  | cons x l ih =>
    simp only [List.all_cons, Bool.and_eq_true] at h
    have h1 := putR_bytes h.1
    have h2 := ih h.2
    simp only [List.flatMap_cons, List.length_append, List.length_cons]
    omega
theorem Bytes_l0 (xs : List Int) (hlen : xs.length ≤ 1000000) : ∀ (rest pre : List Int) (k : Nat), xs = pre ++ rest → pre.all isSym = true → rest.length + 2 ≤ k →
    sym_Bytes.l0 k (pre.flatMap putR) xs (xs.length : Int) (pre.length : Int) = some (bytesR xs) := by
  intro rest
  induction rest with
  | nil =>
    intro pre k hxs hp hk
    have hl : xs.length = pre.length := by rw [hxs]; simp
    obtain ⟨k, rfl⟩ : ∃ j, k = j + 1 := ⟨k - 1, by omega⟩
    simp only [sym_Bytes.l0]
    have he : xs = pre := by rw [hxs]; simp
    rw [if_neg (by omega), bytesR, he, if_pos hp]
  | cons x rest ih =>
    intro pre k hxs hp hk
    have hl : xs.length = pre.length + (rest.length + 1) := by rw [hxs]; simp
    simp only [List.length_cons] at hk
    obtain ⟨k, rfl⟩ : ∃ j, k = j + 2 := ⟨k - 2, by omega⟩
    have hr : rd xs (pre.length : Int) = x := by rw [hxs]; simp [rd]
    have hw2 : wrap64 ((pre.length : Int) + 1) = ((pre ++ [x]).length : Int) := by
      rw [w64 (by omega) (by omega)]
      simp
    have hf := flat_length hp
    simp only [sym_Bytes.l0, hr, hw2]
    rw [if_pos (by omega), if_pos (by omega), if_pos (by omega)]
    cases hx : isSym x with
    | true =>
      have h4 := putR_bytes hx
      have e : pre.flatMap putR ++ putR x = (pre ++ [x]).flatMap putR := by simp
      rw [sym_Put_eq hx k, Option.bind_some]
      dsimp only
      rw [if_pos rfl, if_pos (by omega), e]
      exact ih (pre ++ [x]) (k + 1) (by rw [hxs]; simp) (by simp [hp, hx]) (by omega)
    | false =>
      rw [sym_Put_no hx k, Option.bind_some]
      have hn : ¬ xs.all isSym = true := by
        rw [hxs]
        simp [hx]
      dsimp only
      rw [if_neg (by omega), bytesR, if_neg hn]
theorem Bytes_eq (xs : List Int) (hlen : xs.length ≤ 1000000) (k : Nat) (hk : xs.length + 2 ≤ k) : sym_Bytes.f k xs = some (bytesR xs) := Bytes_l0 xs hlen xs [] k rfl rfl hk

theorem lawBytes_l0 (xs : List Int) (hlen : xs.length ≤ 1000000) : ∀ (rest pre : List Int) (k : Nat), xs = pre ++ rest → pre.all isSym = true → rest.length + 1 ≤ k →
    clewlaw01_SymBytes.l0 k (bytesR xs).2 (pre.flatMap putR) (bytesR xs).1 xs (xs.length : Int) (pre.length : Int) = some true := by
  intro rest
  induction rest with
  | nil =>
    intro pre k hxs hp hk
    have hl : xs.length = pre.length := by rw [hxs]; simp
    obtain ⟨k, rfl⟩ : ∃ j, k = j + 1 := ⟨k - 1, by omega⟩
    simp only [clewlaw01_SymBytes.l0]
    have he : xs = pre := by rw [hxs]; simp
    rw [if_neg (by omega), bytesR, he, if_pos hp]
    dsimp only
    rw [if_pos rfl, beq_self_eq_true]
  | cons x rest ih =>
    intro pre k hxs hp hk
    have hl : xs.length = pre.length + (rest.length + 1) := by rw [hxs]; simp
    simp only [List.length_cons] at hk
    obtain ⟨k, rfl⟩ : ∃ j, k = j + 1 := ⟨k - 1, by omega⟩
    have hr : rd xs (pre.length : Int) = x := by rw [hxs]; simp [rd]
    have hw2 : wrap64 ((pre.length : Int) + 1) = ((pre ++ [x]).length : Int) := by
      rw [w64 (by omega) (by omega)]
      simp
    have hf := flat_length hp
    simp only [clewlaw01_SymBytes.l0, hr, hw2]
    rw [if_pos (by omega), if_pos (by omega), if_pos (by omega), RefIs_eq, Option.bind_some]
    cases hx : isSym x with
    | true =>
      have h4 := putR_bytes hx
      have e : pre.flatMap putR ++ putR x = (pre ++ [x]).flatMap putR := by simp
      rw [if_pos rfl, RefPut_eq hx, Option.bind_some, if_pos (by omega), e]
      exact ih (pre ++ [x]) k (by rw [hxs]; simp) (by simp [hp, hx]) (by omega)
    | false =>
      have hn : ¬ xs.all isSym = true := by
        rw [hxs]
        simp [hx]
      rw [if_neg (by simp), bytesR, if_neg hn]
      rfl
theorem SymBytes_pure (l : List Int) (hl : l.length * 8 ≤ 140737488351232) (_ : ∀ x ∈ l, (Lit.int .i64 x).wf = true) : ∃ k, clewlaw01_SymBytes.f k l = some true := by
  refine ⟨l.length + 2, ?_⟩
  unfold clewlaw01_SymBytes.f
  rw [anchor01_eq, Option.bind_some, if_pos rfl]
  by_cases h : (l.length : Int) > 20000
  · rw [if_pos h]
  · rw [if_neg h, Bytes_eq l (by omega) _ (Nat.le_refl _), Option.bind_some]
    exact lawBytes_l0 l (by omega) l [] _ rfl rfl (by omega)

/-! There and back -/
theorem bn_getElem {b : List Int} (hb : isBytes b = true) (i : Nat) (hi : i < b.length) : b[i] = (bn b i : Int) := by
  have h := rd_bn hb i
  unfold rd at h
  simp only [Int.toNat_natCast, List.getD_eq_getElem?_getD, List.getElem?_eq_getElem hi, Option.getD_some] at h
  exact h
theorem drop_bn {b : List Int} (hb : isBytes b = true) (i : Nat) (hi : i < b.length) : b.drop i = (bn b i : Int) :: b.drop (i + 1) := by
  rw [List.drop_eq_getElem_cons hi, bn_getElem hb i hi]
theorem symA_back {b : List Int} (hb : isBytes b = true) (i : Nat) (hi : i < b.length) : isSym (symA b i).1 = true ∧ b.drop i = putR (symA b i).1 ++ b.drop (i + (symA b i).2.toNat) := by
  have h0 := bn_lt hb i
  have h1 := bn_lt hb (i + 1)
  have h2 := bn_lt hb (i + 2)
  have h3 := bn_lt hb (i + 3)
  have bad : 128 ≤ bn b i → isSym (1114112 + (bn b i : Int)) = true ∧ b.drop i = putR (1114112 + (bn b i : Int)) ++ b.drop (i + (1 : Int).toNat) := fun h => by
    refine ⟨(isSym_iff _).mpr (by omega), ?_⟩
    unfold putR
    rw [if_pos (by omega), drop_bn hb i hi]
    have e : 1114112 + (bn b i : Int) - 1114112 = (bn b i : Int) := by omega
    rw [e]
    rfl
  unfold symA
  by_cases c1 : bn b i < 128
  · rw [symN_one c1]
    refine ⟨(isSym_iff _).mpr (by dsimp only; omega), ?_⟩
    unfold putR
    dsimp only
    rw [if_neg (by omega), Go.Lib.encodeRuneZ_one (by omega) (by omega), drop_bn hb i hi]
    rfl
  by_cases c2 : bn b i < 192 ∨ 248 ≤ bn b i
  · rw [symN_none (by omega) h0]
    exact bad (by omega)
  by_cases c3 : bn b i ≤ 223
  · rw [symN_of (decode_two ⟨by omega, c3⟩ h1) (by omega)]
    by_cases g : 1 < b.length - i ∧ 128 ≤ bn b (i + 1) ∧ bn b (i + 1) ≤ 191 ∧ 128 ≤ (bn b i - 192) * 64 + (bn b (i + 1) - 128)
    · rw [if_pos g]
      refine ⟨(isSym_iff _).mpr (by dsimp only; omega), ?_⟩
      unfold putR
      dsimp only
      rw [if_neg (by omega), Go.Lib.encodeRuneZ_two (by omega) (by omega), drop_bn hb i hi, drop_bn hb (i + 1) (by omega)]
      have e1 : 192 + ((((bn b i - 192) * 64 + (bn b (i + 1) - 128) : Nat) : Int)) / 64 = (bn b i : Int) := by omega
      have e2 : 128 + ((((bn b i - 192) * 64 + (bn b (i + 1) - 128) : Nat) : Int)) % 64 = (bn b (i + 1) : Int) := by omega
      rw [e1, e2]
      rfl
    · rw [if_neg g]
      exact bad (by omega)
  by_cases c4 : bn b i ≤ 239
  · rw [symN_of (decode_three ⟨by omega, c4⟩ h1 h2) (by omega)]
    by_cases g : 2 < b.length - i ∧ (128 ≤ bn b (i + 1) ∧ bn b (i + 1) ≤ 191) ∧ (128 ≤ bn b (i + 2) ∧ bn b (i + 2) ≤ 191) ∧ 2048 ≤ (bn b i - 224) * 4096 + (bn b (i + 1) - 128) * 64 + (bn b (i + 2) - 128) ∧ ((bn b i - 224) * 4096 + (bn b (i + 1) - 128) * 64 + (bn b (i + 2) - 128) < 55296 ∨ 57344 ≤ (bn b i - 224) * 4096 + (bn b (i + 1) - 128) * 64 + (bn b (i + 2) - 128))
    · rw [if_pos g]
      obtain ⟨g1, g2, g3, g4, g5⟩ := g
      have e0 : b.drop i = (bn b i : Int) :: (bn b (i + 1) : Int) :: (bn b (i + 2) : Int) :: b.drop (i + 3) := by rw [drop_bn hb i hi, drop_bn hb (i + 1) (by omega), drop_bn hb (i + 2) (by omega)]
      have e1 : 224 + (((bn b i - 224) * 4096 + (bn b (i + 1) - 128) * 64 + (bn b (i + 2) - 128) : Nat) : Int) / 4096 = (bn b i : Int) := by omega
      have e2 : 128 + (((bn b i - 224) * 4096 + (bn b (i + 1) - 128) * 64 + (bn b (i + 2) - 128) : Nat) : Int) / 64 % 64 = (bn b (i + 1) : Int) := by omega
      have e3 : 128 + (((bn b i - 224) * 4096 + (bn b (i + 1) - 128) * 64 + (bn b (i + 2) - 128) : Nat) : Int) % 64 = (bn b (i + 2) : Int) := by omega
      have hv : (bn b i - 224) * 4096 + (bn b (i + 1) - 128) * 64 + (bn b (i + 2) - 128) ≤ 65535 := by omega
      generalize (bn b i - 224) * 4096 + (bn b (i + 1) - 128) * 64 + (bn b (i + 2) - 128) = v at g4 g5 e1 e2 e3 hv ⊢
      refine ⟨(isSym_iff _).mpr (by dsimp only; omega), ?_⟩
      unfold putR
      dsimp only
      rw [if_neg (by omega), Go.Lib.encodeRuneZ_three (by omega), e1, e2, e3, e0]
      rfl
    · rw [if_neg g]
      exact bad (by omega)
  · rw [symN_of (decode_four ⟨by omega, by omega⟩ h1 h2 h3) (by omega)]
    by_cases g : 3 < b.length - i ∧ (128 ≤ bn b (i + 1) ∧ bn b (i + 1) ≤ 191) ∧ (128 ≤ bn b (i + 2) ∧ bn b (i + 2) ≤ 191) ∧ (128 ≤ bn b (i + 3) ∧ bn b (i + 3) ≤ 191) ∧ 65536 ≤ (bn b i - 240) * 262144 + (bn b (i + 1) - 128) * 4096 + (bn b (i + 2) - 128) * 64 + (bn b (i + 3) - 128) ∧ (bn b i - 240) * 262144 + (bn b (i + 1) - 128) * 4096 + (bn b (i + 2) - 128) * 64 + (bn b (i + 3) - 128) ≤ 1114111
    · rw [if_pos g]
      obtain ⟨g1, g2, g3, g3b, g4, g5⟩ := g
      have e0 : b.drop i = (bn b i : Int) :: (bn b (i + 1) : Int) :: (bn b (i + 2) : Int) :: (bn b (i + 3) : Int) :: b.drop (i + 4) := by rw [drop_bn hb i hi, drop_bn hb (i + 1) (by omega), drop_bn hb (i + 2) (by omega), drop_bn hb (i + 3) (by omega)]
      have e1 : 240 + (((bn b i - 240) * 262144 + (bn b (i + 1) - 128) * 4096 + (bn b (i + 2) - 128) * 64 + (bn b (i + 3) - 128) : Nat) : Int) / 262144 = (bn b i : Int) := by omega
      have e2 : 128 + (((bn b i - 240) * 262144 + (bn b (i + 1) - 128) * 4096 + (bn b (i + 2) - 128) * 64 + (bn b (i + 3) - 128) : Nat) : Int) / 4096 % 64 = (bn b (i + 1) : Int) := by omega
      have e3 : 128 + (((bn b i - 240) * 262144 + (bn b (i + 1) - 128) * 4096 + (bn b (i + 2) - 128) * 64 + (bn b (i + 3) - 128) : Nat) : Int) / 64 % 64 = (bn b (i + 2) : Int) := by omega
      have e4 : 128 + (((bn b i - 240) * 262144 + (bn b (i + 1) - 128) * 4096 + (bn b (i + 2) - 128) * 64 + (bn b (i + 3) - 128) : Nat) : Int) % 64 = (bn b (i + 3) : Int) := by omega
      generalize (bn b i - 240) * 262144 + (bn b (i + 1) - 128) * 4096 + (bn b (i + 2) - 128) * 64 + (bn b (i + 3) - 128) = v at g4 g5 e1 e2 e3 e4 ⊢
      refine ⟨(isSym_iff _).mpr (by dsimp only; omega), ?_⟩
      unfold putR
      dsimp only
      rw [if_neg (by omega), Go.Lib.encodeRuneZ_four (by omega) (by omega), e1, e2, e3, e4, e0]
      rfl
    · rw [if_neg g]
      exact bad (by omega)
theorem each_back {b : List Int} (hb : isBytes b = true) : ∀ (m i : Nat), b.length - i ≤ m → ((eachL (b.length - i) b i).map fun p => p.2).all isSym = true ∧ ((eachL (b.length - i) b i).map fun p => p.2).flatMap putR = b.drop i := by
  intro m
  induction m with
  | zero =>
    intro i hm
    rw [eachL_end b i (by omega), List.drop_eq_nil_of_le (by omega)]
    exact ⟨rfl, rfl⟩
  | succ m ih =>
    intro i hm
    by_cases hi : i < b.length
    · have hs := symA_small hb i hi
      obtain ⟨h1, h2⟩ := symA_back hb i hi
      obtain ⟨i1, i2⟩ := ih (i + (symA b i).2.toNat) (by omega)
      rw [eachL_next hb i hi]
      simp only [List.map_cons, List.all_cons, List.flatMap_cons, h1, i1, i2, Bool.and_self, true_and]
      exact h2.symm
    · rw [eachL_end b i (by omega), List.drop_eq_nil_of_le (by omega)]
      exact ⟨rfl, rfl⟩
theorem bytes_syms {b : List Int} (hb : isBytes b = true) : bytesR (symsR b) = (b, 0) := by
  obtain ⟨h1, h2⟩ := each_back hb b.length 0 (by omega)
  unfold bytesR symsR eachAll
  simp only [Nat.sub_zero, List.drop_zero] at h1 h2
  rw [if_pos h1, h2]
theorem SymBack_pure (b : List Int) (hl : b.length * 1 ≤ 140737488351232) (hw : ∀ x ∈ b, (Lit.int .u8 x).wf = true) : ∃ k, clewlaw01_SymBack.f k b = some true := by
  have hb := isBytes_of hw
  refine ⟨b.length + 2, ?_⟩
  unfold clewlaw01_SymBack.f
  rw [anchor01_eq, Option.bind_some, if_pos rfl]
  by_cases h : (b.length : Int) > 100000
  · rw [if_pos h]
  · have h1 := symsR_length b
    rw [if_neg h, All_eq hb (by omega), Option.bind_some, Bytes_eq _ (by omega) _ (by omega), Option.bind_some, bytes_syms hb]
    dsimp only
    rw [if_pos rfl, beq_self_eq_true]
end Go.Proofs.YtjgbhajaiifimaaDoor.P
