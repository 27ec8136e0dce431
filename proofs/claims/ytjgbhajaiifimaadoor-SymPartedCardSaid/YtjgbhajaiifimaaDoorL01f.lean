/- Chapter 01 in plain Lean, sixth part: what stands on both sides of a line end has its symbols by itself. -/
import Derived.Test.YtjgbhajaiifimaaDoorL01c
import Derived.Test.YtjgbhajaiifimaaDoorPx7
namespace Go.Proofs.YtjgbhajaiifimaaDoor.P
open Go.RowKit Go.Proofs.YtjgbhajaiifimaaDoorW.PrintWords Go.Proofs.YtjgbhajaiifimaaDoorW.PrintLast Go.Proofs.YtjgbhajaiifimaaDoorW.PrintMore
set_option linter.unusedVariables false
set_option linter.unusedSimpArgs false

theorem bn_left (a c : List Int) (i : Nat) (hi : i < a.length) : bn (a ++ c) i = bn a i := by
  unfold bn
  rw [List.getD_eq_getElem?_getD, List.getD_eq_getElem?_getD, List.getElem?_append_left hi]
theorem bn_mid (a b : List Int) : bn (a ++ 10 :: b) a.length = 10 := by
  unfold bn
  rw [List.getD_eq_getElem?_getD, List.getElem?_append_right (Nat.le_refl _)]
  simp
theorem bn_right (a b : List Int) (i : Nat) : bn (a ++ 10 :: b) (a.length + 1 + i) = bn b i := by
  unfold bn
  rw [List.getD_eq_getElem?_getD, List.getD_eq_getElem?_getD, List.getElem?_append_right (by omega)]
  have e : a.length + 1 + i - a.length = i + 1 := by omega
  rw [e]
  simp
/-- What stands ahead of a line end is read as if nothing came behind. -/
theorem symA_left {a b : List Int} (ha : isBytes a = true) (hab : isBytes (a ++ 10 :: b) = true) (i : Nat) (hi : i < a.length) : symA (a ++ 10 :: b) i = symA a i := by
  have h0 := bn_lt ha i
  have h1 := bn_lt ha (i + 1)
  have h2 := bn_lt ha (i + 2)
  have h3 := bn_lt ha (i + 3)
  have y1 := bn_lt hab (i + 1)
  have y2 := bn_lt hab (i + 2)
  have y3 := bn_lt hab (i + 3)
  have hl : (a ++ 10 :: b).length = a.length + (b.length + 1) := by simp
  have e0 : bn (a ++ 10 :: b) i = bn a i := bn_left _ _ i hi
  have f1 : i + 1 < a.length → bn (a ++ 10 :: b) (i + 1) = bn a (i + 1) := bn_left _ _ _
  have f2 : i + 2 < a.length → bn (a ++ 10 :: b) (i + 2) = bn a (i + 2) := bn_left _ _ _
  have f3 : i + 3 < a.length → bn (a ++ 10 :: b) (i + 3) = bn a (i + 3) := bn_left _ _ _
  have g1 : i + 1 = a.length → bn (a ++ 10 :: b) (i + 1) = 10 := fun h => by rw [h]; exact bn_mid a b
  have g2 : i + 2 = a.length → bn (a ++ 10 :: b) (i + 2) = 10 := fun h => by rw [h]; exact bn_mid a b
  have g3 : i + 3 = a.length → bn (a ++ 10 :: b) (i + 3) = 10 := fun h => by rw [h]; exact bn_mid a b
  unfold symA
  rw [e0, hl]
  generalize bn (a ++ 10 :: b) (i + 1) = z1 at *
  generalize bn (a ++ 10 :: b) (i + 2) = z2 at *
  generalize bn (a ++ 10 :: b) (i + 3) = z3 at *
  generalize bn a i = c at *
  generalize bn a (i + 1) = x1 at *
  generalize bn a (i + 2) = x2 at *
  generalize bn a (i + 3) = x3 at *
  generalize a.length = n at *
  generalize b.length = m at *
  clear hl ha hab e0
  by_cases c1 : c < 128
  · rw [symN_one c1, symN_one c1]
  by_cases c2 : c < 192 ∨ 248 ≤ c
  · rw [symN_none (by omega) h0, symN_none (by omega) h0]
  by_cases c3 : c ≤ 223
  · rw [symN_of (decode_two ⟨by omega, c3⟩ y1) (by omega), symN_of (decode_two ⟨by omega, c3⟩ h1) (by omega)]
    by_cases k1 : i + 1 < n
    · have e1 := f1 k1
      subst e1
      by_cases v : 128 ≤ z1 ∧ z1 ≤ 191 ∧ 128 ≤ (c - 192) * 64 + (z1 - 128)
      · rw [if_pos ⟨by omega, v⟩, if_pos ⟨by omega, v⟩]
      · rw [if_neg (fun h => v h.2), if_neg (fun h => v h.2)]
    · have e1 := g1 (by omega)
      rw [if_neg (by omega), if_neg (by omega)]
  by_cases c4 : c ≤ 239
  · rw [symN_of (decode_three ⟨by omega, c4⟩ y1 y2) (by omega), symN_of (decode_three ⟨by omega, c4⟩ h1 h2) (by omega)]
    by_cases k2 : i + 2 < n
    · have e1 := f1 (by omega)
      have e2 := f2 k2
      subst e1
      subst e2
      by_cases v : (128 ≤ z1 ∧ z1 ≤ 191) ∧ (128 ≤ z2 ∧ z2 ≤ 191) ∧ 2048 ≤ (c - 224) * 4096 + (z1 - 128) * 64 + (z2 - 128) ∧ ((c - 224) * 4096 + (z1 - 128) * 64 + (z2 - 128) < 55296 ∨ 57344 ≤ (c - 224) * 4096 + (z1 - 128) * 64 + (z2 - 128))
      · rw [if_pos ⟨by omega, v⟩, if_pos ⟨by omega, v⟩]
      · rw [if_neg (fun h => v h.2), if_neg (fun h => v h.2)]
    · rw [if_neg (fun h => ?_), if_neg (fun h => by omega)]
      by_cases k1 : i + 1 = n
      · have := g1 k1
        omega
      · have := g2 (by omega)
        omega
  · rw [symN_of (decode_four ⟨by omega, by omega⟩ y1 y2 y3) (by omega), symN_of (decode_four ⟨by omega, by omega⟩ h1 h2 h3) (by omega)]
    by_cases k3 : i + 3 < n
    · have e1 := f1 (by omega)
      have e2 := f2 (by omega)
      have e3 := f3 k3
      subst e1
      subst e2
      subst e3
      by_cases v : (128 ≤ z1 ∧ z1 ≤ 191) ∧ (128 ≤ z2 ∧ z2 ≤ 191) ∧ (128 ≤ z3 ∧ z3 ≤ 191) ∧ 65536 ≤ (c - 240) * 262144 + (z1 - 128) * 4096 + (z2 - 128) * 64 + (z3 - 128) ∧ (c - 240) * 262144 + (z1 - 128) * 4096 + (z2 - 128) * 64 + (z3 - 128) ≤ 1114111
      · rw [if_pos ⟨by omega, v⟩, if_pos ⟨by omega, v⟩]
      · rw [if_neg (fun h => v h.2), if_neg (fun h => v h.2)]
    · rw [if_neg (fun h => ?_), if_neg (fun h => by omega)]
      by_cases k1 : i + 1 = n
      · have := g1 k1
        omega
      · by_cases k2 : i + 2 = n
        · have := g2 k2
          omega
        · have := g3 (by omega)
          omega
theorem symA_mid (a b : List Int) : symA (a ++ 10 :: b) a.length = (10, 1) := by
  unfold symA
  rw [bn_mid, symN_one (by omega)]
  rfl
theorem symA_right (a b : List Int) (i : Nat) : symA (a ++ 10 :: b) (a.length + 1 + i) = symA b i := by
  unfold symA
  have hl : (a ++ 10 :: b).length - (a.length + 1 + i) = b.length - i := by simp; omega
  rw [hl, bn_right, show a.length + 1 + i + 1 = a.length + 1 + (i + 1) by omega, show a.length + 1 + i + 2 = a.length + 1 + (i + 2) by omega, show a.length + 1 + i + 3 = a.length + 1 + (i + 3) by omega, bn_right, bn_right, bn_right]
theorem each_left {a b : List Int} (ha : isBytes a = true) (hab : isBytes (a ++ 10 :: b) = true) : ∀ (m i : Nat), a.length - i ≤ m → i ≤ a.length →
    (eachL ((a ++ 10 :: b).length - i) (a ++ 10 :: b) i).map (fun p => p.2) = (eachL (a.length - i) a i).map (fun p => p.2) ++ (eachL ((a ++ 10 :: b).length - a.length) (a ++ 10 :: b) a.length).map fun p => p.2 := by
  have hl : (a ++ 10 :: b).length = a.length + (b.length + 1) := by simp
  intro m
  induction m with
  | zero =>
    intro i hm hi
    obtain rfl : i = a.length := by omega
    rw [eachL_end a _ (Nat.le_refl _)]
    rfl
  | succ m ih =>
    intro i hm hi
    by_cases h : i < a.length
    · have hs := symA_small ha i h
      have e := symA_left ha hab i h
      rw [eachL_next hab i (by omega), eachL_next ha i h, e, List.map_cons, List.map_cons, ih (i + (symA a i).2.toNat) (by omega) (by omega)]
      rfl
    · obtain rfl : i = a.length := by omega
      rw [eachL_end a _ (Nat.le_refl _)]
      rfl
theorem each_right {a b : List Int} (hb : isBytes b = true) (hab : isBytes (a ++ 10 :: b) = true) : ∀ (m i : Nat), b.length - i ≤ m →
    (eachL ((a ++ 10 :: b).length - (a.length + 1 + i)) (a ++ 10 :: b) (a.length + 1 + i)).map (fun p => p.2) = (eachL (b.length - i) b i).map fun p => p.2 := by
  have hl : (a ++ 10 :: b).length = a.length + (b.length + 1) := by simp
  intro m
  induction m with
  | zero =>
    intro i hm
    rw [eachL_end b i (by omega), eachL_end (a ++ 10 :: b) _ (by omega)]
  | succ m ih =>
    intro i hm
    by_cases h : i < b.length
    · have hs := symA_small hb i h
      have e := symA_right a b i
      rw [eachL_next hab (a.length + 1 + i) (by omega), eachL_next hb i h, e, List.map_cons, List.map_cons, ← ih (i + (symA b i).2.toNat) (by omega), show a.length + 1 + i + (symA b i).2.toNat = a.length + 1 + (i + (symA b i).2.toNat) by omega]
    · rw [eachL_end b i (by omega), eachL_end (a ++ 10 :: b) _ (by omega)]
theorem syms_parted {a b : List Int} (ha : isBytes a = true) (hb : isBytes b = true) (hab : isBytes (a ++ 10 :: b) = true) : symsR (a ++ 10 :: b) = symsR a ++ 10 :: symsR b := by
  have h1 := each_left (b := b) ha hab a.length 0 (by omega) (Nat.zero_le _)
  have h2 := each_right (a := a) hb hab b.length 0 (by omega)
  have hl : (a ++ 10 :: b).length = a.length + (b.length + 1) := by simp
  have h3 := eachL_next hab a.length (by omega)
  rw [symA_mid] at h3
  unfold symsR eachAll
  simp only [Nat.sub_zero, Nat.add_zero] at h1 h2
  rw [h1, h3, List.map_cons]
  congr 2
theorem SymParted_pure (a b : List Int) (hla : a.length * 1 ≤ 140737488351232) (hwa : ∀ x ∈ a, (Lit.int .u8 x).wf = true) (hlb : b.length * 1 ≤ 140737488351232) (hwb : ∀ x ∈ b, (Lit.int .u8 x).wf = true) : ∃ k, clewlaw01_SymParted.f k a b = some true := by
  have ha := isBytes_of hwa
  have hb := isBytes_of hwb
  have hab : isBytes (a ++ 10 :: b) = true := by
    unfold isBytes at *
    rw [List.all_append, ha, List.all_cons, hb]
    decide
  refine ⟨200000, ?_⟩
  unfold clewlaw01_SymParted.f
  rw [anchor01_eq, Option.bind_some, if_pos rfl]
  have ht : clewlaw01_SymParted.j0 200000 a b true = some true := by
    simp only [clewlaw01_SymParted.j0]
    rw [if_pos trivial]
  by_cases h : (a.length : Int) > 50000
  · rw [if_pos h, ht]
  · rw [if_neg h]
    by_cases h2 : (b.length : Int) > 50000
    · rw [decide_eq_true h2, ht]
    · rw [decide_eq_false h2]
      have hl : (a ++ 10 :: b).length = a.length + (b.length + 1) := by simp
      have e1 : a ++ [10] ++ b = a ++ 10 :: b := by simp
      have s1 := symsR_length a
      have s2 := symsR_length b
      have s3 : (symsR a ++ 10 :: symsR b).length = (symsR a).length + ((symsR b).length + 1) := by simp
      show clewlaw01_SymParted.j0 (199999 + 1) a b false = some true
      simp only [clewlaw01_SymParted.j0]
      rw [if_neg (by simp)]
      simp only [Option.bind_some, List.nil_append, List.length_nil, Nat.zero_add, List.length_append, List.length_singleton]
      rw [if_pos (by omega), if_pos (by omega), if_pos (by omega), e1, All_eq hab (by omega), Option.bind_some, All_eq ha (by omega), Option.bind_some, if_pos (by omega), if_pos (by omega), All_eq hb (by omega), Option.bind_some, if_pos (by omega), syms_parted ha hb hab]
      have e2 : symsR a ++ [10] ++ symsR b = symsR a ++ 10 :: symsR b := by simp
      rw [e2, same_refl _ (by omega) _ (by omega), Option.bind_some]
end Go.Proofs.YtjgbhajaiifimaaDoor.P
