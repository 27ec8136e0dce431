/- Symbols' bytes: the document's and the program's; parts of a text. -/
import Derived.Test.YtjgbhajaiifimaaDoorVHold
import Derived.Lib.RuneBytes
namespace Go.Proofs.YtjgbhajaiifimaaDoor.V
open Go Go.Ev Go.RowKit
set_option linter.unusedVariables false
set_option linter.unusedSimpArgs false

/-- Is a number a symbol? -/
def isSym (x : Int) : Bool := decide ((0 ≤ x ∧ x ≤ 55295) ∨ (57344 ≤ x ∧ x ≤ 1114111) ∨ (1114240 ≤ x ∧ x ≤ 1114367))

/-- A symbol's bytes. -/
def putR (x : Int) : List Int := if x > 1114111 then [x - 1114112] else Go.Lib.encodeRuneZ x

theorem isSym_iff (x : Int) : isSym x = true ↔ (0 ≤ x ∧ x ≤ 55295) ∨ (57344 ≤ x ∧ x ≤ 1114111) ∨ (1114240 ≤ x ∧ x ≤ 1114367) := by
  unfold isSym
  exact decide_eq_true_iff

theorem isSym_dec {x : Int} {c : Prop} [Decidable c] (h : c ↔ (0 ≤ x ∧ x ≤ 55295) ∨ (57344 ≤ x ∧ x ≤ 1114111) ∨ (1114240 ≤ x ∧ x ≤ 1114367)) : decide c = isSym x := by
  unfold isSym
  exact decide_eq_decide.mpr h

theorem isSym_true {x : Int} (h : (0 ≤ x ∧ x ≤ 55295) ∨ (57344 ≤ x ∧ x ≤ 1114111) ∨ (1114240 ≤ x ∧ x ≤ 1114367)) : true = isSym x := ((isSym_iff x).mpr h).symm

theorem isSym_false {x : Int} (h : ¬ ((0 ≤ x ∧ x ≤ 55295) ∨ (57344 ≤ x ∧ x ≤ 1114111) ∨ (1114240 ≤ x ∧ x ≤ 1114367))) : false = isSym x := (Bool.eq_false_iff.mpr (fun e => h ((isSym_iff x).mp e))).symm

theorem putR_bytes {x : Int} (h : isSym x = true) : isBytes (putR x) = true ∧ 1 ≤ (putR x).length ∧ (putR x).length ≤ 4 := by
  have hx := (isSym_iff x).mp h
  unfold putR
  by_cases h1 : x > 1114111
  · rw [if_pos h1]
    unfold isBytes
    simp
    omega
  · rw [if_neg h1]
    refine ⟨?_, Go.Lib.encodeRuneZ_length x⟩
    unfold isBytes
    rw [List.all_eq_true]
    intro y hy
    have := Go.Lib.encodeRuneZ_byte x y hy
    simp only [Bool.and_eq_true, decide_eq_true_eq]
    exact this

theorem flat_length {l : List Int} (h : l.all isSym = true) : (l.flatMap putR).length ≤ 4 * l.length := by
  induction l with
  | nil => simp
  | cons x l ih =>
    simp only [List.all_cons, Bool.and_eq_true] at h
    have h1 := putR_bytes h.1
    have h2 := ih h.2
    simp only [List.flatMap_cons, List.length_append, List.length_cons]
    omega

theorem bn_getElem {b : List Int} (hb : isBytes b = true) (i : Nat) (hi : i < b.length) : b[i] = (bn b i : Int) := by
  have h := getD_bn hb i
  simp only [List.getD_eq_getElem?_getD, List.getElem?_eq_getElem hi, Option.getD_some] at h
  exact h

theorem drop_bn {b : List Int} (hb : isBytes b = true) (i : Nat) (hi : i < b.length) : b.drop i = (bn b i : Int) :: b.drop (i + 1) := by
  rw [List.drop_eq_getElem_cons hi, bn_getElem hb i hi]

theorem symA_back {b : List Int} (hb : isBytes b = true) (i : Nat) (hi : i < b.length) : isSym (symA b i).1 = true ∧ b.drop i = putR (symA b i).1 ++ b.drop (i + (symA b i).2.toNat) := by
  have h0 := bn_lt hb i
  have h1 := bn_lt hb (i + 1)
  have h2 := bn_lt hb (i + 2)
  have h3 := bn_lt hb (i + 3)
  have bad : 128 ≤ bn b i → isSym (1114112 + (bn b i : Int)) = true ∧ b.drop i = putR (1114112 + (bn b i : Int)) ++ b.drop (i + (1 : Int).toNat) := fun h => by
    refine ⟨(isSym_iff _).mpr (by omega), ?_⟩
    unfold putR
    rw [if_pos (by omega), drop_bn hb i hi]
    have e : 1114112 + (bn b i : Int) - 1114112 = (bn b i : Int) := by omega
    rw [e]
    rfl
  unfold symA
  by_cases c1 : bn b i < 128
  · rw [symN_one c1]
    refine ⟨(isSym_iff _).mpr (by dsimp only; omega), ?_⟩
    unfold putR
    dsimp only
    rw [if_neg (by omega), Go.Lib.encodeRuneZ_one (by omega) (by omega), drop_bn hb i hi]
    rfl
  by_cases c2 : bn b i < 192 ∨ 248 ≤ bn b i
  · rw [symN_none (by omega) h0]
    exact bad (by omega)
  by_cases c3 : bn b i ≤ 223
  · rw [symN_of (decode_two ⟨by omega, c3⟩ h1) (by omega)]
    by_cases g : 1 < b.length - i ∧ 128 ≤ bn b (i + 1) ∧ bn b (i + 1) ≤ 191 ∧ 128 ≤ (bn b i - 192) * 64 + (bn b (i + 1) - 128)
    · rw [if_pos g]
      refine ⟨(isSym_iff _).mpr (by dsimp only; omega), ?_⟩
      unfold putR
      dsimp only
      rw [if_neg (by omega), Go.Lib.encodeRuneZ_two (by omega) (by omega), drop_bn hb i hi, drop_bn hb (i + 1) (by omega)]
      have e1 : 192 + ((((bn b i - 192) * 64 + (bn b (i + 1) - 128) : Nat) : Int)) / 64 = (bn b i : Int) := by omega
      have e2 : 128 + ((((bn b i - 192) * 64 + (bn b (i + 1) - 128) : Nat) : Int)) % 64 = (bn b (i + 1) : Int) := by omega
      rw [e1, e2]
      rfl
    · rw [if_neg g]
      exact bad (by omega)
  by_cases c4 : bn b i ≤ 239
  · rw [symN_of (decode_three ⟨by omega, c4⟩ h1 h2) (by omega)]
    by_cases g : 2 < b.length - i ∧ (128 ≤ bn b (i + 1) ∧ bn b (i + 1) ≤ 191) ∧ (128 ≤ bn b (i + 2) ∧ bn b (i + 2) ≤ 191) ∧ 2048 ≤ (bn b i - 224) * 4096 + (bn b (i + 1) - 128) * 64 + (bn b (i + 2) - 128) ∧ ((bn b i - 224) * 4096 + (bn b (i + 1) - 128) * 64 + (bn b (i + 2) - 128) < 55296 ∨ 57344 ≤ (bn b i - 224) * 4096 + (bn b (i + 1) - 128) * 64 + (bn b (i + 2) - 128))
    · rw [if_pos g]
      obtain ⟨g1, g2, g3, g4, g5⟩ := g
      have e0 : b.drop i = (bn b i : Int) :: (bn b (i + 1) : Int) :: (bn b (i + 2) : Int) :: b.drop (i + 3) := by rw [drop_bn hb i hi, drop_bn hb (i + 1) (by omega), drop_bn hb (i + 2) (by omega)]
      have e1 : 224 + (((bn b i - 224) * 4096 + (bn b (i + 1) - 128) * 64 + (bn b (i + 2) - 128) : Nat) : Int) / 4096 = (bn b i : Int) := by omega
      have e2 : 128 + (((bn b i - 224) * 4096 + (bn b (i + 1) - 128) * 64 + (bn b (i + 2) - 128) : Nat) : Int) / 64 % 64 = (bn b (i + 1) : Int) := by omega
      have e3 : 128 + (((bn b i - 224) * 4096 + (bn b (i + 1) - 128) * 64 + (bn b (i + 2) - 128) : Nat) : Int) % 64 = (bn b (i + 2) : Int) := by omega
      have hv : (bn b i - 224) * 4096 + (bn b (i + 1) - 128) * 64 + (bn b (i + 2) - 128) ≤ 65535 := by omega
      generalize (bn b i - 224) * 4096 + (bn b (i + 1) - 128) * 64 + (bn b (i + 2) - 128) = v at g4 g5 e1 e2 e3 hv ⊢
      refine ⟨(isSym_iff _).mpr (by dsimp only; omega), ?_⟩
      unfold putR
      dsimp only
      rw [if_neg (by omega), Go.Lib.encodeRuneZ_three (by omega), e1, e2, e3, e0]
      rfl
    · rw [if_neg g]
      exact bad (by omega)
  · rw [symN_of (decode_four ⟨by omega, by omega⟩ h1 h2 h3) (by omega)]
    by_cases g : 3 < b.length - i ∧ (128 ≤ bn b (i + 1) ∧ bn b (i + 1) ≤ 191) ∧ (128 ≤ bn b (i + 2) ∧ bn b (i + 2) ≤ 191) ∧ (128 ≤ bn b (i + 3) ∧ bn b (i + 3) ≤ 191) ∧ 65536 ≤ (bn b i - 240) * 262144 + (bn b (i + 1) - 128) * 4096 + (bn b (i + 2) - 128) * 64 + (bn b (i + 3) - 128) ∧ (bn b i - 240) * 262144 + (bn b (i + 1) - 128) * 4096 + (bn b (i + 2) - 128) * 64 + (bn b (i + 3) - 128) ≤ 1114111
    · rw [if_pos g]
      obtain ⟨g1, g2, g3, g3b, g4, g5⟩ := g
      have e0 : b.drop i = (bn b i : Int) :: (bn b (i + 1) : Int) :: (bn b (i + 2) : Int) :: (bn b (i + 3) : Int) :: b.drop (i + 4) := by rw [drop_bn hb i hi, drop_bn hb (i + 1) (by omega), drop_bn hb (i + 2) (by omega), drop_bn hb (i + 3) (by omega)]
      have e1 : 240 + (((bn b i - 240) * 262144 + (bn b (i + 1) - 128) * 4096 + (bn b (i + 2) - 128) * 64 + (bn b (i + 3) - 128) : Nat) : Int) / 262144 = (bn b i : Int) := by omega
      have e2 : 128 + (((bn b i - 240) * 262144 + (bn b (i + 1) - 128) * 4096 + (bn b (i + 2) - 128) * 64 + (bn b (i + 3) - 128) : Nat) : Int) / 4096 % 64 = (bn b (i + 1) : Int) := by omega
      have e3 : 128 + (((bn b i - 240) * 262144 + (bn b (i + 1) - 128) * 4096 + (bn b (i + 2) - 128) * 64 + (bn b (i + 3) - 128) : Nat) : Int) / 64 % 64 = (bn b (i + 2) : Int) := by omega
      have e4 : 128 + (((bn b i - 240) * 262144 + (bn b (i + 1) - 128) * 4096 + (bn b (i + 2) - 128) * 64 + (bn b (i + 3) - 128) : Nat) : Int) % 64 = (bn b (i + 3) : Int) := by omega
      generalize (bn b i - 240) * 262144 + (bn b (i + 1) - 128) * 4096 + (bn b (i + 2) - 128) * 64 + (bn b (i + 3) - 128) = v at g4 g5 e1 e2 e3 e4 ⊢
      refine ⟨(isSym_iff _).mpr (by dsimp only; omega), ?_⟩
      unfold putR
      dsimp only
      rw [if_neg (by omega), Go.Lib.encodeRuneZ_four (by omega) (by omega), e1, e2, e3, e4, e0]
      rfl
    · rw [if_neg g]
      exact bad (by omega)

theorem each_back {b : List Int} (hb : isBytes b = true) : ∀ (m i : Nat), b.length - i ≤ m → ((eachL (b.length - i) b i).map fun p => p.2).all isSym = true ∧ ((eachL (b.length - i) b i).map fun p => p.2).flatMap putR = b.drop i := by
  intro m
  induction m with
  | zero =>
    intro i hm
    rw [eachL_end b i (by omega), List.drop_eq_nil_of_le (by omega)]
    exact ⟨rfl, rfl⟩
  | succ m ih =>
    intro i hm
    by_cases hi : i < b.length
    · have hs := symA_small hb i hi
      obtain ⟨h1, h2⟩ := symA_back hb i hi
      obtain ⟨i1, i2⟩ := ih (i + (symA b i).2.toNat) (by omega)
      rw [eachL_next hb i hi]
      simp only [List.map_cons, List.all_cons, List.flatMap_cons, h1, i1, i2, Bool.and_self, true_and]
      exact h2.symm
    · rw [eachL_end b i (by omega), List.drop_eq_nil_of_le (by omega)]
      exact ⟨rfl, rfl⟩
theorem bytes_syms {b : List Int} (hb : isBytes b = true) : (symsR b).all isSym = true ∧ (symsR b).flatMap putR = b := by
  have h := each_back hb b.length 0 (by omega)
  simpa [symsR, eachAll] using h
theorem low_bits (y : Int) : IntKind.u8.wrap (((BitVec.ofInt 8 128 ||| BitVec.ofInt 8 (IntKind.u8.wrap ((BitVec.ofInt 8 (IntKind.u8.wrap y) &&& BitVec.ofInt 8 63).toNat : Nat))).toNat : Nat) : Int) = 128 + y % 64 := by
  have key : ∀ k : Fin 256, IntKind.u8.wrap (((BitVec.ofInt 8 128 ||| BitVec.ofInt 8 (IntKind.u8.wrap ((BitVec.ofInt 8 ((k.val : Nat) : Int) &&& BitVec.ofInt 8 63).toNat : Nat))).toNat : Nat) : Int) = 128 + ((k.val : Nat) : Int) % 64 := by decide +kernel
  have hw : IntKind.u8.wrap y = y % 256 := IntKind.wrap_u8 y
  have h0 : 0 ≤ y % 256 := Int.emod_nonneg y (by omega)
  have h1 : y % 256 < 256 := Int.emod_lt_of_pos y (by omega)
  have hk := key ⟨(y % 256).toNat, by omega⟩
  rw [hw]
  have e : (((y % 256).toNat : Nat) : Int) = y % 256 := Int.toNat_of_nonneg h0
  simp only [e] at hk
  rw [hk]
  omega
theorem high_two {q : Int} (h0 : 0 ≤ q) (h1 : q < 32) : IntKind.u8.wrap (((BitVec.ofInt 8 192 ||| BitVec.ofInt 8 (IntKind.u8.wrap q)).toNat : Nat) : Int) = 192 + q := by
  have key : ∀ k : Fin 32, IntKind.u8.wrap (((BitVec.ofInt 8 192 ||| BitVec.ofInt 8 (IntKind.u8.wrap ((k.val : Nat) : Int))).toNat : Nat) : Int) = 192 + ((k.val : Nat) : Int) := by decide +kernel
  have hk := key ⟨q.toNat, by omega⟩
  have e : ((q.toNat : Nat) : Int) = q := Int.toNat_of_nonneg h0
  simpa only [e] using hk
theorem high_three {q : Int} (h0 : 0 ≤ q) (h1 : q < 16) : IntKind.u8.wrap (((BitVec.ofInt 8 224 ||| BitVec.ofInt 8 (IntKind.u8.wrap q)).toNat : Nat) : Int) = 224 + q := by
  have key : ∀ k : Fin 16, IntKind.u8.wrap (((BitVec.ofInt 8 224 ||| BitVec.ofInt 8 (IntKind.u8.wrap ((k.val : Nat) : Int))).toNat : Nat) : Int) = 224 + ((k.val : Nat) : Int) := by decide +kernel
  have hk := key ⟨q.toNat, by omega⟩
  have e : ((q.toNat : Nat) : Int) = q := Int.toNat_of_nonneg h0
  simpa only [e] using hk
theorem high_four {q : Int} (h0 : 0 ≤ q) (h1 : q < 8) : IntKind.u8.wrap (((BitVec.ofInt 8 240 ||| BitVec.ofInt 8 (IntKind.u8.wrap q)).toNat : Nat) : Int) = 240 + q := by
  have key : ∀ k : Fin 8, IntKind.u8.wrap (((BitVec.ofInt 8 240 ||| BitVec.ofInt 8 (IntKind.u8.wrap ((k.val : Nat) : Int))).toNat : Nat) : Int) = 240 + ((k.val : Nat) : Int) := by decide +kernel
  have hk := key ⟨q.toNat, by omega⟩
  have e : ((q.toNat : Nat) : Int) = q := Int.toNat_of_nonneg h0
  simpa only [e] using hk
theorem cap1 : capB 1 = 140737488355328 := by decide
theorem App2_E {x : Int} (h : (128 ≤ x ∧ x ≤ 55295) ∨ (57344 ≤ x ∧ x ≤ 1114111)) : E C 51 [.own 0 0 5 ([] : List Dat), .int .i32 x] = some [.list ((Go.Lib.encodeRuneZ x).map .int)] := by
  apply o51
  have hu : IntKind.u32.wrap x = x := IntWalk.u32_in x (by omega)
  have f6 : x.fdiv (2 ^ 6) = x / 64 := by rw [Int.fdiv_eq_ediv_of_nonneg _ (by decide)]; rfl
  have f12 : x.fdiv (2 ^ 12) = x / 4096 := by rw [Int.fdiv_eq_ediv_of_nonneg _ (by decide)]; rfl
  have f18 : x.fdiv (2 ^ 18) = x / 262144 := by rw [Int.fdiv_eq_ediv_of_nonneg _ (by decide)]; rfl
  simp only [hu, f6, f12, f18, low_bits, List.nil_append, List.length_nil, List.length_cons, cap1]
  by_cases h1 : x ≤ 2047
  · rw [Go.Lib.encodeRuneZ_two (by omega) h1, high_two (q := x / 64) (by omega) (by omega)]
    rw [dT h1, dT (by omega)]
    rfl
  by_cases h2 : x ≤ 65535
  · rw [Go.Lib.encodeRuneZ_three (by omega), high_three (q := x / 4096) (by omega) (by omega)]
    by_cases h3 : x < 55296
    · repeat (first | rw [dT (by omega)] | rw [dF (by omega)])
      rfl
    · repeat (first | rw [dT (by omega)] | rw [dF (by omega)])
      rfl
  · rw [Go.Lib.encodeRuneZ_four (by omega) (by omega), high_four (q := x / 262144) (by omega) (by omega)]
    repeat (first | rw [dT (by omega)] | rw [dF (by omega)])
    rfl
theorem App_E {x : Int} (h : (0 ≤ x ∧ x ≤ 55295) ∨ (57344 ≤ x ∧ x ≤ 1114111)) : E C 42 [.own 0 0 5 ([] : List Dat), .int .i32 x] = some [.list ((Go.Lib.encodeRuneZ x).map .int)] := by
  apply o42
  have hu : IntKind.u32.wrap x = x := IntWalk.u32_in x (by omega)
  rw [hu]
  simp only [List.length_nil, List.length_cons, cap1, List.nil_append]
  by_cases h1 : x ≤ 127
  · rw [dT h1, dT (by omega), Go.Lib.encodeRuneZ_one (by omega) h1, IntWalk.u8_in x (by omega)]
    rfl
  · rw [dF h1, bT (App2_E (by omega))]
    rfl
theorem Is_E (x : Int) : E C 25 [.int .i64 x] = some [.bool (isSym x)] := by
  apply o25
  by_cases h0 : x < 0
  · rw [dT h0, isSym_false (x := x) (by omega)]
  rw [dF h0]
  by_cases h1 : x > 1114367
  · rw [dT h1, isSym_false (x := x) (by omega)]
  rw [dF h1]
  by_cases h2 : x > 1114111
  · rw [dT h2, isSym_dec (x := x) (by omega)]
  rw [dF h2]
  by_cases h3 : x < 55296
  · rw [dT h3, isSym_true (x := x) (by omega)]
  · rw [dF h3, isSym_dec (x := x) (by omega)]
theorem Put_E {x : Int} (h : isSym x = true) : E C 23 [.int .i64 x] = some [.list ((putR x).map .int), .int 0] := by
  have hx := (isSym_iff x).mp h
  apply o23
  rw [bT (Is_E x), h]
  simp only [rd0, datB, Bool.not_true, cond_false]
  unfold putR
  by_cases h1 : x > 1114111
  · rw [dT h1, if_pos h1, w64 (by omega) (by omega), IntWalk.u8_in _ (by omega)]
    rfl
  · rw [dF h1, if_neg h1, IntWalk.i32_in x (by omega), bT (App_E (by omega))]
    rfl
theorem RefPut_E {x : Int} (h : isSym x = true) : E C 26 [.int .i64 x] = some [.list ((putR x).map .int)] := by
  have hx := (isSym_iff x).mp h
  have h0 : 0 ≤ x := by omega
  have d1 : Int.tdiv x 64 = x / 64 := Int.tdiv_eq_ediv_of_nonneg h0
  have d2 : Int.tdiv x 4096 = x / 4096 := Int.tdiv_eq_ediv_of_nonneg h0
  have d3 : Int.tdiv x 262144 = x / 262144 := Int.tdiv_eq_ediv_of_nonneg h0
  have m1 : Int.tmod x 64 = x % 64 := Int.tmod_eq_emod_of_nonneg h0
  apply o26
  unfold putR
  rw [d1, d2, d3, m1, w64 (n := x / 64) (by omega) (by omega), w64 (n := x / 4096) (by omega) (by omega), w64 (n := x / 262144) (by omega) (by omega)]
  have m2 : Int.tmod (x / 64) 64 = x / 64 % 64 := Int.tmod_eq_emod_of_nonneg (by omega)
  have m3 : Int.tmod (x / 4096) 64 = x / 4096 % 64 := Int.tmod_eq_emod_of_nonneg (by omega)
  rw [m2, m3]
  by_cases h1 : x > 1114111
  · rw [dT (by omega), if_pos h1, w64 (n := x - 1114112) (by omega) (by omega), IntWalk.u8_in _ (by omega)]
    rfl
  rw [dF (by omega), if_neg h1]
  by_cases h2 : x < 128
  · rw [dT h2, Go.Lib.encodeRuneZ_one h0 (by omega), IntWalk.u8_in _ (by omega)]
    rfl
  rw [dF h2, w64 (n := 128 + x % 64) (by omega) (by omega), IntWalk.u8_in (128 + x % 64) (by omega)]
  by_cases h3 : x < 2048
  · rw [dT h3, Go.Lib.encodeRuneZ_two (by omega) (by omega), w64 (n := 192 + x / 64) (by omega) (by omega), IntWalk.u8_in (192 + x / 64) (by omega)]
    rfl
  rw [dF h3, w64 (n := 128 + x / 64 % 64) (by omega) (by omega), IntWalk.u8_in (128 + x / 64 % 64) (by omega)]
  by_cases h4 : x < 65536
  · rw [dT h4, Go.Lib.encodeRuneZ_three (by omega), w64 (n := 224 + x / 4096) (by omega) (by omega), IntWalk.u8_in (224 + x / 4096) (by omega)]
    rfl
  rw [dF h4, Go.Lib.encodeRuneZ_four (by omega) (by omega), w64 (n := 240 + x / 262144) (by omega) (by omega), IntWalk.u8_in (240 + x / 262144) (by omega), w64 (n := 128 + x / 4096 % 64) (by omega) (by omega), IntWalk.u8_in (128 + x / 4096 % 64) (by omega)]
  rfl
theorem Bytes_loop (l : List Int) (hl : l.length ≤ 1000000) (hs : l.all isSym = true) (v2 : List Dat) (v3 : Int) : ∀ (d k : Nat), l.length - k = d → k ≤ l.length →
    M27_1 (l.map .int) v2 v3 (((l.take k).flatMap putR).map .int) (l.map .int) (l.length : Int) (k : Int) = some [.list ((l.flatMap putR).map .int), .int 0] := by
  intro d
  induction d with
  | zero =>
    intro k hd hk
    obtain rfl : k = l.length := by omega
    apply M27_1_of
    rw [dF (by omega), List.take_length]
  | succ d ih =>
    intro k hd hk
    have hlt : k < l.length := by omega
    have hx : isSym l[k] = true := List.all_eq_true.1 hs _ (List.getElem_mem hlt)
    have hf : ((l.take k).flatMap putR).length ≤ 4 * (l.take k).length := flat_length (List.all_eq_true.2 fun x hx => List.all_eq_true.1 hs x (List.mem_of_mem_take hx))
    have ht : (l.take k).length ≤ k := by simp; omega
    have hp := (putR_bytes hx).2.2
    have hc := cap1
    apply M27_1_of
    simp only [List.length_map, Int.toNat_natCast, rdI]
    have e : l.getD k 0 = l[k] := by simp [List.getD_eq_getElem?_getD, hlt]
    rw [dT (by omega), dT (by omega), dT (by omega), dT (by omega), e, bT (Put_E hx)]
    simp only [rd0, rd1, datI, datL, List.length_map]
    rw [cF (by rfl), dT (by omega), w64 (by omega) (by omega)]
    have := ih (k + 1) (by omega) (by omega)
    rw [List.take_succ_eq_append_getElem hlt, List.flatMap_append, List.map_append] at this
    simpa using this
theorem Bytes_E (l : List Int) (hl : l.length ≤ 1000000) (hs : l.all isSym = true) : E C 27 [.shr 3 (l.map .int)] = some [.list ((l.flatMap putR).map .int), .int 0] := by
  apply o27
  rw [List.length_map]
  exact Bytes_loop l hl hs [] 0 l.length 0 (by omega) (by omega)
/-- The bytes from a place up to another one. -/
def partR (l : List Int) (i j : Int) : List Int := ((l.take (if (l.length : Int) < j then (l.length : Int) else j).toNat).drop (if 0 > i then 0 else i).toNat).flatMap putR
theorem Part_E (l : List Int) (hl : l.length ≤ 1000000) (hs : l.all isSym = true) (i j : Int) : E C 39 [.agg [.shr 3 (l.map .int)], .int .i64 i, .int .i64 j] = some [.list ((partR l i j).map .int)] := by
  apply o39
  unfold partR
  simp only [List.length_map]
  generalize ha : (if 0 > i then 0 else i) = a
  generalize hb : (if (l.length : Int) < j then (l.length : Int) else j) = b
  have ha0 : 0 ≤ a := by rw [← ha]; split <;> omega
  have hb0 : b ≤ (l.length : Int) := by rw [← hb]; split <;> omega
  by_cases h : a ≥ b
  · rw [dT h, List.drop_of_length_le (by rw [List.length_take]; omega)]
    rfl
  · have e : ((l.map Dat.int).take b.toNat).drop a.toNat = ((l.take b.toNat).drop a.toNat).map .int := by rw [List.map_drop, List.map_take]
    rw [dF h, dT ha0, dT (by omega), dT hb0, e, bT (Bytes_E _ (by simp; omega) (List.all_eq_true.2 fun x hx => List.all_eq_true.1 hs x (List.mem_of_mem_take (List.mem_of_mem_drop hx))))]
    rfl
theorem Sym_loop (b l : List Int) (hl : l.length ≤ 1000000) (hs : l.all isSym = true) (at_ to : Int) (hf : l.flatMap putR = b) (v6 : Bool) (a j : Nat) (ha : (if 0 > at_ then 0 else at_).toNat = a) (hj : (if (l.length : Int) < to then (l.length : Int) else to).toNat = j) (hj0 : (if (l.length : Int) < to then (l.length : Int) else to) = (j : Int)) : ∀ (d k : Nat), j - k = d → k ≤ j → a ≤ k →
    M14_1 (b.map .int) at_ to v6 (l.map .int) 0 (l.map .int) ((((l.take k).drop a).flatMap putR).map .int) (k : Int) = some [.bool true] := by
  have hjl : j ≤ l.length := by
    have : (if (l.length : Int) < to then (l.length : Int) else to) ≤ (l.length : Int) := by split <;> omega
    omega
  intro d
  induction d with
  | zero =>
    intro k hd hk hak
    obtain rfl : k = j := by omega
    apply M14_1_of
    simp only [List.length_map]
    rw [hj0, dF (by omega), eT rfl, bT (Len_E _)]
    simp only [rd0, datI, List.length_map]
    rw [eT rfl, bT (At2_E l _), bT (RefAt13_E l _)]
    simp only [rd0, datI]
    rw [eT rfl, bT (Part_E l hl hs _ _)]
    have e1 : partR l at_ to = ((l.take k).drop a).flatMap putR := by
      unfold partR
      rw [hj, ha]
    simp only [rd0, datL]
    rw [e1, cT (by simp), bT (Part_E l hl hs _ _)]
    have e2 : partR l 0 (l.length : Int) = b := by
      unfold partR
      rw [if_neg (by omega), if_neg (by omega), Int.toNat_natCast, List.take_length]
      exact hf
    rw [e2]
    simp
  | succ d ih =>
    intro k hd hk hak
    have hlt : k < l.length := by omega
    have hx : isSym l[k] = true := List.all_eq_true.1 hs _ (List.getElem_mem hlt)
    have hall : ((l.take k).drop a).all isSym = true := List.all_eq_true.2 fun x hx => List.all_eq_true.1 hs x (List.mem_of_mem_take (List.mem_of_mem_drop hx))
    have hfl := flat_length hall
    have ht : ((l.take k).drop a).length ≤ k := by simp; omega
    have hp := (putR_bytes hx).2.2
    have hc := cap1
    apply M14_1_of
    simp only [List.length_map, Int.toNat_natCast, rdI]
    have e : l.getD k 0 = l[k] := by simp [List.getD_eq_getElem?_getD, hlt]
    rw [hj0, dT (by omega), dT (by omega), dT (by omega), dT (by omega), e, bT (RefPut_E hx)]
    simp only [rd0, datL, List.length_map]
    rw [dT (by omega), w64 (by omega) (by omega)]
    have := ih (k + 1) (by omega) (by omega) (by omega)
    rw [List.take_succ_eq_append_getElem hlt, List.drop_append_of_le_length (by rw [List.length_take]; omega), List.flatMap_append, List.map_append] at this
    simpa using this
theorem TextSymbols_pure (e0 e1 e2 : Dat) (h0 : fitT C.T 9 22 e0) (h1 : fitT C.T 9 3 e1) (h2 : fitT C.T 9 3 e2) : E C 14 [.shr 5 e0.L, .int .i64 e1.I, .int .i64 e2.I] = some [.bool true] := by
  obtain ⟨b, rfl, hb, hbl⟩ := fit_bytes h0
  apply o14
  rw [bT anchor_E]
  simp only [rd0, datB, datL, Bool.not_true, cond_false, List.length_map]
  by_cases g : (b.length : Int) > 5000
  · rw [dT g]
  have hsl := symsR_length (b := b)
  rw [dF g, bT (New_ok hb (by omega)), bT (RefAll_E hb (by omega))]
  simp only [rd0, rd1, datI, datL]
  obtain ⟨hs, hf⟩ := bytes_syms hb
  have hL : ((Dat.agg [Dat.list ((symsR b).map .int)]).C 0).L = (symsR b).map .int := rfl
  rw [hL]
  generalize ha : (if 0 > e1.I then 0 else e1.I) = a
  have ha0 : 0 ≤ a := by rw [← ha]; split <;> omega
  obtain ⟨a', rfl⟩ : ∃ m : Nat, a = (m : Int) := ⟨a.toNat, by omega⟩
  generalize hj : (if ((symsR b).length : Int) < e2.I then ((symsR b).length : Int) else e2.I) = j
  by_cases hcmp : (a' : Int) < j
  · obtain ⟨j', rfl⟩ : ∃ m : Nat, j = (m : Int) := ⟨j.toNat, by omega⟩
    have := Sym_loop b (symsR b) (by omega) hs e1.I e2.I hf false a' j' (by rw [ha]; rfl) (by rw [hj]; rfl) hj (j' - a') a' rfl (by omega) (Nat.le_refl _)
    rw [List.drop_of_length_le (by rw [List.length_take]; omega)] at this
    exact this
  · apply M14_1_of
    simp only [List.length_map]
    rw [hj, dF hcmp, eT rfl, bT (Len_E _)]
    simp only [rd0, datI, List.length_map]
    rw [eT rfl, bT (At2_E (symsR b) _), bT (RefAt13_E (symsR b) _)]
    simp only [rd0, datI]
    rw [eT rfl, bT (Part_E (symsR b) (by omega) hs _ _)]
    have e1' : partR (symsR b) e1.I e2.I = [] := by
      unfold partR
      rw [hj, ha, List.drop_of_length_le (by rw [List.length_take]; omega)]
      rfl
    simp only [rd0, datL]
    rw [e1', cT (by simp), bT (Part_E (symsR b) (by omega) hs _ _)]
    have e2' : partR (symsR b) 0 ((symsR b).length : Int) = b := by
      unfold partR
      rw [if_neg (by omega), if_neg (by omega), Int.toNat_natCast, List.take_length]
      exact hf
    rw [e2']
    simp
end Go.Proofs.YtjgbhajaiifimaaDoor.V
