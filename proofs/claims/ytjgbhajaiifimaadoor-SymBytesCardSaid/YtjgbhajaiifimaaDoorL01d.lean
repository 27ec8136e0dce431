/- Chapter 01 in plain Lean, fourth part: symbols' bytes. -/
import Derived.Test.YtjgbhajaiifimaaDoorL01b
import Derived.Test.YtjgbhajaiifimaaDoorGAppendRune
import Derived.Test.YtjgbhajaiifimaaDoorPx3
import Derived.Test.YtjgbhajaiifimaaDoorPx4
namespace Go.Proofs.YtjgbhajaiifimaaDoor.P
open Go.RowKit Go.Proofs.YtjgbhajaiifimaaDoorW.PrintWords Go.Proofs.YtjgbhajaiifimaaDoorW.PrintLast Go.Proofs.YtjgbhajaiifimaaDoorW.PrintMore
set_option linter.unusedVariables false
set_option linter.unusedSimpArgs false

/-- Is a number a symbol? -/
def isSym (x : Int) : Bool := decide ((0 ≤ x ∧ x ≤ 55295) ∨ (57344 ≤ x ∧ x ≤ 1114111) ∨ (1114240 ≤ x ∧ x ≤ 1114367))
/-- A symbol's bytes. -/
def putR (x : Int) : List Int := if x > 1114111 then [x - 1114112] else Go.Lib.encodeRuneZ x
theorem isSym_iff (x : Int) : isSym x = true ↔ (0 ≤ x ∧ x ≤ 55295) ∨ (57344 ≤ x ∧ x ≤ 1114111) ∨ (1114240 ≤ x ∧ x ≤ 1114367) := by
  unfold isSym
  exact decide_eq_true_iff
theorem isSym_dec {x : Int} {c : Prop} [Decidable c] (h : c ↔ (0 ≤ x ∧ x ≤ 55295) ∨ (57344 ≤ x ∧ x ≤ 1114111) ∨ (1114240 ≤ x ∧ x ≤ 1114367)) : decide c = isSym x := by
  unfold isSym
  exact decide_eq_decide.mpr h
theorem isSym_true {x : Int} (h : (0 ≤ x ∧ x ≤ 55295) ∨ (57344 ≤ x ∧ x ≤ 1114111) ∨ (1114240 ≤ x ∧ x ≤ 1114367)) : true = isSym x := ((isSym_iff x).mpr h).symm
theorem isSym_false {x : Int} (h : ¬ ((0 ≤ x ∧ x ≤ 55295) ∨ (57344 ≤ x ∧ x ≤ 1114111) ∨ (1114240 ≤ x ∧ x ≤ 1114367))) : false = isSym x := (Bool.eq_false_iff.mpr (fun e => h ((isSym_iff x).mp e))).symm
theorem sym_Is_eq (x : Int) (k : Nat) : sym_Is.f (k + 1) x = some (isSym x) := by
  unfold sym_Is.f
  by_cases h0 : x < 0
  · rw [if_pos h0]
    simp only [sym_Is.j0]
    rw [if_pos trivial, isSym_false (x := x) (by omega)]
  · rw [if_neg h0]
    by_cases h1 : x > 1114367
    · rw [decide_eq_true h1]
      simp only [sym_Is.j0]
      rw [if_pos trivial, isSym_false (x := x) (by omega)]
    · rw [decide_eq_false h1]
      simp only [sym_Is.j0]
      rw [if_neg (by simp)]
      by_cases h2 : x > 1114111
      · rw [if_pos h2, isSym_dec (x := x) (by omega)]
      · rw [if_neg h2]
        by_cases h3 : x < 55296
        · rw [if_pos h3, isSym_true (x := x) (by omega)]
        · rw [if_neg h3, isSym_dec (x := x) (by omega)]
theorem RefIs_eq (x : Int) : clewref01_Is.f x = some (isSym x) := by
  unfold clewref01_Is.f
  repeat' split
  all_goals first
    | exact congrArg some (isSym_true (by omega))
    | exact congrArg some (isSym_false (by omega))
    | exact congrArg some (isSym_dec (by omega))
theorem sym_Put_eq {x : Int} (h : isSym x = true) (k : Nat) : sym_Put.f (k + 1) x = some (putR x, 0) := by
  have hx := (isSym_iff x).mp h
  unfold sym_Put.f putR
  rw [sym_Is_eq, Option.bind_some, h, if_pos rfl]
  by_cases h1 : x > 1114111
  · rw [if_pos h1, if_pos h1, w64 (by omega) (by omega)]
    congr 3
    omega
  · have e : wrap32 x = x := by unfold wrap32; omega
    rw [if_neg h1, if_neg h1, e]
    unfold utf8_AppendRune.f
    rw [if_pos ⟨by omega, by omega⟩, Option.bind_some]
theorem sym_Put_no {x : Int} (h : isSym x = false) (k : Nat) : sym_Put.f (k + 1) x = some ([], 10) := by
  unfold sym_Put.f
  rw [sym_Is_eq, Option.bind_some, h, if_neg (by simp)]
theorem RefPut_eq {x : Int} (h : isSym x = true) : clewref01_Put.f x = some (putR x) := by
  have hx := (isSym_iff x).mp h
  have h0 : 0 ≤ x := by omega
  have d1 : Int.tdiv x 64 = x / 64 := Int.tdiv_eq_ediv_of_nonneg h0
  have d2 : Int.tdiv x 4096 = x / 4096 := Int.tdiv_eq_ediv_of_nonneg h0
  have d3 : Int.tdiv x 262144 = x / 262144 := Int.tdiv_eq_ediv_of_nonneg h0
  have m1 : Int.tmod x 64 = x % 64 := Int.tmod_eq_emod_of_nonneg h0
  unfold clewref01_Put.f putR
  rw [d1, d2, d3, m1, w64 (n := x / 64) (by omega) (by omega), w64 (n := x / 4096) (by omega) (by omega), w64 (n := x / 262144) (by omega) (by omega)]
  have m2 : Int.tmod (x / 64) 64 = x / 64 % 64 := Int.tmod_eq_emod_of_nonneg (by omega)
  have m3 : Int.tmod (x / 4096) 64 = x / 4096 % 64 := Int.tmod_eq_emod_of_nonneg (by omega)
  rw [m2, m3]
  by_cases h1 : x > 1114111
  · rw [if_pos (by omega), if_pos h1, w64 (by omega) (by omega)]
    congr 2
    omega
  · rw [if_neg (by omega), if_neg h1]
    by_cases h2 : x < 128
    · rw [if_pos h2, Go.Lib.encodeRuneZ_one h0 (by omega)]
      congr 2
      omega
    · rw [if_neg h2]
      by_cases h3 : x < 2048
      · rw [if_pos h3, Go.Lib.encodeRuneZ_two (by omega) (by omega), w64 (n := 192 + x / 64) (by omega) (by omega), w64 (n := 128 + x % 64) (by omega) (by omega)]
        congr 2
        · omega
        · congr 1
          omega
      · rw [if_neg h3]
        by_cases h4 : x < 65536
        · rw [if_pos h4, Go.Lib.encodeRuneZ_three (by omega), w64 (n := 224 + x / 4096) (by omega) (by omega), w64 (n := 128 + x / 64 % 64) (by omega) (by omega), w64 (n := 128 + x % 64) (by omega) (by omega)]
          congr 2
          · omega
          · congr 1
            · omega
            · congr 1
              omega
        · rw [if_neg h4, Go.Lib.encodeRuneZ_four (by omega) (by omega), w64 (n := 240 + x / 262144) (by omega) (by omega), w64 (n := 128 + x / 4096 % 64) (by omega) (by omega), w64 (n := 128 + x / 64 % 64) (by omega) (by omega), w64 (n := 128 + x % 64) (by omega) (by omega)]
          congr 2
          · omega
          · congr 1
            · omega
            · congr 1
              · omega
              · congr 1
                omega
theorem putR_bytes {x : Int} (h : isSym x = true) : isBytes (putR x) = true ∧ 1 ≤ (putR x).length ∧ (putR x).length ≤ 4 := by
  have hx := (isSym_iff x).mp h
  unfold putR
  by_cases h1 : x > 1114111
  · rw [if_pos h1]
    unfold isBytes
    simp
    omega
  · rw [if_neg h1]
    refine ⟨?_, Go.Lib.encodeRuneZ_length x⟩
    unfold isBytes
    rw [List.all_eq_true]
    intro y hy
    have := Go.Lib.encodeRuneZ_byte x y hy
    simp only [Bool.and_eq_true, decide_eq_true_eq]
    exact this
theorem symN_short {n c b1 b2 b3 : Nat} (hn : n ≤ 1) (hc : 128 ≤ c) : symN n c b1 b2 b3 = (1114112 + (c : Int), 1) := by
  have e : Go.Lib.decodeN n c b1 b2 b3 = (65533, 1) := by
    unfold Go.Lib.decodeN
    rw [if_neg (by omega), if_neg (by omega), if_neg (by omega), if_neg (by omega)]
  unfold symN
  rw [e, if_pos ⟨rfl, Nat.le_refl _⟩]
/-- A symbol is read again from its bytes. -/
theorem back_put {x : Int} (h : isSym x = true) : symR (putR x) 0 = (x, ((putR x).length : Int)) := by
  have hx := (isSym_iff x).mp h
  have hp := putR_bytes h
  unfold symR symA
  rw [if_pos ⟨by omega, by omega⟩]
  simp only [Int.toNat_zero, Nat.sub_zero, Nat.zero_add]
  unfold putR
  by_cases h1 : x > 1114111
  · rw [if_pos h1]
    obtain ⟨n0, g0⟩ : ∃ n : Nat, (n : Int) = x - 1114112 := ⟨_, Int.toNat_of_nonneg (by omega)⟩
    have e0 : bn [x - 1114112] 0 = n0 := by
      show (x - 1114112).toNat = n0
      omega
    rw [e0, symN_short (by simp) (by omega)]
    simp only [List.length_cons, List.length_nil, Prod.mk.injEq]
    omega
  · rw [if_neg h1]
    by_cases h2 : x < 128
    · rw [Go.Lib.encodeRuneZ_one (by omega) (by omega)]
      obtain ⟨n0, g0⟩ : ∃ n : Nat, (n : Int) = x := ⟨_, Int.toNat_of_nonneg (by omega)⟩
      have e0 : bn [x] 0 = n0 := by
        show x.toNat = n0
        omega
      rw [e0, symN_one (by omega)]
      simp only [List.length_cons, List.length_nil, Prod.mk.injEq]
      omega
    · by_cases h3 : x < 2048
      · rw [Go.Lib.encodeRuneZ_two (by omega) (by omega)]
        obtain ⟨n0, g0⟩ : ∃ n : Nat, (n : Int) = 192 + x / 64 := ⟨_, Int.toNat_of_nonneg (by omega)⟩
        obtain ⟨n1, g1⟩ : ∃ n : Nat, (n : Int) = 128 + x % 64 := ⟨_, Int.toNat_of_nonneg (by omega)⟩
        have e0 : bn [192 + x / 64, 128 + x % 64] 0 = n0 := by
          show (192 + x / 64).toNat = n0
          omega
        have e1 : bn [192 + x / 64, 128 + x % 64] 1 = n1 := by
          show (128 + x % 64).toNat = n1
          omega
        rw [e0, e1, symN_of (decode_two (by omega) (by omega)) (by omega), if_pos ⟨by simp, by omega, by omega, by omega⟩]
        rw [Prod.mk.injEq]
        refine ⟨?_, rfl⟩
        omega
      · by_cases h4 : x < 65536
        · rw [Go.Lib.encodeRuneZ_three (by omega)]
          obtain ⟨n0, g0⟩ : ∃ n : Nat, (n : Int) = 224 + x / 4096 := ⟨_, Int.toNat_of_nonneg (by omega)⟩
          obtain ⟨n1, g1⟩ : ∃ n : Nat, (n : Int) = 128 + x / 64 % 64 := ⟨_, Int.toNat_of_nonneg (by omega)⟩
          obtain ⟨n2, g2⟩ : ∃ n : Nat, (n : Int) = 128 + x % 64 := ⟨_, Int.toNat_of_nonneg (by omega)⟩
          have e0 : bn [224 + x / 4096, 128 + x / 64 % 64, 128 + x % 64] 0 = n0 := by
            show (224 + x / 4096).toNat = n0
            omega
          have e1 : bn [224 + x / 4096, 128 + x / 64 % 64, 128 + x % 64] 1 = n1 := by
            show (128 + x / 64 % 64).toNat = n1
            omega
          have e2 : bn [224 + x / 4096, 128 + x / 64 % 64, 128 + x % 64] 2 = n2 := by
            show (128 + x % 64).toNat = n2
            omega
          rw [e0, e1, e2, symN_of (decode_three (by omega) (by omega) (by omega)) (by omega), if_pos ⟨by simp, ⟨by omega, by omega⟩, ⟨by omega, by omega⟩, by omega, by omega⟩]
          rw [Prod.mk.injEq]
          refine ⟨?_, rfl⟩
          omega
        · rw [Go.Lib.encodeRuneZ_four (by omega) (by omega)]
          obtain ⟨n0, g0⟩ : ∃ n : Nat, (n : Int) = 240 + x / 262144 := ⟨_, Int.toNat_of_nonneg (by omega)⟩
          obtain ⟨n1, g1⟩ : ∃ n : Nat, (n : Int) = 128 + x / 4096 % 64 := ⟨_, Int.toNat_of_nonneg (by omega)⟩
          obtain ⟨n2, g2⟩ : ∃ n : Nat, (n : Int) = 128 + x / 64 % 64 := ⟨_, Int.toNat_of_nonneg (by omega)⟩
          obtain ⟨n3, g3⟩ : ∃ n : Nat, (n : Int) = 128 + x % 64 := ⟨_, Int.toNat_of_nonneg (by omega)⟩
          have e0 : bn [240 + x / 262144, 128 + x / 4096 % 64, 128 + x / 64 % 64, 128 + x % 64] 0 = n0 := by
            show (240 + x / 262144).toNat = n0
            omega
          have e1 : bn [240 + x / 262144, 128 + x / 4096 % 64, 128 + x / 64 % 64, 128 + x % 64] 1 = n1 := by
            show (128 + x / 4096 % 64).toNat = n1
            omega
          have e2 : bn [240 + x / 262144, 128 + x / 4096 % 64, 128 + x / 64 % 64, 128 + x % 64] 2 = n2 := by
            show (128 + x / 64 % 64).toNat = n2
            omega
          have e3 : bn [240 + x / 262144, 128 + x / 4096 % 64, 128 + x / 64 % 64, 128 + x % 64] 3 = n3 := by
            show (128 + x % 64).toNat = n3
            omega
          rw [e0, e1, e2, e3, symN_of (decode_four (by omega) (by omega) (by omega) (by omega)) (by omega), if_pos ⟨by simp, ⟨by omega, by omega⟩, ⟨by omega, by omega⟩, ⟨by omega, by omega⟩, by omega, by omega⟩]
          rw [Prod.mk.injEq]
          refine ⟨?_, rfl⟩
          omega
end Go.Proofs.YtjgbhajaiifimaaDoor.P
