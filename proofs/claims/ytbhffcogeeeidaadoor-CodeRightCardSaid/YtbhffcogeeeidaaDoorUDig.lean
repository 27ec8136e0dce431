/- The law's own numerals are the library's. -/
import Derived.Test.YtbhffcogeeeidaaDoorUTre
import Derived.Test.YtbhffcogeeeidaaDoorVRLdigits
namespace Go.Proofs.YtbhffcogeeeidaaDoor.V
open Go Go.Ev Go.RowKit
set_option linter.unusedVariables false
set_option linter.unusedSimpArgs false
theorem bsA (a b : List UInt8) : bs a ++ bs b = bs (a ++ b) := by
  apply ByteArray.ext
  rw [ByteArray.data_append]
  simp [bs]
theorem bsZ (s : List UInt8) : (bs s).size = s.length := by show s.toArray.size = _; simp
theorem bsL (s : List UInt8) : (bs s).toList = s := by
  rw [ByteArray.toList_eq]
  simp [bs]
theorem bsE : ByteArray.empty = bs [] := rfl
theorem enc_dig : ∀ k : Nat, k < 10 → Utf8.encode (bt (bs [48, 49, 50, 51, 52, 53, 54, 55, 56, 57]) k) = bs [UInt8.ofNat (48 + k)]
  | 0, _ => by kernel_rfl
  | 1, _ => by kernel_rfl
  | 2, _ => by kernel_rfl
  | 3, _ => by kernel_rfl
  | 4, _ => by kernel_rfl
  | 5, _ => by kernel_rfl
  | 6, _ => by kernel_rfl
  | 7, _ => by kernel_rfl
  | 8, _ => by kernel_rfl
  | 9, _ => by kernel_rfl
  | k + 10, h => by omega
theorem dig_done (s : List UInt8) (hs : s ≠ []) (v2 : ByteArray) : M10_1 0 v2 (bs s) = some [.str (bs s)] := by
  apply M10_1_of
  rw [dF (by omega), bsL, bsE, bsL]
  rw [beq_eq_false_iff_ne.2 hs]
  rfl
theorem dec_small {n : Nat} (h : n < 10) : Go.Lib.decDigits n = [UInt8.ofNat (48 + n)] := by rw [Go.Lib.decDigits, dif_pos h]
theorem dec_big {n : Nat} (h : ¬ n < 10) : Go.Lib.decDigits n = Go.Lib.decDigits (n / 10) ++ [UInt8.ofNat (48 + n % 10)] := by rw [Go.Lib.decDigits, dif_neg h]
theorem dig_loop (v2 : ByteArray) : ∀ (k n : Nat) (s : List UInt8), n < 10 ^ k → 0 < n → n ≤ 9223372036854775807 → s.length + k ≤ 100 → M10_1 (n : Int) v2 (bs s) = some [.str (bs (Go.Lib.decDigits n ++ s))]
  | 0, n, s, h1, h2, h3, h4 => by simp at h1; omega
  | k + 1, n, s, h1, h2, h3, h4 => by
    have em : ((n : Int)).tmod 10 = ((n % 10 : Nat) : Int) := by rw [show (10 : Int) = ((10 : Nat) : Int) from rfl, ← Int.ofNat_tmod]
    have ed : IntKind.i64.wrap (((n : Int)).tdiv 10) = ((n / 10 : Nat) : Int) := by
      rw [show (10 : Int) = ((10 : Nat) : Int) from rfl, ← Int.ofNat_tdiv, w64 (by omega) (by omega)]
    apply M10_1_of
    rw [em, ed, dT (by omega), dT (by omega), bsZ, dT (by show ((n % 10 : Nat) : Int) < 10; omega), Int.toNat_natCast, enc_dig _ (by omega), bsZ, bsZ, dT (by simp only [List.length_cons, List.length_nil]; omega), bsA]
    by_cases hb : n < 10
    · rw [show n / 10 = 0 by omega]
      rw [dec_small hb, show n % 10 = n by omega]
      exact dig_done _ (by simp) v2
    · rw [dig_loop v2 k (n / 10) _ (by rw [Nat.pow_succ] at h1; omega) (by omega) (by omega) (by simp only [List.length_append, List.length_cons, List.length_nil]; omega), dec_big hb, List.append_assoc]
theorem dig_pos (n : Nat) (h : n ≤ 9223372036854775807) (v2 : ByteArray) : M10_1 (n : Int) v2 ByteArray.empty = some [.str (bs (Go.Lib.decDigits n))] := by
  by_cases h0 : n = 0
  · subst h0
    apply M10_1_of
    rw [dF (by omega), show (((0 : Nat) : Int)).tmod 10 = ((0 : Nat) : Int) from rfl, Int.toNat_natCast, enc_dig 0 (by omega), bsZ, bsE, bsA, beq_self_eq_true, cond_true, dT (by omega), dT (by show (0 : Int) < 10; omega), dT (by decide), dec_small (by omega)]
    exact dig_done [48] (by simp) v2
  · have := dig_loop v2 20 n [] (by omega) (by omega) h (by simp)
    rw [List.append_nil] at this
    exact this
theorem dec_len (k n : Nat) (h : n < 10 ^ (k + 1)) : (Go.Lib.decDigits n).length ≤ k + 1 := by
  induction k generalizing n with
  | zero =>
    rw [dec_small (by simpa using h)]
    simp
  | succ k ih =>
    by_cases hb : n < 10
    · rw [dec_small hb]; simp
    · rw [dec_big hb, List.length_append]
      have := ih (n / 10) (by rw [Nat.pow_succ] at h; omega)
      simp only [List.length_cons, List.length_nil]
      omega
theorem itoa_len (n : Int) (h : i64P n) : (Go.Lib.itoa n).length ≤ 30 := by
  unfold i64P at h
  unfold Go.Lib.itoa
  split
  · have := dec_len 20 n.natAbs (by omega)
    rw [List.length_cons]
    omega
  · have := dec_len 20 n.toNat (by omega)
    omega
theorem itoa_least : Go.Lib.itoa (-9223372036854775808) = [45, 57, 50, 50, 51, 51, 55, 50, 48, 51, 54, 56, 53, 52, 55, 55, 53, 56, 48, 56] := by
  unfold Go.Lib.itoa
  rw [if_pos (by decide)]
  show 45 :: Go.Lib.decDigits 9223372036854775808 = _
  simp [Go.Lib.decDigits]
theorem digits_E (n : Int) (h : i64P n) : E C 10 [.int .i64 n] = some [.str (bs (Go.Lib.itoa n))] := by
  unfold i64P at h
  have pos : ∀ m : Int, 0 ≤ m → m ≤ 9223372036854775807 → E C 10 [.int .i64 m] = some [.str (bs (Go.Lib.decDigits m.toNat))] := by
    intro m h0 h1
    apply o10
    rw [eF (by omega), dF (by omega)]
    have := dig_pos m.toNat (by omega) ByteArray.empty
    rw [show ((m.toNat : Nat) : Int) = m by omega] at this
    exact this
  by_cases h0 : n < 0
  · apply o10
    by_cases h1 : n = -9223372036854775808
    · rw [eT h1, h1, itoa_least]
    · rw [eF h1, dT h0, w64 (n := 0 - n) (by omega) (by omega), bT (pos (0 - n) (by omega) (by omega))]
      have hl := itoa_len n h
      unfold Go.Lib.itoa at hl ⊢
      rw [if_pos h0] at hl ⊢
      have e : (0 - n).toNat = n.natAbs := by omega
      rw [e]
      simp only [rd0, datS]
      rw [bsZ, bsZ, dT (by simp only [List.length_cons, List.length_nil] at hl ⊢; omega), bsA]
      rfl
  · rw [pos n (by omega) h.2]
    unfold Go.Lib.itoa
    rw [if_neg h0]
end Go.Proofs.YtbhffcogeeeidaaDoor.V
