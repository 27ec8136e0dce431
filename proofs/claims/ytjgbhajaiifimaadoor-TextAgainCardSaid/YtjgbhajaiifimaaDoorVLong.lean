/- TextLong: a text of more symbols than there may be is refused; one of as many isn't. -/
import Derived.Test.YtjgbhajaiifimaaDoorVAll
namespace Go.Proofs.YtjgbhajaiifimaaDoor.V
open Go Go.Ev Go.RowKit
set_option linter.unusedVariables false
set_option linter.unusedSimpArgs false
theorem tyi : C.T 3 = some ⟨1, 8, [.int .i64], false, .scal⟩ := rfl
theorem tyb : C.T 5 = some ⟨1, 1, [.int .u8], false, .scal⟩ := rfl
theorem tybs : C.T 22 = some ⟨1, 24, [.slice 5], false, .slice 5⟩ := rfl
theorem fit_u8 {k : Nat} {d : Dat} (h : fitT C.T (k + 1) 5 d) : ∃ n : Int, d = .int n ∧ 0 ≤ n ∧ n < 256 := by
  obtain ⟨n, rfl, n', h1, h2⟩ := fit_int tyb rfl rfl h
  refine ⟨n, rfl, ?_⟩
  simp only [Dat.int.injEq] at h1
  subst h1
  simp only [Lit.wf, IntKind.min, IntKind.max, IntKind.signed, IntKind.bits, Bool.and_eq_true, decide_eq_true_eq] at h2
  simp at h2
  omega
theorem fit_i64 {k : Nat} {d : Dat} (h : fitT C.T (k + 1) 3 d) : ∃ n : Int, d = .int n ∧ -9223372036854775808 ≤ n ∧ n ≤ 9223372036854775807 := by
  obtain ⟨n, rfl, n', h1, h2⟩ := fit_int tyi rfl rfl h
  refine ⟨n, rfl, ?_⟩
  simp only [Dat.int.injEq] at h1
  subst h1
  simp only [Lit.wf, IntKind.min, IntKind.max, IntKind.signed, IntKind.bits, Bool.and_eq_true, decide_eq_true_eq] at h2
  simp at h2
  omega
theorem fit_bytes {k : Nat} {d : Dat} (h : fitT C.T (k + 2) 22 d) : ∃ b : List Int, d = .list (b.map .int) ∧ isBytes b = true ∧ b.length ≤ 140737488351232 := by
  obtain ⟨l, rfl, h1, h2⟩ := fit_ints tybs tyb rfl rfl h
  refine ⟨l, rfl, ?_, by simpa using h1⟩
  unfold isBytes
  rw [List.all_eq_true]
  intro x hx
  obtain ⟨n, e, g1, g2⟩ := fit_u8 (h2 x hx)
  simp only [Dat.int.injEq] at e
  subst e
  simp [g1, g2]
theorem symA_same {b : List Int} {c : Int} (hc : 0 ≤ c ∧ c < 256) (h : ∀ i, i < b.length → b.getD i 0 = c) (n : Nat) (hn : n < b.length) : (symA b n).2 = 1 := by
  have e0 : bn b n = c.toNat := by unfold bn; rw [h n hn]
  unfold symA
  rw [e0]
  by_cases c1 : c.toNat < 128
  · rw [symN_one c1]
  by_cases c2 : c.toNat < 192
  · rw [symN_none (.inl ⟨by omega, c2⟩) (by omega)]
  have e1 : 1 < b.length - n → bn b (n + 1) = c.toNat := fun hl => by unfold bn; rw [h (n + 1) (by omega)]
  have l1 : bn b (n + 1) < 256 := by
    by_cases hl : n + 1 < b.length
    · rw [e1 (by omega)]; omega
    · unfold bn; rw [List.getD_eq_getElem?_getD, List.getElem?_eq_none (by omega)]; simp
  have l2 : bn b (n + 2) < 256 := by
    by_cases hl : n + 2 < b.length
    · unfold bn; rw [h (n + 2) hl]; omega
    · unfold bn; rw [List.getD_eq_getElem?_getD, List.getElem?_eq_none (by omega)]; simp
  have l3 : bn b (n + 3) < 256 := by
    by_cases hl : n + 3 < b.length
    · unfold bn; rw [h (n + 3) hl]; omega
    · unfold bn; rw [List.getD_eq_getElem?_getD, List.getElem?_eq_none (by omega)]; simp
  by_cases c3 : c.toNat ≤ 223
  · rw [symN_of (decode_two ⟨by omega, c3⟩ l1) (by omega), if_neg (fun g => by have := e1 g.1; omega)]
  by_cases c4 : c.toNat ≤ 239
  · rw [symN_of (decode_three ⟨by omega, c4⟩ l1 l2) (by omega), if_neg (fun g => by have := e1 (by omega); omega)]
  by_cases c5 : c.toNat ≤ 247
  · rw [symN_of (decode_four ⟨by omega, c5⟩ l1 l2 l3) (by omega), if_neg (fun g => by have := e1 (by omega); omega)]
  rw [symN_none (.inr (by omega)) (by omega)]
theorem eachL_same {b : List Int} {c : Int} (hc : 0 ≤ c ∧ c < 256) (h : ∀ i, i < b.length → b.getD i 0 = c) : ∀ (k i : Nat), i + k = b.length → (eachL k b i).length = k
  | 0, _, _ => rfl
  | k + 1, i, hk => by
    simp only [eachL]
    rw [if_pos (by omega), symA_same hc h i (by omega), List.length_cons]
    have : (1 : Int).toNat = 1 := rfl
    rw [this, eachL_same hc h k (i + 1) (by omega)]
theorem fill_loop (n : Nat) (c : Int) (v4 : Bool) (hn : n ≤ 70000) : ∀ (d k : Nat), n - k = d → k ≤ n → ∀ {r : List Dat},
    M12_1 (n : Int) c v4 ((List.replicate n c).map .int) (n : Int) (n : Int) = some r → M12_1 (n : Int) c v4 ((List.replicate k c ++ List.replicate (n - k) 0).map .int) (n : Int) (k : Int) = some r := by
  intro d
  induction d with
  | zero =>
    intro k hd hk r h
    obtain rfl : k = n := by omega
    simpa using h
  | succ d ih =>
    intro k hd hk r h
    apply M12_1_of
    have hlen : (((List.replicate k c ++ List.replicate (n - k) 0).map Dat.int)).length = n := by simp; omega
    rw [hlen, dT (by omega), dT (by omega), dT (by omega), dT (by omega), w64 (by omega) (by omega)]
    have e1 : ((List.replicate k c ++ List.replicate (n - k) 0).map Dat.int).set (k : Int).toNat (.int c) = (List.replicate (k + 1) c ++ List.replicate (n - (k + 1)) 0).map .int := by
      obtain ⟨m, hm⟩ : ∃ m, n - k = m + 1 := ⟨n - k - 1, by omega⟩
      have hm2 : n - (k + 1) = m := by omega
      rw [hm, hm2, Int.toNat_natCast, ← List.map_set, List.set_append_right _ _ (by simp), List.length_replicate, Nat.sub_self, List.replicate_succ (n := m), List.set_cons_zero, List.replicate_succ' (n := k)]
      simp
    rw [e1]
    exact ih (k + 1) (by omega) (by omega) h
theorem TextLong_pure (e0 e1 : Dat) (h0 : fitT C.T 9 3 e0) (h1 : fitT C.T 9 5 e1) : E C 12 [.int .i64 e0.I, .int .u8 e1.I] = some [.bool true] := by
  obtain ⟨n, rfl, hn1, hn2⟩ := fit_i64 h0
  obtain ⟨c, rfl, hc1, hc2⟩ := fit_u8 h1
  apply o12
  rw [bT anchor_E]
  simp only [rd0, datB, datI, Bool.not_true, cond_false]
  by_cases g1 : n < 0
  · rw [dT g1]
  by_cases g2 : n > 70000
  · rw [dF g1, dT g2]
  have hc1' : capB 1 = 140737488355328 := by decide
  rw [dF g1, dF g2, dT (by omega), dT (by omega), dT (by omega)]
  obtain ⟨m, rfl⟩ : ∃ m : Nat, n = (m : Int) := ⟨n.toNat, by omega⟩
  rw [Int.toNat_natCast, List.length_replicate]
  have hf := fill_loop m c false (by omega) m 0 (by omega) (by omega) (r := [.bool true])
  have e0 : ((List.replicate 0 c ++ List.replicate (m - 0) 0).map Dat.int) = List.replicate m (.int 0) := by simp
  rw [e0] at hf
  refine hf ?_
  apply M12_1_of
  have hb : isBytes (List.replicate m c) = true := by
    unfold isBytes
    rw [List.all_eq_true]
    intro x hx
    rw [List.eq_of_mem_replicate hx]
    simp [hc1, hc2]
  have hlen : (symsR (List.replicate m c)).length = m := by
    unfold symsR eachAll
    rw [List.length_map, eachL_same ⟨hc1, hc2⟩ (fun i hi => ?_) _ 0 (by simp)]
    · simp
    · simp at hi; simp [List.getD_eq_getElem?_getD, hi]
  rw [dF (by omega), bT (New_E hb (by simp; omega)), hlen]
  by_cases g3 : m > 65536
  · rw [if_pos g3, dT (by omega)]
    rfl
  · rw [if_neg g3, dF (by omega)]
    simp only [rd1, rd0, datI]
    rw [eT rfl]
    have hL : ((Dat.agg [Dat.list ((symsR (List.replicate m c)).map .int)]).C 0).L = (symsR (List.replicate m c)).map .int := rfl
    rw [hL, bT (Len_E _)]
    simp only [rd0, datI, List.length_map, hlen]
    simp
end Go.Proofs.YtjgbhajaiifimaaDoor.V
