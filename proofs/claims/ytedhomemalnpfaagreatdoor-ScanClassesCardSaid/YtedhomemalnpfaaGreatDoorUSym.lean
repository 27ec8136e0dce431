/- The symbol at a place: the program's and the document's. -/
import Derived.Test.YtedhomemalnpfaaGreatDoorUBas
import Derived.Test.YtedhomemalnpfaaGreatDoorVTSy
namespace Go.Proofs.YtedhomemalnpfaaGreatDoor.V
open Go Go.Ev Go.RowKit
set_option linter.unusedVariables false
set_option linter.unusedSimpArgs false
theorem dec_E (b : List Int) (hb : isBytes b = true) (hne : b ≠ []) : E C 73 [.shr 5 (b.map .int)] = some [.int (decR b).1, .int (decR b).2] := by
  refine E_given (h := gDecode 5) (by kernel_rfl) ?_
  have h1 : (b.map Dat.int).isEmpty = false := by cases b <;> simp at hne ⊢
  simp only [gDecode, ints_map, h1, hb]
  rfl
theorem At_E (b : List Int) (hb : isBytes b = true) (hlen : b.length ≤ 140737488351232) (i : Int) : E C 53 [.shr 5 (b.map .int), .int .i64 i] = some [.int (symR b i).1, .int (symR b i).2] := by
  apply o53
  simp only [List.length_map]
  unfold symR
  by_cases h0 : i < 0
  · rw [dT h0, if_neg (by omega)]
  · rw [dF h0]
    by_cases h1 : i ≥ (b.length : Int)
    · rw [dT h1, if_neg (by omega)]
    · obtain ⟨n, rfl⟩ : ∃ n : Nat, i = (n : Int) := ⟨i.toNat, by omega⟩
      have hn : n < b.length := by omega
      have hne : b.drop n ≠ [] := fun h => by
        have := congrArg List.length h
        simp at this
        omega
      have e1 : ((b.map Dat.int).take ((b.length : Int).toNat)).drop (n : Int).toNat = (b.drop n).map .int := by
        rw [Int.toNat_natCast, Int.toNat_natCast, List.take_of_length_le (by simp), List.map_drop]
      rw [dF h1, dT (by omega), dT (by omega), dT (by omega), e1]
      rw [bT (dec_E _ (isBytes_drop hb n) hne), if_pos (show 0 ≤ ((n : Nat) : Int) ∧ ((n : Nat) : Int) < (b.length : Int) by omega), decR_eq (isBytes_drop hb n) hne]
      simp only [bn_drop, List.length_drop, Nat.add_zero, Int.toNat_natCast, rdI, getD_bn hb]
      have hs := decodeN_small (b.length - n) _ _ _ _ (bn_lt hb n) (bn_lt hb (n + 1)) (bn_lt hb (n + 2)) (bn_lt hb (n + 3))
      have hbn := bn_lt hb n
      unfold symA symN
      generalize Go.Lib.decodeN (b.length - n) (bn b n) (bn b (n + 1)) (bn b (n + 2)) (bn b (n + 3)) = d at hs ⊢
      obtain ⟨x, m⟩ := d
      dsimp only at hs ⊢
      simp only [rd0, rd1, datI]
      rw [w64 (n := ((bn b n : Nat) : Int)) (by omega) (by omega), w64 (n := 1114112 + ((bn b n : Nat) : Int)) (by omega) (by omega), w64 (n := (x : Int)) (by omega) (by omega)]
      by_cases g1 : x = 65533
      · rw [eT (by omega)]
        by_cases g2 : m ≤ 1
        · rw [dT (by omega), dT (by omega), dT (by omega), dT (by omega), if_pos ⟨g1, g2⟩]
        · rw [dF (by omega), if_neg (fun h => g2 h.2)]
      · rw [eF (by omega), if_neg (fun h => g1 h.1)]
/-- Is what has been put together no symbol? -/
def badV (m v : Int) : Prop := m = 2 ∧ v < 128 ∨ m = 3 ∧ v < 2048 ∨ m = 4 ∧ v < 65536 ∨ v > 1114111 ∨ v ≥ 55296 ∧ v ≤ 57343
theorem Ref_bad (c m v : Int) (hc : 0 ≤ c ∧ c < 256) (h : badV m v) : N38_2 c m v = some [.int (1114112 + c), .int 1] := by
  unfold badV at h
  unfold N38_2 N38_3 N38_4 N38_5 N38_6
  have e : IntKind.i64.wrap (1114112 + c) = 1114112 + c := w64 (by omega) (by omega)
  rw [e]
  by_cases h2 : m = 2
  · subst h2
    by_cases h3 : v < 128
    · simp [h3]
    · by_cases h4 : v > 1114111
      · simp [h3, h4]
      · have h5 : v ≥ 55296 ∧ v ≤ 57343 := by omega
        simp [h3, h4, h5]
  · by_cases h22 : m = 3
    · subst h22
      by_cases h3 : v < 2048
      · simp [h3]
      · by_cases h4 : v > 1114111
        · simp [h3, h4]
        · have h5 : v ≥ 55296 ∧ v ≤ 57343 := by omega
          simp [h3, h4, h5]
    · by_cases h23 : m = 4
      · subst h23
        by_cases h3 : v < 65536
        · simp [h3]
        · by_cases h4 : v > 1114111
          · simp [h3, h4]
          · have h5 : v ≥ 55296 ∧ v ≤ 57343 := by omega
            simp [h3, h4, h5]
      · by_cases h4 : v > 1114111
        · simp [beq_false_of_ne h2, beq_false_of_ne h22, beq_false_of_ne h23, h4]
        · have h5 : v ≥ 55296 ∧ v ≤ 57343 := by omega
          simp [beq_false_of_ne h2, beq_false_of_ne h22, beq_false_of_ne h23, h4, h5]
theorem Ref_good (c m v : Int) (h : ¬ badV m v) : N38_2 c m v = some [.int v, .int m] := by
  unfold badV at h
  unfold N38_2 N38_3 N38_4 N38_5 N38_6
  have h4 : ¬ v > 1114111 := by omega
  have fin : (bif decide (v ≥ 55296) then (bif decide (v ≤ 57343) then (some [Dat.int (IntKind.i64.wrap (1114112 + c)), .int 1]) else (some [.int v, .int m])) else (some [.int v, .int m])) = some [.int v, .int m] := by
    by_cases h5 : v ≥ 55296
    · rw [dT h5, dF (by omega)]
    · rw [dF h5]
  by_cases h2 : m = 2
  · subst h2
    have h3 : ¬ v < 128 := by omega
    simpa [h3, h4] using fin
  · by_cases h22 : m = 3
    · subst h22
      have h3 : ¬ v < 2048 := by omega
      simpa [h3, h4] using fin
    · by_cases h23 : m = 4
      · subst h23
        have h3 : ¬ v < 65536 := by omega
        simpa [h3, h4] using fin
      · simpa [beq_false_of_ne h2, beq_false_of_ne h22, beq_false_of_ne h23, h4] using fin
theorem Ref_step {b : List Int} (hb : isBytes b = true) (hlen : b.length ≤ 140737488351232) (n i : Nat) (v4 v5 c m v : Int) (him : (i : Int) < m) (hin : n + i < b.length) (hv : 0 ≤ v ∧ v ≤ 1000000000) (hi : i < 10) (hc : 0 ≤ c ∧ c < 256) {r : List Dat}
    (h : (if bn b (n + i) < 128 ∨ 191 < bn b (n + i) then some [.int (1114112 + c), .int 1] else M38_1 (b.map .int) (n : Int) v4 v5 c m (v * 64 + bn b (n + i) - 128) ((i + 1 : Nat) : Int)) = some r) : M38_1 (b.map .int) (n : Int) v4 v5 c m v (i : Int) = some r := by
  have hx := bn_lt hb (n + i)
  have e1 : IntKind.i64.wrap ((n : Int) + (i : Int)) = ((n + i : Nat) : Int) := by rw [w64 (by omega) (by omega)]; omega
  apply M38_1_of
  simp only [e1, List.length_map, Int.toNat_natCast, rdI, getD_bn hb]
  rw [w64 (n := ((bn b (n + i) : Nat) : Int)) (by omega) (by omega), w64 (n := 1114112 + c) (by omega) (by omega), w64 (n := v * 64) (by omega) (by omega), w64 (n := v * 64 + ((bn b (n + i) : Nat) : Int)) (by omega) (by omega), w64 (n := v * 64 + ((bn b (n + i) : Nat) : Int) - 128) (by omega) (by omega), w64 (n := (i : Int) + 1) (by omega) (by omega)]
  rw [dT him, dT (by omega), dT (by omega), dT (by omega)]
  by_cases g1 : bn b (n + i) < 128
  · rw [if_pos (.inl g1)] at h
    rw [dT (by omega)]
    exact h
  · rw [dF (by omega)]
    by_cases g2 : 191 < bn b (n + i)
    · rw [if_pos (.inr g2)] at h
      rw [dT (by omega)]
      exact h
    · rw [if_neg (by omega)] at h
      rw [dF (by omega)]
      exact h
theorem Ref_end (b : List Dat) (n : Nat) (v4 v5 c m v : Int) (hc : 0 ≤ c ∧ c < 256) {r : List Dat} (h : badV m v ∧ r = [.int (1114112 + c), .int 1] ∨ ¬ badV m v ∧ r = [.int v, .int m]) :
    M38_1 b (n : Int) v4 v5 c m v m = some r := by
  apply M38_1_of
  rw [dF (by omega)]
  rcases h with ⟨h, rfl⟩ | ⟨h, rfl⟩
  · exact Ref_bad _ _ _ hc h
  · exact Ref_good _ _ _ h
theorem RefAt_E {b : List Int} (hb : isBytes b = true) (hlen : b.length ≤ 140737488351232) (n : Nat) (hn : n < b.length) : E C 38 [.shr 5 (b.map .int), .int .i64 (n : Int)] = some [.int (symA b n).1, .int (symA b n).2] := by
  have h0 := bn_lt hb n
  have h1 := bn_lt hb (n + 1)
  have h2 := bn_lt hb (n + 2)
  have h3 := bn_lt hb (n + 3)
  apply o38
  unfold symA
  simp only [List.length_map, Int.toNat_natCast, rdI, getD_bn hb]
  rw [w64 (n := ((bn b n : Nat) : Int)) (by omega) (by omega), w64 (n := 1114112 + ((bn b n : Nat) : Int)) (by omega) (by omega), w64 (n := (b.length : Int) - (n : Int)) (by omega) (by omega), w64 (n := ((bn b n : Nat) : Int) - 192) (by omega) (by omega), w64 (n := ((bn b n : Nat) : Int) - 224) (by omega) (by omega), w64 (n := ((bn b n : Nat) : Int) - 240) (by omega) (by omega)]
  rw [dT (by omega), dT (by omega), dT (by omega)]
  by_cases c1 : bn b n < 128
  · rw [dT (by omega), symN_one c1]
  rw [dF (by omega)]
  by_cases c2 : bn b n < 192
  · rw [symN_none (.inl ⟨by omega, c2⟩) h0]
    repeat (first | rw [dT (by omega)] | rw [dF (by omega)])
  by_cases c3 : bn b n ≤ 223
  · rw [symN_of (decode_two ⟨by omega, c3⟩ h1) (by omega)]
    rw [dT (by omega), dT (by omega), dF (by omega), dF (by omega)]
    by_cases g1 : 1 < b.length - n
    · rw [dF (by omega)]
      refine Ref_step hb hlen n 1 _ _ _ 2 _ (by omega) (by omega) (by omega) (by omega) (by omega) ?_
      by_cases g2 : bn b (n + 1) < 128 ∨ 191 < bn b (n + 1)
      · rw [if_pos g2, if_neg (by omega)]
      · rw [if_neg g2]
        refine Ref_end _ n _ _ _ 2 _ (by omega) ?_
        by_cases g3 : 128 ≤ (bn b n - 192) * 64 + (bn b (n + 1) - 128)
        · refine .inr ⟨by unfold badV; omega, ?_⟩
          rw [if_pos ⟨g1, by omega, by omega, g3⟩]
          simp only [List.cons.injEq, Dat.int.injEq, and_true]
          omega
        · refine .inl ⟨by unfold badV; omega, ?_⟩
          rw [if_neg (fun h => g3 h.2.2.2)]
    · rw [dT (by omega), if_neg (fun h => g1 h.1)]
  by_cases c4 : bn b n ≤ 239
  · rw [symN_of (decode_three ⟨by omega, c4⟩ h1 h2) (by omega)]
    rw [dT (by omega), dF (by omega), dT (by omega), dT (by omega), dF (by omega)]
    by_cases g1 : 2 < b.length - n
    · rw [dF (by omega)]
      refine Ref_step hb hlen n 1 _ _ _ 3 _ (by omega) (by omega) (by omega) (by omega) (by omega) ?_
      by_cases g2 : bn b (n + 1) < 128 ∨ 191 < bn b (n + 1)
      · rw [if_pos g2, if_neg (by omega)]
      · rw [if_neg g2]
        refine Ref_step hb hlen n 2 _ _ _ 3 _ (by omega) (by omega) (by omega) (by omega) (by omega) ?_
        by_cases g4 : bn b (n + 2) < 128 ∨ 191 < bn b (n + 2)
        · rw [if_pos g4, if_neg (by omega)]
        · rw [if_neg g4]
          refine Ref_end _ n _ _ _ 3 _ (by omega) ?_
          by_cases g3 : 2048 ≤ (bn b n - 224) * 4096 + (bn b (n + 1) - 128) * 64 + (bn b (n + 2) - 128) ∧ ((bn b n - 224) * 4096 + (bn b (n + 1) - 128) * 64 + (bn b (n + 2) - 128) < 55296 ∨ 57344 ≤ (bn b n - 224) * 4096 + (bn b (n + 1) - 128) * 64 + (bn b (n + 2) - 128))
          · refine .inr ⟨by unfold badV; omega, ?_⟩
            rw [if_pos ⟨g1, by omega, by omega, g3⟩]
            simp only [List.cons.injEq, Dat.int.injEq, and_true]
            omega
          · refine .inl ⟨by unfold badV; omega, ?_⟩
            rw [if_neg (fun h => g3 h.2.2.2)]
    · rw [dT (by omega), if_neg (fun h => g1 h.1)]
  by_cases c5 : bn b n ≤ 247
  · rw [symN_of (decode_four ⟨by omega, c5⟩ h1 h2 h3) (by omega)]
    rw [dT (by omega), dF (by omega), dT (by omega), dF (by omega), dT (by omega), dT (by omega)]
    by_cases g1 : 3 < b.length - n
    · rw [dF (by omega)]
      refine Ref_step hb hlen n 1 _ _ _ 4 _ (by omega) (by omega) (by omega) (by omega) (by omega) ?_
      by_cases g2 : bn b (n + 1) < 128 ∨ 191 < bn b (n + 1)
      · rw [if_pos g2, if_neg (by omega)]
      · rw [if_neg g2]
        refine Ref_step hb hlen n 2 _ _ _ 4 _ (by omega) (by omega) (by omega) (by omega) (by omega) ?_
        by_cases g4 : bn b (n + 2) < 128 ∨ 191 < bn b (n + 2)
        · rw [if_pos g4, if_neg (by omega)]
        · rw [if_neg g4]
          refine Ref_step hb hlen n 3 _ _ _ 4 _ (by omega) (by omega) (by omega) (by omega) (by omega) ?_
          by_cases g5 : bn b (n + 3) < 128 ∨ 191 < bn b (n + 3)
          · rw [if_pos g5, if_neg (by omega)]
          · rw [if_neg g5]
            refine Ref_end _ n _ _ _ 4 _ (by omega) ?_
            by_cases g3 : 65536 ≤ (bn b n - 240) * 262144 + (bn b (n + 1) - 128) * 4096 + (bn b (n + 2) - 128) * 64 + (bn b (n + 3) - 128) ∧ (bn b n - 240) * 262144 + (bn b (n + 1) - 128) * 4096 + (bn b (n + 2) - 128) * 64 + (bn b (n + 3) - 128) ≤ 1114111
            · refine .inr ⟨by unfold badV; omega, ?_⟩
              rw [if_pos ⟨g1, by omega, by omega, by omega, g3⟩]
              simp only [List.cons.injEq, Dat.int.injEq, and_true]
              omega
            · refine .inl ⟨by unfold badV; omega, ?_⟩
              rw [if_neg (fun h => g3 h.2.2.2.2)]
    · rw [dT (by omega), if_neg (fun h => g1 h.1)]
  · rw [symN_none (.inr (by omega)) h0]
    repeat (first | rw [dT (by omega)] | rw [dF (by omega)])
end Go.Proofs.YtedhomemalnpfaaGreatDoor.V
