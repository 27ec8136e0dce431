/- The symbol at a place: the program's and the document's. -/
import Derived.Test.YtlofoifcdmeopaaGreatDoorUBas
import Derived.Test.YtlofoifcdmeopaaGreatDoorVUSy
namespace Go.Proofs.YtlofoifcdmeopaaGreatDoor.V
open Go Go.Ev Go.RowKit
set_option linter.unusedVariables false
set_option linter.unusedSimpArgs false
theorem dec_E (b : List Int) (hb : isBytes b = true) (hne : b ≠ []) : E C 233 [.shr 5 (b.map .int)] = some [.int (decR b).1, .int (decR b).2] := by
  refine E_given (h := gDecode 5) (by kernel_rfl) ?_
  have h1 : (b.map Dat.int).isEmpty = false := by cases b <;> simp at hne ⊢
  simp only [gDecode, ints_map, h1, hb]
  rfl
theorem At_E (b : List Int) (hb : isBytes b = true) (hlen : b.length ≤ 140737488351232) (i : Int) : E C 213 [.shr 5 (b.map .int), .int .i64 i] = some [.int (symR b i).1, .int (symR b i).2] := by
  apply o213
  simp only [List.length_map]
  unfold symR
  by_cases h0 : i < 0
  · rw [dT h0, if_neg (by omega)]
  · rw [dF h0]
    by_cases h1 : i ≥ (b.length : Int)
    · rw [dT h1, if_neg (by omega)]
    · obtain ⟨n, rfl⟩ : ∃ n : Nat, i = (n : Int) := ⟨i.toNat, by omega⟩
      have hn : n < b.length := by omega
      have hne : b.drop n ≠ [] := fun h => by
        have := congrArg List.length h
        simp at this
        omega
      have e1 : ((b.map Dat.int).take ((b.length : Int).toNat)).drop (n : Int).toNat = (b.drop n).map .int := by
        rw [Int.toNat_natCast, Int.toNat_natCast, List.take_of_length_le (by simp), List.map_drop]
      rw [dF h1, dT (by omega), dT (by omega), dT (by omega), e1]
      rw [bT (dec_E _ (isBytes_drop hb n) hne), if_pos (show 0 ≤ ((n : Nat) : Int) ∧ ((n : Nat) : Int) < (b.length : Int) by omega), decR_eq (isBytes_drop hb n) hne]
      simp only [bn_drop, List.length_drop, Nat.add_zero, Int.toNat_natCast, rdI, getD_bn hb]
      have hs := decodeN_small (b.length - n) _ _ _ _ (bn_lt hb n) (bn_lt hb (n + 1)) (bn_lt hb (n + 2)) (bn_lt hb (n + 3))
      have hbn := bn_lt hb n
      unfold symA symN
      generalize Go.Lib.decodeN (b.length - n) (bn b n) (bn b (n + 1)) (bn b (n + 2)) (bn b (n + 3)) = d at hs ⊢
      obtain ⟨x, m⟩ := d
      dsimp only at hs ⊢
      simp only [rd0, rd1, datI]
      rw [w64 (n := ((bn b n : Nat) : Int)) (by omega) (by omega), w64 (n := 1114112 + ((bn b n : Nat) : Int)) (by omega) (by omega), w64 (n := (x : Int)) (by omega) (by omega)]
      by_cases g1 : x = 65533
      · rw [eT (by omega)]
        by_cases g2 : m ≤ 1
        · rw [dT (by omega), dT (by omega), dT (by omega), dT (by omega), if_pos ⟨g1, g2⟩]
        · rw [dF (by omega), if_neg (fun h => g2 h.2)]
      · rw [eF (by omega), if_neg (fun h => g1 h.1)]
/-- Is what has been put together no symbol? -/
def badV (m v : Int) : Prop := m = 2 ∧ v < 128 ∨ m = 3 ∧ v < 2048 ∨ m = 4 ∧ v < 65536 ∨ v > 1114111 ∨ v ≥ 55296 ∧ v ≤ 57343
end Go.Proofs.YtlofoifcdmeopaaGreatDoor.V
