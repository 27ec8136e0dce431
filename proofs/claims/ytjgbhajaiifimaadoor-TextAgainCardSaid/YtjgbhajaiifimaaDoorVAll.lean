/- All symbols: the document's and the program's; a text. -/
import Derived.Test.YtjgbhajaiifimaaDoorVRef
namespace Go.Proofs.YtjgbhajaiifimaaDoor.V
open Go Go.Ev Go.RowKit
set_option linter.unusedVariables false
set_option linter.unusedSimpArgs false
theorem RefAll_loop {b : List Int} (hb : isBytes b = true) (hlen : b.length ≤ 1000000000000) (v2 v3 : List Dat) : ∀ (d k : Nat) (pre : List (Nat × Int)), b.length - k = d → k ≤ b.length → eachAll b = pre ++ eachL (b.length - k) b k →
    M18_1 (b.map .int) v2 v3 ((pre.map fun p => p.2).map .int) ((pre.map fun p => (p.1 : Int)).map .int) (k : Int) = some [.list ((symsR b).map .int), .list ((startsR b).map .int)] := by
  intro d
  induction d using Nat.strongRecOn with
  | _ d ih =>
    intro k pre hd hk hx
    have hpl : pre.length ≤ b.length := by
      have h1 := eachAll_length b
      rw [hx] at h1
      simp at h1
      omega
    have hc8 : capB 8 = 17592186044416 := by decide
    apply M18_1_of
    simp only [List.length_map, List.length_cons, List.length_nil]
    by_cases hlt : k < b.length
    · have hs := symA_small hb k hlt
      have hnext := eachL_next hb k hlt
      rw [dT (by omega), bT (RefAt_E hb (by omega) k hlt)]
      simp only [rd0, rd1, datI]
      rw [dT (by omega), dT (by omega), w64 (by omega) (by omega)]
      have hk2 : (k : Int) + (symA b k).2 = ((k + (symA b k).2.toNat : Nat) : Int) := by omega
      rw [hk2]
      have := ih (b.length - (k + (symA b k).2.toNat)) (by omega) (k + (symA b k).2.toNat) (pre ++ [(k, (symA b k).1)]) rfl (by omega) (by rw [hx, hnext]; simp)
      simpa using this
    · obtain rfl : k = b.length := by omega
      rw [dF (by omega), dT (by omega)]
      have e : eachAll b = pre := by rw [hx]; simp [eachL]
      unfold symsR startsR
      rw [e]
      simp
theorem RefAll_E {b : List Int} (hb : isBytes b = true) (hlen : b.length ≤ 1000000000000) : E C 18 [.shr 5 (b.map .int)] = some [.list ((symsR b).map .int), .list ((startsR b).map .int)] := by
  apply o18
  exact RefAll_loop hb hlen [] [] b.length 0 [] (by omega) (by omega) rfl
theorem All_E {b : List Int} (hb : isBytes b = true) (hlen : b.length ≤ 1000000000000) : E C 20 [.shr 5 (b.map .int)] = some [.list ((symsR b).map .int)] := by
  refine E_given (h := gSyms 5) rfl ?_
  simp only [gSyms, ints_map, hb, List.length_map]
  rw [show decide (b.length ≤ 1000000000000) = true from decide_eq_true hlen]
  rfl
theorem symsR_length {b : List Int} : (symsR b).length ≤ b.length := by
  have := eachAll_length b
  simpa [symsR] using this
theorem New_E {b : List Int} (hb : isBytes b = true) (hlen : b.length ≤ 1000000000000) : E C 29 [.shr 5 (b.map .int)] = some (if (symsR b).length > 65536 then [.agg [.list []], .int 15] else [.agg [.list ((symsR b).map .int)], .int 0]) := by
  apply o29
  rw [bT (All_E hb hlen)]
  simp only [rd0, datL, List.length_map]
  by_cases h : (symsR b).length > 65536
  · rw [dT (by omega), if_pos h]
  · rw [dF (by omega), if_neg h]
theorem New_ok {b : List Int} (hb : isBytes b = true) (hlen : b.length ≤ 65536) : E C 29 [.shr 5 (b.map .int)] = some [.agg [.list ((symsR b).map .int)], .int 0] := by
  have := symsR_length (b := b)
  rw [New_E hb (by omega), if_neg (by omega)]
theorem Len_E (l : List Dat) : E C 34 [.agg [.shr 3 l]] = some [.int (l.length : Int)] := by
  apply o34
  rfl
/-- The symbol behind a place; -1: none. -/
def atP (l : List Int) (i : Int) : Int := if 0 ≤ i ∧ i < (l.length : Int) then l.getD i.toNat 0 else -1
theorem At2_E (l : List Int) (i : Int) : E C 38 [.agg [.shr 3 (l.map .int)], .int .i64 i] = some [.int (atP l i)] := by
  apply o38
  simp only [List.length_map, rdI]
  unfold atP
  by_cases h0 : i < 0
  · rw [dT h0, if_neg (by omega)]
  · by_cases h1 : i ≥ (l.length : Int)
    · rw [dF h0, dT h1, if_neg (by omega)]
    · rw [dF h0, dF h1, dT (by omega), dT (by omega), dT (by omega), if_pos (by omega)]
theorem RefAt13_E (l : List Int) (i : Int) : E C 35 [.shr 3 (l.map .int), .int .i64 i] = some [.int (atP l i)] := by
  apply o35
  simp only [List.length_map, rdI]
  unfold atP
  by_cases h0 : i < 0
  · rw [dT h0, if_neg (by omega)]
  · by_cases h1 : i ≥ (l.length : Int)
    · rw [dF h0, dT h1, if_neg (by omega)]
    · rw [dF h0, dF h1, dT (by omega), dT (by omega), dT (by omega), if_pos (by omega)]
theorem E_from {f : FuncId} {args : List AV} {r : List Dat} (k : Nat) (h : ∀ n, ev C (n + k) f args = some r) : E C f args = some r :=
  lim_some.2 ⟨k, fun φ hφ => by
    have h0 := hφ 0
    obtain ⟨m, hm⟩ : ∃ m, φ 0 = m + k := ⟨φ 0 - k, by omega⟩
    show ev C (φ 0) f args = some r
    rw [hm]
    exact h m⟩
theorem anchor_E : E C 28 [] = some [.bool true] := E_from 60 fun n => by kernel_rfl
end Go.Proofs.YtjgbhajaiifimaaDoor.V
