/- Chapter 01 in plain Lean, third part: the law of all symbols. -/
import Derived.Test.YtjgbhajaiifimaaDoorL01b
import Derived.Test.YtjgbhajaiifimaaDoorPx6
namespace Go.Proofs.YtjgbhajaiifimaaDoor.P
open Go.RowKit Go.Proofs.YtjgbhajaiifimaaDoorW.PrintWords Go.Proofs.YtjgbhajaiifimaaDoorW.PrintLast Go.Proofs.YtjgbhajaiifimaaDoorW.PrintMore
set_option linter.unusedVariables false
set_option linter.unusedSimpArgs false

theorem same_l0 (xs : List Int) (hlen : xs.length ≤ 1000000000) : ∀ (rest pre : List Int) (k : Nat), xs = pre ++ rest → rest.length + 1 ≤ k → clewlaw01_same.l0 k xs xs (xs.length : Int) (pre.length : Int) = some true := by
  intro rest
  induction rest with
  | nil =>
    intro pre k hxs hk
    have hl : xs.length = pre.length := by rw [hxs]; simp
    obtain ⟨k, rfl⟩ : ∃ j, k = j + 1 := ⟨k - 1, by omega⟩
    simp only [clewlaw01_same.l0]
    rw [if_neg (by omega)]
  | cons r rest ih =>
    intro pre k hxs hk
    have hl : xs.length = pre.length + (rest.length + 1) := by rw [hxs]; simp
    simp only [List.length_cons] at hk
    obtain ⟨k, rfl⟩ : ∃ j, k = j + 1 := ⟨k - 1, by omega⟩
    have hw2 : wrap64 ((pre.length : Int) + 1) = ((pre ++ [r]).length : Int) := by
      rw [w64 (by omega) (by omega)]
      simp
    simp only [clewlaw01_same.l0, hw2]
    rw [if_pos (by omega), if_pos (by omega), if_pos (by omega), if_pos (by omega), if_pos trivial]
    exact ih (pre ++ [r]) k (by rw [hxs]; simp) (by omega)
theorem same_refl (xs : List Int) (hlen : xs.length ≤ 1000000000) (k : Nat) (hk : xs.length + 1 ≤ k) : clewlaw01_same.f k xs xs = some true := by
  unfold clewlaw01_same.f
  rw [if_pos rfl]
  exact same_l0 xs hlen xs [] k rfl hk

theorem RefAll_l0 {b : List Int} (hb : isBytes b = true) (hlen : b.length ≤ 1000000) : ∀ (m i : Nat) (pre : List (Nat × Int)) (k : Nat), b.length - i ≤ m → i ≤ b.length → eachAll b = pre ++ eachL (b.length - i) b i → pre.length ≤ i → m + 16 ≤ k →
    clewref01_All.l0 k b (pre.map fun p => p.2) (pre.map fun p => (p.1 : Int)) (i : Int) = some (symsR b, startsR b) := by
  intro m
  induction m with
  | zero =>
    intro i pre k hm hi hx hp hk
    obtain rfl : i = b.length := by omega
    obtain ⟨k, rfl⟩ : ∃ j, k = j + 1 := ⟨k - 1, by omega⟩
    have he : eachAll b = pre := by
      rw [hx, eachL_end b _ (Nat.le_refl _), List.append_nil]
    simp only [clewref01_All.l0]
    rw [if_neg (by omega), if_pos (by rw [List.length_map]; omega)]
    unfold symsR startsR
    rw [he]
  | succ m ih =>
    intro i pre k hm hi hx hp hk
    by_cases hlt : i < b.length
    · obtain ⟨k, rfl⟩ : ∃ j, k = j + 15 := ⟨k - 15, by omega⟩
      have hs := symA_small hb i hlt
      have hnext := eachL_next hb i hlt
      have hr := Ref_eq hb (by omega) i hlt k
      simp only [clewref01_All.l0]
      rw [if_pos (by omega), hr, Option.bind_some]
      generalize symA b i = d at hs hnext ⊢
      obtain ⟨x, n⟩ := d
      dsimp only at hs hnext ⊢
      rw [if_pos (by rw [List.length_map]; omega), if_pos (by rw [List.length_map]; omega)]
      have e1 : wrap64 ((i : Int) + n) = ((i + n.toNat : Nat) : Int) := by rw [w64 (by omega) (by omega)]; omega
      have e2 : (pre.map fun p => p.2) ++ [x] = (pre ++ [(i, x)]).map fun p => p.2 := by simp
      have e3 : (pre.map fun p => (p.1 : Int)) ++ [(i : Int)] = (pre ++ [(i, x)]).map fun p => (p.1 : Int) := by simp
      rw [e1, e2, e3]
      exact ih (i + n.toNat) (pre ++ [(i, x)]) (k + 14) (by omega) (by omega) (by rw [hx, hnext]; simp) (by simp only [List.length_append, List.length_singleton]; omega) (by omega)
    · exact ih i pre k (by omega) hi hx hp (by omega)
theorem RefAll_eq {b : List Int} (hb : isBytes b = true) (hlen : b.length ≤ 1000000) (k : Nat) (hk : b.length + 16 ≤ k) : clewref01_All.f k b = some (symsR b, startsR b) :=
  RefAll_l0 hb hlen b.length 0 [] k (by omega) (Nat.zero_le _) rfl (by simp) hk
theorem symsR_length (b : List Int) : (symsR b).length ≤ b.length := by
  unfold symsR
  rw [List.length_map]
  exact eachAll_length b
theorem startsR_length (b : List Int) : (startsR b).length ≤ b.length + 1 := by
  unfold startsR
  rw [List.length_append, List.length_map, List.length_singleton]
  exact Nat.add_le_add_right (eachAll_length b) 1
theorem All_eq {b : List Int} (hb : isBytes b = true) (hlen : b.length ≤ 1000000) : sym_All.f b = some (symsR b) := by
  unfold sym_All.f
  rw [if_pos ⟨hb, by omega⟩]
theorem Starts_eq {b : List Int} (hb : isBytes b = true) (hlen : b.length ≤ 1000000) : sym_Starts.f b = some (startsR b) := by
  unfold sym_Starts.f
  rw [if_pos ⟨hb, by omega⟩]
end Go.Proofs.YtjgbhajaiifimaaDoor.P
