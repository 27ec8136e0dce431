/- Names: the program's reader and the document's. -/
import Derived.Test.YtedhomemalnpfaaGreatDoorUSca
namespace Go.Proofs.YtedhomemalnpfaaGreatDoor.V
open Go Go.Ev Go.RowKit
set_option linter.unusedVariables false
set_option linter.unusedSimpArgs false
def wB (c : Int) : Bool := letB c || (c == 95 || digB c)
theorem wB_zero : wB 0 = false := rfl
theorem wB_62 : wB 62 = false := rfl
def wlen : List Int → Nat
  | [] => 0
  | c :: l => if wB c = true then wlen l + 1 else 0
theorem wlen_le : ∀ (l : List Int), wlen l ≤ l.length
  | [] => Nat.le_refl _
  | c :: l => by
    have := wlen_le l
    unfold wlen
    simp only [List.length_cons]
    split <;> omega
theorem wlen_drop {b : List Int} {k : Nat} (h : k < b.length) : wlen (b.drop k) = if wB (atB b k) = true then wlen (b.drop (k + 1)) + 1 else 0 := by
  rw [List.drop_eq_getElem_cons h, wlen, atB_in h]
theorem wlen_end {b : List Int} {k : Nat} (h : wB (atB b k) = false) : wlen (b.drop k) = 0 := by
  by_cases hk : k < b.length
  · rw [wlen_drop hk, h]; rfl
  · rw [List.drop_of_length_le (by omega)]; rfl
def subB (b : List Int) (i k : Int) : ByteArray := strOf (((b.map Dat.int).take k.toNat).drop i.toNat)
def errN : List Dat := [.str ByteArray.empty, .int 0, .int 36]
def finN (b : List Int) (i k : Int) : List Dat := if i < 0 ∨ k = i ∨ k - i > 32 ∨ atB b k ≠ 62 then errN else [.str (subB b i k), .int (k + 1), .int 0]
theorem fin_ok (b : List Int) (hb : b.length ≤ 140737488351232) (i : Int) (k : Nat) (hik : i ≤ (k : Int)) (hi : i64P i) (hk : k ≤ b.length ∨ i = (k : Int) ∨ i < 0) :
    (bif decide (i < 0) then (some [.str ByteArray.empty, .int 0, .int 36]) else (bif (k : Int) == i then (some [.str ByteArray.empty, .int 0, .int 36]) else (bif decide ((IntKind.i64.wrap ((k : Int) - i)) > 32) then (some [.str ByteArray.empty, .int 0, .int 36]) else ((E C 26 [.shr 5 (b.map .int), .int .i64 (k : Int)]).bind fun d7 => (bif ((rd d7 0).I) != 62 then (some [.str ByteArray.empty, .int 0, .int 36]) else (bif decide (0 ≤ i) then (bif decide (i ≤ (k : Int)) then (bif decide ((k : Int) ≤ (((b.map Dat.int).length : Nat) : Int)) then (some [.str (strOf (((b.map Dat.int).take (k : Int).toNat).drop i.toNat)), .int (IntKind.i64.wrap ((k : Int) + 1)), .int 0]) else none) else none) else none))))) : R) = some (finN b i (k : Int)) := by
  unfold finN errN
  by_cases c1 : i < 0
  · rw [dT c1, if_pos (.inl c1)]
  by_cases c2 : (k : Int) = i
  · rw [dF c1, eT c2, if_pos (.inr (.inl c2))]
  have hkl : k ≤ b.length := by omega
  rw [dF c1, eF c2, w64 (by omega) (by omega), w64 (by omega) (by omega)]
  by_cases c3 : (k : Int) - i > 32
  · rw [dT c3, if_pos (.inr (.inr (.inl c3)))]
  rw [dF c3, bT (at_E b _)]
  simp only [rd0, datI, List.length_map]
  by_cases c4 : atB b (k : Int) = 62
  · rw [neF c4, dT (by omega), dT (by omega), dT (by omega), if_neg (by rintro (h | h | h | h) <;> first | exact h c4 | omega)]
    rfl
  · rw [neT c4, if_pos (.inr (.inr (.inr c4)))]
theorem name_loop (b : List Int) (hb : b.length ≤ 140737488351232) (i : Int) (hi : i64P i) (v4 : ByteArray) (v5 v6 : Int) : ∀ (d k : Nat), b.length - k = d → i ≤ (k : Int) → (k ≤ b.length ∨ i = (k : Int) ∨ i < 0) → (i = (k : Int) → digB (atB b k) = false) →
    M9_1 (b.map .int) i v4 v5 v6 (k : Int) (atB b (k : Int)) = some (finN b i (((k + wlen (b.drop k) : Nat)) : Int)) := by
  intro d
  induction d with
  | zero =>
    intro k hd hik hkl hdg
    have h0 : atB b (k : Int) = 0 := atB_out (by omega)
    have hw : wB (atB b (k : Int)) = false := by rw [h0]; rfl
    apply M9_1_of
    rw [bT (letter_E _), h0, show letB 0 = false from rfl]
    simp only [rd0, datB]
    rw [cF rfl, eF (by omega), bT (digit_E _), show digB 0 = false from rfl]
    simp only [rd0, datB]
    rw [cF rfl, wlen_end hw]
    exact fin_ok b hb i k hik hi hkl
  | succ d ih =>
    intro k hd hik hkl hdg
    have hlt : k < b.length := by omega
    have nx := ih (k + 1) (by omega) (by omega) (by omega) (by omega)
    have ew : IntKind.i64.wrap ((k : Int) + 1) = ((k + 1 : Nat) : Int) := by rw [w64 (by omega) (by omega)]; omega
    have hs : ∀ h : wB (atB b (k : Int)) = true, (((k + 1) + wlen (b.drop (k + 1)) : Nat)) = (k + wlen (b.drop k) : Nat) := fun h => by
      rw [wlen_drop hlt, if_pos h]; omega
    apply M9_1_of
    rw [bT (letter_E _)]
    simp only [rd0, datB]
    cases h1 : letB (atB b (k : Int)) with
    | true =>
      rw [cT rfl, ew, bT (at_E b _)]
      simp only [rd0, datI]
      rw [nx, hs (by simp [wB, h1])]
    | false =>
      rw [cF rfl]
      by_cases h2 : atB b (k : Int) = 95
      · rw [eT h2, ew, bT (at_E b _)]
        simp only [rd0, datI]
        rw [nx, hs (by simp [wB, h2])]
      rw [eF h2, bT (digit_E _)]
      simp only [rd0, datB]
      cases h3 : digB (atB b (k : Int)) with
      | true =>
        have hne : ¬ i = (k : Int) := fun h => by rw [hdg h] at h3; cases h3
        rw [cT rfl, dT (by omega), ew, bT (at_E b _)]
        simp only [rd0, datI]
        rw [nx, hs (by simp [wB, h3])]
      | false =>
        rw [cF rfl, wlen_end (by simp [wB, h1, h2, h3])]
        exact fin_ok b hb i k hik hi hkl
/-- What a name is read as. -/
def nameR (b : List Int) (i : Int) : List Dat := if i < 0 ∨ i ≥ (b.length : Int) ∨ digB (atB b i) = true then errN else finN b i (i + wlen (b.drop i.toNat))
theorem Name_E (b : List Int) (hb : b.length ≤ 140737488351232) (i : Int) (hi : i64P i) : E C 9 [.shr 5 (b.map .int), .int .i64 i] = some (nameR b i) := by
  apply o9
  rw [bT (at_E b _)]
  simp only [rd0, datI]
  unfold nameR
  by_cases h : 0 > i
  · rw [if_pos h, if_pos (.inl h)]
    refine (name_loop b hb i hi _ _ _ _ 0 rfl (by omega) (.inr (.inr h)) (by omega)).trans ?_
    unfold finN
    rw [if_pos (.inl h)]
  · rw [if_neg h]
    obtain ⟨k, rfl⟩ : ∃ k : Nat, i = (k : Int) := ⟨i.toNat, by omega⟩
    cases hg : digB (atB b (k : Int)) with
    | true =>
      rw [if_pos (.inr (.inr rfl))]
      have hl : letB (atB b (k : Int)) = false := by
        rw [digB_iff] at hg
        rw [letB_no]
        omega
      have hg' := digB_iff.1 hg
      apply M9_1_of
      rw [bT (letter_E _), hl]
      simp only [rd0, datB]
      rw [cF rfl, eF (by omega), bT (digit_E _), hg]
      simp only [rd0, datB]
      rw [cT rfl, dF (by omega), dF (by omega), eT rfl]
      rfl
    | false =>
      refine (name_loop b hb (k : Int) hi _ _ _ _ k rfl (by omega) (.inr (.inl rfl)) (fun _ => hg)).trans ?_
      by_cases hl : (k : Int) ≥ (b.length : Int)
      · rw [if_pos (.inr (.inl hl)), wlen_end (by rw [atB_out (by omega)]; rfl)]
        unfold finN
        rw [if_pos (.inr (.inl (by omega)))]
      · rw [if_neg (by rintro (h' | h' | h') <;> first | omega | cases h'), Int.toNat_natCast]
        congr 1
theorem name2_loop (b : List Int) (hb : b.length ≤ 140737488351232) (i : Nat) (v4 : ByteArray) (v5 v6 : Int) : ∀ (d k : Nat), b.length - k = d → i ≤ k → k ≤ b.length →
    M10_1 (b.map .int) (i : Int) v4 v5 v6 (k : Int) = some (finN b (i : Int) (((k + wlen (b.drop k) : Nat)) : Int)) := by
  intro d
  induction d with
  | zero =>
    intro k hd hik hkl
    have h0 : atB b (k : Int) = 0 := atB_out (by omega)
    apply M10_1_of
    rw [List.length_map, dF (by omega), wlen_end (by rw [h0]; rfl), Nat.add_zero]
    unfold finN
    rw [if_pos (.inr (.inr (.inr (by omega))))]
    rfl
  | succ d ih =>
    intro k hd hik hkl
    have hlt : k < b.length := by omega
    have nx := ih (k + 1) (by omega) (by omega) (by omega)
    have ew : IntKind.i64.wrap ((k : Int) + 1) = ((k + 1 : Nat) : Int) := by rw [w64 (by omega) (by omega)]; omega
    have hs : ∀ h : wB (atB b (k : Int)) = true, (((k + 1) + wlen (b.drop (k + 1)) : Nat)) = (k + wlen (b.drop k) : Nat) := fun h => by
      rw [wlen_drop hlt, if_pos h]; omega
    apply M10_1_of
    rw [List.length_map, dT (by omega), ixT ⟨by omega, by omega⟩, rdA ⟨by omega, by omega⟩]
    by_cases c0 : atB b (k : Int) = 62
    · rw [eT c0, wlen_end (by rw [c0]; rfl), Nat.add_zero]
      unfold finN
      by_cases c1 : (k : Int) = (i : Int)
      · rw [eT c1, if_pos (.inr (.inl c1))]; rfl
      rw [eF c1, w64 (n := (k : Int) - (i : Int)) (by omega) (by omega), ew]
      by_cases c2 : (k : Int) - (i : Int) > 32
      · rw [dT c2, if_pos (.inr (.inr (.inl c2)))]; rfl
      · rw [dF c2, dT (by omega), dT (by omega), dT (by omega), if_neg (by rintro (h | h | h | h) <;> first | exact h c0 | omega)]
        rfl
    rw [eF c0, bT (letter2_E _)]
    simp only [rd0, datB]
    cases h1 : letB (atB b (k : Int)) with
    | true => rw [nF rfl, ew, nx, hs (by simp [wB, h1])]
    | false =>
      rw [nT rfl, bT (digit2_E _)]
      simp only [rd0, datB]
      cases h3 : digB (atB b (k : Int)) with
      | true => rw [nF rfl, ew, nx, hs (by simp [wB, h3])]
      | false =>
        rw [nT rfl]
        by_cases h2 : atB b (k : Int) = 95
        · rw [neF h2, ew, nx, hs (by simp [wB, h2])]
        · rw [neT h2, wlen_end (by simp [wB, h1, h2, h3]), Nat.add_zero]
          unfold finN
          rw [if_pos (.inr (.inr (.inr c0)))]
          rfl
theorem Name2_E (b : List Int) (hb : b.length ≤ 140737488351232) (i : Int) : E C 10 [.shr 5 (b.map .int), .int .i64 i] = some (nameR b i) := by
  apply o10
  unfold nameR
  rw [List.length_map]
  by_cases h : i < 0
  · rw [dT h, if_pos (.inl h)]; rfl
  by_cases h2 : i ≥ (b.length : Int)
  · rw [dF h, dT h2, if_pos (.inr (.inl h2))]; rfl
  rw [dF h, dF h2, ixT ⟨by omega, by omega⟩, rdA ⟨by omega, by omega⟩, bT (digit2_E _)]
  simp only [rd0, datB]
  obtain ⟨k, rfl⟩ : ∃ k : Nat, i = (k : Int) := ⟨i.toNat, by omega⟩
  cases hg : digB (atB b (k : Int)) with
  | true => rw [cT rfl, if_pos (.inr (.inr rfl))]; rfl
  | false =>
    rw [cF rfl, if_neg (by rintro (h' | h' | h') <;> first | omega | cases h'), Int.toNat_natCast]
    exact name2_loop b hb k _ _ _ _ k rfl (Nat.le_refl _) (by omega)
end Go.Proofs.YtedhomemalnpfaaGreatDoor.V
