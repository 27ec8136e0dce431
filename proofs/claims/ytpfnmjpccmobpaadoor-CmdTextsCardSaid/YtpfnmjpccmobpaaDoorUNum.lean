/- The library's decimal numbers are the program's. -/
import Derived.Test.YtpfnmjpccmobpaaDoorUGf
import Derived.Lib.ParseIntBCases
namespace Go.Ev
open Go
set_option linter.unusedVariables false
set_option linter.unusedSimpArgs false
/-- The library's numbers and the program's. -/
theorem num_of (l : List UInt8) : ∀ a : Nat, a ≤ 2147483647 → (∀ u, Lib.parseUint10 a l = .ok u → (u ≤ 2147483647 → numB l a = some u) ∧ (u > 2147483647 → numB l a = none) ∧ u ≥ a) ∧ ((∀ u, Lib.parseUint10 a l ≠ .ok u) → numB l a = none) := by
  induction l with
  | nil =>
    intro a ha
    refine ⟨fun u h => ?_, fun h => absurd rfl (h a)⟩
    have : a = u := by
      simp only [Lib.parseUint10] at h
      injection h
    subst this
    exact ⟨fun _ => rfl, fun h => by omega, Nat.le_refl _⟩
  | cons c l ih =>
    intro a ha
    by_cases hd : 48 ≤ c.toNat ∧ c.toNat ≤ 57
    · by_cases hs : a * 10 + (c.toNat - 48) ≤ 2147483647
      · have e1 : Lib.parseUint10 a (c :: l) = Lib.parseUint10 (a * 10 + (c.toNat - 48)) l := by
          simp only [Lib.parseUint10]
          rw [if_pos hd, if_neg (by omega), if_neg (by omega)]
        have e2 : numB (c :: l) a = numB l (a * 10 + (c.toNat - 48)) := by rw [numB, if_pos ⟨hd.1, hd.2, hs⟩]
        rw [e1, e2]
        obtain ⟨h1, h2⟩ := ih _ hs
        exact ⟨fun u hu => ⟨(h1 u hu).1, (h1 u hu).2.1, by have := (h1 u hu).2.2; omega⟩, h2⟩
      · have e2 : numB (c :: l) a = none := by rw [numB, if_neg (fun h => hs h.2.2)]
        refine ⟨fun u hu => ⟨fun hle => ?_, fun _ => e2, ?_⟩, fun _ => e2⟩
        · have := ge_of (c :: l) a u hu
          have h3 : u ≥ a * 10 + (c.toNat - 48) := by
            simp only [Lib.parseUint10] at hu
            rw [if_pos hd] at hu
            split at hu
            · cases hu
            · split at hu
              · cases hu
              · exact ge_of _ _ _ hu
          omega
        · exact ge_of (c :: l) a u hu
    · have e1 : ∀ u, Lib.parseUint10 a (c :: l) ≠ .ok u := fun u h => by
        simp only [Lib.parseUint10] at h
        rw [if_neg hd] at h
        cases h
      have e2 : numB (c :: l) a = none := by rw [numB, if_neg (fun h => hd ⟨h.1, h.2.1⟩)]
      exact ⟨fun u hu => absurd hu (e1 u), fun _ => e2⟩
where
  ge_of : ∀ (l : List UInt8) (a u : Nat), Lib.parseUint10 a l = .ok u → u ≥ a
    | [], a, u, h => by
      simp only [Lib.parseUint10] at h
      injection h with h
      omega
    | c :: l, a, u, h => by
      simp only [Lib.parseUint10] at h
      split at h
      · split at h
        · cases h
        · split at h
          · cases h
          · have := ge_of l _ u h
            omega
      · cases h
theorem num_top (l : List UInt8) : (∃ u, Lib.parseUintB 64 l = .ok u ∧ u < 18446744073709551616 ∧ l ≠ [] ∧ l.head? ≠ some 43 ∧ numL l = if u ≤ 2147483647 then some u else none) ∨ ((∀ u, Lib.parseUintB 64 l ≠ .ok u) ∧ numL l = none) := by
  rw [Lib.parseUintB_64]
  unfold Lib.parseMag numL
  cases l with
  | nil => exact .inr ⟨fun u => (by simp), rfl⟩
  | cons c l =>
    rw [if_neg (by simp), show (c :: l).isEmpty = false from rfl, cond_false]
    obtain ⟨h1, h2⟩ := num_of (c :: l) 0 (by omega)
    by_cases hu : ∃ u, Lib.parseUint10 0 (c :: l) = .ok u
    · obtain ⟨u, hp⟩ := hu
      rw [hp]
      refine .inl ⟨u, rfl, Lib.parseUint10_lt _ _ _ (by omega) hp, by simp, ?_, ?_⟩
      · intro e
        have e : c = 43 := Option.some.inj e
        subst e
        simp [Lib.parseUint10] at hp
      · by_cases hu : u ≤ 2147483647
        · rw [if_pos hu]; exact (h1 u hp).1 hu
        · rw [if_neg hu]; exact (h1 u hp).2.1 (by omega)
    · have hn : ∀ u, Lib.parseUint10 0 (c :: l) ≠ .ok u := fun u e => hu ⟨u, e⟩
      exact .inr ⟨hn, h2 hn⟩
end Go.Ev
