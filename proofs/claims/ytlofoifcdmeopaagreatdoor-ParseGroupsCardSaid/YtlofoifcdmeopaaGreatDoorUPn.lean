/- Parentheses within one another. -/
import Derived.Test.YtlofoifcdmeopaaGreatDoorUPg
namespace Go.Proofs.YtlofoifcdmeopaaGreatDoor.V
open Go Go.Ev Go.RowKit
set_option linter.unusedVariables false
set_option linter.unusedSimpArgs false
def gb (n : Nat) : List Int := List.replicate n 40 ++ 97 :: List.replicate n 41
theorem gb_len (n : Nat) : (gb n).length = 2 * n + 1 := by unfold gb; simp; omega
theorem gb_bytes (n : Nat) : isBytes (gb n) = true := by unfold gb isBytes; simp
theorem gb_lt {n i : Nat} (h : i < n) : atB (gb n) (i : Int) = 40 := by
  rw [atB_in (by rw [gb_len]; omega)]
  unfold gb
  rw [List.getElem_append_left (by simpa using h)]
  simp
theorem gb_mid (n : Nat) : atB (gb n) (n : Int) = 97 := by
  rw [atB_in (by rw [gb_len]; omega)]
  unfold gb
  rw [List.getElem_append_right (by simp)]
  simp
theorem gb_gt {n i : Nat} (h : n < i) (h2 : i ≤ 2 * n) : atB (gb n) (i : Int) = 41 := by
  rw [atB_in (by rw [gb_len]; omega)]
  unfold gb
  rw [List.getElem_append_right (by simp; omega)]
  simp only [List.length_replicate]
  obtain ⟨j, hj⟩ : ∃ j, i - n = j + 1 := ⟨i - n - 1, by omega⟩
  simp [hj]
theorem gb_out {n i : Nat} (h : 2 * n + 1 ≤ i) : atB (gb n) (i : Int) = 0 := atB_out (by rw [gb_len]; omega)
theorem no_q {b : List Int} {i c : Int} (h : atB b i = c) (hc : c = 40 ∨ c = 41 ∨ c = 97 ∨ c = 0) : cntQ b i = none := by
  unfold cntQ
  rw [h, if_neg (by omega), if_neg (by omega), if_neg (by omega), if_neg (by omega)]
theorem sym97 (k b1 b2 b3 : Nat) : symN (k + 1) 97 b1 b2 b3 = (97, 1) := by
  unfold symN Go.Lib.decodeN
  simp
theorem gb_sym (n : Nat) : symR (gb n) (n : Int) = (97, 1) := by
  unfold symR
  rw [if_pos ⟨by omega, by rw [gb_len]; omega⟩, Int.toNat_natCast]
  unfold symA
  have h : bn (gb n) n = 97 := by
    have := getD_bn (gb_bytes n) n
    have h2 := gb_mid n
    unfold atB at h2
    rw [if_pos ⟨by omega, by rw [gb_len]; omega⟩, Int.toNat_natCast] at h2
    omega
  obtain ⟨k, hk⟩ : ∃ k, (gb n).length - n = k + 1 := ⟨n, by rw [gb_len]; omega⟩
  rw [h, hk, sym97]
/-- The state ahead of a level, and behind it. -/
def st (i : Nat) : PS := ⟨(i : Int), false, false, false, false, (i : Int), List.replicate (i + 1) ByteArray.empty, 0, 0⟩
def sa (n j : Nat) : PS := ⟨((n + 1 + j : Nat) : Int), false, false, false, false, (n : Int), List.replicate (n + 1) ByteArray.empty, 0, 0⟩
def gpN (n : Nat) : Nat → Nd
  | 0 => ⟨2, (n : Int), ((n + 1 : Nat) : Int), 0, 0, 0, 0, ByteArray.empty, [(97, 97)], []⟩
  | j + 1 => ⟨7, ((n - (j + 1) : Nat) : Int), ((n + 2 + j : Nat) : Int), ((n - j : Nat) : Int), 0, 0, 0, ByteArray.empty, [], []⟩
def gpK (n : Nat) : Nat → List Dat
  | 0 => []
  | j + 1 => [ptD (gpN n j) (gpK n j)]
theorem mk97 : mk [(97, 97)] = [(97, 97)] := by decide
theorem st_next (i : Nat) : { st i with k := (st i).k + 1, gr := (st i).gr + 1, nm := (st i).nm ++ [ByteArray.empty] } = st (i + 1) := by
  unfold st
  simp [List.replicate_succ']
theorem gb_small {n : Nat} (h : n ≤ 110) : (gb n).length ≤ 140737488351232 := by rw [gb_len]; omega
theorem lev_ends {n i : Nat} (h : i ≤ n) : endsB (gb n) (st i) = false := by
  have hc : atB (gb n) (i : Int) = 40 ∨ atB (gb n) (i : Int) = 97 := by
    rcases Nat.lt_or_eq_of_le h with h | rfl
    · exact .inl (gb_lt h)
    · exact .inr (gb_mid i)
  show (((0 : Int) != 0 || decide ((i : Int) ≥ ((gb n).length : Int))) || atB (gb n) (i : Int) == 124 || atB (gb n) (i : Int) == 41) = false
  rw [gb_len, decide_eq_false (by omega)]
  rcases hc with hc | hc <;> rw [hc] <;> rfl
theorem behind {n i : Nat} (h : n < i) : atB (gb n) (i : Int) = 41 ∨ (atB (gb n) (i : Int) = 0 ∧ 2 * n + 1 ≤ i) := by
  by_cases c : i ≤ 2 * n
  · exact .inl (gb_gt h c)
  · exact .inr ⟨gb_out (by omega), by omega⟩
theorem sa_ends (n j : Nat) : endsB (gb n) (sa n j) = true := by
  show (((0 : Int) != 0 || decide (((n + 1 + j : Nat) : Int) ≥ ((gb n).length : Int))) || atB (gb n) ((n + 1 + j : Nat) : Int) == 124 || atB (gb n) ((n + 1 + j : Nat) : Int) == 41) = true
  rcases behind (show n < n + 1 + j by omega) with h | ⟨h, h2⟩
  · rw [h]; simp
  · rw [gb_len, decide_eq_true (by omega)]; rfl
theorem lev_ok {n : Nat} (hn : n ≤ 99) : ∀ j : Nat, j ≤ n → E C 66 [pv (gb n) (st (n - j)), .int .i64 ((n - j : Nat) : Int)] = some [ptD (gpN n j) (gpK n j), pd (gb n) (sa n j)]
  | j, hj => by
    have hb := gb_small (n := n) (by omega)
    have i1 : i64P (st (n - j)).k := by unfold i64P st; dsimp only; omega
    have i2 : i64P (sa n j).k := by unfold i64P sa; dsimp only; omega
    have piece : E C 148 [pv (gb n) (st (n - j)), .int .i64 ((n - j : Nat) : Int)] = some [.list [ptD (gpN n j) (gpK n j)], pd (gb n) (sa n j)] := by
      match j, hj with
      | 0, _ =>
        have hat := atom_lit (gb n) (gb_bytes n) hb (st n) (n : Int) ⟨by unfold st; dsimp only; omega, by unfold st; dsimp only; omega⟩ (by
          have : atB (gb n) (st n).k = 97 := gb_mid n
          rw [this]; decide) (by rw [show symR (gb n) (st n).k = (97, 1) from gb_sym n]; decide)
        rw [show symR (gb n) (st n).k = (97, 1) from gb_sym n, mk97] at hat
        exact piece_ok (gb n) hb (st n) (n : Int) rfl (no_q (gb_mid n) (.inr (.inr (.inl rfl)))) hat rfl i2 (by
          rcases behind (show n < n + 1 by omega) with h | ⟨h, -⟩
          · exact no_q h (.inr (.inl rfl))
          · exact no_q h (.inr (.inr (.inr rfl)))) (by show (2 : Int) ≠ 0; decide)
      | j + 1, hj =>
        have ih := lev_ok hn j (by omega)
        have e1 : n - j = n - (j + 1) + 1 := by omega
        rw [e1, ← st_next] at ih
        have hlt : n - (j + 1) < n := by omega
        have hg := group_ok (gb n) (st (n - (j + 1))) ((n - (j + 1) + 1 : Nat) : Int) (by omega) rfl ⟨by unfold st; dsimp only; omega, by unfold st; dsimp only; omega⟩ (by
          show atB (gb n) (((n - (j + 1) : Nat) : Int) + 1) ≠ 63
          rw [show (((n - (j + 1) : Nat) : Int) + 1) = ((n - (j + 1) + 1 : Nat) : Int) by omega]
          rcases Nat.lt_or_eq_of_le (show n - (j + 1) + 1 ≤ n by omega) with h | h
          · rw [gb_lt h]; decide
          · rw [h, gb_mid]; decide) ⟨by unfold st; dsimp only; omega, by unfold st; dsimp only; omega⟩ (by unfold st; simp; omega) ih rfl ⟨by unfold sa; dsimp only; omega, by rw [gb_len]; unfold sa; dsimp only; omega, by unfold sa; dsimp only; omega⟩ (gb_gt (by omega) (by omega))
        have hat := atom_par (gb n) (st (n - (j + 1))) ((n - (j + 1) : Nat) : Int) ⟨by omega, by omega⟩ (by unfold st; dsimp only; omega) (gb_lt hlt) hg
        have := piece_ok (gb n) hb (st (n - (j + 1))) ((n - (j + 1) : Nat) : Int) rfl (no_q (gb_lt hlt) (.inl rfl)) hat rfl (by unfold i64P sa; dsimp only; omega) (by
          show cntQ (gb n) (((n + 1 + j : Nat) : Int) + 1) = none
          rw [show (((n + 1 + j : Nat) : Int) + 1) = ((n + 1 + (j + 1) : Nat) : Int) by omega]
          rcases behind (show n < n + 1 + (j + 1) by omega) with h | ⟨h, -⟩
          · exact no_q h (.inr (.inl rfl))
          · exact no_q h (.inr (.inr (.inr rfl)))) (by show (7 : Int) ≠ 0; decide)
        refine this.trans ?_
        have n1 : (⟨7, (st (n - (j + 1))).k, (sa n j).k + 1, (st (n - (j + 1))).gr + 1, 0, 0, 0, ByteArray.empty, [], []⟩ : Nd) = gpN n (j + 1) := by
          unfold st sa gpN
          simp only [Nd.mk.injEq, true_and, and_true]
          omega
        rw [n1]
        show some [Dat.list [ptD (gpN n (j + 1)) (gpK n (j + 1))], pd (gb n) { k := ((n + 1 + j : Nat) : Int) + 1, fo := false, li := false, al := false, wi := false, gr := (n : Int), nm := List.replicate (n + 1) ByteArray.empty, e := 0, wh := 0 }] = _
        rw [show ((n + 1 + j : Nat) : Int) + 1 = ((n + 1 + (j + 1) : Nat) : Int) by omega]
        rfl
    refine alt_one (gb n) (st (n - j)) _ (row_one (x := .int 0) (gb n) hb (st (n - j)) _ rfl i1 (by unfold st; dsimp only; omega) (lev_ends (by omega)) piece (Nat.le_refl _) rfl i2 (by unfold sa; dsimp only; omega) (sa_ends n j)) (by unfold sa; dsimp only; omega) ?_
    rcases behind (show n < n + 1 + j by omega) with h | ⟨h, h2⟩
    · exact .inr (by rw [show atB (gb n) (sa n j).k = 41 from h]; decide)
    · exact .inr (by rw [show atB (gb n) (sa n j).k = 0 from h]; decide)
def sb : PS := ⟨100, false, false, false, false, 99, List.replicate 100 ByteArray.empty, 40, 99⟩
theorem lev_bad {n : Nat} (hn : 100 ≤ n) (hn2 : n ≤ 110) : ∀ j : Nat, j ≤ 99 → E C 66 [pv (gb n) (st (99 - j)), .int .i64 ((99 - j : Nat) : Int)] = some [ptD ⟨1, ((99 - j : Nat) : Int), ((99 - j : Nat) : Int), 0, 0, 0, 0, ByteArray.empty, [], []⟩ [], pd (gb n) sb]
  | j, hj => by
    have hb := gb_small (n := n) (by omega)
    have i1 : i64P (st (99 - j)).k := by unfold i64P st; dsimp only; omega
    have i2 : i64P sb.k := by unfold i64P sb; dsimp only; omega
    have hq : ∀ i : Nat, i ≤ 99 → atB (gb n) ((st i).k + 1) ≠ 63 := fun i hi => by
      show atB (gb n) ((i : Int) + 1) ≠ 63
      rw [show ((i : Int) + 1) = ((i + 1 : Nat) : Int) by omega]
      rcases Nat.lt_or_eq_of_le (show i + 1 ≤ n by omega) with h | h
      · rw [gb_lt h]; decide
      · rw [h, gb_mid]; decide
    have piece : E C 148 [pv (gb n) (st (99 - j)), .int .i64 ((99 - j : Nat) : Int)] = some [.list [], pd (gb n) sb] := by
      match j, hj with
      | 0, _ =>
        have hg := group_many (gb n) (st 99) 100 (by decide) rfl ⟨by decide, by decide⟩ (hq 99 (by omega)) rfl
        have hat := atom_par (gb n) (st 99) 99 (by decide) (by decide) (gb_lt (by omega)) hg
        exact piece_bad (gb n) hb (st 99) 99 rfl (no_q (gb_lt (show 99 < n by omega)) (.inl rfl)) hat (by decide)
      | j + 1, hj =>
        have ih := lev_bad hn hn2 j (by omega)
        have e1 : 99 - j = 99 - (j + 1) + 1 := by omega
        rw [e1, ← st_next] at ih
        have hlt : 99 - (j + 1) < n := by omega
        have hg := group_bad (gb n) (st (99 - (j + 1))) ((99 - (j + 1) + 1 : Nat) : Int) (by omega) rfl ⟨by unfold st; dsimp only; omega, by unfold st; dsimp only; omega⟩ (hq _ (by omega)) ⟨by unfold st; dsimp only; omega, by unfold st; dsimp only; omega⟩ (by unfold st; simp; omega) ih (by decide) (by decide)
        have hat := atom_par (gb n) (st (99 - (j + 1))) ((99 - (j + 1) : Nat) : Int) ⟨by omega, by omega⟩ (by unfold st; dsimp only; omega) (gb_lt hlt) hg
        exact piece_bad (gb n) hb (st (99 - (j + 1))) ((99 - (j + 1) : Nat) : Int) rfl (no_q (gb_lt hlt) (.inl rfl)) hat (by show (40 : Int) ≠ 0; decide)
    exact alt_one (gb n) (st (99 - j)) _ (row_one (x := .int 0) (gb n) hb (st (99 - j)) _ rfl i1 (by unfold st; dsimp only; omega) (lev_ends (by omega)) piece (by decide) rfl i2 (by decide) (by
      unfold endsB
      rw [show overB (gb n) (skipS (gb n) sb) = true from rfl]
      rfl)) (by decide) (.inl rfl)
end Go.Proofs.YtlofoifcdmeopaaGreatDoor.V
