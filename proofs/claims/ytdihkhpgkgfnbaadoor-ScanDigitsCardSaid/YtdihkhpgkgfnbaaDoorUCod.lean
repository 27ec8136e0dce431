/- Symbols by their numbers: hexadecimal digits, the program's and the document's. -/
import Derived.Test.YtdihkhpgkgfnbaaDoorUSca
import Derived.Test.YtdihkhpgkgfnbaaDoorVTSy
namespace Go.Proofs.YtdihkhpgkgfnbaaDoor.V
open Go Go.Ev Go.RowKit
set_option linter.unusedVariables false
set_option linter.unusedSimpArgs false
def isSym (x : Int) : Bool := decide ((0 ≤ x ∧ x ≤ 55295) ∨ (57344 ≤ x ∧ x ≤ 1114111) ∨ (1114240 ≤ x ∧ x ≤ 1114367))
theorem isSym_iff (x : Int) : isSym x = true ↔ (0 ≤ x ∧ x ≤ 55295) ∨ (57344 ≤ x ∧ x ≤ 1114111) ∨ (1114240 ≤ x ∧ x ≤ 1114367) := by
  unfold isSym
  rw [decide_eq_true_eq]
theorem isSym_dec {x : Int} {c : Prop} [Decidable c] (h : c ↔ (0 ≤ x ∧ x ≤ 55295) ∨ (57344 ≤ x ∧ x ≤ 1114111) ∨ (1114240 ≤ x ∧ x ≤ 1114367)) : decide c = isSym x := by
  unfold isSym
  exact decide_eq_decide.2 h
theorem isSym_true {x : Int} (h : (0 ≤ x ∧ x ≤ 55295) ∨ (57344 ≤ x ∧ x ≤ 1114111) ∨ (1114240 ≤ x ∧ x ≤ 1114367)) : true = isSym x := ((isSym_iff x).mpr h).symm
theorem isSym_false {x : Int} (h : ¬ ((0 ≤ x ∧ x ≤ 55295) ∨ (57344 ≤ x ∧ x ≤ 1114111) ∨ (1114240 ≤ x ∧ x ≤ 1114367))) : false = isSym x := (Bool.eq_false_iff.mpr (fun e => h ((isSym_iff x).mp e))).symm
/-- A hexadecimal digit's number; -1: it is none. -/
def hexV (c : Int) : Int := if 48 ≤ c ∧ c ≤ 57 then c - 48 else if 97 ≤ c ∧ c ≤ 102 then c - 87 else if 65 ≤ c ∧ c ≤ 70 then c - 55 else -1
theorem hexV_in (c : Int) : -1 ≤ hexV c ∧ hexV c ≤ 15 := by
  unfold hexV
  split
  · omega
  split
  · omega
  split <;> omega
theorem hex_E (c : Int) : E C 53 [.int .u8 c] = some [.int (hexV c)] := by
  apply o53
  rw [bT (digit_E c)]
  simp only [rd0, datB]
  unfold hexV
  cases hd : digB c with
  | true =>
    have h := digB_iff.1 hd
    rw [cT rfl, w8 (by omega) (by omega), w64 (by omega) (by omega), if_pos h]
  | false =>
    have h := digB_no.1 hd
    rw [cF rfl, if_neg h]
    by_cases c1 : c ≥ 97
    · by_cases c2 : c ≤ 102
      · rw [dT c1, dT c2, w8 (by omega) (by omega), w64 (n := c - 97) (by omega) (by omega), w64 (by omega) (by omega), if_pos ⟨c1, c2⟩, show c - 97 + 10 = c - 87 by omega]
      · rw [dT c1, dF c2, dT (by omega), dF (by omega), if_neg (by omega), if_neg (by omega)]
    · rw [dF c1, if_neg (by omega)]
      by_cases c3 : c ≥ 65
      · by_cases c4 : c ≤ 70
        · rw [dT c3, dT c4, w8 (by omega) (by omega), w64 (n := c - 65) (by omega) (by omega), w64 (by omega) (by omega), if_pos ⟨c3, c4⟩, show c - 65 + 10 = c - 55 by omega]
        · rw [dT c3, dF c4, if_neg (by omega)]
      · rw [dF c3, if_neg (by omega)]
/-- Where a number stands in a list; -1: nowhere. -/
def findI : List Int → Int → Int → Int
  | [], _, _ => -1
  | x :: l, c, k => if x = c then k else findI l c (k + 1)
def nats (s : List UInt8) : List Int := s.map fun x => (x.toNat : Int)
theorem bt_bs (s : List UInt8) (k : Nat) (h : k < s.length) : bt (bs s) k = ((s[k]).toNat : Int) := by simp [bt, bs, List.getD_eq_getElem?_getD, h]
theorem bs_size (s : List UInt8) : (bs s).size = s.length := by
  show s.toArray.size = _
  simp
theorem find_hex1 (c : Int) : findI (nats [48, 49, 50, 51, 52, 53, 54, 55, 56, 57, 97, 98, 99, 100, 101, 102]) c 0 = if 48 ≤ c ∧ c ≤ 57 then c - 48 else if 97 ≤ c ∧ c ≤ 102 then c - 87 else -1 := by
  have e : nats [48, 49, 50, 51, 52, 53, 54, 55, 56, 57, 97, 98, 99, 100, 101, 102] = [48, 49, 50, 51, 52, 53, 54, 55, 56, 57, 97, 98, 99, 100, 101, 102] := rfl
  rw [e]
  simp only [findI]
  repeat' split
  all_goals omega
theorem find_hex2 (c : Int) : findI (nats [48, 49, 50, 51, 52, 53, 54, 55, 56, 57, 65, 66, 67, 68, 69, 70]) c 0 = if 48 ≤ c ∧ c ≤ 57 then c - 48 else if 65 ≤ c ∧ c ≤ 70 then c - 55 else -1 := by
  have e : nats [48, 49, 50, 51, 52, 53, 54, 55, 56, 57, 65, 66, 67, 68, 69, 70] = [48, 49, 50, 51, 52, 53, 54, 55, 56, 57, 65, 66, 67, 68, 69, 70] := rfl
  rw [e]
  simp only [findI]
  repeat' split
  all_goals omega
/-- A number of at most so many hexadecimal digits; how many they are. -/
def hexG : Nat → List Int → Int → Int × Nat
  | 0, _, a => (a, 0)
  | m + 1, l, a => match l with
    | [] => (a, 0)
    | c :: l => if hexV c ≥ 0 then ((hexG m l (a * 16 + hexV c)).1, (hexG m l (a * 16 + hexV c)).2 + 1) else (a, 0)
theorem hexG_le : ∀ (m : Nat) (l : List Int) (a : Int), (hexG m l a).2 ≤ m ∧ (hexG m l a).2 ≤ l.length
  | 0, l, a => ⟨Nat.le_refl _, Nat.zero_le _⟩
  | m + 1, [], a => ⟨Nat.zero_le _, Nat.le_refl _⟩
  | m + 1, c :: l, a => by
    have := hexG_le m l (a * 16 + hexV c)
    unfold hexG
    dsimp only
    split
    · simp only [List.length_cons]; omega
    · simp
theorem hexG_drop {b : List Int} {k : Nat} (m : Nat) (a : Int) : hexG (m + 1) (b.drop k) a = if hexV (atB b (k : Int)) ≥ 0 then ((hexG m (b.drop (k + 1)) (a * 16 + hexV (atB b (k : Int)))).1, (hexG m (b.drop (k + 1)) (a * 16 + hexV (atB b (k : Int)))).2 + 1) else (a, 0) := by
  by_cases h : k < b.length
  · rw [List.drop_eq_getElem_cons h, hexG, atB_in h]
  · rw [List.drop_of_length_le (by omega), atB_out (by omega), if_neg (by decide)]
    rfl
theorem pow16 {k : Nat} (h : k ≤ 6) : (16 : Int) ^ k ≤ 16777216 := by
  have : k = 0 ∨ k = 1 ∨ k = 2 ∨ k = 3 ∨ k = 4 ∨ k = 5 ∨ k = 6 := by omega
  rcases this with rfl | rfl | rfl | rfl | rfl | rfl | rfl <;> decide
theorem hexes_loop (b : List Int) (hb : b.length ≤ 140737488351232) (i : Nat) (hi : i ≤ b.length + 10) (most : Nat) (hm : most ≤ 6) (v6 v7 : Int) : ∀ (m k : Nat) (a : Int), k + m = most → 0 ≤ a → a + 1 ≤ 16 ^ k →
    M36_1 (b.map .int) (i : Int) (most : Int) v6 v7 a (k : Int) = some [.int (hexG m (b.drop (i + k)) a).1, .int (((k + (hexG m (b.drop (i + k)) a).2 : Nat)) : Int)] := by
  intro m
  induction m with
  | zero =>
    intro k a hk h0 h1
    apply M36_1_of
    rw [dF (by omega)]
    rfl
  | succ m ih =>
    intro k a hk h0 h1
    have hp := pow16 (k := k) (by omega)
    have ew : IntKind.i64.wrap ((i : Int) + (k : Int)) = ((i + k : Nat) : Int) := by rw [w64 (by omega) (by omega)]; omega
    have hh := hexV_in (atB b ((i + k : Nat) : Int))
    apply M36_1_of
    rw [dT (by omega), ew, bT (at_E b _)]
    simp only [rd0, datI]
    rw [bT (hex_E _)]
    simp only [rd0, datI]
    rw [hexG_drop]
    by_cases h : hexV (atB b ((i + k : Nat) : Int)) ≥ 0
    · have hin : i + k < b.length := Classical.byContradiction fun hn => by
        rw [atB_out (by omega)] at h
        exact absurd h (by decide)
      rw [dT h, if_pos h, List.length_map, ixT ⟨by omega, by omega⟩, rdA ⟨by omega, by omega⟩, bT (hex_E _)]
      simp only [rd0, datI]
      rw [w64 (n := a * 16) (by omega) (by omega), w64 (n := a * 16 + hexV (atB b ((i + k : Nat) : Int))) (by omega) (by omega), show IntKind.i64.wrap ((k : Int) + 1) = ((k + 1 : Nat) : Int) from by rw [w64 (by omega) (by omega)]; omega]
      have hps : (16 : Int) ^ (k + 1) = 16 ^ k * 16 := Int.pow_succ 16 k
      refine (ih (k + 1) _ (by omega) (by omega) (by rw [hps]; omega)).trans ?_
      rw [show i + (k + 1) = i + k + 1 from rfl]
      have e : ∀ n : Nat, ((k + 1 + n : Nat) : Int) = ((k + (n + 1) : Nat) : Int) := fun n => by omega
      rw [e]
    · rw [dF h, if_neg h]
      rfl
theorem hexes_E (b : List Int) (hb : b.length ≤ 140737488351232) (i : Nat) (hi : i ≤ b.length + 10) (most : Nat) (hm : most ≤ 6) : E C 36 [.shr 5 (b.map .int), .int .i64 (i : Int), .int .i64 (most : Int)] = some [.int (hexG most (b.drop i) 0).1, .int (((hexG most (b.drop i) 0).2 : Nat) : Int)] := by
  apply o36
  refine (hexes_loop b hb i hi most hm 0 0 most 0 0 (by omega) (by omega) (by decide)).trans ?_
  rw [Nat.add_zero, Nat.zero_add]
theorem hexes6_E (b : List Int) (hb : b.length ≤ 140737488351232) (i : Nat) (hi : i ≤ b.length + 10) : E C 36 [.shr 5 (b.map .int), .int .i64 (i : Int), .int .i64 6] = some [.int (hexG 6 (b.drop i) 0).1, .int (((hexG 6 (b.drop i) 0).2 : Nat) : Int)] := hexes_E b hb i hi 6 (by omega)
theorem hexes2_E (b : List Int) (hb : b.length ≤ 140737488351232) (i : Nat) (hi : i ≤ b.length + 10) : E C 36 [.shr 5 (b.map .int), .int .i64 (i : Int), .int .i64 2] = some [.int (hexG 2 (b.drop i) 0).1, .int (((hexG 2 (b.drop i) 0).2 : Nat) : Int)] := hexes_E b hb i hi 2 (by omega)
theorem Is_E (x : Int) : E C 37 [.int .i64 x] = some [.bool (isSym x)] := by
  apply o37
  by_cases h0 : x < 0
  · rw [dT h0, isSym_false (x := x) (by omega)]
  rw [dF h0]
  by_cases h1 : x > 1114367
  · rw [dT h1, isSym_false (x := x) (by omega)]
  rw [dF h1]
  by_cases h2 : x > 1114111
  · rw [dT h2, isSym_dec (x := x) (by omega)]
  rw [dF h2]
  by_cases h3 : x < 55296
  · rw [dT h3, isSym_true (x := x) (by omega)]
  · rw [dF h3, isSym_dec (x := x) (by omega)]
/-- A symbol by its number, behind the x: the number, and behind it. -/
def codeS (b : List Int) (j : Nat) : Option (Int × Nat) :=
  if atB b (j : Int) = 123 then
    if (hexG 6 (b.drop (j + 1)) 0).2 = 0 ∨ atB b ((j + 1 + (hexG 6 (b.drop (j + 1)) 0).2 : Nat) : Int) ≠ 125 ∨ isSym (hexG 6 (b.drop (j + 1)) 0).1 = false then none
    else some ((hexG 6 (b.drop (j + 1)) 0).1, j + (hexG 6 (b.drop (j + 1)) 0).2 + 2)
  else if (hexG 2 (b.drop j) 0).2 < 2 then none
  else some ((hexG 2 (b.drop j) 0).1, j + 2)
def itemP (kind to num : Int) (s : ByteArray) (l : List Dat) (e : Int) : List Dat := [.agg [.int kind, .int to, .int num, .str s, .list l], .int e]
def itemR (kind to num : Int) (s : ByteArray) (c : Int) (e : Int) : List Dat := [.agg [.int kind, .int to, .int num, .str s, .int c, .bool false], .int e]
def codeP : Option (Int × Nat) → List Dat
  | none => itemP 0 0 0 ByteArray.empty [] 32
  | some p => itemP 1 (p.2 : Int) p.1 ByteArray.empty [] 0
def codeR : Option (Int × Nat) → List Dat
  | none => itemR 0 0 0 ByteArray.empty 0 32
  | some p => itemR 1 (p.2 : Int) p.1 ByteArray.empty 0 0
theorem code_E (b : List Int) (hb : b.length ≤ 140737488351232) (j : Nat) (hj : j ≤ b.length + 5) : E C 19 [.shr 5 (b.map .int), .int .i64 (j : Int)] = some (codeP (codeS b j)) := by
  apply o19
  rw [bT (at_E b _)]
  simp only [rd0, datI]
  unfold codeS
  by_cases h : atB b (j : Int) = 123
  · have g := hexG_le 6 (b.drop (j + 1)) 0
    rw [eT h, if_pos h, show IntKind.i64.wrap ((j : Int) + 1) = ((j + 1 : Nat) : Int) from by rw [w64 (by omega) (by omega)]; omega, bT (hexes6_E b hb (j + 1) (by omega))]
    simp only [rd0, rd1, datI]
    by_cases c1 : (hexG 6 (b.drop (j + 1)) 0).2 = 0
    · rw [eT (by omega), if_pos (.inl c1)]; rfl
    rw [eF (by omega), show IntKind.i64.wrap (((j + 1 : Nat) : Int) + (((hexG 6 (b.drop (j + 1)) 0).2 : Nat) : Int)) = ((j + 1 + (hexG 6 (b.drop (j + 1)) 0).2 : Nat) : Int) from by rw [w64 (by omega) (by omega)]; omega, bT (at_E b _)]
    simp only [rd0, datI]
    by_cases c2 : atB b ((j + 1 + (hexG 6 (b.drop (j + 1)) 0).2 : Nat) : Int) = 125
    · rw [neF c2, bT (Is_E _)]
      simp only [rd0, datB]
      cases c3 : isSym (hexG 6 (b.drop (j + 1)) 0).1 with
      | false => rw [nT rfl, if_pos (.inr (.inr rfl))]; rfl
      | true =>
        rw [nF rfl, if_neg (by rintro (h | h | h) <;> first | exact c1 h | exact h c2 | cases h), show IntKind.i64.wrap (IntKind.i64.wrap ((j : Int) + (((hexG 6 (b.drop (j + 1)) 0).2 : Nat) : Int)) + 2) = ((j + (hexG 6 (b.drop (j + 1)) 0).2 + 2 : Nat) : Int) from by rw [w64 (n := (j : Int) + _) (by omega) (by omega), w64 (by omega) (by omega)]; omega]
        rfl
    · rw [neT c2, if_pos (.inr (.inl c2))]; rfl
  · have g := hexG_le 2 (b.drop j) 0
    rw [eF h, if_neg h, bT (hexes2_E b hb j (by omega))]
    simp only [rd0, rd1, datI]
    by_cases c1 : (hexG 2 (b.drop j) 0).2 < 2
    · rw [dT (by omega), if_pos c1]; rfl
    · rw [dF (by omega), if_neg c1, show IntKind.i64.wrap ((j : Int) + (((hexG 2 (b.drop j) 0).2 : Nat) : Int)) = ((j + 2 : Nat) : Int) from by rw [w64 (by omega) (by omega)]; omega]
      rfl
/-- How the document's number ends. -/
def fin2 (b : List Int) (i : Nat) (br : Bool) (n : Int) (k : Nat) : List Dat :=
  if br = true then (if k = 0 ∨ atB b ((i + k : Nat) : Int) ≠ 125 ∨ isSym n = false then itemR 0 0 0 ByteArray.empty 0 32 else itemR 1 ((i + k + 1 : Nat) : Int) n ByteArray.empty 0 0)
  else if k < 2 then itemR 0 0 0 ByteArray.empty 0 32 else itemR 1 ((i + 2 : Nat) : Int) n ByteArray.empty 0 0
end Go.Proofs.YtdihkhpgkgfnbaaDoor.V
