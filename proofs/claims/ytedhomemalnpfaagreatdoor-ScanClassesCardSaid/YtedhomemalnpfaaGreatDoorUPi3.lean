/- One place within a class, the program's reader and the document's. -/
import Derived.Test.YtedhomemalnpfaaGreatDoorUPi2
namespace Go.Proofs.YtedhomemalnpfaaGreatDoor.V
open Go Go.Ev Go.RowKit
set_option linter.unusedVariables false
set_option linter.unusedSimpArgs false
theorem piece_E {b : List Int} (hb : isBytes b = true) (hbl : b.length ≤ 4294967280) {k : Nat} (hk : k < b.length) : E C 58 [.shr 5 (b.map .int), .int .i64 (k : Int)] = some (pcP (pieceS b k)) := by
  have e2 : IntKind.i64.wrap ((k : Int) + 2) = ((k + 2 : Nat) : Int) := by rw [w64 (by omega) (by omega)]; omega
  have e3 : (if (b.length : Int) < ((k + 2 : Nat) : Int) then (b.length : Int) else ((k + 2 : Nat) : Int)) = ((min (k + 2) b.length : Nat) : Int) := by
    split <;> omega
  have e4 : (rd (b.map Dat.int) k).I = atB b (k : Int) := by rw [rdB hk, atB_in hk]
  apply o58
  rw [e2, List.length_map, e3, dT (by omega), dT (by omega), dT (by omega), Int.toNat_natCast, Int.toNat_natCast, slice_ints, strOf_ints, bT (HasPre_E _ _), opens_pre hb hk]
  simp only [rd0, datB]
  unfold pieceS
  by_cases c : opensB b k
  · rw [dT c, if_pos c, bT (named_E hb hbl c.2)]
    cases nmS b k <;> rfl
  · rw [dF c, if_neg c, e4, dT (by omega), dT (by omega), dT (by omega)]
    by_cases c2 : atB b (k : Int) = 92
    · rw [eT c2, if_pos c2, bT (Inner_E hb (by omega) _)]
      obtain ⟨n, to, h, _⟩ | ⟨n, to, h, _⟩ | h := esc_inner hb c2
      · rw [h]
        simp only [progD, pcE, pcP, itemP]
        simp only [rd0, rd1, aggC0, aggC1, aggC2, aggC3, aggC4, datI, datS, datL]
        rw [show ((to.toNat : Nat) : Int) = to by omega]
      · rw [h]
        simp only [progD, pcE, pcP, itemP]
        simp only [rd0, rd1, aggC0, aggC1, aggC2, aggC3, aggC4, datI, datS, datL, partSet]
        rw [show ((to.toNat : Nat) : Int) = to by omega]
      · rw [h]
        rfl
    · have hs := symA_small hb k hk
      rw [eF c2, if_neg c2, bT (At_E b hb (by omega) _)]
      unfold symR
      rw [if_pos ⟨by omega, by omega⟩, Int.toNat_natCast]
      simp only [rd0, rd1, datI]
      rw [w64 (by omega) (by omega)]
      simp only [pcP, itemP]
      rw [show ((k + (symA b k).2.toNat : Nat) : Int) = (k : Int) + (symA b k).2 by omega]
theorem fi_two (c d : Int) (l : List Int) : fi (c :: d :: l) = if c = 58 ∧ d = 93 then some 0 else (fi (d :: l)).map (· + 1) := by
  rw [fi]
  by_cases h : c = 58 ∧ d = 93
  · rw [if_pos h, if_pos ⟨h.1, by rw [h.2]; rfl⟩]
  · rw [if_neg h, if_neg (fun e => h ⟨e.1, Option.some.inj e.2⟩)]
theorem ref_named {b : List Int} (hb : isBytes b = true) (hbl : b.length ≤ 4294967280) (v1 x0 x1 x2 : Int) (x3 : ByteArray) (x4 : Int) (x5 : Bool) (v5 : Int) (st : Nat) (not : Bool) : ∀ (d j : Nat), b.length - j = d → st ≤ j → j ≤ b.length →
    M44_1 (b.map .int) v1 x0 x1 x2 x3 x4 x5 v5 (st : Int) not (j : Int) = some (pcR (match fi (b.drop j) with
      | none => .err 33
      | some n => match nset (u8 ((b.drop st).take (j + n - st))) with
        | none => .err 33
        | some _ => .set (.nam (u8 ((b.drop st).take (j + n - st))) not) (j + n + 2))) := by
  intro d
  induction d with
  | zero =>
    intro j hd hs hj
    have hn : fi (b.drop j) = none := by rw [List.drop_eq_nil_of_le (by omega)]; rfl
    apply M44_1_of
    rw [List.length_map, w64 (by omega) (by omega), dF (by omega), hn]
    rfl
  | succ d ih =>
    intro j hd hs hj
    have e1 : IntKind.i64.wrap ((j : Int) + 1) = ((j + 1 : Nat) : Int) := by rw [w64 (by omega) (by omega)]; omega
    have e2 : IntKind.i64.wrap ((j : Int) + 2) = ((j + 2 : Nat) : Int) := by rw [w64 (by omega) (by omega)]; omega
    apply M44_1_of
    rw [e1, e2, List.length_map]
    by_cases h1 : j + 1 < b.length
    · rw [dT (by omega), ixT ⟨by omega, by omega⟩, rdA ⟨by omega, by omega⟩, ixT ⟨by omega, by omega⟩, rdA ⟨by omega, by omega⟩]
      have hf : fi (b.drop j) = if atB b (j : Int) = 58 ∧ atB b ((j + 1 : Nat) : Int) = 93 then some 0 else (fi (b.drop (j + 1))).map (· + 1) := by
        rw [drop_head (show j < b.length by omega), drop_head h1]
        exact fi_two _ _ _
      have next : ¬ (atB b (j : Int) = 58 ∧ atB b ((j + 1 : Nat) : Int) = 93) → M44_1 (b.map .int) v1 x0 x1 x2 x3 x4 x5 v5 (st : Int) not ((j + 1 : Nat) : Int) = some (pcR (match fi (b.drop j) with
          | none => .err 33
          | some n => match nset (u8 ((b.drop st).take (j + n - st))) with
            | none => .err 33
            | some _ => .set (.nam (u8 ((b.drop st).take (j + n - st))) not) (j + n + 2))) := by
        intro hc
        rw [ih (j + 1) (by omega) (by omega) (by omega), hf, if_neg hc]
        cases fi (b.drop (j + 1)) with
        | none => rfl
        | some n =>
          show some (pcR (match nset (u8 ((b.drop st).take (j + 1 + n - st))) with | none => .err 33 | some _ => .set (.nam (u8 ((b.drop st).take (j + 1 + n - st))) not) (j + 1 + n + 2))) = some (pcR (match nset (u8 ((b.drop st).take (j + (n + 1) - st))) with | none => .err 33 | some _ => .set (.nam (u8 ((b.drop st).take (j + (n + 1) - st))) not) (j + (n + 1) + 2)))
          rw [show j + 1 + n - st = j + (n + 1) - st by omega, show j + 1 + n + 2 = j + (n + 1) + 2 by omega]
      by_cases c1 : atB b (j : Int) = 58
      · by_cases c2 : atB b ((j + 1 : Nat) : Int) = 93
        · rw [eT c1, eT c2, dT (by omega), dT (by omega), dT (by omega), Int.toNat_natCast, Int.toNat_natCast, slice_ints, strOf_ints, List.drop_take, bT (Has5_E _ _), hf, if_pos ⟨c1, c2⟩]
          simp only [Nat.add_zero]
          unfold hasR nset
          cases findN (bs (u8 ((b.drop st).take (j - st)))) allN with
          | none => rfl
          | some l =>
            simp only [hasD, rd1, datB]
            rw [nF rfl, dT (by omega), dT (by omega), dT (by omega)]
            rfl
        · rw [eT c1, eF c2]
          exact next (fun h => c2 h.2)
      · rw [eF c1]
        exact next (fun h => c1 h.1)
    · have hn : fi (b.drop j) = none := by
        cases h : fi (b.drop j) with
        | none => rfl
        | some n =>
          have := fi_len h
          rw [List.length_drop] at this
          omega
      rw [dF (by omega), hn]
      rfl
theorem pieceR_E {b : List Int} (hb : isBytes b = true) (hbl : b.length ≤ 4294967280) {k : Nat} (hk : k < b.length) : E C 44 [.shr 5 (b.map .int), .int .i64 (k : Int)] = some (pcR (pieceS b k)) := by
  have e1 : IntKind.i64.wrap ((k : Int) + 1) = ((k + 1 : Nat) : Int) := by rw [w64 (by omega) (by omega)]; omega
  have e2 : IntKind.i64.wrap ((k : Int) + 2) = ((k + 2 : Nat) : Int) := by rw [w64 (by omega) (by omega)]; omega
  have e3 : IntKind.i64.wrap (((k + 2 : Nat) : Int) + 1) = ((k + 3 : Nat) : Int) := by rw [w64 (by omega) (by omega)]; omega
  have hs := symA_small hb k hk
  have sym : E C 38 [.shr 5 (b.map .int), .int .i64 (k : Int)] = some [.int (symA b k).1, .int (symA b k).2] := RefAt_E hb (by omega) k hk
  have fin : (some [.agg [.int 1, .int (IntKind.i64.wrap ((k : Int) + (symA b k).2)), .int (symA b k).1, .str ByteArray.empty, .int 0, .bool false], .int 0] : R) = some (pcR (.sym (symA b k).1 (k + (symA b k).2.toNat))) := by
    rw [w64 (by omega) (by omega)]
    simp only [pcR, itemR]
    rw [show ((k + (symA b k).2.toNat : Nat) : Int) = (k : Int) + (symA b k).2 by omega]
  apply o44
  rw [e1, e2, e3, List.length_map, ixT ⟨by omega, by omega⟩, rdA ⟨by omega, by omega⟩]
  unfold pieceS
  by_cases c1 : atB b (k : Int) = 92
  · rw [eT c1, if_neg (fun h => by have := h.1; omega), if_pos c1, bT (Escape2_E hb (by omega) _ _)]
    obtain ⟨n, to, h, _⟩ | ⟨n, to, h, _⟩ | h := esc_inner hb c1
    · rw [h]
      simp only [refD, pcE, pcR, itemR]
      simp only [rd0, rd1, aggC0, aggC1, aggC2, aggC3, aggC4, aggC5, datI, datS, datB]
      rw [show ((to.toNat : Nat) : Int) = to by omega]
    · rw [h]
      simp only [refD, pcE, pcR, itemR]
      simp only [rd0, rd1, aggC0, aggC1, aggC2, aggC3, aggC4, aggC5, datI, datS, datB]
      rw [show ((to.toNat : Nat) : Int) = to by omega]
    · rw [h]
      rfl
  · rw [eF c1, dT (by omega), dT (by omega), dT (by omega)]
    by_cases c2 : atB b (k : Int) = 91
    · rw [neF c2, bT (at2_E b _)]
      simp only [rd0, datI]
      by_cases c3 : atB b ((k + 1 : Nat) : Int) = 58
      · have hk2 : k + 2 ≤ b.length := by
          have := atB_some (b := b) (i := ((k + 1 : Nat) : Int)) (by rw [c3]; decide)
          omega
        rw [neF c3, bT (at2_E b _), if_pos ⟨c2, c3⟩]
        simp only [rd0, datI]
        unfold nmS
        by_cases c4 : atB b ((k + 2 : Nat) : Int) = 94
        · have hk3 : k + 2 < b.length := by
            have := atB_some (b := b) (i := ((k + 2 : Nat) : Int)) (by rw [c4]; decide)
            omega
          have hf : fi (b.drop (k + 2)) = (fi (b.drop (k + 3))).map (· + 1) := by
            rw [drop_head hk3]
            show (if atB b ((k + 2 : Nat) : Int) = 58 ∧ (b.drop (k + 2 + 1)).head? = some 93 then some 0 else _) = _
            rw [if_neg (fun h => by have := h.1; omega)]
          rw [eT c4, c4, ref_named hb hbl _ _ _ _ _ _ _ _ (k + 3) _ (b.length - (k + 3)) (k + 3) rfl (by omega) (by omega), hf]
          cases fi (b.drop (k + 3)) with
          | none => rfl
          | some n =>
            have e : ((b.drop (k + 2)).take (n + 1)).drop 1 = (b.drop (k + 3)).take (k + 3 + n - (k + 3)) := by
              rw [List.drop_take, List.drop_drop, show k + 3 + n - (k + 3) = n + 1 - 1 by omega]
            show some (pcR (match nset (u8 ((b.drop (k + 3)).take (k + 3 + n - (k + 3)))) with | none => .err 33 | some _ => .set (.nam (u8 ((b.drop (k + 3)).take (k + 3 + n - (k + 3)))) ((94 : Int) == 94)) (k + 3 + n + 2))) = some (pcR (if (94 : Int) = 94 then (match nset (u8 (((b.drop (k + 2)).take (n + 1)).drop 1)) with | none => .err 33 | some _ => .set (.nam (u8 (((b.drop (k + 2)).take (n + 1)).drop 1)) true) (k + 2 + (n + 1) + 2)) else _))
            rw [if_pos rfl, e, show k + 3 + n + 2 = k + 2 + (n + 1) + 2 by omega]
            rfl
        · have c5 : (atB b ((k + 2 : Nat) : Int) == 94) = false := by simpa using c4
          rw [eF c4, c5, ref_named hb hbl _ _ _ _ _ _ _ _ (k + 2) _ (b.length - (k + 2)) (k + 2) rfl (by omega) (by omega)]
          cases fi (b.drop (k + 2)) with
          | none => rfl
          | some n =>
            show some (pcR (match nset (u8 ((b.drop (k + 2)).take (k + 2 + n - (k + 2)))) with | none => .err 33 | some _ => .set (.nam (u8 ((b.drop (k + 2)).take (k + 2 + n - (k + 2)))) false) (k + 2 + n + 2))) = some (pcR (if atB b ((k + 2 : Nat) : Int) = 94 then _ else (match nset (u8 ((b.drop (k + 2)).take n)) with | none => .err 33 | some _ => .set (.nam (u8 ((b.drop (k + 2)).take n)) false) (k + 2 + n + 2))))
            rw [if_neg c4, show k + 2 + n - (k + 2) = n by omega]
      · rw [neT c3, bT sym, if_neg (fun h => c3 h.2), if_neg c1]
        exact fin
    · rw [neT c2, bT sym, if_neg (fun h => c2 h.1), if_neg c1]
      exact fin
/-- How far a piece goes, and what it is. -/
theorem hexG_val : ∀ (m : Nat) (l : List Int) (a : Int), 0 ≤ a → 0 ≤ (hexG m l a).1 ∧ (hexG m l a).1 + 1 ≤ (a + 1) * 16 ^ m
  | 0, l, a, h => by
    show 0 ≤ (hexG 0 l a).1 ∧ _
    unfold hexG
    simp only [Int.pow_zero]
    omega
  | m + 1, [], a, h => by
    have hp : (1 : Int) ≤ 16 ^ (m + 1) := Int.pow_pos (by decide)
    show 0 ≤ a ∧ a + 1 ≤ (a + 1) * 16 ^ (m + 1)
    have := Int.mul_le_mul_of_nonneg_left hp (show 0 ≤ a + 1 by omega)
    omega
  | m + 1, c :: l, a, h => by
    have hp : (1 : Int) ≤ 16 ^ (m + 1) := Int.pow_pos (by decide)
    have hv := hexV_in c
    show 0 ≤ (if hexV c ≥ 0 then ((hexG m l (a * 16 + hexV c)).1, (hexG m l (a * 16 + hexV c)).2 + 1) else (a, 0)).1 ∧ (if hexV c ≥ 0 then ((hexG m l (a * 16 + hexV c)).1, (hexG m l (a * 16 + hexV c)).2 + 1) else (a, 0)).1 + 1 ≤ (a + 1) * 16 ^ (m + 1)
    by_cases hc : hexV c ≥ 0
    · rw [if_pos hc]
      have ih := hexG_val m l (a * 16 + hexV c) (by omega)
      have h16 : (16 : Int) ^ (m + 1) = 16 * 16 ^ m := by rw [Int.pow_succ, Int.mul_comm]
      have hq : (0 : Int) ≤ 16 ^ m := Int.le_of_lt (Int.pow_pos (by decide))
      have := Int.mul_le_mul_of_nonneg_right (show a * 16 + hexV c + 1 ≤ (a + 1) * 16 by omega) hq
      rw [Int.mul_assoc, ← h16] at this
      exact ⟨ih.1, Int.le_trans ih.2 this⟩
    · rw [if_neg hc]
      have := Int.mul_le_mul_of_nonneg_left hp (show 0 ≤ a + 1 by omega)
      show 0 ≤ a ∧ a + 1 ≤ (a + 1) * 16 ^ (m + 1)
      omega
theorem code_in {b : List Int} {j : Nat} {n : Int} {to : Nat} (h : codeS b j = some (n, to)) : 0 ≤ n ∧ n ≤ 1114367 := by
  unfold codeS at h
  split at h
  · split at h
    · cases h
    · rename_i h1 h2
      simp only [Option.some.injEq, Prod.mk.injEq] at h
      obtain ⟨rfl, _⟩ := h
      have h3 : isSym (hexG 6 (b.drop (j + 1)) 0).1 = true := by
        cases hs : isSym (hexG 6 (b.drop (j + 1)) 0).1 with
        | true => rfl
        | false => exact absurd (.inr (.inr hs)) h2
      have := (isSym_iff _).1 h3
      omega
  · split at h
    · cases h
    · simp only [Option.some.injEq, Prod.mk.injEq] at h
      obtain ⟨rfl, _⟩ := h
      have := hexG_val 2 (b.drop j) 0 (by omega)
      omega
theorem ctrl_in (c : Int) : ctrl c ≤ 27 := by
  unfold ctrl
  repeat' split
  all_goals omega
def wfP : Prt → Prop
  | .rng lo hi => 0 ≤ lo ∧ hi ≤ 1114367
  | .lett c => c > 0 ∧ (ofL c).isSome = true
  | .nam s _ => (nset s).isSome = true
def pcOk (b : List Int) (k : Nat) : Pc → Prop
  | .sym n to => 0 ≤ n ∧ n ≤ 1114367 ∧ k < to ∧ to ≤ b.length
  | .set p to => wfP p ∧ k < to ∧ to ≤ b.length ∧ (∀ lo hi, p ≠ .rng lo hi)
  | .err e => e ≠ 0
theorem ofL_pos {c : Int} (h : (ofL c).isSome = true) : c > 0 := by
  unfold ofL at h
  repeat' split at h
  all_goals first | omega | cases h
theorem simple_ok {b : List Int} (hb : isBytes b = true) {k : Nat} {x : Esc} (h : simpleS b k = some x) : pcOk b k (pcE x) := by
  have g := simple_to hb h
  unfold simpleS at h
  split at h
  · cases hc : codeS b (k + 2) with
    | none => rw [hc] at h; obtain rfl := Option.some.inj h; show (32 : Int) ≠ 0; decide
    | some p =>
      rw [hc] at h
      obtain rfl := Option.some.inj h
      have h1 := codeS_to hc
      have h2 := code_in hc
      exact ⟨h2.1, h2.2, by omega, by omega⟩
  split at h
  · rename_i h2
    obtain rfl := Option.some.inj h
    have h3 : atB b ((k + 1 : Nat) : Int) ≠ 0 := fun e => by rw [e] at h2; exact absurd h2 (by decide)
    have := atB_some h3
    have := ctrl_in (atB b ((k + 1 : Nat) : Int))
    exact ⟨by omega, by omega, by omega, by omega⟩
  split at h
  · rename_i h2
    obtain rfl := Option.some.inj h
    have h3 : atB b ((k + 1 : Nat) : Int) ≠ 0 := fun e => by rw [e] at h2; exact absurd h2 (by decide)
    have := atB_some h3
    exact ⟨⟨ofL_pos h2, h2⟩, by omega, by omega, fun lo hi e => by cases e⟩
  split at h
  · cases h
  split at h
  · obtain rfl := Option.some.inj h
    show (32 : Int) ≠ 0
    decide
  · obtain rfl := Option.some.inj h
    have hs := symA_small hb (k + 1) (by omega)
    exact ⟨hs.1, hs.2.1, by omega, by omega⟩
theorem piece_ok {b : List Int} (hb : isBytes b = true) {k : Nat} (hk : k < b.length) : pcOk b k (pieceS b k) := by
  unfold pieceS
  split
  · unfold nmS
    cases hf : fi (b.drop (k + 2)) with
    | none => show (33 : Int) ≠ 0; decide
    | some n =>
      have h1 := fi_len hf
      rw [List.length_drop] at h1
      show pcOk b k (if _ then _ else _)
      split
      · cases hs : nset (u8 (((b.drop (k + 2)).take n).drop 1)) with
        | none => show (33 : Int) ≠ 0; decide
        | some l => exact ⟨by show (nset _).isSome = true; rw [hs]; rfl, by omega, by omega, fun lo hi e => by cases e⟩
      · cases hs : nset (u8 ((b.drop (k + 2)).take n)) with
        | none => show (33 : Int) ≠ 0; decide
        | some l => exact ⟨by show (nset _).isSome = true; rw [hs]; rfl, by omega, by omega, fun lo hi e => by cases e⟩
  split
  · rename_i h1 h2
    unfold escS
    rw [if_neg (by simpa using h2), Int.toNat_natCast]
    cases hs : simpleS b k with
    | some x => exact simple_ok hb hs
    | none =>
      simp only [if_true]
      by_cases h : atB b ((k + 1 : Nat) : Int) = 98
      · have := atB_some (b := b) (i := ((k + 1 : Nat) : Int)) (by rw [h]; decide)
        rw [if_pos h]
        exact ⟨by omega, by omega, by omega, by omega⟩
      · rw [if_neg h]
        show (32 : Int) ≠ 0
        decide
  · have hs := symA_small hb k hk
    exact ⟨hs.1, hs.2.1, by omega, by omega⟩
end Go.Proofs.YtedhomemalnpfaaGreatDoor.V
