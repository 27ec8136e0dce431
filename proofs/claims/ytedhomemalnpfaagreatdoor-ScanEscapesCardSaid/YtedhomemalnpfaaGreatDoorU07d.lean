/- ScanEscapes: any backslash makes the document's item, or the document's error, beside classes and within them. -/
import Derived.Test.YtedhomemalnpfaaGreatDoorUEs2
import Derived.Test.YtedhomemalnpfaaGreatDoorVTLh
import Derived.Test.YtedhomemalnpfaaGreatDoorVTLScanEscapes
import Derived.Test.YtedhomemalnpfaaGreatDoorU07
namespace Go.Proofs.YtedhomemalnpfaaGreatDoor.V
open Go Go.Ev Go.RowKit
set_option linter.unusedVariables false
set_option linter.unusedSimpArgs false
theorem has7_E (k to num : Int) (s : ByteArray) (c : Int) (not : Bool) (m : List (Int × Int)) (hc : c > 0) (hm : ofL c = some m) (x : Int) : E C 39 [.agg [.int .i64 k, .int .i64 to, .int .i64 num, .str s, .int .u8 c, .bool not], .int .i64 x] = some [.bool (hasB m x)] := by
  apply o39
  by_cases h0 : x < 0
  · rw [dT h0]
    unfold hasB
    rw [decide_eq_false (show ¬ 0 ≤ x by omega)]; rfl
  rw [dF h0]
  by_cases h1 : x > 1114367
  · rw [dT h1]
    unfold hasB
    rw [decide_eq_false (show ¬ x ≤ 1114367 by omega), Bool.and_false]; rfl
  obtain ⟨ok, h2⟩ := Of5_E c x ⟨by omega, by omega⟩
  rw [dF h1, dT hc, bT h2, hm]
  rfl
theorem has8_E (l : List (Int × Int)) (hl : l.length ≤ 140737488351232) (x : Int) : E C 22 [.shr 85 (rs l), .int .i64 x] = some [.bool (hasB l x)] := Has_E l x hl
theorem alike_loop (x00 x01 x02 : Int) (x03 : ByteArray) (x04 : List Dat) (e : Int) (y0 y1 y2 : Int) (y3 : ByteArray) (y4 : Int) (y5 : Bool) (f n k to num : Int) (s : ByteArray) (m : List (Int × Int)) (hl : m.length ≤ 1000) (hlm : leastP m) (c : Int) (hc : c > 0) (hm : ofL c = some m) (v10 : Bool) (xs : List Int) (hx : xs.length ≤ 1000) : ∀ (d j : Nat), xs.length - j = d → j ≤ xs.length →
    M16_6 x00 x01 x02 x03 x04 e y0 y1 y2 y3 y4 y5 f n k to num s (rs m) k to num s c false v10 (xs.map .int) (xs.length : Int) (j : Int) = some [.bool true] := by
  intro d
  induction d with
  | zero =>
    intro j hd hj
    apply M16_6_of
    rw [dF (by omega), bT (Right_E m (by omega)), (leastB_iff m).2 hlm]
    rfl
  | succ d ih =>
    intro j hd hj
    apply M16_6_of
    rw [List.length_map, dT (by omega), ixT ⟨by omega, by omega⟩, bT (has8_E m (by omega) _), bT (has7_E k to num s c false m hc hm _)]
    simp only [rd0, datB]
    rw [nF (by simp), show IntKind.i64.wrap ((j : Int) + 1) = ((j + 1 : Nat) : Int) from by rw [w64 (by omega) (by omega)]; omega]
    exact ih (j + 1) (by omega) (by omega)
def numsL (n : Int) : List Int := [n, 0, 8, 9, 10, 13, 14, 31, 32, 45, 47, 48, 57, 58, 64, 65, 75, 90, 91, 94, 95, 97, 107, 115, 122, 123, 127, 128, 181, 229, 255, 383, 956, 8490, 1114111, 1114112, 1114367]
theorem numbers_E (n : Int) : E C 19 [.int .i64 n] = some [.list ((numsL n).map .int)] := by
  apply o19
  rfl
theorem alike_E (e n k to num : Int) (s : ByteArray) (l : List Dat) (c : Int) (hset : k ≠ 2 → l = []) (hcls : k = 2 → ∃ m, c > 0 ∧ ofL c = some m ∧ l = rs m) : E C 16 [.agg [.int .i64 k, .int .i64 to, .int .i64 num, .str s, .shr 85 l], .int .i64 e, .agg [.int .i64 k, .int .i64 to, .int .i64 num, .str s, .int .u8 c, .bool false], .int .i64 e, .int .i64 n] = some [.bool true] := by
  apply o16
  unfold N16_1
  rw [neF rfl]
  unfold N16_2
  rw [cF (by simp)]
  unfold N16_3
  rw [cF (by simp)]
  unfold N16_4
  rw [cF (by simp)]
  unfold N16_5
  rw [cF (by simp)]
  by_cases hk : k = 2
  · obtain ⟨m, hc, hm, rfl⟩ := hcls hk
    obtain ⟨h1, h2⟩ := ofL_len hm
    rw [neF hk, neF hk, bT (numbers_E n)]
    simp only [rd0, datL, List.length_map]
    exact alike_loop _ _ _ _ _ _ _ _ _ _ _ _ _ _ k to num s m (by omega) h2 c hc hm _ (numsL n) (by simp [numsL]) _ 0 rfl (by simp)
  · rw [neT hk, hset hk, dF (by simp), neT hk]
/-- The same of both. -/
theorem esc_alike {b : List Int} (x : Esc) (hx : ∀ c to, x = .cls c to → c > 0 ∧ (ofL c).isSome = true) (n : Int) :
    E C 16 [.agg [.int .i64 (((rd (progD x) 0).C 0).I), .int .i64 (((rd (progD x) 0).C 1).I), .int .i64 (((rd (progD x) 0).C 2).I), .str (((rd (progD x) 0).C 3).S), .shr 85 (((rd (progD x) 0).C 4).L)], .int .i64 ((rd (progD x) 1).I), .agg [.int .i64 (((rd (refD x) 0).C 0).I), .int .i64 (((rd (refD x) 0).C 1).I), .int .i64 (((rd (refD x) 0).C 2).I), .str (((rd (refD x) 0).C 3).S), .int .u8 (((rd (refD x) 0).C 4).I), .bool (((rd (refD x) 0).C 5).B)], .int .i64 ((rd (refD x) 1).I), .int .i64 n] = some [.bool true] := by
  cases x with
  | lit a to => exact alike_E 0 n 1 to a _ [] 0 (fun _ => rfl) (fun h => absurd h (by decide))
  | cls c to =>
    obtain ⟨h1, h2⟩ := hx c to rfl
    refine alike_E 0 n 2 to 0 _ _ c (fun h => absurd rfl h) (fun _ => ?_)
    cases hc : ofL c with
    | none => rw [hc] at h2; cases h2
    | some m => exact ⟨m, h1, rfl, by show rs ((ofL c).getD []) = rs m; rw [hc]; rfl⟩
  | hld a to => exact alike_E 0 n 3 to a _ [] 0 (fun _ => rfl) (fun h => absurd h (by decide))
  | ref a to => exact alike_E 0 n 4 to a _ [] 0 (fun _ => rfl) (fun h => absurd h (by decide))
  | key s to => exact alike_E 0 n 5 to 0 s [] 0 (fun _ => rfl) (fun h => absurd h (by decide))
  | err e => exact alike_E e n 0 0 0 _ [] 0 (fun _ => rfl) (fun h => absurd h (by decide))
theorem ofL_pos {c : Int} (h : (ofL c).isSome = true) : c > 0 := by
  apply Classical.byContradiction
  intro hn
  unfold ofL at h
  rw [if_neg (by omega), if_neg (by omega), if_neg (by omega), if_neg (by omega), if_neg (by omega), if_neg (by omega)] at h
  cases h
theorem rest_cls {b : List Int} {i : Nat} {c to : Int} : restS b i ≠ .cls c to := by
  unfold restS keyS
  repeat' split
  all_goals (intro h; cases h)
theorem esc_cls {b : List Int} {i : Int} {inner : Bool} {c to : Int} (h : escS b i inner = .cls c to) : c > 0 ∧ (ofL c).isSome = true := by
  unfold escS at h
  split at h
  · cases h
  split at h
  · rename_i x hx
    subst h
    unfold simpleS at hx
    split at hx
    · split at hx <;> cases hx
    split at hx
    · cases hx
    split at hx
    · rename_i h3
      simp only [Option.some.injEq, Esc.cls.injEq] at hx
      obtain ⟨rfl, _⟩ := hx
      exact ⟨ofL_pos h3, h3⟩
    split at hx
    · cases hx
    split at hx <;> cases hx
  · split at h
    · split at h <;> cases h
    · exact absurd h rest_cls
theorem ScanEscapes_pure (e0 e1 e2 : Dat) (h0 : fitT C.T 9 22 e0) (h1 : fitT C.T 9 3 e1) (h2 : fitT C.T 9 3 e2) : E C 5 [.shr 5 e0.L, .int .i64 e1.I, .int .i64 e2.I] = some [.bool true] := by
  obtain ⟨b, rfl, hb, hbl⟩ := fit_bytes h0
  obtain ⟨i, rfl, hi⟩ := fit_i64 h1
  obtain ⟨n, rfl, hn⟩ := fit_i64 h2
  apply o5
  rw [bT anchor07_E]
  simp only [rd0, datB, datI, datL]
  rw [nF rfl, bT (Escape_E hb hbl i), bT (Escape2_E hb hbl i false), bT (Inner_E hb hbl i), bT (Escape2_E hb hbl i true), bT (esc_alike (b := b) _ (fun c to h => esc_cls h) n)]
  simp only [rd0, datB]
  rw [cT rfl, bT (esc_alike (b := b) _ (fun c to h => esc_cls h) n)]
  rfl
end Go.Proofs.YtedhomemalnpfaaGreatDoor.V
