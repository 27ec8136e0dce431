/- ParseGroups. -/
import Derived.Test.YtlofoifcdmeopaaGreatDoorUPn
import Derived.Test.YtlofoifcdmeopaaGreatDoorUA08
import Derived.Test.YtlofoifcdmeopaaGreatDoorVULParseGroups
namespace Go.Proofs.YtlofoifcdmeopaaGreatDoor.V
open Go Go.Ev Go.RowKit
set_option linter.unusedVariables false
set_option linter.unusedSimpArgs false
theorem cap120p : capB 120 = 1172812402961 := by decide
theorem cap8p : capB 8 = 17592186044416 := by decide
theorem cap1p : capB 1 = 140737488355328 := by decide
theorem bsP (a b : List UInt8) : bs a ++ bs b = bs (a ++ b) := by
  apply ByteArray.ext
  simp [bs]
theorem bs_sizeP (s : List UInt8) : (bs s).size = s.length := by
  show s.toArray.size = _
  simp
def nodesG (n : Nat) : Nat → Nat → List Dat
  | m, 0 => [nodeD (gpN n 0)]
  | m, j + 1 => nodeD { gpN n (j + 1) with kids := [((m + 1 : Nat) : Int)] } :: nodesG n (m + 1) j
theorem nodesG_len (n : Nat) : ∀ (j m : Nat), (nodesG n m j).length = j + 1
  | 0, m => rfl
  | j + 1, m => by rw [nodesG, List.length_cons, nodesG_len n j]
theorem nodesG_rd (n : Nat) : ∀ (j m i : Nat), i ≤ j → ∃ ks : List Int, rd (nodesG n m j) i = nodeD { gpN n (j - i) with kids := ks }
  | 0, m, 0, _ => ⟨[], rfl⟩
  | j + 1, m, 0, _ => ⟨_, rfl⟩
  | j + 1, m, i + 1, h => by
    obtain ⟨ks, e⟩ := nodesG_rd n j (m + 1) i (by omega)
    refine ⟨ks, ?_⟩
    rw [show j + 1 - (i + 1) = j - i by omega, ← e]
    rfl
theorem fin_set (out rest : List Dat) (x : Nd) (ks : List Int) (kk : List Dat) (hk : kk = ks.map .int) : ((bif decide (0 ≤ (out.length : Int)) then (bif decide ((out.length : Int) < ((out ++ nodeD x :: rest).length : Int)) then (bif decide ((out.length : Int).toNat < (out ++ nodeD x :: rest).length) then (some [.list ((out ++ nodeD x :: rest).set (out.length : Int).toNat (.agg [(rd (out ++ nodeD x :: rest) (out.length : Int).toNat).C 0, (rd (out ++ nodeD x :: rest) (out.length : Int).toNat).C 1, (rd (out ++ nodeD x :: rest) (out.length : Int).toNat).C 2, (rd (out ++ nodeD x :: rest) (out.length : Int).toNat).C 3, (rd (out ++ nodeD x :: rest) (out.length : Int).toNat).C 4, (rd (out ++ nodeD x :: rest) (out.length : Int).toNat).C 5, (rd (out ++ nodeD x :: rest) (out.length : Int).toNat).C 6, (rd (out ++ nodeD x :: rest) (out.length : Int).toNat).C 7, (rd (out ++ nodeD x :: rest) (out.length : Int).toNat).C 8, .list kk]))]) else none) else none) else none) : R) = some [.list (out ++ nodeD { x with kids := ks } :: rest)] := by
  subst hk
  rw [ixT ⟨by omega, by simp; omega⟩, Int.toNat_natCast, show rd (out ++ nodeD x :: rest) out.length = nodeD x by simp [rd, List.getD_eq_getElem?_getD], List.set_append_right _ _ (Nat.le_refl _), Nat.sub_self]
  rfl
theorem number_lev {n : Nat} (hn : n ≤ 110) : ∀ (j : Nat), j ≤ n → ∀ out : List Dat, out.length + j ≤ 300 → E C 69 [ptV (gpN n j) (gpK n j), .own 1 0 38 out] = some [.list (out ++ nodesG n out.length j)]
  | 0, hj, out, ho => by
    apply o69
    rw [cap120p, dT (by show out.length + 1 ≤ _; omega)]
    apply M69_1_of
    rw [dF (show ¬ ((0 : Int) < ((gpK n 0).length : Int)) by show ¬ ((0 : Int) < ((0 : Nat) : Int)); decide)]
    exact fin_set out [] (gpN n 0) [] [] rfl
  | j + 1, hj, out, ho => by
    have ih := number_lev hn j (by omega) (out ++ [nodeD (gpN n (j + 1))]) (by simp; omega)
    apply o69
    rw [cap120p, dT (by show out.length + 1 ≤ _; omega)]
    apply M69_1_of
    have h1 : (gpK n (j + 1)).length = 1 := rfl
    rw [h1, dT (by decide), ixT ⟨by decide, by decide⟩, cap8p, dT (by show 0 + 1 ≤ 17592186044416; decide)]
    have hr : rd (gpK n (j + 1)) (0 : Int).toNat = ptD (gpN n j) (gpK n j) := rfl
    rw [hr]
    simp only [rd0, rd1, rd2, rd3, pd0, pd1, pd2, pd3, pd4, pd5, pd6, pd7, pd8, pd9, pt0, pt1, pt2, pt3, pt4, pt5, pt6, pt7, pt8, pt9, pt10, aggC0, aggC1, aggC2, aggC3, aggC4, aggC5, datL, datI, datB, datS]
    have hih : E C 69 [ptV (gpN n j) (gpK n j), .own 1 0 38 (out ++ [nodeD (gpN n (j + 1))])] = _ := ih
    refine (bT hih).trans ?_
    simp only [rd0, rd1, rd2, rd3, pd0, pd1, pd2, pd3, pd4, pd5, pd6, pd7, pd8, pd9, pt0, pt1, pt2, pt3, pt4, pt5, pt6, pt7, pt8, pt9, pt10, aggC0, aggC1, aggC2, aggC3, aggC4, aggC5, datL, datI, datB, datS]
    rw [show IntKind.i64.wrap (0 + 1) = 1 by decide]
    apply M69_1_of
    rw [dF (show ¬ ((1 : Int) < ((1 : Nat) : Int)) by decide)]
    have := fin_set out (nodesG n (out.length + 1) j) (gpN n (j + 1)) [((out.length + 1 : Nat) : Int)] [Dat.int ((out ++ [nodeD (gpN n (j + 1))]).length : Int)] (by simp)
    rw [List.append_cons] at this
    have hl : (out ++ [nodeD (gpN n (j + 1))]).length = out.length + 1 := by simp
    rw [hl] at this ⊢
    refine Eq.trans ?_ (this.trans ?_)
    · rw [← hl]; rfl
    · rfl
theorem kind_gp (n : Nat) : ∀ j : Nat, (gpN n j).kind ≠ 4
  | 0 => by show (2 : Int) ≠ 4; decide
  | j + 1 => by show (7 : Int) ≠ 4; decide
theorem parse_loop (n : Nat) (hn : n ≤ 110) (v0 v2_0 : List Dat) (v2_1 : Int) (v2_2 : List Dat) (v3 v4 v6_0 v6_1 v6_2 v6_3 v6_4 v6_5 v6_6 : Int) (v6_7 : ByteArray) (v6_8 v6_9 v6_10 : List Dat) (v7_1 : Int) (v7_2 v17_0 : List Dat) (v17_1 : Int) (v17_2 v17_3 v17_4 v17_5 : Bool) (v17_6 : Int) (v17_7 : List Dat) (v17_8 v17_9 : Int) : ∀ (d i : Nat), i + d = n + 1 →
    M26_1 v0 v2_0 v2_1 v2_2 v3 v4 v6_0 v6_1 v6_2 v6_3 v6_4 v6_5 v6_6 v6_7 v6_8 v6_9 v6_10 (nodesG n 0 n) v7_1 v7_2 v17_0 v17_1 v17_2 v17_3 v17_4 v17_5 v17_6 v17_7 v17_8 v17_9 ((n + 1 : Nat) : Int) (i : Int) = some [.agg [.list (nodesG n 0 n), .int v7_1, .list v7_2], .int 0, .int 0]
  | 0, i, h => by
    apply M26_1_of
    rw [dF (by omega)]
  | d + 1, i, h => by
    obtain ⟨ks, e⟩ := nodesG_rd n n 0 i (by omega)
    apply M26_1_of
    rw [dT (by omega), nodesG_len, ixT ⟨by omega, by omega⟩, Int.toNat_natCast, e]
    simp only [nd0, datI]
    rw [eF (kind_gp n (n - i)), show IntKind.i64.wrap ((i : Int) + 1) = ((i + 1 : Nat) : Int) by rw [w64 (by omega) (by omega)]; omega]
    exact parse_loop n hn _ _ _ _ _ _ _ _ _ _ _ _ _ _ _ _ _ _ _ _ _ _ _ _ _ _ _ _ _ d (i + 1) (by omega)
theorem Parse_ok {n : Nat} (hn : n ≤ 99) : E C 26 [.shr 5 ((gb n).map .int)] = some [.agg [.list (nodesG n 0 n), .int (n : Int), .list ((List.replicate (n + 1) ByteArray.empty).map .str)], .int 0, .int 0] := by
  have h := lev_ok hn n (Nat.le_refl n)
  rw [Nat.sub_self] at h
  have hn1 := number_lev (n := n) (by omega) n (Nat.le_refl n) [] (by simp; omega)
  apply o26
  rw [List.length_map, dF (by rw [gb_len]; omega)]
  refine (bT h).trans ?_
  simp only [rd0, rd1, rd2, rd3, pd0, pd1, pd2, pd3, pd4, pd5, pd6, pd7, pd8, pd9, pt0, pt1, pt2, pt3, pt4, pt5, pt6, pt7, pt8, pt9, pt10, aggC0, aggC1, aggC2, aggC3, aggC4, aggC5, datL, datI, datB, datS]
  refine (bT (over_E (gb n) (sa n n))).trans ?_
  simp only [rd0, rd1, rd2, rd3, pd0, pd1, pd2, pd3, pd4, pd5, pd6, pd7, pd8, pd9, pt0, pt1, pt2, pt3, pt4, pt5, pt6, pt7, pt8, pt9, pt10, aggC0, aggC1, aggC2, aggC3, aggC4, aggC5, datL, datI, datB, datS]
  rw [show overB (gb n) (sa n n) = true by unfold overB sa; dsimp only; rw [gb_len, decide_eq_true (by omega), Bool.or_true], nF rfl, neF (show (sa n n).e = 0 from rfl)]
  refine (bT hn1).trans ?_
  simp only [rd0, rd1, rd2, rd3, pd0, pd1, pd2, pd3, pd4, pd5, pd6, pd7, pd8, pd9, pt0, pt1, pt2, pt3, pt4, pt5, pt6, pt7, pt8, pt9, pt10, aggC0, aggC1, aggC2, aggC3, aggC4, aggC5, datL, datI, datB, datS]
  rw [List.nil_append, nodesG_len]
  exact parse_loop n (by omega) _ _ _ _ _ _ _ _ _ _ _ _ _ _ _ _ _ _ _ _ _ _ _ _ _ _ _ _ _ (n + 1) 0 (by omega)
theorem Parse_bad {n : Nat} (hn : 100 ≤ n) (hn2 : n ≤ 110) : E C 26 [.shr 5 ((gb n).map .int)] = some [.agg [.list ([] : List Dat), .int 0, .list ([] : List Dat)], .int 40, .int 99] := by
  have h := lev_bad hn hn2 99 (Nat.le_refl _)
  apply o26
  rw [List.length_map, dF (by rw [gb_len]; omega)]
  refine (bT h).trans ?_
  simp only [rd0, rd1, rd2, rd3, pd0, pd1, pd2, pd3, pd4, pd5, pd6, pd7, pd8, pd9, pt0, pt1, pt2, pt3, pt4, pt5, pt6, pt7, pt8, pt9, pt10, aggC0, aggC1, aggC2, aggC3, aggC4, aggC5, datL, datI, datB, datS]
  refine (bT (over_E (gb n) sb)).trans ?_
  simp only [rd0, rd1, rd2, rd3, pd0, pd1, pd2, pd3, pd4, pd5, pd6, pd7, pd8, pd9, pt0, pt1, pt2, pt3, pt4, pt5, pt6, pt7, pt8, pt9, pt10, aggC0, aggC1, aggC2, aggC3, aggC4, aggC5, datL, datI, datB, datS]
  rw [show overB (gb n) sb = true from rfl, nF rfl]
  rfl
def gs (n : Nat) : List UInt8 := List.replicate n 40 ++ 97 :: List.replicate n 41
theorem gs_len (n : Nat) : (gs n).length = 2 * n + 1 := by unfold gs; simp; omega
theorem gs_next (n : Nat) : (bs [40] ++ bs (gs n)) ++ bs [41] = bs (gs (n + 1)) := by
  rw [bsP, bsP]
  congr 1
  unfold gs
  rw [List.replicate_succ, List.replicate_succ' (n := n) (a := (41 : UInt8))]
  simp
theorem gs_gb (n : Nat) : strD (bs (gs n)) = (gb n).map .int := by
  unfold strD bs gs gb
  simp
theorem nodes_loop {n : Nat} (hn : n ≤ 99) (v2 : Bool) (v3 : ByteArray) (v4_1 : Int) (v4_2 : List Dat) (v5 v6 v16 v17 : Int) : ∀ (d i : Nat), i + d = n →
    M5_2 (n : Int) v2 v3 (nodesG n 0 n) v4_1 v4_2 v5 v6 v16 v17 (n : Int) (i : Int) = some [.bool true]
  | 0, i, h => by
    apply M5_2_of
    rw [dF (by omega)]
  | d + 1, i, h => by
    obtain ⟨ks, e⟩ := nodesG_rd n n 0 i (by omega)
    have e2 : n - i = d + 1 := by omega
    rw [e2] at e
    apply M5_2_of
    have hw : IntKind.i64.wrap ((i : Int) + 1) = ((i + 1 : Nat) : Int) := by rw [w64 (by omega) (by omega)]; omega
    rw [dT (by omega), nodesG_len, ixT ⟨by omega, by omega⟩, ixT ⟨by omega, by omega⟩, ixT ⟨by omega, by omega⟩, Int.toNat_natCast, e, hw]
    simp only [nd0, nd1, nd3, datI]
    rw [neF (show (gpN n (d + 1)).kind = 7 from rfl), neF (show (gpN n (d + 1)).num = ((i + 1 : Nat) : Int) by show ((n - d : Nat) : Int) = _; omega), neF (show (gpN n (d + 1)).frm = (i : Int) by show ((n - (d + 1) : Nat) : Int) = _; omega)]
    exact nodes_loop hn v2 v3 v4_1 v4_2 v5 v6 v16 v17 d (i + 1) (by omega)
theorem groups_loop {n : Nat} (hn : n ≤ 110) (v2 : Bool) : ∀ (d k : Nat), k + d = n →
    M5_1 (n : Int) v2 (bs (gs k)) (n : Int) (k : Int) = some [.bool true]
  | 0, k, h => by
    have hk : k = n := by omega
    subst hk
    apply M5_1_of
    rw [dF (by omega), bs_sizeP, gs_len, cap1p, dT (by omega), gs_gb]
    by_cases h99 : k ≤ 99
    · rw [bT (Parse_ok h99)]
      simp only [rd0, rd1, rd2, rd3, pd0, pd1, pd2, pd3, pd4, pd5, pd6, pd7, pd8, pd9, pt0, pt1, pt2, pt3, pt4, pt5, pt6, pt7, pt8, pt9, pt10, aggC0, aggC1, aggC2, aggC3, aggC4, aggC5, datL, datI, datB, datS]
      rw [dF (by omega), neF rfl, neF rfl, nodesG_len, neF (show ((k + 1 : Nat) : Int) = IntKind.i64.wrap ((k : Int) + 1) by rw [w64 (by omega) (by omega)]; omega)]
      exact nodes_loop h99 _ _ _ _ _ _ _ _ k 0 (by omega)
    · rw [bT (Parse_bad (by omega) hn)]
      simp only [rd0, rd1, rd2, rd3, pd0, pd1, pd2, pd3, pd4, pd5, pd6, pd7, pd8, pd9, pt0, pt1, pt2, pt3, pt4, pt5, pt6, pt7, pt8, pt9, pt10, aggC0, aggC1, aggC2, aggC3, aggC4, aggC5, datL, datI, datB, datS]
      rw [dT (show ((k : Int) > 99) by omega)]
      by_cases h100 : (k : Int) = 100
      · rw [eT h100]; rfl
      · rw [eF h100, dT (by omega)]; rfl
  | d + 1, k, h => by
    apply M5_1_of
    rw [dT (by omega), dT (show (bs [40]).size + (bs (gs k)).size ≤ 9223372036854775807 by rw [bs_sizeP, bs_sizeP, gs_len]; show 1 + _ ≤ _; omega), dT (show (bs [40] ++ bs (gs k)).size + (bs [41]).size ≤ 9223372036854775807 by rw [bsP, bs_sizeP, bs_sizeP, List.length_append, gs_len]; show (1 + _) + 1 ≤ _; omega), gs_next, show IntKind.i64.wrap ((k : Int) + 1) = ((k + 1 : Nat) : Int) by rw [w64 (by omega) (by omega)]; omega]
    exact groups_loop hn v2 d (k + 1) (by omega)
theorem ParseGroups_pure (e0 : Dat) (h0 : fitT C.T 9 3 e0) : E C 5 [.int .i64 e0.I] = some [.bool true] := by
  obtain ⟨n, rfl, h1, h2⟩ := fit_i64 h0
  apply o5
  rw [bT anchor08_E]
  simp only [rd0, datB, datI]
  rw [nF rfl]
  by_cases g1 : n < 0
  · rw [dT g1]
  rw [dF g1]
  by_cases g2 : n > 110
  · rw [dT g2]
  rw [dF g2]
  obtain ⟨k, rfl⟩ : ∃ k : Nat, n = (k : Int) := ⟨n.toNat, by omega⟩
  exact groups_loop (n := k) (by omega) false k 0 (by omega)
end Go.Proofs.YtlofoifcdmeopaaGreatDoor.V
