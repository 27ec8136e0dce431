/- Package rset: what its functions answer. -/
import Derived.Test.YtbhffcogeeeidaaDoorUBas
import Derived.Test.YtbhffcogeeeidaaDoorVRRs
namespace Go.Proofs.YtbhffcogeeeidaaDoor.V
open Go Go.Ev Go.RowKit
set_option linter.unusedVariables false
set_option linter.unusedSimpArgs false
theorem rsA (a b : List (Int × Int)) : rs (a ++ b) = rs a ++ rs b := List.map_append
theorem rs1 (p : Int × Int) : ([.agg [.int p.1, .int p.2]] : List Dat) = rs [p] := rfl
theorem rs_at (pre : List (Int × Int)) (r : Int × Int) (rest : List (Int × Int)) : rd (rs (pre ++ r :: rest)) pre.length = .agg [.int r.1, .int r.2] := by
  rw [rs_rd _ _ (by simp)]
  simp
theorem rs_set (done : List (Int × Int)) (c d : Int × Int) : (rs (done ++ [c])).set done.length (.agg [.int d.1, .int d.2]) = rs (done ++ [d]) := by
  unfold rs prs
  simp
theorem clip_E (a b : Int) : E C 36 [.agg [.int .i64 a, .int .i64 b]] = some [.agg [.int (mx a 0), .int (mn b 1114367)], .bool (decide (mx a 0 ≤ mn b 1114367))] := by
  apply o36
  rfl
theorem Sort_rs (l : List (Int × Int)) (h : l.length < 4611686018427387904) : E C 37 [.shr 55 (rs l), .clo 38 [] []] = some [.list (rs (sortP l))] := by
  refine E_given (h := gSortR 55 38) (by kernel_rfl) ?_
  simp only [gSortR]
  rw [rs_len, decide_eq_true h]
  show some [Dat.list (prs (sortP (unprs (prs l))))] = _
  rw [unprs_prs]
theorem Make_l2 (v0 v2 v12 : List Dat) (v13 v14 : Int) (xs : List (Int × Int)) (hx : ∀ r ∈ xs, okR r) (hlen : xs.length < 8796093022208) : ∀ (rest pre done : List (Int × Int)) (c : Int × Int), xs = pre ++ rest → done.length + 1 ≤ pre.length → 0 ≤ c.2 ∧ c.2 ≤ 1114367 →
    M25_2 v0 v2 (rs xs) (rs (done ++ [c])) v12 v13 v14 (xs.length : Int) (pre.length : Int) = some [.list (rs (done ++ mg c rest))] := by
  have hc16 : capB 16 = 8796093022208 := by decide
  intro rest
  induction rest with
  | nil =>
    intro pre done c hxs hd hc
    rw [List.append_nil] at hxs
    subst hxs
    apply M25_2_of
    rw [dF (by omega)]
    rfl
  | cons r rest ih =>
    intro pre done c hxs hd hc
    have hl : xs.length = pre.length + (rest.length + 1) := by rw [hxs]; simp
    have hrx : okR r := hx r (by rw [hxs]; simp)
    unfold okR at hrx
    have hat : rd (rs xs) pre.length = .agg [.int r.1, .int r.2] := by rw [hxs]; exact rs_at _ _ _
    have hdl : (rs (done ++ [c])).length = done.length + 1 := by rw [rs_len]; simp
    have hdc : rd (rs (done ++ [c])) done.length = .agg [.int c.1, .int c.2] := rs_at done c []
    have ew : IntKind.i64.wrap (((done.length + 1 : Nat) : Int) - 1) = ((done.length : Nat) : Int) := by rw [w64 (by omega) (by omega)]; omega
    have ek : IntKind.i64.wrap ((pre.length : Int) + 1) = (((pre ++ [r]).length : Nat) : Int) := by rw [w64 (by omega) (by omega)]; simp
    apply M25_2_of
    rw [rs_len, dT (by omega), ixT ⟨by omega, by omega⟩, hdl, dT (by omega), ew, Int.toNat_natCast, Int.toNat_natCast]
    rw [dT (by omega), dT (by omega), dT (by omega), hat, hdc]
    simp only [aggC0, aggC1, datI]
    rw [w64 (n := c.2 + 1) (by omega) (by omega), ek]
    by_cases h : r.1 ≤ c.2 + 1
    · rw [dT h, dT (by omega), dT (by omega), dT (by omega), dT (by omega), dT (by omega), dT (by omega)]
      have e1 := rs_set done c (c.1, mx c.2 r.2)
      have e2 : (if r.2 > c.2 then r.2 else c.2) = mx c.2 r.2 := rfl
      rw [e2]
      dsimp only at e1
      rw [e1]
      refine (ih (pre ++ [r]) done (c.1, mx c.2 r.2) (by rw [hxs]; simp) (by simp; omega) (by unfold mx; dsimp only; split <;> omega)).trans ?_
      have : mg c (r :: rest) = mg (c.1, mx c.2 r.2) rest := by rw [mg, if_pos h]
      rw [this]
    · rw [dF h, dT (by rw [List.length_singleton]; omega), rs1 r, ← rsA]
      refine (ih (pre ++ [r]) (done ++ [c]) r (by rw [hxs]; simp) (by simp; omega) ⟨by omega, by omega⟩).trans ?_
      have : mg c (r :: rest) = c :: mg r rest := by rw [mg, if_neg h]
      rw [this]
      simp
theorem Make_l2_top (v0 v2 v12 : List Dat) (v13 v14 : Int) (xs : List (Int × Int)) (hx : ∀ r ∈ xs, okR r) (hlen : xs.length < 8796093022208) : M25_2 v0 v2 (rs xs) [] v12 v13 v14 (xs.length : Int) 0 = some [.list (rs (mgT xs))] := by
  have hc16 : capB 16 = 8796093022208 := by decide
  cases xs with
  | nil =>
    apply M25_2_of
    rw [dF (by simp)]
    rfl
  | cons r rest =>
    have hrx := hx r (by simp)
    unfold okR at hrx
    have hl : (r :: rest).length = rest.length + 1 := rfl
    apply M25_2_of
    rw [rs_len, dT (by omega), dT (by omega), dT (by omega), dT (by omega), dF (by simp)]
    have hat : rd (rs (r :: rest)) (0 : Int).toNat = .agg [.int r.1, .int r.2] := rs_at [] r rest
    rw [hat]
    simp only [aggC0, aggC1, datI]
    rw [dT (by rw [List.length_singleton, List.length_nil]; omega), List.nil_append, rs1 r, show IntKind.i64.wrap (0 + 1) = ((([r] : List (Int × Int)).length : Nat) : Int) from by rw [w64 (by omega) (by omega)]; rfl]
    exact Make_l2 v0 v2 v12 v13 v14 (r :: rest) hx hlen rest [r] [] r rfl (by simp) ⟨by omega, by omega⟩
theorem Make_l1 (v0 v2 : List Dat) (xs : List (Int × Int)) (hlen : xs.length < 8796093022208) : ∀ (rest pre acc : List (Int × Int)), xs = pre ++ rest → acc.length ≤ pre.length → (∀ r ∈ acc, okR r) →
    M25_1 v0 v2 (rs acc) (rs xs) (xs.length : Int) (pre.length : Int) = some [.list (rs (mgT (sortP (acc ++ rest.filterMap clipR))))] := by
  have hc16 : capB 16 = 8796093022208 := by decide
  intro rest
  induction rest with
  | nil =>
    intro pre acc hxs ha hok
    rw [List.append_nil] at hxs
    subst hxs
    apply M25_1_of
    rw [dF (by omega), bT (Sort_rs acc (by omega))]
    simp only [rd0, datL, rs_len]
    refine (Make_l2_top _ _ _ _ _ (sortP acc) (fun r hr => hok r (mem_sortP.1 hr)) (by rw [sortP_length]; omega)).trans ?_
    simp
  | cons r rest ih =>
    intro pre acc hxs ha hok
    have hl : xs.length = pre.length + (rest.length + 1) := by rw [hxs]; simp
    have hat : rd (rs xs) pre.length = .agg [.int r.1, .int r.2] := by rw [hxs]; exact rs_at _ _ _
    have ek : IntKind.i64.wrap ((pre.length : Int) + 1) = (((pre ++ [r]).length : Nat) : Int) := by rw [w64 (by omega) (by omega)]; simp
    apply M25_1_of
    rw [rs_len, dT (by omega), ixT ⟨by omega, by omega⟩, Int.toNat_natCast, hat]
    simp only [aggC0, aggC1, datI]
    rw [bT (clip_E r.1 r.2), ek]
    simp only [rd0, rd1, datB, aggC0, aggC1, datI]
    by_cases h : mx r.1 0 ≤ mn r.2 1114367
    · have hcl : clipR r = some (mx r.1 0, mn r.2 1114367) := if_pos h
      rw [dT h, rs_len, dT (by rw [List.length_singleton]; omega), rs1 (mx r.1 0, mn r.2 1114367), ← rsA]
      refine (ih (pre ++ [r]) (acc ++ [(mx r.1 0, mn r.2 1114367)]) (by rw [hxs]; simp) (by simp; omega) (fun q hq => ?_)).trans ?_
      · rcases List.mem_append.1 hq with hq | hq
        · exact hok q hq
        · rw [List.mem_singleton.1 hq]
          exact okR_clip hcl
      · rw [List.filterMap_cons, hcl]
        simp
    · have hcl : clipR r = none := if_neg h
      rw [dF h]
      refine (ih (pre ++ [r]) acc (by rw [hxs]; simp) (by simp; omega) hok).trans ?_
      rw [List.filterMap_cons, hcl]
theorem Make_E (l : List (Int × Int)) (hlen : l.length < 8796093022208) : E C 25 [.shr 55 (rs l)] = some [.list (rs (mk l))] := by
  apply o25
  rw [rs_len]
  refine (Make_l1 _ _ l hlen l [] [] rfl (Nat.le_refl _) (fun r hr => by cases hr)).trans ?_
  rfl
theorem Equal_l1 (v4 : Bool) (xs ys : List (Int × Int)) (hlen : xs.length < 8796093022208) (hl : xs.length = ys.length) : ∀ (d k : Nat), xs.length - k = d → k ≤ xs.length →
    M24_1 (rs xs) (rs ys) v4 (xs.length : Int) (k : Int) = some [.bool (decide (xs.drop k = ys.drop k))] := by
  intro d
  induction d with
  | zero =>
    intro k hd hk
    apply M24_1_of
    rw [dF (by omega), List.drop_of_length_le (by omega), List.drop_of_length_le (by omega)]
    simp
  | succ d ih =>
    intro k hd hk
    have h1 : k < xs.length := by omega
    have h2 : k < ys.length := by omega
    apply M24_1_of
    rw [rs_len, rs_len, dT (by omega), ixT ⟨by omega, by omega⟩, ixT ⟨by omega, by omega⟩, Int.toNat_natCast, rs_rd xs k h1, rs_rd ys k h2]
    simp only [aggC0, aggC1, datI]
    rw [show IntKind.i64.wrap ((k : Int) + 1) = ((k + 1 : Nat) : Int) from by rw [w64 (by omega) (by omega)]; omega, ih (k + 1) (by omega) (by omega), List.drop_eq_getElem_cons h1, List.drop_eq_getElem_cons h2]
    by_cases e : xs[k] = ys[k]
    · rw [e, nF (by simp)]
      congr 3
      rw [decide_eq_decide, List.cons.injEq]
      simp only [true_and]
    · rw [nT, decide_eq_false]
      · intro h
        exact e (List.cons.inj h).1
      · rw [Bool.and_true, Bool.and_eq_false_iff]
        by_cases e1 : (xs[k]).1 = (ys[k]).1
        · exact .inr (beq_false_of_ne fun e2 => e (Prod.ext e1 e2))
        · exact .inl (beq_false_of_ne e1)
theorem Equal_E (a b : List (Int × Int)) (hlen : a.length < 8796093022208) : E C 24 [.shr 55 (rs a), .shr 55 (rs b)] = some [.bool (decide (a = b))] := by
  apply o24
  rw [rs_len, rs_len]
  by_cases h : a.length = b.length
  · rw [neF (by omega)]
    exact Equal_l1 false a b hlen h _ 0 rfl (by omega)
  · rw [neT (by omega), decide_eq_false (fun e => h (by rw [e]))]
theorem Right_E (l : List (Int × Int)) (hlen : l.length < 8796093022208) : E C 14 [.shr 55 (rs l)] = some [.bool (leastB l)] := by
  apply o14
  rw [bT (Make_E l hlen)]
  simp only [rd0, datL]
  rw [bT (Equal_E l (mk l) hlen)]
  simp only [rd0, datB]
  have : decide (l = mk l) = leastB l := by
    rw [Bool.eq_iff_iff, decide_eq_true_eq, leastB_iff, ← mk_eq_iff]
    exact eq_comm
  rw [this]
end Go.Proofs.YtbhffcogeeeidaaDoor.V
