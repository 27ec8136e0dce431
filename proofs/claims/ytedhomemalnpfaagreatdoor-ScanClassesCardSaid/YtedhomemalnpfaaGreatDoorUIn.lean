/- Which numbers the document's parts hold, and the program's set. -/
import Derived.Test.YtedhomemalnpfaaGreatDoorUClr
import Derived.Test.YtedhomemalnpfaaGreatDoorVTLn
namespace Go.Proofs.YtedhomemalnpfaaGreatDoor.V
open Go Go.Ev Go.RowKit
set_option linter.unusedVariables false
set_option linter.unusedSimpArgs false
theorem hasB_out {l : List (Int × Int)} {x : Int} (h : ¬ (0 ≤ x ∧ x ≤ 1114367)) : hasB l x = false := by
  unfold hasB
  by_cases h0 : 0 ≤ x
  · rw [decide_eq_false (show ¬ x ≤ 1114367 by omega), Bool.and_false]; rfl
  · rw [decide_eq_false h0]; rfl
theorem hasB_append (a b : List (Int × Int)) (x : Int) : hasB (a ++ b) x = (hasB a x || hasB b x) := by
  by_cases h : 0 ≤ x ∧ x ≤ 1114367
  · rw [hasB_any h, hasB_any h, hasB_any h, List.any_append]
  · rw [hasB_out h, hasB_out h, hasB_out h]; rfl
def anyS (ps : List (Prt × Nat)) (x : Int) : Bool := ps.any fun p => hasB (partSet p.1) x
theorem sets_any : ∀ (ps : List (Prt × Nat)) (x : Int), hasB (setsP ps) x = anyS ps x
  | [], x => by
    unfold hasB setsP anyS
    simp
  | p :: ps, x => by
    have h : setsP (p :: ps) = partSet p.1 ++ setsP ps := rfl
    rw [h, hasB_append, sets_any ps x]
    rfl
theorem hasP_E (p : Prt) (hp : wfP p) (hr : ∀ lo hi, p ≠ .rng lo hi) (to : Nat) (x : Int) : ∃ k t n s c nt, prtD (p, to) = .agg [.int 0, .int 0, .int k, .int t, .int n, .str s, .int c, .bool nt] ∧ k = 2 ∧ E C 39 [.agg [.int .i64 k, .int .i64 t, .int .i64 n, .str s, .int .u8 c, .bool nt], .int .i64 x] = some [.bool (hasB (partSet p) x)] := by
  cases p with
  | rng lo hi => exact absurd rfl (hr lo hi)
  | lett c =>
    refine ⟨_, _, _, _, _, _, rfl, rfl, ?_⟩
    apply o39
    by_cases h0 : x < 0
    · rw [dT h0, hasB_out (by omega)]
    rw [dF h0]
    by_cases h1 : x > 1114367
    · rw [dT h1, hasB_out (by omega)]
    obtain ⟨ok, h2⟩ := Of5_E c x ⟨by omega, by omega⟩
    rw [dF h1, dT hp.1, bT h2]
    have h3 := hp.2
    cases h : ofL c with
    | none => rw [h] at h3; cases h3
    | some l =>
      show some [Dat.bool (hasB l x)] = some [Dat.bool (hasB ((ofL c).getD []) x)]
      rw [h]
      rfl
  | nam s nt =>
    refine ⟨_, _, _, _, _, _, rfl, rfl, ?_⟩
    apply o39
    by_cases h0 : x < 0
    · rw [dT h0, hasB_out (by omega)]
    rw [dF h0]
    by_cases h1 : x > 1114367
    · rw [dT h1, hasB_out (by omega)]
    rw [dF h1, dF (by decide), bT (Has5_E _ _)]
    have h3 : (nset s).isSome = true := hp
    cases h : nset s with
    | none => rw [h] at h3; cases h3
    | some l =>
      unfold hasR
      rw [show findN (bs s) allN = some l from h]
      have hin : 0 ≤ x ∧ x ≤ 1114367 := by omega
      show some [Dat.bool (!((l.any (inR x)) == nt))] = some [Dat.bool (hasB (if nt = true then notR ((nset s).getD []) else (nset s).getD []) x)]
      rw [h, Option.getD_some, ← hasB_any hin]
      cases nt with
      | true =>
        rw [if_pos rfl, notR_hasB, decide_eq_true hin.1, decide_eq_true hin.2]
        cases hasB l x <;> rfl
      | false =>
        rw [if_neg (by decide)]
        cases hasB l x <;> rfl
@[simp] theorem aggC6 (a b c d e f g : Dat) (l : List Dat) : (Dat.agg (a :: b :: c :: d :: e :: f :: g :: l)).C 6 = g := (rfl)
@[simp] theorem aggC7 (a b c d e f g h : Dat) (l : List Dat) : (Dat.agg (a :: b :: c :: d :: e :: f :: g :: h :: l)).C 7 = h := (rfl)
theorem prt_rd (ps : List (Prt × Nat)) (j : Nat) (h : j < ps.length) : rd (ps.map prtD) j = prtD ps[j] := by simp [rd, h]
theorem In_loop (ps : List (Prt × Nat)) (hps : ps.length ≤ 1000000) (hw : ∀ p, p ∈ ps → wfP p.1) (x : Int) (v4 : Bool) : ∀ (d j : Nat), ps.length - j = d → j ≤ ps.length →
    M20_1 (ps.map prtD) x v4 (j : Int) = some [.bool (anyS (ps.drop j) x)] := by
  intro d
  induction d with
  | zero =>
    intro j hd hj
    apply M20_1_of
    rw [List.length_map, dF (by omega), List.drop_eq_nil_of_le (by omega)]
    rfl
  | succ d ih =>
    intro j hd hj
    have hlt : j < ps.length := by omega
    have hrec := ih (j + 1) (by omega) (by omega)
    have hwp := hw ps[j] (List.getElem_mem hlt)
    have ed : anyS (ps.drop j) x = (hasB (partSet ps[j].1) x || anyS (ps.drop (j + 1)) x) := by
      rw [List.drop_eq_getElem_cons hlt]
      rfl
    have e1 : IntKind.i64.wrap ((j : Int) + 1) = ((j + 1 : Nat) : Int) := by rw [w64 (by omega) (by omega)]; omega
    apply M20_1_of
    rw [List.length_map, dT (by omega), ixT ⟨by omega, by omega⟩, Int.toNat_natCast, prt_rd ps j hlt, e1, ed, hrec]
    clear ed
    generalize ps[j] = q at hwp ⊢
    obtain ⟨p, to⟩ := q
    by_cases hr : ∃ lo hi, p = .rng lo hi
    · obtain ⟨lo, hi, rfl⟩ := hr
      have hwp2 : 0 ≤ lo ∧ hi ≤ 1114367 := hwp
      simp only [prtD, aggC0, aggC1, aggC2, datI]
      rw [eT rfl, dT (by omega), dT (by omega), dT hlt]
      have eh : hasB (partSet (.rng lo hi)) x = (decide (lo ≤ x) && decide (x ≤ hi)) := by
        rw [Bool.eq_iff_iff, hasB_iff, Bool.and_eq_true, decide_eq_true_eq, decide_eq_true_eq]
        unfold hasP partSet
        constructor
        · rintro ⟨_, _, r, hr, h1, h2⟩
          rw [List.mem_singleton] at hr
          subst hr
          exact ⟨h1, h2⟩
        · rintro ⟨h1, h2⟩
          exact ⟨by omega, by omega, (lo, hi), List.mem_singleton.2 rfl, h1, h2⟩
      rw [eh]
      by_cases h1 : lo ≤ x
      · by_cases h2 : x ≤ hi
        · rw [dT h1, dT (by omega), dT (by omega), dT hlt, dT h2, decide_eq_true h1, decide_eq_true h2]; rfl
        · rw [dT h1, dT (by omega), dT (by omega), dT hlt, dF h2, decide_eq_false h2, Bool.and_false]; rfl
      · rw [dF h1, decide_eq_false h1]; rfl
    · obtain ⟨k, t, n, s, c, nt, e2, rfl, e3⟩ := hasP_E p hwp (fun lo hi e => hr ⟨lo, hi, e⟩) to x
      rw [e2]
      simp only [aggC0, aggC1, aggC2, aggC3, aggC4, aggC5, aggC6, aggC7, datI, datS, datB]
      rw [eF (by decide), dT (by omega), dT (by omega), dT hlt, bT e3]
      simp only [rd0, datB]
      cases hasB (partSet p) x <;> rfl
theorem In_E (ps : List (Prt × Nat)) (hps : ps.length ≤ 1000000) (hw : ∀ p, p ∈ ps → wfP p.1) (x : Int) : E C 20 [.shr 80 (ps.map prtD), .int .i64 x] = some [.bool (anyS ps x)] := by
  apply o20
  exact In_loop ps hps hw x false ps.length 0 (by omega) (by omega)
theorem orbit_any (x : Int) : ∃ L : List Int, L.length ≤ 1000 ∧ (0 ≤ x ∧ x ≤ 1114367 → ∀ z, z ∈ L ↔ W z = W x) ∧ E C 21 [.int .i64 x] = some [.list (L.map .int)] := by
  by_cases h : 0 ≤ x ∧ x ≤ 1114367
  · obtain ⟨L, h1, h2, h3⟩ := RefOrbit_E x h
    have hb := W_bound x (by omega)
    refine ⟨L, ?_, fun _ z => ?_, h3⟩
    · have hl := h2.length_eq
      have h1 : ∀ (l acc : List Int), (l.foldl (g3 (W x)) acc).length ≤ acc.length + l.length := by
        intro l
        induction l with
        | nil => intro acc; simp
        | cons y l ih =>
          intro acc
          have h2 : (g3 (W x) acc y).length ≤ acc.length + 1 := by
            unfold g3
            split <;> simp
          have := ih (g3 (W x) acc y)
          simp only [List.foldl_cons, List.length_cons]
          omega
      have h3 := h1 symL (fars.filterMap (g1 (W x)))
      have h4 : (fars.filterMap (g1 (W x))).length ≤ fars.length := List.length_filterMap_le _ _
      have h5 : fars.length = 8 := rfl
      have h6 : symL.length = 6 := rfl
      unfold Q at hl
      omega
    · rw [h2.mem_iff, ← P_Q hb.1 (W_W x), P_W]
  · refine ⟨[], by simp, fun g => absurd g h, ?_⟩
    apply o21
    by_cases h0 : x < 0
    · rw [dT h0]; rfl
    · rw [dF h0, dT (by omega)]; rfl
/-- What the program's set holds. -/
theorem set_has (ps : List (Prt × Nat)) (folded not : Bool) (x : Int) (hx : 0 ≤ x ∧ x ≤ 1114367) (L : List Int) (hL : ∀ z, z ∈ L ↔ W z = W x) : hasB (setOf ps folded not) x = !((anyS ps x || (folded && L.any (anyS ps))) == not) := by
  have h1 : hasB (foldR folded (mk (setsP ps))) x = (anyS ps x || (folded && L.any (anyS ps))) := by
    cases folded with
    | false =>
      show hasB (mk (setsP ps)) x = _
      rw [mk_hasB, sets_any, Bool.false_and, Bool.or_false]
    | true =>
      show hasB (closeR (mk (setsP ps))) x = _
      rw [close_has, Bool.true_and]
      have e : hasB (mk (setsP ps)) = anyS ps := by
        funext y
        rw [mk_hasB, sets_any]
      rw [e]
      have e2 : (orbL x).any (anyS ps) = L.any (anyS ps) := by
        rw [Bool.eq_iff_iff, List.any_eq_true, List.any_eq_true]
        constructor
        · rintro ⟨z, h1, h2⟩
          exact ⟨z, (hL z).2 (mem_orbL.1 h1).2, h2⟩
        · rintro ⟨z, h1, h2⟩
          exact ⟨z, mem_orbL.2 ⟨hx, (hL z).1 h1⟩, h2⟩
      rw [e2]
      cases ha : anyS ps x with
      | false => rfl
      | true =>
        have : L.any (anyS ps) = true := List.any_eq_true.2 ⟨x, (hL x).2 rfl, ha⟩
        rw [this]
        rfl
  show hasB (turnR not (foldR folded (mk (setsP ps)))) x = _
  cases not with
  | false =>
    show hasB (foldR folded (mk (setsP ps))) x = _
    rw [h1]
    cases (anyS ps x || (folded && L.any (anyS ps))) <;> rfl
  | true =>
    show hasB (notR (foldR folded (mk (setsP ps)))) x = _
    rw [notR_hasB, h1, decide_eq_true hx.1, decide_eq_true hx.2]
    cases (anyS ps x || (folded && L.any (anyS ps))) <;> rfl
theorem set_least (ps : List (Prt × Nat)) (folded not : Bool) : leastP (setOf ps folded not) := by
  have h : leastP (foldR folded (mk (setsP ps))) := by
    cases folded with
    | false => exact mk_least _
    | true => exact mk_least _
  show leastP (turnR not (foldR folded (mk (setsP ps))))
  cases not with
  | false => exact h
  | true => exact notR_least _
theorem set_len (ps : List (Prt × Nat)) (hps : ps.length ≤ 40000) (folded not : Bool) : (setOf ps folded not).length ≤ 1000000 := by
  have h1 := setsP_len ps
  have h2 := mk_length (setsP ps)
  have h3 := closeR_length (mk (setsP ps))
  have h : (foldR folded (mk (setsP ps))).length ≤ 900000 := by
    cases folded with
    | false => show (mk (setsP ps)).length ≤ 900000; omega
    | true => show (closeR (mk (setsP ps))).length ≤ 900000; omega
  show (turnR not (foldR folded (mk (setsP ps)))).length ≤ 1000000
  cases not with
  | false => show (foldR folded (mk (setsP ps))).length ≤ 1000000; omega
  | true =>
    have := notR_length (foldR folded (mk (setsP ps)))
    show (notR (foldR folded (mk (setsP ps)))).length ≤ 1000000
    omega
end Go.Proofs.YtedhomemalnpfaaGreatDoor.V
