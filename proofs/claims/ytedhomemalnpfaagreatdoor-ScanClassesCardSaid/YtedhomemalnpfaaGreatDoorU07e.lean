/- ScanClasses: any class is the document's set, or the document's error. -/
import Derived.Test.YtedhomemalnpfaaGreatDoorUIn
import Derived.Test.YtedhomemalnpfaaGreatDoorVTLn
import Derived.Test.YtedhomemalnpfaaGreatDoorVTLScanClasses
import Derived.Test.YtedhomemalnpfaaGreatDoorU07
namespace Go.Proofs.YtedhomemalnpfaaGreatDoor.V
open Go Go.Ev Go.RowKit
set_option linter.unusedVariables false
set_option linter.unusedSimpArgs false
theorem tybo : C.T 4 = some ⟨1, 1, [.bool], false, .scal⟩ := rfl
theorem fit_bool {k : Nat} {d : Dat} (h : fitT C.T (k + 1) 4 d) : ∃ b : Bool, d = .bool b := by
  simp only [fitT, tybo] at h
  obtain ⟨ti', h1, h2⟩ := h
  rw [Option.some.injEq] at h1
  subst h1
  obtain ⟨c, h3, h4⟩ := h2
  simp only [List.cons.injEq, and_true] at h3
  subst h3
  exact h4
def numsL (n : Int) : List Int := [n, 0, 8, 9, 10, 13, 14, 31, 32, 45, 47, 48, 57, 58, 64, 65, 75, 90, 91, 94, 95, 97, 107, 115, 122, 123, 127, 128, 181, 229, 255, 383, 956, 8490, 1114111, 1114112, 1114367]
theorem numbers_E (n : Int) : E C 19 [.int .i64 n] = some [.list ((numsL n).map .int)] := by
  apply o19
  rfl
theorem rdN {l : List Int} {j : Nat} (h : j < l.length) : (rd (l.map Dat.int) j).I = l[j] := by rw [rdI]; simp [List.getD_eq_getElem?_getD, h]
theorem has_good {s not : Bool} {h : Bool} (e : h = !(s == not)) : (!(h == (!(s == not)))) = false := by rw [e]; cases (!(s == not)) <;> rfl
theorem fold_loop (ps : List (Prt × Nat)) (hps : ps.length ≤ 40000) (hw : ∀ p, p ∈ ps → wfP p.1) (not : Bool) (l : List (Int × Int)) (hl : l.length ≤ 1000000) (v0 : List Dat) (v1 : Int) (v2 : Bool) (v3 : Int) (v8 : Bool) (v10 v11 v12 v15 v16 v17 x : Int) (v65 : List Dat) (v66 v67 : Int) (L : List Int) (hLl : L.length ≤ 1000) (tot : Bool) (hgood : hasB l x = if 0 ≤ x ∧ x ≤ 1114367 then !(tot == not) else false) {r : List Dat}
    (hnext : M6_1 v0 v1 v2 v3 v8 (rs l) v10 v11 v12 (ps.map prtD) not v15 v16 v17 v65 v66 (IntKind.i64.wrap (v67 + 1)) = some r) : ∀ (d j : Nat) (acc : Bool), L.length - j = d → j ≤ L.length → (acc || (L.drop j).any (anyS ps)) = tot →
    M6_2 v0 v1 v2 v3 v8 (rs l) v10 v11 v12 (ps.map prtD) not v15 v16 v17 x acc v65 v66 v67 (L.map .int) (L.length : Int) (j : Int) = some r := by
  intro d
  induction d with
  | zero =>
    intro j acc hd hj ht
    rw [List.drop_eq_nil_of_le (by omega)] at ht
    have ht2 : acc = tot := by rw [← ht]; cases acc <;> rfl
    subst ht2
    apply M6_2_of
    rw [dF (by omega), bT (Has_E l x (by omega))]
    simp only [rd0, datB]
    by_cases h0 : x ≥ 0
    · rw [dT h0]
      by_cases h1 : x ≤ 1114367
      · rw [dT h1]
        rw [if_pos ⟨h0, h1⟩] at hgood
        rw [nF (by rw [hgood]; simp)]
        exact hnext
      · rw [dF h1]
        rw [if_neg (fun h => h1 h.2)] at hgood
        rw [nF (by rw [hgood]; rfl)]
        exact hnext
    · rw [dF h0]
      rw [if_neg (fun h => h0 h.1)] at hgood
      rw [nF (by rw [hgood]; rfl)]
      exact hnext
  | succ d ih =>
    intro j acc hd hj ht
    have hlt : j < L.length := by omega
    have e1 : IntKind.i64.wrap ((j : Int) + 1) = ((j + 1 : Nat) : Int) := by rw [w64 (by omega) (by omega)]; omega
    rw [List.drop_eq_getElem_cons hlt, List.any_cons] at ht
    apply M6_2_of
    rw [dT (by omega), List.length_map, ixT ⟨by omega, by omega⟩, Int.toNat_natCast, e1, rdN hlt]
    cases acc with
    | true =>
      rw [cT rfl]
      refine ih (j + 1) true (by omega) (by omega) ?_
      rw [← ht]
      rfl
    | false =>
      rw [cF rfl, bT (In_E ps (by omega) hw _)]
      simp only [rd0, datB]
      refine ih (j + 1) _ (by omega) (by omega) ?_
      rw [← ht]
      rfl
theorem nums_loop (ps : List (Prt × Nat)) (hps : ps.length ≤ 40000) (hw : ∀ p, p ∈ ps → wfP p.1) (not folded : Bool) (v0 : List Dat) (v1 v3 : Int) (v8 : Bool) (v10 v11 v12 v15 v16 v17 : Int) (xs : List Int) (hxs : xs.length ≤ 1000) : ∀ (d j : Nat), xs.length - j = d → j ≤ xs.length →
    M6_1 v0 v1 folded v3 v8 (rs (setOf ps folded not)) v10 v11 v12 (ps.map prtD) not v15 v16 v17 (xs.map .int) (xs.length : Int) (j : Int) = some [.bool true] := by
  have hl := set_len ps hps folded not
  intro d
  induction d with
  | zero =>
    intro j hd hj
    apply M6_1_of
    rw [dF (by omega), bT (Right_E _ (by omega)), (leastB_iff _).2 (set_least ps folded not)]
    rfl
  | succ d ih =>
    intro j hd hj
    have hlt : j < xs.length := by omega
    have e1 : IntKind.i64.wrap ((j : Int) + 1) = ((j + 1 : Nat) : Int) := by rw [w64 (by omega) (by omega)]; omega
    have hrec := ih (j + 1) (by omega) (by omega)
    obtain ⟨L, hLl, hL, hO⟩ := orbit_any xs[j]
    apply M6_1_of
    rw [dT (by omega), List.length_map, ixT ⟨by omega, by omega⟩, Int.toNat_natCast, rdN hlt, bT (In_E ps (by omega) hw _)]
    simp only [rd0, datB]
    cases folded with
    | true =>
      rw [cT rfl, bT hO]
      simp only [rd0, datL, List.length_map]
      refine fold_loop ps hps hw not _ hl v0 v1 true v3 v8 v10 v11 v12 v15 v16 v17 xs[j] _ _ (j : Int) L hLl (anyS ps xs[j] || L.any (anyS ps)) ?_ (by rw [e1]; exact hrec) L.length 0 _ (by omega) (by omega) (by rw [List.drop_zero])
      by_cases h : 0 ≤ xs[j] ∧ xs[j] ≤ 1114367
      · rw [if_pos h, set_has ps true not _ h L (hL h), Bool.true_and]
      · rw [if_neg h, hasB_out h]
    | false =>
      rw [cF rfl, bT (Has_E _ _ (by omega)), e1]
      simp only [rd0, datB]
      by_cases h0 : xs[j] ≥ 0
      · rw [dT h0]
        by_cases h1 : xs[j] ≤ 1114367
        · rw [dT h1, nF (by rw [set_has ps false not _ ⟨h0, h1⟩ L (hL ⟨h0, h1⟩), Bool.false_and, Bool.or_false]; simp)]
          exact hrec
        · rw [dF h1, nF (by rw [hasB_out (fun h => h1 h.2)]; rfl)]
          exact hrec
      · rw [dF h0, nF (by rw [hasB_out (fun h => h0 h.1)]; rfl)]
        exact hrec
theorem ScanClasses_pure (e0 e1 e2 e3 : Dat) (h0 : fitT C.T 9 22 e0) (h1 : fitT C.T 9 3 e1) (h2 : fitT C.T 9 4 e2) (h3 : fitT C.T 9 3 e3) : E C 6 [.shr 5 e0.L, .int .i64 e1.I, .bool e2.B, .int .i64 e3.I] = some [.bool true] := by
  obtain ⟨b, rfl, hb, hbl⟩ := fit_bytes h0
  obtain ⟨i, rfl, hi⟩ := fit_i64 h1
  obtain ⟨folded, rfl⟩ := fit_bool h2
  obtain ⟨n, rfl, hn⟩ := fit_i64 h3
  apply o6
  rw [bT anchor07_E]
  simp only [rd0, datB, datI, datL]
  rw [nF rfl, List.length_map]
  by_cases hlong : (b.length : Int) > 300
  · rw [dT hlong]
  rw [dF hlong, bT (Class_E hb (by omega) i folded), bT (ClassR_E hb (by omega) i)]
  have hok := classS_ok hb i
  cases hc : classS b i with
  | err e a =>
    rw [hc] at hok
    simp only [claP, claR, rd0, rd1, rd2, rd3, rd4, datI, datL, datB]
    rw [neF rfl, neF rfl, neF rfl, neT hok]
    rfl
  | ok ps to =>
    rw [hc] at hok
    simp only [claP, claR, rd0, rd1, rd2, rd3, rd4, datI, datL, datB]
    rw [neF rfl, neF rfl, neF rfl, neF rfl, bT (numbers_E n)]
    simp only [rd0, datL, List.length_map]
    exact nums_loop ps (by omega) hok.2 _ _ _ _ _ _ _ _ _ _ _ _ (numsL n) (by show 37 ≤ 1000; omega) 37 0 rfl (by omega)
end Go.Proofs.YtedhomemalnpfaaGreatDoor.V
