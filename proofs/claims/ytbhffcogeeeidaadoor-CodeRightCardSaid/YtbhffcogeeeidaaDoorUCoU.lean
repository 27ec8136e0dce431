/- CodeRight. -/
import Derived.Test.YtbhffcogeeeidaaDoorUCoT
import Derived.Test.YtbhffcogeeeidaaDoorUCoF
import Derived.Test.YtbhffcogeeeidaaDoorVRRs
import Derived.Test.YtbhffcogeeeidaaDoorVROf
import Derived.Test.YtbhffcogeeeidaaDoorVRLCodeRight
namespace Go.Proofs.YtbhffcogeeeidaaDoor.V
open Go Go.Ev Go.RowKit
set_option linter.unusedVariables false
set_option linter.unusedSimpArgs false
theorem Least_loop (l : List (Int × Int)) (hl : l.length < 8796093022208) (hr : ∀ p, p ∈ l → i64P p.1 ∧ i64P p.2) (v2 : Bool) : ∀ (rest pre : List (Int × Int)), l = pre ++ rest →
    M19_1 (rs l) v2 (pre.length : Int) = some [.bool (leastF (pre.getLast?.map (·.2)) rest)] := by
  intro rest
  induction rest with
  | nil =>
    intro pre hx
    rw [List.append_nil] at hx
    subst hx
    apply M19_1_of
    rw [rs_len, dF (by omega)]
    rfl
  | cons p rest ih =>
    intro pre hx
    have hlen : l.length = pre.length + (rest.length + 1) := by rw [hx, List.length_append, List.length_cons]
    have hp : rd (rs l) pre.length = .agg [.int p.1, .int p.2] := by rw [hx]; exact rs_atL pre p rest
    have hpp := hr p (by rw [hx]; simp)
    have e1 : IntKind.i64.wrap ((pre.length : Int) + 1) = (((pre ++ [p]).length : Nat) : Int) := by rw [w64 (by omega) (by omega), List.length_append]; simp
    have hrec := ih (pre ++ [p]) (by rw [hx, List.append_assoc]; rfl)
    rw [List.getLast?_append] at hrec
    apply M19_1_of
    have c1 : ((pre.length : Int)) < (l.length : Int) := by omega
    have c0 : (0 : Int) ≤ (pre.length : Int) := by omega
    have c2 : pre.length < l.length := by omega
    rw [e1, hrec, rs_len, Int.toNat_natCast, hp]
    simp only [aggC0, aggC1, datI, decide_eq_true c0, decide_eq_true c1, decide_eq_true c2, cond_true]
    rw [leastF_cons]
    by_cases h1 : p.1 < 0
    · rw [dT h1, decide_eq_false (show ¬ 0 ≤ p.1 by omega)]; rfl
    rw [dF h1, decide_eq_true (show 0 ≤ p.1 by omega)]
    by_cases h2 : p.2 > 1114367
    · rw [dT h2, decide_eq_false (show ¬ p.2 ≤ 1114367 by omega)]; rfl
    rw [dF h2, decide_eq_true (show p.2 ≤ 1114367 by omega)]
    by_cases h3 : p.1 > p.2
    · rw [dT h3, decide_eq_false (show ¬ p.1 ≤ p.2 by omega)]; rfl
    rw [dF h3, decide_eq_true (show p.1 ≤ p.2 by omega)]
    rcases List.eq_nil_or_concat pre with rfl | ⟨pre, q, rfl⟩
    · rw [dF (by simp)]
      rfl
    · rw [List.concat_eq_append] at *
      have hq : rd (rs l) pre.length = .agg [.int q.1, .int q.2] := by
        rw [hx, List.append_assoc]
        exact rs_atL pre q (p :: rest)
      have e2 : IntKind.i64.wrap (((pre ++ [q]).length : Int) - 1) = (pre.length : Int) := by rw [w64 (by omega) (by omega), List.length_append]; simp
      have l2 : (pre ++ [q]).length = pre.length + 1 := by simp
      rw [dT (by omega), e2, Int.toNat_natCast, hq, dT (by omega), dT (by omega), dT (by omega)]
      simp only [aggC0, aggC1, datI]
      rw [w64 (n := p.1 - 1) (by have := hpp.1.1; omega) (by omega)]
      have e3 : (pre ++ [q]).getLast? = some q := by simp
      rw [e3]
      show _ = some [Dat.bool ((true && true && true && decide (q.2 < p.1 - 1)) && leastF (some p.2) rest)]
      by_cases h4 : p.1 - 1 ≤ q.2
      · rw [dT h4, decide_eq_false (show ¬ q.2 < p.1 - 1 by omega)]; rfl
      · rw [dF h4, decide_eq_true (show q.2 < p.1 - 1 by omega)]
        rfl
where
  rs_atL (pre : List (Int × Int)) (r : Int × Int) (rest : List (Int × Int)) : rd (rs (pre ++ r :: rest)) pre.length = .agg [.int r.1, .int r.2] := by
    rw [rs_rd _ _ (by simp)]
    simp
theorem Least_E (l : List (Int × Int)) (hl : l.length < 8796093022208) (hr : ∀ p, p ∈ l → i64P p.1 ∧ i64P p.2) : E C 19 [.shr 56 (rs l)] = some [.bool (leastB l)] := by
  apply o19
  exact Least_loop l hl hr false l [] rfl
theorem okI_of {p : Pg} (hp : OkPg p) (h : insAll p p.is 0 = true) : OkI p.is := by
  have g : ∀ k (hk : k < p.is.length), insB p (k : Int) p.is[k] = true := fun k hk => by
    have := insAll_get p.is 0 h k hk
    rw [Nat.zero_add] at this
    exact this
  refine ⟨fun k hk => ?_, leads_in h, fun k hk hc => ?_, hp.is⟩
  · have := g k hk
    unfold insB at this
    simp only [Bool.and_eq_true, inB_iff] at this
    omega
  · have := g k hk
    unfold insB at this
    simp only [Bool.and_eq_true, inB_iff] at this
    obtain ⟨b1, b2, b3, b4, b5⟩ := this
    rw [names_rest ⟨by omega, by omega⟩ b1] at b5
    generalize p.is[k] = i at *
    rcases hc with c | c | c
    · simp [restB, c, wayB, aheadB] at b5
      omega
    · simp [restB, c, wayB, aheadB] at b5
      omega
    · simp [restB, c, wayB, aheadB] at b5
      omega
theorem rightR_3 {p : Pg} (hp : OkPg p) (h0 : p.is.length ≠ 0) (v2 : Bool) (v3 v4 : Int) : ∀ (rest pre : List Ins), p.is = pre ++ rest → (insAll p rest pre.length = true → insAll p p.is 0 = true) →
    M8_3 (p.is.map insD) (p.sets.map fun l => .list (rs l)) (p.loops.map cntD) p.g (p.is.map insD) (p.sets.map fun l => .list (rs l)) (p.loops.map cntD) p.g v2 v3 v4 (pre.length : Int) = some [.bool (insAll p rest pre.length && (balB p.is).getD false)]
  | [], pre, e, h => by
    have hb := h rfl
    have hI := okI_of hp hb
    obtain ⟨b, hbal⟩ := balB_some (by omega) (leads_in hb)
    obtain ⟨b', h1, h2⟩ := barredR_E hI hp (by omega)
    have hbb : b' = b := by rw [Bool.eq_iff_iff, h2, balB_good hbal]
    rw [List.append_nil] at e
    apply M8_3_of
    rw [List.length_map, ← e, dF (by omega), bT h1, hbal, hbb]
    rfl
  | i :: rest, pre, e, h => by
    have hl := hp.is
    have hlen : p.is.length = pre.length + (rest.length + 1) := by rw [e, List.length_append, List.length_cons]
    have hk : pre.length < p.is.length := by omega
    have hi : p.is[pre.length] = i := by simp [e]
    have hrd : rd (p.is.map insD) pre.length = insD i := by simp [rd, e]
    have hrec := fun q => rightR_3 hp h0 v2 v3 v4 rest (pre ++ [i]) (by rw [e, List.append_assoc]; rfl) q
    rw [List.length_append, List.length_cons, List.length_nil] at hrec
    apply M8_3_of
    rw [List.length_map, dT (by omega), ixT ⟨by omega, by omega⟩, Int.toNat_natCast, hrd, lenW (by omega), upC (n := p.is.length) (by omega) (by omega)]
    simp only [insD, aggC0, aggC1, aggC2, aggC3, aggC4, aggC5, datI]
    rw [bT (in_E _ _ _)]
    simp only [rd0, datB]
    rw [bT (in_E _ _ _)]
    simp only [rd0, datB]
    rw [bT (in_E _ _ _)]
    simp only [rd0, datB]
    unfold insAll insB
    cases h1 : inB i.op 1 19 with
    | false => rfl
    | true =>
    have hn := named_E hp hk hi (inB_iff.1 h1)
    rw [bT hn]
    simp only [rd0, datB]
    cases h2 : ((i.op == 19) == (((pre.length : Nat) : Int) == (p.is.length : Int) - 1)) with
    | false => rfl
    | true =>
    cases h3 : inB i.node 0 16384 with
    | false => rfl
    | true =>
    cases h4 : inB i.phase 0 16384 with
    | false => rfl
    | true =>
    cases h5 : namesB p ((pre.length : Nat) : Int) i with
    | false => rfl
    | true =>
    refine (hrec (fun q => h ?_)).trans ?_
    · unfold insAll insB
      rw [h1, h2, h3, h4, h5]
      exact q
    · rfl
theorem rightR_2 {p : Pg} (hp : OkPg p) (h0 : p.is.length ≠ 0) (v2 : Bool) (v3 : Int) : ∀ (rest pre : List (Int × Int × Int)), p.loops = pre ++ rest →
    M8_2 (p.is.map insD) (p.sets.map fun l => .list (rs l)) (p.loops.map cntD) p.g (p.is.map insD) (p.sets.map fun l => .list (rs l)) (p.loops.map cntD) p.g v2 v3 (pre.length : Int) = some [.bool (rest.all cntB && (insAll p p.is 0 && (balB p.is).getD false))]
  | [], pre, e => by
    rw [List.append_nil] at e
    apply M8_2_of
    rw [List.length_map, ← e, dF (by omega)]
    exact rightR_3 hp h0 v2 v3 _ p.is [] rfl (fun q => q)
  | c :: rest, pre, e => by
    have hl := hp.loops
    have hlen : p.loops.length = pre.length + (rest.length + 1) := by rw [e, List.length_append, List.length_cons]
    have hrd : rd (p.loops.map cntD) pre.length = cntD c := by simp [rd, e]
    have hrec := rightR_2 hp h0 v2 v3 rest (pre ++ [c]) (by rw [e, List.append_assoc]; rfl)
    rw [List.length_append, List.length_cons, List.length_nil] at hrec
    apply M8_2_of
    rw [List.length_map, dT (by omega), ixT ⟨by omega, by omega⟩, Int.toNat_natCast, hrd, upC (n := p.loops.length) (by omega) (by omega)]
    simp only [cntD, aggC0, aggC1, aggC2, datI]
    simp only [in_E, Option.bind_some, rd0, datB]
    rw [List.all_cons]
    unfold cntB
    cases h1 : inB c.1 0 1000 with
    | false => rfl
    | true =>
    cases h2 : inB c.2.2 0 1 with
    | false => rfl
    | true =>
    by_cases h3 : c.2.1 = -1
    · rw [nF rfl, nF rfl, neF h3, h3]
      exact hrec
    rw [nF rfl, nF rfl, neT h3, beq_eq_false_iff_ne.2 h3]
    cases h4 : inB c.2.1 1 1000 with
    | false =>
      have : (decide (c.2.1 ≥ 1) && (decide (c.2.1 ≥ c.1) && decide (c.2.1 ≤ 1000))) = false := by
        rw [Bool.eq_false_iff]
        intro q
        simp only [Bool.and_eq_true, decide_eq_true_eq] at q
        rw [inB_iff.2 ⟨q.1, q.2.2⟩] at h4
        cases h4
      rw [this]
      rfl
    | true =>
      rw [inB_iff] at h4
      rw [nF rfl, decide_eq_true (show c.2.1 ≥ 1 by omega), decide_eq_true (show c.2.1 ≤ 1000 by omega)]
      by_cases h5 : c.2.1 < c.1
      · rw [dT h5, decide_eq_false (show ¬ c.2.1 ≥ c.1 by omega)]
        rfl
      · rw [dF h5, decide_eq_true (show c.2.1 ≥ c.1 by omega)]
        exact hrec
theorem rightR_1 {p : Pg} (hp : OkPg p) (hr : ∀ l, l ∈ p.sets → ∀ q, q ∈ l → i64P q.1 ∧ i64P q.2) (h0 : p.is.length ≠ 0) (v2 : Bool) : ∀ (rest pre : List (List (Int × Int))), p.sets = pre ++ rest →
    M8_1 (p.is.map insD) (p.sets.map fun l => .list (rs l)) (p.loops.map cntD) p.g (p.is.map insD) (p.sets.map fun l => .list (rs l)) (p.loops.map cntD) p.g v2 (pre.length : Int) = some [.bool (rest.all leastB && (p.loops.all cntB && (insAll p p.is 0 && (balB p.is).getD false)))]
  | [], pre, e => by
    rw [List.append_nil] at e
    apply M8_1_of
    rw [List.length_map, ← e, dF (by omega)]
    exact rightR_2 hp h0 v2 _ p.loops [] rfl
  | c :: rest, pre, e => by
    have hl := hp.sets
    have hc := hp.set c (by rw [e]; simp)
    have hlen : p.sets.length = pre.length + (rest.length + 1) := by rw [e, List.length_append, List.length_cons]
    have hrd : rd (p.sets.map fun l => Dat.list (rs l)) pre.length = .list (rs c) := by simp [rd, e]
    have hrec := rightR_1 hp hr h0 v2 rest (pre ++ [c]) (by rw [e, List.append_assoc]; rfl)
    rw [List.length_append, List.length_cons, List.length_nil] at hrec
    apply M8_1_of
    rw [List.length_map, dT (by omega), ixT ⟨by omega, by omega⟩, Int.toNat_natCast, hrd, upC (n := p.sets.length) (by omega) (by omega)]
    simp only [datL]
    rw [bT (Least_E c (by omega) (hr c (by rw [e]; simp)))]
    simp only [rd0, datB]
    rw [List.all_cons]
    cases leastB c with
    | false => rfl
    | true => exact hrec
theorem RightR_E {p : Pg} (hp : OkPg p) (hr : ∀ l, l ∈ p.sets → ∀ q, q ∈ l → i64P q.1 ∧ i64P q.2) : E C 8 [.agg [.shr 52 (p.is.map insD), .shr 50 (p.sets.map fun l => .list (rs l)), .shr 51 (p.loops.map cntD), .int .i64 p.g]] = some [.bool (rightPB p)] := by
  have hl := hp.loops
  apply o8
  rw [List.length_map, List.length_map]
  unfold rightPB
  by_cases h0 : p.is.length = 0
  · rw [eT (by omega), decide_eq_false (fun q => q h0)]; rfl
  rw [eF (by omega), decide_eq_true h0]
  by_cases h1 : (p.loops.length : Int) > 4096
  · rw [dT h1, decide_eq_false (by omega)]; rfl
  rw [dF h1, decide_eq_true (by omega), bT (in_E _ _ _)]
  simp only [rd0, datB]
  cases inB p.g 0 99 with
  | false => rfl
  | true =>
    rw [nF rfl]
    exact rightR_1 hp hr h0 _ p.sets [] rfl
end Go.Proofs.YtbhffcogeeeidaaDoor.V
