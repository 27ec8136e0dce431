/- CodeRight: the reference's barred, sweep by sweep. -/
import Derived.Test.YtbhffcogeeeidaaDoorUCoS
namespace Go.Proofs.YtbhffcogeeeidaaDoor.V
open Go Go.Ev Go.RowKit
set_option linter.unusedVariables false
set_option linter.unusedSimpArgs false
def tgD (l : Int × Int) : Dat := .agg [.int l.1, .int l.2]
theorem leads_d (a : Int) (i : Ins) : ∀ l, l ∈ leadsL a i 0 → -1 ≤ l.2 ∧ l.2 ≤ 1 := by
  unfold leadsL
  intro l hl
  repeat' split at hl
  all_goals simp only [List.mem_cons, List.not_mem_nil, or_false, or_self] at hl
  all_goals first
    | (rcases hl with rfl | rfl | rfl <;> constructor <;> (try simp only []) <;> omega)
    | (rcases hl with rfl | rfl <;> constructor <;> (try simp only []) <;> omega)
    | (rw [hl]; constructor <;> (try simp only []) <;> omega)
    | exact hl.elim
theorem rdIl (l : List Int) (k : Nat) : (rd (l.map Dat.int) k).I = l.getD k 0 := by
  unfold rd
  rw [List.getD_eq_getElem?_getD, List.getD_eq_getElem?_getD, List.getElem?_map]
  cases l[k]? <;> rfl
theorem rdBl (l : List Bool) (k : Nat) : (rd (l.map Dat.bool) k).B = l.getD k false := by
  unfold rd
  rw [List.getD_eq_getElem?_getD, List.getD_eq_getElem?_getD, List.getElem?_map]
  cases l[k]? <;> rfl
def R1 (p : Pg) (v2 : Bool) (bars : List Int) (seen : List Bool) (again : Bool) : Prop := ∃ b, M21_1 (p.is.map insD) (p.sets.map fun l => .list (rs l)) (p.loops.map cntD) p.g (p.is.map insD) (p.sets.map fun l => .list (rs l)) (p.loops.map cntD) p.g v2 (bars.map .int) (seen.map .bool) again = some [.bool b] ∧ (b = true ↔ GoodB p.is)
def R2 (p : Pg) (v2 : Bool) (bars : List Int) (seen : List Bool) (again : Bool) (k : Nat) : Prop := ∃ b, M21_2 (p.is.map insD) (p.sets.map fun l => .list (rs l)) (p.loops.map cntD) p.g (p.is.map insD) (p.sets.map fun l => .list (rs l)) (p.loops.map cntD) p.g v2 (bars.map .int) (seen.map .bool) again (k : Int) = some [.bool b] ∧ (b = true ↔ GoodB p.is)
theorem inner {p : Pg} (hI : OkI p.is) (v2 : Bool) {k : Nat} (hk : k < p.is.length) {i : Ins} (hi : p.is[k] = i) (o : Int) (U : Nat) {nn : Int} (hbar : Ev.barredB i nn = true)
    (done : ∀ bars seen again, BS p.is bars seen → (again = false → Clo p.is bars seen (k + 1) ∧ unS seen ≤ U) → (again = true → unS seen < U) → R2 p v2 bars seen again (k + 1)) :
    ∀ (rest pre : List (Int × Int)), leadsL (k : Int) i 0 = pre ++ rest → ∀ bars seen again, BS p.is bars seen → seen.getD k false = true → bars.getD k 0 = nn →
    (again = false → Clo p.is bars seen k ∧ unS seen ≤ U ∧ ∀ l, l ∈ pre → seen.getD l.1.toNat false = true ∧ bars.getD l.1.toNat 0 = nn + l.2) → (again = true → unS seen < U) →
    ∃ b, M21_3 (p.is.map insD) (p.sets.map fun l => .list (rs l)) (p.loops.map cntD) p.g (p.is.map insD) (p.sets.map fun l => .list (rs l)) (p.loops.map cntD) p.g v2 (bars.map .int) (seen.map .bool) again (k : Int) o ((leadsL (k : Int) i 0).map fun l => .agg [.int l.1, .int l.2]) (pre.length : Int) = some [.bool b] ∧ (b = true ↔ GoodB p.is)
  | [], pre, e, bars, seen, again, h, hs, hn, hf, ht => by
    have hl := hI.few
    rw [List.append_nil] at e
    have hd : R2 p v2 bars seen again (k + 1) := by
      refine done bars seen again h (fun q => ?_) ht
      obtain ⟨q1, q2, q3⟩ := hf q
      refine ⟨fun a ha hak hsa => ?_, q2⟩
      by_cases c : a < k
      · exact q1 a ha c hsa
      · obtain rfl : a = k := by omega
        rw [hi, hn]
        refine ⟨hbar, fun l hl => ?_⟩
        rw [leads_0, e] at hl
        obtain ⟨l0, hl0, rfl⟩ := List.mem_map.1 hl
        exact q3 l0 hl0
    obtain ⟨b, h1, h2⟩ := hd
    refine ⟨b, ?_, h2⟩
    apply M21_3_of
    rw [List.length_map, e, dF (by omega), upC (n := p.is.length) hk (by omega)]
    exact h1
  | l :: rest, pre, e, bars, seen, again, h, hs, hn, hf, ht => by
    have hlen := hI.few
    have hlb := h.lb
    have hls := h.ls
    have hmem : l ∈ leadsL (k : Int) i 0 := by rw [e]; simp
    have hin := hI.ld k hk 0 l (by rw [hi]; exact hmem)
    have hdl := leads_d _ _ l hmem
    obtain ⟨to, dl⟩ := l
    obtain ⟨t, rfl⟩ : ∃ t : Nat, to = (t : Int) := ⟨to.toNat, by have : 0 ≤ to := hin.1; omega⟩
    have ht' : t < p.is.length := by have : (t : Int) < (p.is.length : Int) := hin.2; omega
    have hdl : -1 ≤ dl ∧ dl ≤ 1 := hdl
    have hbk := h.bd k hs
    rw [hn] at hbk
    have hun : unS seen ≤ p.is.length := by unfold unS; rw [← hls]; exact List.length_filter_le _ _
    have hdv : Dv p.is (t : Int) (nn + dl) := by
      have := Dv.step (l := ((t : Int), nn + dl)) (h.dv k hs) (by omega) (by rw [Int.toNat_natCast]; exact List.getElem?_eq_getElem hk) (by rw [hi, hn, leads_0]; exact List.mem_map.2 ⟨((t : Int), dl), hmem, rfl⟩)
      exact this
    have hll : (leadsL (k : Int) i 0).length = pre.length + (rest.length + 1) := by rw [e, List.length_append, List.length_cons]
    have hfew : (leadsL (k : Int) i 0).length ≤ 3 := by
      unfold leadsL
      repeat' split
      all_goals simp
    have hrd : rd ((leadsL (k : Int) i 0).map fun l => Dat.agg [.int l.1, .int l.2]) pre.length = .agg [.int (t : Int), .int dl] := by simp [rd, e]
    have hw : IntKind.i64.wrap (nn + dl) = nn + dl := w64 (by omega) (by omega)
    have hup : IntKind.i64.wrap ((pre.length : Int) + 1) = (((pre ++ [((t : Int), dl)]).length : Nat) : Int) := by rw [w64 (by omega) (by omega), List.length_append]; simp
    have c0 : (0 : Int) ≤ (pre.length : Int) := by omega
    have c1 : (pre.length : Int) < ((leadsL (k : Int) i 0).length : Int) := by omega
    have c2 : pre.length < (leadsL (k : Int) i 0).length := by omega
    have d0 : (0 : Int) ≤ (k : Int) := by omega
    have d1 : (k : Int) < (p.is.length : Int) := by omega
    have f0 : (0 : Int) ≤ (t : Int) := by omega
    have f1 : (t : Int) < (p.is.length : Int) := by omega
    have e' : leadsL (k : Int) i 0 = (pre ++ [((t : Int), dl)]) ++ rest := by rw [e, List.append_assoc]; rfl
    have hrec := fun bars seen again => inner hI v2 hk hi o U hbar done rest (pre ++ [((t : Int), dl)]) e' bars seen again
    cases hst : seen.getD t false with
    | true =>
      by_cases hbt : bars.getD t 0 = nn + dl
      · obtain ⟨b, h1, h2⟩ := hrec bars seen again h hs hn (fun q => by
          obtain ⟨q1, q2, q3⟩ := hf q
          refine ⟨q1, q2, fun l hl => ?_⟩
          rw [List.mem_append, List.mem_singleton] at hl
          rcases hl with hl | rfl
          · exact q3 l hl
          · exact ⟨hst, hbt⟩) ht
        refine ⟨b, ?_, h2⟩
        apply M21_3_of
        simp only [List.length_map, hlb, hls, Int.toNat_natCast, hrd, aggC0, aggC1, datI, rdIl, rdBl, hn, hst, hbt, hw, hup, decide_eq_true c0, decide_eq_true c1, decide_eq_true c2, decide_eq_true d0, decide_eq_true d1, decide_eq_true hk, decide_eq_true f0, decide_eq_true f1, decide_eq_true ht', cond_true]
        rw [neF rfl, nF rfl]
        exact h1
      · refine ⟨false, ?_, (fun q => by cases q), fun hg => absurd (hg.2 _ _ _ (h.dv t hst) hdv) hbt⟩
        apply M21_3_of
        simp only [List.length_map, hlb, hls, Int.toNat_natCast, hrd, aggC0, aggC1, datI, rdIl, rdBl, hn, hst, hw, hup, decide_eq_true c0, decide_eq_true c1, decide_eq_true c2, decide_eq_true d0, decide_eq_true d1, decide_eq_true hk, decide_eq_true f0, decide_eq_true f1, decide_eq_true ht', cond_true]
        rw [neT hbt]
    | false =>
      have htk : t ≠ k := fun q => by rw [q, hs] at hst; cases hst
      have hu := unS_set seen t (by rw [hls]; exact ht') hst
      have hb' : BS p.is (bars.set t (nn + dl)) (seen.set t true) := h.new ht' hst hdv (by omega)
      obtain ⟨b, h1, h2⟩ := hrec _ _ true hb' (by rw [getD_set _ _ _ _ _ (by rw [hls]; exact ht'), if_neg htk]; exact hs) (by rw [getD_set _ _ _ _ _ (by rw [hlb]; exact ht'), if_neg htk]; exact hn) (fun q => by cases q) (fun _ => by
        cases again with
        | false => have := (hf rfl).2.1; omega
        | true => have := ht rfl; omega)
      refine ⟨b, ?_, h2⟩
      apply M21_3_of
      simp only [List.length_map, hlb, hls, Int.toNat_natCast, hrd, aggC0, aggC1, datI, rdIl, rdBl, hn, hst, hw, hup, decide_eq_true c0, decide_eq_true c1, decide_eq_true c2, decide_eq_true d0, decide_eq_true d1, decide_eq_true hk, decide_eq_true f0, decide_eq_true f1, decide_eq_true ht', cond_true, cond_false]
      rw [nT rfl]
      rw [List.map_set, List.map_set] at h1
      exact h1
theorem sweep {p : Pg} (hI : OkI p.is) (hp : OkPg p) (h0 : 0 < p.is.length) (v2 : Bool) (U : Nat) (IH : ∀ bars seen, BS p.is bars seen → unS seen < U → R1 p v2 bars seen true) :
    ∀ (d k : Nat), k + d = p.is.length → ∀ bars seen again, BS p.is bars seen → (again = false → Clo p.is bars seen k ∧ unS seen ≤ U) → (again = true → unS seen < U) → R2 p v2 bars seen again k
  | 0, k, e, bars, seen, again, h, hf, ht => by
    have e' : k = p.is.length := by omega
    subst e'
    have hr : R1 p v2 bars seen again := by
      cases again with
      | false =>
        refine ⟨true, ?_, fun _ => good_of_clo hI h h0 (hf rfl).1, fun _ => rfl⟩
        apply M21_1_of
        rfl
      | true => exact IH bars seen h (ht rfl)
    obtain ⟨b, h1, h2⟩ := hr
    refine ⟨b, ?_, h2⟩
    apply M21_2_of
    rw [List.length_map, dF (by omega)]
    exact h1
  | d + 1, k, e, bars, seen, again, h, hf, ht => by
    have hk : k < p.is.length := by omega
    have hlen := hI.few
    have hlb := h.lb
    have hls := h.ls
    have hrec := sweep hI hp h0 v2 U IH d (k + 1) (by omega)
    obtain ⟨i, hi⟩ : ∃ i, p.is[k] = i := ⟨_, rfl⟩
    have hrd : rd (p.is.map insD) k = insD i := by simp [rd, hk, hi]
    have hup := upC (n := p.is.length) hk (by omega)
    have d0 : (0 : Int) ≤ (k : Int) := by omega
    have d1 : (k : Int) < (p.is.length : Int) := by omega
    cases hs : seen.getD k false with
    | false =>
      have hclo : again = false → Clo p.is bars seen (k + 1) := fun q a ha hak hsa => by
        by_cases c : a < k
        · exact (hf q).1 a ha c hsa
        · obtain rfl : a = k := by omega
          rw [hs] at hsa
          cases hsa
      obtain ⟨b, h1, h2⟩ := hrec bars seen again h (fun q => ⟨hclo q, (hf q).2⟩) ht
      refine ⟨b, ?_, h2⟩
      apply M21_2_of
      simp only [List.length_map, hlb, hls, Int.toNat_natCast, rdBl, hs, hup, decide_eq_true d0, decide_eq_true d1, decide_eq_true hk, cond_true]
      rw [nT rfl]
      exact h1
    | true =>
      have hdv := h.dv k hs
      have hgb : GoodB p.is → Ev.barredB i (bars.getD k 0) = true := fun hg => hg.1 _ _ _ hdv (by omega) (by rw [Int.toNat_natCast, List.getElem?_eq_getElem hk, hi])
      have he := edges_E hp hk hi (by have := hI.x k hk; rw [hi] at this; exact this)
      have next : Ev.barredB i (bars.getD k 0) = true → ∃ b, M21_3 (p.is.map insD) (p.sets.map fun l => .list (rs l)) (p.loops.map cntD) p.g (p.is.map insD) (p.sets.map fun l => .list (rs l)) (p.loops.map cntD) p.g v2 (bars.map .int) (seen.map .bool) again (k : Int) i.op ((leadsL (k : Int) i 0).map fun l => .agg [.int l.1, .int l.2]) 0 = some [.bool b] ∧ (b = true ↔ GoodB p.is) := fun hb =>
        inner hI v2 hk hi i.op U hb (fun bars seen again q1 q2 q3 => hrec bars seen again q1 q2 q3) _ [] rfl bars seen again h hs rfl (fun q => ⟨(hf q).1, (hf q).2, fun l hl => by cases hl⟩) ht
      have start : ∀ {X : R}, X = M21_2 (p.is.map insD) (p.sets.map fun l => .list (rs l)) (p.loops.map cntD) p.g (p.is.map insD) (p.sets.map fun l => .list (rs l)) (p.loops.map cntD) p.g v2 (bars.map .int) (seen.map .bool) again (k : Int) → True := fun _ => trivial
      by_cases c14 : i.op ≥ 14
      · by_cases c18 : i.op ≤ 18
        · by_cases cb : bars.getD k 0 < 1
          · refine ⟨false, ?_, (fun q => by cases q), fun hg => ?_⟩
            · apply M21_2_of
              simp only [List.length_map, hlb, hls, Int.toNat_natCast, rdBl, rdIl, hs, hup, hrd, insD, aggC0, datI, decide_eq_true d0, decide_eq_true d1, decide_eq_true hk, decide_eq_true c14, decide_eq_true c18, decide_eq_true cb, cond_true]
              rw [nF rfl]
            · have := hgb hg
              unfold Ev.barredB at this
              rw [if_pos ⟨c14, c18⟩, decide_eq_true_eq] at this
              omega
          · have hb : Ev.barredB i (bars.getD k 0) = true := by
              unfold Ev.barredB
              rw [if_pos ⟨c14, c18⟩, decide_eq_true_eq]
              omega
            obtain ⟨b, h1, h2⟩ := next hb
            refine ⟨b, ?_, h2⟩
            apply M21_2_of
            simp only [List.length_map, hlb, hls, Int.toNat_natCast, rdBl, rdIl, hs, hup, hrd, insD, aggC0, datI, decide_eq_true d0, decide_eq_true d1, decide_eq_true hk, decide_eq_true c14, decide_eq_true c18, decide_eq_false cb, cond_true, cond_false]
            rw [nF rfl, eF (by omega), bT he]
            exact h1
        · by_cases c19 : i.op = 19
          · by_cases cb : bars.getD k 0 = 0
            · have hb : Ev.barredB i (bars.getD k 0) = true := by
                unfold Ev.barredB
                rw [if_neg (by omega), if_pos c19, cb]
                rfl
              obtain ⟨b, h1, h2⟩ := next hb
              refine ⟨b, ?_, h2⟩
              apply M21_2_of
              simp only [List.length_map, hlb, hls, Int.toNat_natCast, rdBl, rdIl, hs, hup, hrd, insD, aggC0, datI, decide_eq_true d0, decide_eq_true d1, decide_eq_true hk, decide_eq_true c14, decide_eq_false c18, cond_true, cond_false]
              rw [nF rfl, eT c19, neF cb, bT he]
              exact h1
            · refine ⟨false, ?_, (fun q => by cases q), fun hg => ?_⟩
              · apply M21_2_of
                simp only [List.length_map, hlb, hls, Int.toNat_natCast, rdBl, rdIl, hs, hup, hrd, insD, aggC0, datI, decide_eq_true d0, decide_eq_true d1, decide_eq_true hk, decide_eq_true c14, decide_eq_false c18, cond_true, cond_false]
                rw [nF rfl, eT c19, neT cb]
              · have := hgb hg
                unfold Ev.barredB at this
                rw [if_neg (by omega), if_pos c19, beq_iff_eq] at this
                exact absurd this cb
          · have hb : Ev.barredB i (bars.getD k 0) = true := by
              unfold Ev.barredB
              rw [if_neg (by omega), if_neg c19]
            obtain ⟨b, h1, h2⟩ := next hb
            refine ⟨b, ?_, h2⟩
            apply M21_2_of
            simp only [List.length_map, hlb, hls, Int.toNat_natCast, rdBl, rdIl, hs, hup, hrd, insD, aggC0, datI, decide_eq_true d0, decide_eq_true d1, decide_eq_true hk, decide_eq_true c14, decide_eq_false c18, cond_true, cond_false]
            rw [nF rfl, eF c19, bT he]
            exact h1
      · have hb : Ev.barredB i (bars.getD k 0) = true := by
          unfold Ev.barredB
          rw [if_neg (by omega), if_neg (by omega)]
        obtain ⟨b, h1, h2⟩ := next hb
        refine ⟨b, ?_, h2⟩
        apply M21_2_of
        simp only [List.length_map, hlb, hls, Int.toNat_natCast, rdBl, rdIl, hs, hup, hrd, insD, aggC0, datI, decide_eq_true d0, decide_eq_true d1, decide_eq_true hk, decide_eq_false c14, cond_true, cond_false]
        rw [nF rfl, eF (by omega), bT he]
        exact h1
theorem sweeps {p : Pg} (hI : OkI p.is) (hp : OkPg p) (h0 : 0 < p.is.length) (v2 : Bool) : ∀ (U : Nat) bars seen, BS p.is bars seen → unS seen ≤ U → R1 p v2 bars seen true := by
  intro U
  induction U with
  | zero =>
    intro bars seen h hu
    obtain ⟨b, h1, h2⟩ := sweep hI hp h0 v2 0 (fun _ _ _ q => by omega) p.is.length 0 (by omega) bars seen false h (fun _ => ⟨fun a _ ha => by omega, hu⟩) (fun q => by cases q)
    refine ⟨b, ?_, h2⟩
    apply M21_1_of
    exact h1
  | succ U ih =>
    intro bars seen h hu
    obtain ⟨b, h1, h2⟩ := sweep hI hp h0 v2 (U + 1) (fun bars seen q1 q2 => ih bars seen q1 (by omega)) p.is.length 0 (by omega) bars seen false h (fun _ => ⟨fun a _ ha => by omega, hu⟩) (fun q => by cases q)
    refine ⟨b, ?_, h2⟩
    apply M21_1_of
    exact h1
theorem barredR_E {p : Pg} (hI : OkI p.is) (hp : OkPg p) (h0 : 0 < p.is.length) : ∃ b, E C 21 [.agg [.shr 52 (p.is.map insD), .shr 50 (p.sets.map fun l => .list (rs l)), .shr 51 (p.loops.map cntD), .int .i64 p.g]] = some [.bool b] ∧ (b = true ↔ GoodB p.is) := by
  have hl := hp.is
  have h8 : capB 8 = 17592186044416 := by decide
  have h1 : capB 1 = 140737488355328 := by decide
  have hb : BS p.is (List.replicate p.is.length 0) ((List.replicate p.is.length false).set 0 true) := by
    have g0 : ∀ k, (List.replicate p.is.length (0 : Int)).getD k 0 = 0 := fun k => by
      rw [List.getD_eq_getElem?_getD, List.getElem?_replicate]
      split <;> rfl
    have gs : ∀ k, (List.replicate p.is.length false).getD k false = false := fun k => by
      rw [List.getD_eq_getElem?_getD, List.getElem?_replicate]
      split <;> rfl
    have e2 := fun j => getD_set (List.replicate p.is.length false) 0 j true false (by rw [List.length_replicate]; exact h0)
    have hu := unS_set (List.replicate p.is.length false) 0 (by rw [List.length_replicate]; exact h0) (gs 0)
    have hu2 : unS (List.replicate p.is.length false) ≤ p.is.length := by
      unfold unS
      have := List.length_filter_le (fun b => !b) (List.replicate p.is.length false)
      rw [List.length_replicate] at this
      exact this
    refine ⟨List.length_replicate, by rw [List.length_set]; exact List.length_replicate, by rw [e2]; rfl, g0 0, fun k hk => ?_, fun k hk => ?_⟩
    · rw [e2] at hk
      by_cases c : 0 = k
      · subst c
        rw [g0]
        exact Dv.zero
      · rw [if_neg c, gs] at hk
        cases hk
    · rw [g0]
      omega
  obtain ⟨b, h2, h3⟩ := sweeps hI hp h0 false _ _ _ hb (Nat.le_refl _)
  refine ⟨b, ?_, h3⟩
  apply o21
  rw [List.map_set, List.map_replicate, List.map_replicate] at h2
  rw [List.length_map, Int.toNat_natCast, List.length_replicate, dT (by omega), dT (by omega), dT (by omega), dT (by omega), dT (by omega), dT (by omega), dT (by omega), dT (by omega)]
  exact h2
end Go.Proofs.YtbhffcogeeeidaaDoor.V
