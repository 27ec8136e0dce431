/- Letters that are the same but for their case: the document's fold and the program's. -/
import Derived.Test.YtlofoifcdmeopaaGreatDoorURs
import Derived.Test.YtlofoifcdmeopaaGreatDoorVUFo
namespace Go.Proofs.YtlofoifcdmeopaaGreatDoor.V
open Go Go.Ev Go.RowKit
set_option linter.unusedVariables false
set_option linter.unusedSimpArgs false
abbrev Row := Int × Int × Int × Int
def rowsL : List Row := [(65, 90, 1, 32), (192, 214, 1, 32), (216, 222, 1, 32), (256, 302, 2, 1), (306, 310, 2, 1), (313, 327, 2, 1), (330, 374, 2, 1), (377, 381, 2, 1), (913, 929, 1, 32), (931, 939, 1, 32), (1024, 1039, 1, 80), (1040, 1071, 1, 32), (1120, 1152, 2, 1), (1329, 1366, 1, 48), (7680, 7828, 2, 1), (9398, 9423, 1, 26), (65313, 65338, 1, 32), (66560, 66599, 1, 40)]
def sinL : List (Int × Int) := [(181, 956), (376, 255), (383, 115), (962, 963), (8490, 107), (8491, 229)]
def rowsD (l : List Row) : List Dat := l.map fun r => .agg [.int r.1, .int r.2.1, .int r.2.2.1, .int r.2.2.2]
theorem tab542c0f_eq : tab542c0f = rowsD rowsL := rfl
theorem tabdd2fde_eq : tabdd2fde = rs sinL := rfl
theorem rowsD_rd (l : List Row) (i : Nat) (h : i < l.length) : rd (rowsD l) i = .agg [.int (l[i]).1, .int (l[i]).2.1, .int (l[i]).2.2.1, .int (l[i]).2.2.2] := by simp [rd, rowsD, h]
def upB (r : Row) (x : Int) : Bool := decide (r.1 ≤ x) && (decide (x ≤ r.2.1) && ((x - r.1) % r.2.2.1 == 0))
structure OkRow (r : Row) : Prop where
  f0 : 0 ≤ r.1
  f1 : r.1 ≤ 100000
  t1 : r.2.1 ≤ 100000
  s : r.2.2.1 = 1 ∨ r.2.2.1 = 2
  b0 : 0 < r.2.2.2
  b1 : r.2.2.2 ≤ 100
theorem rows_ok {r : Row} (h : r ∈ rowsL) : OkRow r := by
  have key : ∀ r, r ∈ rowsL → 0 ≤ r.1 ∧ r.1 ≤ 100000 ∧ r.2.1 ≤ 100000 ∧ (r.2.2.1 = 1 ∨ r.2.2.1 = 2) ∧ 0 < r.2.2.2 ∧ r.2.2.2 ≤ 100 := by decide
  obtain ⟨h1, h2, h3, h4, h5, h6⟩ := key r h
  exact ⟨h1, h2, h3, h4, h5, h6⟩
def findW (l : List Row) (x : Int) : Int := match l.find? (fun r => upB r x) with | some r => x + r.2.2.2 | none => x
def WS (s : List (Int × Int)) (x : Int) : Int := match s.find? (fun p => p.1 == x) with | some p => p.2 | none => findW rowsL x
/-- What a symbol goes with. -/
def W (x : Int) : Int := WS sinL x
theorem findW_cons (r : Row) (l : List Row) (x : Int) : findW (r :: l) x = if upB r x = true then x + r.2.2.2 else findW l x := by
  unfold findW
  rw [List.find?_cons]
  cases upB r x <;> rfl
theorem WS_cons (p : Int × Int) (s : List (Int × Int)) (x : Int) : WS (p :: s) x = if p.1 = x then p.2 else WS s x := by
  unfold WS
  rw [List.find?_cons]
  by_cases h : p.1 = x
  · rw [if_pos h, show (p.1 == x) = true from by simpa using h]
  · rw [if_neg h, beq_false_of_ne h]
theorem upper_E {r : Row} (hr : OkRow r) (x : Int) (hx : -1000000 ≤ x ∧ x ≤ 2000000) : E C 272 [.agg [.int .i64 r.1, .int .i64 r.2.1, .int .i64 r.2.2.1, .int .i64 r.2.2.2], .int .i64 x] = some [.bool (upB r x)] := by
  obtain ⟨g1, g2, g3, g4, g5, g6⟩ := hr
  apply o272
  unfold upB
  by_cases h0 : x ≥ r.1
  · rw [dT h0, decide_eq_true h0]
    by_cases h1 : x ≤ r.2.1
    · rw [dT h1, decide_eq_true h1, cT (by rcases g4 with h | h <;> rw [h] <;> rfl), w64 (by omega) (by omega), Int.tmod_eq_emod_of_nonneg (by omega)]
      rfl
    · rw [dF h1, decide_eq_false h1]; rfl
  · rw [dF h0, decide_eq_false h0]; rfl
theorem base_rows (l : List Row) (hl : ∀ r, r ∈ l → OkRow r) (hlen : l.length ≤ 1000) (x : Int) (hx : 0 ≤ x ∧ x ≤ 2000000) (v2 v8 v9 : Int) (v7 : List Dat) : ∀ (d k : Nat), l.length - k = d → k ≤ l.length →
    M271_2 x v2 v7 v8 v9 (rowsD l) (l.length : Int) (k : Int) = some [.int (findW (l.drop k) x)] := by
  intro d
  have hrl : (rowsD l).length = l.length := by simp [rowsD]
  induction d with
  | zero =>
    intro k hd hk
    apply M271_2_of
    rw [dF (by omega), List.drop_of_length_le (by omega)]
    rfl
  | succ d ih =>
    intro k hd hk
    have hlt : k < l.length := by omega
    have hr := hl _ (List.getElem_mem hlt)
    have hn := ih (k + 1) (by omega) (by omega)
    have hb1 := hr.b1
    have hb0 := hr.b0
    apply M271_2_of
    rw [hrl, dT (by omega), dT (by omega), dT (by omega), dT (by omega), Int.toNat_natCast, rowsD_rd l k hlt]
    refine (bT (upper_E hr x (by omega))).trans ?_
    rw [List.drop_eq_getElem_cons hlt, findW_cons]
    simp only [rd0, datB]
    cases hu : upB l[k] x with
    | true =>
      rw [if_pos rfl]
      show (some [.int (IntKind.i64.wrap (x + (l[k]).2.2.2))] : R) = _
      rw [w64 (by omega) (by omega)]
    | false =>
      rw [if_neg (by simp)]
      show M271_2 _ _ _ _ _ _ _ _ = _
      rw [w64 (by omega) (by omega)]
      exact hn
theorem rowsF_E : E C 269 [] = some [.list (rowsD rowsL)] := by
  apply o269
  rfl
theorem sinsF_E : E C 270 [] = some [.list (rs sinL)] := by
  apply o270
  rfl
theorem base_sin (s : List (Int × Int)) (hlen : s.length ≤ 1000) (x : Int) (hx : 0 ≤ x ∧ x ≤ 2000000) (v2 : Int) : ∀ (d k : Nat), s.length - k = d → k ≤ s.length →
    M271_1 x v2 (rs s) (s.length : Int) (k : Int) = some [.int (WS (s.drop k) x)] := by
  intro d
  have hrl : (rs s).length = s.length := rs_len s
  induction d with
  | zero =>
    intro k hd hk
    apply M271_1_of
    rw [dF (by omega), bT rowsF_E, List.drop_of_length_le (by omega)]
    simp only [rd0, datL]
    exact base_rows rowsL (fun r hr => rows_ok hr) (by decide) x hx _ _ _ _ rowsL.length 0 rfl (by omega)
  | succ d ih =>
    intro k hd hk
    have hlt : k < s.length := by omega
    have hn := ih (k + 1) (by omega) (by omega)
    apply M271_1_of
    rw [hrl, dT (by omega), dT (by omega), dT (by omega), dT (by omega), Int.toNat_natCast, rs_rd s k hlt, List.drop_eq_getElem_cons hlt, WS_cons]
    by_cases h : (s[k]).1 = x
    · rw [if_pos h]
      exact eT h
    · rw [if_neg h]
      refine (eF h).trans ?_
      rw [w64 (by omega) (by omega)]
      exact hn
theorem base_E (x : Int) (hx : 0 ≤ x ∧ x ≤ 2000000) : E C 271 [.int .i64 x] = some [.int (W x)] := by
  apply o271
  rw [bT sinsF_E]
  simp only [rd0, datL]
  exact base_sin sinL (by decide) x hx _ sinL.length 0 rfl (by omega)

/-! The document's. -/
theorem up_par {r : Row} (hr : OkRow r) {x : Int} (h0 : x ≥ r.1) (h1 : x ≤ r.2.1) (h2 : r.2.2.1 ≠ 1) : upB r x = (x.tmod 2 == r.1.tmod 2) := by
  have hs : r.2.2.1 = 2 := by rcases hr.s with h | h <;> first | exact absurd h h2 | exact h
  have hf := hr.f0
  unfold upB
  rw [decide_eq_true h0, decide_eq_true h1, hs, Int.tmod_eq_emod_of_nonneg (by omega), Int.tmod_eq_emod_of_nonneg hf]
  rw [Bool.true_and, Bool.true_and, Bool.eq_iff_iff, beq_iff_eq, beq_iff_eq]
  omega
theorem up_one {r : Row} {x : Int} (h0 : x ≥ r.1) (h1 : x ≤ r.2.1) (h2 : r.2.2.1 = 1) : upB r x = true := by
  unfold upB
  rw [decide_eq_true h0, decide_eq_true h1, h2]
  simp
theorem up_no {r : Row} {x : Int} (h : ¬ (x ≥ r.1 ∧ x ≤ r.2.1)) : upB r x = false := by
  unfold upB
  by_cases h0 : r.1 ≤ x
  · rw [decide_eq_false (show ¬ x ≤ r.2.1 by omega)]; simp
  · rw [decide_eq_false h0]; rfl
theorem rowsL_len : rowsL.length = 18 := rfl
theorem rowsDL_len : (rowsD rowsL).length = 18 := rfl
theorem rsS_len : (rs sinL).length = 6 := rfl
/-- One round over the rows. -/
theorem row_round (x : Int) (hx : 0 ≤ x ∧ x ≤ 2000000) (k : Nat) (hk : k < 18) (nxt : R) (hn : nxt = some [.int (findW (rowsL.drop (k + 1)) x)]) :
    (bif decide ((k : Int) < 18) then (bif decide (0 ≤ (k : Int)) then (bif decide ((k : Int) < 18) then (bif decide ((k : Int).toNat < tab542c0f.length) then (bif decide (x ≥ (((rd tab542c0f (k : Int).toNat).C 0).I)) then (bif decide (0 ≤ (k : Int)) then (bif decide ((k : Int) < 18) then (bif decide ((k : Int).toNat < tab542c0f.length) then (bif decide (x ≤ (((rd tab542c0f (k : Int).toNat).C 1).I)) then (bif decide (0 ≤ (k : Int)) then (bif decide ((k : Int) < 18) then (bif decide ((k : Int).toNat < tab542c0f.length) then (bif (((rd tab542c0f (k : Int).toNat).C 2).I) == 1 then (bif decide (0 ≤ (k : Int)) then (bif decide ((k : Int) < 18) then (bif decide ((k : Int).toNat < tab542c0f.length) then (some [.int (IntKind.i64.wrap (x + (((rd tab542c0f (k : Int).toNat).C 3).I)))]) else none) else none) else none) else (bif decide (0 ≤ (k : Int)) then (bif decide ((k : Int) < 18) then (bif decide ((k : Int).toNat < tab542c0f.length) then (bif (x.tmod 2) == ((((rd tab542c0f (k : Int).toNat).C 0).I).tmod 2) then (bif decide (0 ≤ (k : Int)) then (bif decide ((k : Int) < 18) then (bif decide ((k : Int).toNat < tab542c0f.length) then (some [.int (IntKind.i64.wrap (x + (((rd tab542c0f (k : Int).toNat).C 3).I)))]) else none) else none) else none) else nxt) else none) else none) else none)) else none) else none) else none) else nxt) else none) else none) else none) else nxt) else none) else none) else none) else (some [.int x]) : R) = some [.int (findW (rowsL.drop k) x)] := by
  have hlt : k < rowsL.length := hk
  have hr := rows_ok (List.getElem_mem hlt)
  have hb1 := hr.b1
  have hb0 := hr.b0
  rw [tab542c0f_eq, Int.toNat_natCast, rowsD_rd rowsL k hlt, rowsDL_len, List.drop_eq_getElem_cons hlt, findW_cons, hn]
  generalize rowsL[k] = r at hr hb0 hb1 ⊢
  have c0 : ((Dat.agg [Dat.int r.1, Dat.int r.2.1, Dat.int r.2.2.1, Dat.int r.2.2.2]).C 0).I = r.1 := rfl
  have c1 : ((Dat.agg [Dat.int r.1, Dat.int r.2.1, Dat.int r.2.2.1, Dat.int r.2.2.2]).C 1).I = r.2.1 := rfl
  have c2 : ((Dat.agg [Dat.int r.1, Dat.int r.2.1, Dat.int r.2.2.1, Dat.int r.2.2.2]).C 2).I = r.2.2.1 := rfl
  have c3 : ((Dat.agg [Dat.int r.1, Dat.int r.2.1, Dat.int r.2.2.1, Dat.int r.2.2.2]).C 3).I = r.2.2.2 := rfl
  rw [c0, c1, c2, c3, w64 (n := x + r.2.2.2) (by omega) (by omega)]
  have k0 : (0 : Int) ≤ (k : Int) := by omega
  have k1 : (k : Int) < 18 := by omega
  simp only [decide_eq_true k0, decide_eq_true k1, decide_eq_true hk, cond_true]
  by_cases h0 : x ≥ r.1
  · rw [dT h0]
    by_cases h1 : x ≤ r.2.1
    · rw [dT h1]
      by_cases h2 : r.2.2.1 = 1
      · rw [eT h2, if_pos (up_one h0 h1 h2)]
      · rw [eF h2, up_par hr h0 h1 h2]
        cases hp : (x.tmod 2 == r.1.tmod 2) with
        | true => rw [if_pos rfl]; rfl
        | false => rw [if_neg (by simp)]; rfl
    · rw [dF h1, up_no (fun h => h1 h.2), if_neg (by simp)]
  · rw [dF h0, up_no (fun h => h0 h.1), if_neg (by simp)]
theorem ref_rows (x : Int) (hx : 0 ≤ x ∧ x ≤ 2000000) (v2 v5 : Int) : ∀ (d k : Nat), 18 - k = d → k ≤ 18 → M74_4 x v2 v5 (k : Int) = some [.int (findW (rowsL.drop k) x)] := by
  intro d
  induction d with
  | zero =>
    intro k hd hk
    apply M74_4_of
    rw [dF (by omega), List.drop_of_length_le (by rw [rowsL_len]; omega)]
    rfl
  | succ d ih =>
    intro k hd hk
    apply M74_4_of
    refine row_round x hx k (by omega) _ ?_
    rw [w64 (by omega) (by omega)]
    exact ih (k + 1) (by omega) (by omega)
theorem ref_rows3 (x : Int) (hx : 0 ≤ x ∧ x ≤ 2000000) (v2 v5 : Int) : M74_3 x v2 v5 0 = some [.int (findW rowsL x)] := by
  apply M74_3_of
  exact row_round x hx 0 (by omega) _ (by
    rw [w64 (by omega) (by omega)]
    exact ref_rows x hx v2 v5 17 1 rfl (by omega))
theorem sin_round (x : Int) (k : Nat) (hk : k < 6) (nxt fin : R) (hn : nxt = some [.int (WS (sinL.drop (k + 1)) x)]) :
    (bif decide ((k : Int) < 6) then (bif decide (0 ≤ (k : Int)) then (bif decide ((k : Int) < 6) then (bif decide ((k : Int).toNat < tabdd2fde.length) then (bif (((rd tabdd2fde (k : Int).toNat).C 0).I) == x then (bif decide (0 ≤ (k : Int)) then (bif decide ((k : Int) < 6) then (bif decide ((k : Int).toNat < tabdd2fde.length) then (some [.int (((rd tabdd2fde (k : Int).toNat).C 1).I)]) else none) else none) else none) else nxt) else none) else none) else none) else fin : R) = some [.int (WS (sinL.drop k) x)] := by
  have hlt : k < sinL.length := hk
  rw [tabdd2fde_eq, Int.toNat_natCast, rs_rd sinL k hlt, rsS_len, List.drop_eq_getElem_cons hlt, WS_cons, hn]
  generalize sinL[k] = p
  have c0 : ((Dat.agg [Dat.int p.1, Dat.int p.2]).C 0).I = p.1 := rfl
  have c1 : ((Dat.agg [Dat.int p.1, Dat.int p.2]).C 1).I = p.2 := rfl
  rw [c0, c1]
  have k0 : (0 : Int) ≤ (k : Int) := by omega
  have k1 : (k : Int) < 6 := by omega
  simp only [decide_eq_true k0, decide_eq_true k1, decide_eq_true hk, cond_true]
  by_cases h : p.1 = x
  · rw [eT h, if_pos h]
  · rw [eF h, if_neg h]
theorem ref_sin (x : Int) (hx : 0 ≤ x ∧ x ≤ 2000000) (v2 : Int) : ∀ (d k : Nat), 6 - k = d → k ≤ 6 → M74_2 x v2 (k : Int) = some [.int (WS (sinL.drop k) x)] := by
  intro d
  induction d with
  | zero =>
    intro k hd hk
    apply M74_2_of
    rw [dF (by omega), List.drop_of_length_le (by show sinL.length ≤ k; have : sinL.length = 6 := rfl; omega)]
    exact ref_rows3 x hx _ _
  | succ d ih =>
    intro k hd hk
    apply M74_2_of
    refine sin_round x k (by omega) _ _ ?_
    rw [w64 (by omega) (by omega)]
    exact ih (k + 1) (by omega) (by omega)
theorem with_E (x : Int) (hx : 0 ≤ x ∧ x ≤ 2000000) : E C 74 [.int .i64 x] = some [.int (W x)] := by
  apply o74
  apply M74_1_of
  exact sin_round x 0 (by omega) _ _ (by
    rw [w64 (by omega) (by omega)]
    exact ref_sin x hx 0 5 1 rfl (by omega))
end Go.Proofs.YtlofoifcdmeopaaGreatDoor.V
