/- CodeRight: what the reference's Right answers. -/
import Derived.Test.YtbhffcogeeeidaaDoorUCoR
import Derived.Test.YtbhffcogeeeidaaDoorVRC1
namespace Go.Proofs.YtbhffcogeeeidaaDoor.V
open Go Go.Ev Go.RowKit
set_option linter.unusedVariables false
set_option linter.unusedSimpArgs false
theorem in_E (x a b : Int) : E C 18 [.int .i64 x, .int .i64 a, .int .i64 b] = some [.bool (inB x a b)] := by
  apply o18
  unfold inB
  cases decide (x ≥ a) <;> rfl
theorem aheadR_E (p : Pg) (a t : Int) : E C 30 [.agg [.shr 52 (p.is.map insD), .shr 50 (p.sets.map fun l => .list (rs l)), .shr 51 (p.loops.map cntD), .int .i64 p.g], .int .i64 a, .int .i64 t] = some [.bool (aheadB p a t)] := by
  apply o30
  rw [List.length_map]
  unfold aheadB
  cases decide (t > a) <;> rfl
def wayB (p : Pg) (a t : Int) : Bool := aheadB p a t && ((atI p t).op == 5)
theorem way_E (p : Pg) (a t : Int) (ha : 0 ≤ a) : E C 29 [.agg [.shr 52 (p.is.map insD), .shr 50 (p.sets.map fun l => .list (rs l)), .shr 51 (p.loops.map cntD), .int .i64 p.g], .int .i64 a, .int .i64 t] = some [.bool (wayB p a t)] := by
  apply o29
  rw [bT (aheadR_E p a t)]
  simp only [rd0, datB]
  unfold wayB
  cases h : aheadB p a t with
  | false => rfl
  | true =>
    unfold aheadB at h
    simp only [Bool.and_eq_true, decide_eq_true_eq] at h
    rw [cond_true, List.length_map, dT (by omega), dT (by omega), dT (by omega), at_rd (by omega) (by omega)]
    rfl
/-- What an instruction's numbers may be, but for those that are to be none. -/
def restB (p : Pg) (a : Int) (i : Ins) : Bool :=
  if i.op = 1 then inB i.x 0 ((p.sets.length : Int) - 1)
  else if i.op = 2 then inB i.x 1 7
  else if i.op = 3 then inB i.x 1 p.g && inB i.y 0 1
  else if i.op = 4 then wayB p a i.x
  else if i.op = 5 then i.x == -1 || wayB p a i.x
  else if i.op = 6 then aheadB p a i.x
  else if i.op = 7 then inB i.x 0 ((p.loops.length : Int) - 1)
  else if i.op = 9 then inB i.x 0 ((p.loops.length : Int) - 1)
  else if i.op = 8 then inB i.x 0 ((p.loops.length : Int) - 1) && (aheadB p a i.y && (aheadB p a i.z && wayB p a (a + 1)))
  else if i.op = 10 then inB i.x 0 ((p.loops.length : Int) - 1) && (inB i.y 0 (a - 1) && ((atI p i.y).op == 8 && ((atI p i.y).x == i.x && decide ((atI p i.y).y > a))))
  else if i.op = 11 then inB i.x 1 p.g
  else if i.op = 12 then inB i.x 1 p.g
  else if i.op = 13 then i.x == -1 || aheadB p a i.x
  else if i.op = 14 then decide (i.x ≥ 0) && (decide (i.x ≤ i.y) && decide (i.y ≤ 255))
  else i.x == 0
theorem names_rest {p : Pg} {a : Int} {i : Ins} (ha : 0 ≤ a ∧ a < (p.is.length : Int)) (ho : 1 ≤ i.op ∧ i.op ≤ 19) :
    namesB p a i = ((i.op == 8 || i.z == 0) && ((i.op == 3 || i.op == 8 || i.op == 10 || i.op == 14 || i.y == 0) && restB p a i)) := by
  have hc : i.op = 1 ∨ i.op = 2 ∨ i.op = 3 ∨ i.op = 4 ∨ i.op = 5 ∨ i.op = 6 ∨ i.op = 7 ∨ i.op = 8 ∨ i.op = 9 ∨ i.op = 10 ∨ i.op = 11 ∨ i.op = 12 ∨ i.op = 13 ∨ i.op = 14 ∨ i.op = 15 ∨ i.op = 16 ∨ i.op = 17 ∨ i.op = 18 ∨ i.op = 19 := by omega
  rw [Bool.eq_iff_iff]
  rcases hc with h | h | h | h | h | h | h | h | h | h | h | h | h | h | h | h | h | h | h
  all_goals (simp [namesB, goesB, nextB, isB, restB, wayB, zeroB, aheadB, inB, h]; try omega)
theorem N20_E {p : Pg} (hp : OkPg p) {a : Int} (ha : 0 ≤ a ∧ a < (p.is.length : Int)) (i : Ins) : N20_1 a (p.is.map insD) (p.sets.map fun l => .list (rs l)) (p.loops.map cntD) p.g i.x i.y i.z i.op = some [.bool (restB p a i)] := by
  have hl := hp.loops
  have hs := hp.sets
  have hi := hp.is
  have e1 : IntKind.i64.wrap (a + 1) = a + 1 := w64 (by omega) (by omega)
  have e2 : IntKind.i64.wrap (a - 1) = a - 1 := w64 (by omega) (by omega)
  unfold N20_1 restB
  rw [List.length_map, List.length_map, List.length_map, lenW hl, lenW hs, e1, e2]
  simp only [in_E, aheadR_E, way_E _ _ _ ha.1, Option.bind_some, rd0, datB]
  by_cases c1 : i.op = 1
  · rw [eT c1, if_pos c1]
  rw [eF c1, if_neg c1]
  by_cases c2 : i.op = 2
  · rw [eT c2, if_pos c2]
  rw [eF c2, if_neg c2]
  by_cases c3 : i.op = 3
  · rw [eT c3, if_pos c3]
    cases inB i.x 1 p.g <;> rfl
  rw [eF c3, if_neg c3]
  by_cases c4 : i.op = 4
  · rw [eT c4, if_pos c4]
  rw [eF c4, if_neg c4]
  by_cases c5 : i.op = 5
  · rw [eT c5, if_pos c5]
    cases (i.x == -1) <;> rfl
  rw [eF c5, if_neg c5]
  by_cases c6 : i.op = 6
  · rw [eT c6, if_pos c6]
  rw [eF c6, if_neg c6]
  by_cases c7 : i.op = 7
  · rw [eT c7, if_pos c7]
  rw [eF c7, if_neg c7]
  by_cases c9 : i.op = 9
  · rw [eT c9, if_pos c9]
  rw [eF c9, if_neg c9]
  by_cases c8 : i.op = 8
  · rw [eT c8, if_pos c8]
    cases inB i.x 0 ((p.loops.length : Int) - 1) <;> cases aheadB p a i.y <;> cases aheadB p a i.z <;> rfl
  rw [eF c8, if_neg c8]
  by_cases c10 : i.op = 10
  · rw [eT c10, if_pos c10]
    cases inB i.x 0 ((p.loops.length : Int) - 1) with
    | false => rfl
    | true =>
    cases h : inB i.y 0 (a - 1) with
    | false => rfl
    | true =>
    rw [inB_iff] at h
    rw [cond_true, cond_true, dT (by omega), dT (by omega), dT (by omega), at_rd (by omega) (by omega)]
    simp only [insD, aggC0, aggC1, aggC2, datI]
    rw [dT (by omega), dT (by omega), dT (by omega)]
    cases ((atI p i.y).op == 8) <;> cases ((atI p i.y).x == i.x) <;> first | rfl | (rw [cond_true, cond_true, dT (by omega), dT (by omega), dT (by omega)]; rfl)
  rw [eF c10, if_neg c10]
  by_cases c11 : i.op = 11
  · rw [eT c11, if_pos c11]
  rw [eF c11, if_neg c11]
  by_cases c12 : i.op = 12
  · rw [eT c12, if_pos c12]
  rw [eF c12, if_neg c12]
  by_cases c13 : i.op = 13
  · rw [eT c13, if_pos c13]
    cases (i.x == -1) <;> rfl
  rw [eF c13, if_neg c13]
  by_cases c14 : i.op = 14
  · rw [eT c14, if_pos c14]
    cases decide (i.x ≥ 0) <;> cases decide (i.x ≤ i.y) <;> rfl
  rw [eF c14, if_neg c14]
theorem named_E {p : Pg} (hp : OkPg p) {k : Nat} (hk : k < p.is.length) {i : Ins} (hi : p.is[k] = i) (ho : 1 ≤ i.op ∧ i.op ≤ 19) : E C 20 [.agg [.shr 52 (p.is.map insD), .shr 50 (p.sets.map fun l => .list (rs l)), .shr 51 (p.loops.map cntD), .int .i64 p.g], .int .i64 (k : Int)] = some [.bool (namesB p (k : Int) i)] := by
  have hrd : rd (p.is.map insD) k = insD i := by simp [rd, hk, hi]
  have ha : (0 : Int) ≤ (k : Int) ∧ (k : Int) < (p.is.length : Int) := by omega
  have hN := N20_E hp ha i
  apply o20
  rw [List.length_map, Int.toNat_natCast, dT ha.1, dT ha.2, dT hk, hrd]
  simp only [insD, aggC0, aggC1, aggC2, aggC3, datI]
  simp only [hN]
  rw [names_rest ha ho]
  by_cases c8 : i.op = 8
  · rw [neF c8, neT (by omega), neF c8, c8]
    rfl
  rw [neT c8]
  have e8 : (i.op == 8) = false := beq_eq_false_iff_ne.2 c8
  by_cases cz : i.z = 0
  · rw [neF cz, e8, cz]
    by_cases c3 : i.op = 3
    · rw [neF c3, c3]; rfl
    rw [neT c3, neT c8]
    by_cases c10 : i.op = 10
    · rw [neF c10, c10]; rfl
    rw [neT c10]
    by_cases c14 : i.op = 14
    · rw [neF c14, c14]; rfl
    rw [neT c14, beq_eq_false_iff_ne.2 c3, beq_eq_false_iff_ne.2 c10, beq_eq_false_iff_ne.2 c14]
    by_cases cy : i.y = 0
    · rw [neF cy, cy]; rfl
    · rw [neT cy, beq_eq_false_iff_ne.2 cy]; rfl
  · rw [neT cz, e8, beq_eq_false_iff_ne.2 cz]
    rfl
theorem edges_E {p : Pg} (hp : OkPg p) {k : Nat} (hk : k < p.is.length) {i : Ins} (hi : p.is[k] = i) (hx : i.op = 4 ∨ i.op = 5 ∨ i.op = 13 → (i.x ≥ 0 ↔ i.x ≠ -1)) : E C 31 [.agg [.shr 52 (p.is.map insD), .shr 50 (p.sets.map fun l => .list (rs l)), .shr 51 (p.loops.map cntD), .int .i64 p.g], .int .i64 (k : Int)] = some [.list ((leadsL (k : Int) i 0).map fun l => .agg [.int l.1, .int l.2])] := by
  have hrd : rd (p.is.map insD) k = insD i := by simp [rd, hk, hi]
  have hl := hp.is
  have e1 : IntKind.i64.wrap ((k : Int) + 1) = (k : Int) + 1 := w64 (by omega) (by omega)
  apply o31
  rw [List.length_map, Int.toNat_natCast, dT (by omega), dT (by omega), dT hk, hrd, e1]
  simp only [insD, aggC0, aggC1, aggC2, aggC3, datI]
  unfold leadsL
  by_cases c18 : i.op = 18
  · rw [eT c18]; simp [c18]
  rw [eF c18]
  by_cases c19 : i.op = 19
  · rw [eT c19]; simp [c19]
  rw [eF c19]
  by_cases c6 : i.op = 6
  · rw [eT c6]; simp [c6]
  rw [eF c6]
  by_cases c10 : i.op = 10
  · rw [eT c10]; simp [c10]
  rw [eF c10]
  by_cases c8 : i.op = 8
  · rw [eT c8]; simp [c8]
  rw [eF c8]
  by_cases c16 : i.op = 16
  · rw [eT c16]; simp [c16]
  rw [eF c16]
  by_cases c17 : i.op = 17
  · rw [eT c17]; simp [c17]
  rw [eF c17]
  by_cases c13 : i.op = 13
  · have hx := hx (.inr (.inr c13))
    rw [eT c13, eF (by omega), eF (by omega), eT c13]
    by_cases h : i.x ≥ 0
    · rw [dT h]; simp [c13, hx.1 h]
    · rw [dF h]; simp [c13, show i.x = -1 by omega]
  rw [eF c13]
  by_cases c4 : i.op = 4
  · have hx := hx (.inl c4)
    rw [eT c4]
    by_cases h : i.x ≥ 0
    · rw [dT h]; simp [c4, hx.1 h]
    · rw [dF h]; simp [c4, show i.x = -1 by omega]
  rw [eF c4]
  by_cases c5 : i.op = 5
  · have hx := hx (.inr (.inl c5))
    rw [eT c5]
    by_cases h : i.x ≥ 0
    · rw [dT h]; simp [c5, hx.1 h]
    · rw [dF h]; simp [c5, show i.x = -1 by omega]
  rw [eF c5, eF c13]
  simp [c4, c5, c6, c8, c10, c13, c16, c17, c18, c19]
end Go.Proofs.YtbhffcogeeeidaaDoor.V
