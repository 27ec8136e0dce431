/- Programs: what Right answers. -/
import Derived.Test.YtbhffcogeeeidaaDoorURsA
import Derived.Test.YtbhffcogeeeidaaDoorVRC2
namespace Go.Proofs.YtbhffcogeeeidaaDoor.V
open Go Go.Ev Go.RowKit
set_option linter.unusedVariables false
set_option linter.unusedSimpArgs false
def insD (i : Ins) : Dat := .agg [.int i.op, .int i.x, .int i.y, .int i.z, .int i.node, .int i.phase]
def cntD (c : Int × Int × Int) : Dat := .agg [.int c.1, .int c.2.1, .int c.2.2]
theorem insOf_D (i : Ins) : insOf (insD i) = i := rfl
structure Pg where
  is : List Ins
  sets : List (List (Int × Int))
  loops : List (Int × Int × Int)
  g : Int
structure OkPg (p : Pg) : Prop where
  is : p.is.length ≤ 1000000
  sets : p.sets.length ≤ 6000000000000
  set : ∀ l, l ∈ p.sets → l.length ≤ 8796093021952
  loops : p.loops.length ≤ 6000000000000
def inB (x a b : Int) : Bool := decide (x ≥ a) && decide (x ≤ b)
theorem inB_iff {x a b : Int} : inB x a b = true ↔ a ≤ x ∧ x ≤ b := by simp [inB]
theorem within_E (x a b : Int) : E C 13 [.int .i64 x, .int .i64 a, .int .i64 b] = some [.bool (inB x a b)] := by
  apply o13
  unfold inB
  cases decide (x ≥ a) <;> rfl
def cntB (c : Int × Int × Int) : Bool := inB c.1 0 1000 && (inB c.2.2 0 1 && (c.2.1 == -1 || (decide (c.2.1 ≥ 1) && (decide (c.2.1 ≥ c.1) && decide (c.2.1 ≤ 1000)))))
theorem cnt_E (c : Int × Int × Int) : E C 15 [.agg [.int .i64 c.1, .int .i64 c.2.1, .int .i64 c.2.2]] = some [.bool (cntB c)] := by
  apply o15
  unfold cntB inB
  cases decide (c.1 ≥ 0) <;> cases decide (c.1 ≤ 1000) <;> cases decide (c.2.2 ≥ 0) <;> cases decide (c.2.2 ≤ 1) <;> cases (c.2.1 == -1) <;> cases decide (c.2.1 ≥ 1) <;> cases decide (c.2.1 ≥ c.1) <;> rfl
def aheadB (p : Pg) (a t : Int) : Bool := decide (t > a) && decide (t < (p.is.length : Int))
theorem ahead_E (p : Pg) (a t : Int) : E C 41 [.agg [.shr 37 (p.is.map insD), .shr 44 (p.sets.map fun l => .list (rs l)), .shr 47 (p.loops.map cntD), .int .i64 p.g], .int .i64 a, .int .i64 t] = some [.bool (aheadB p a t)] := by
  apply o41
  rw [List.length_map]
  unfold aheadB
  cases decide (t > a) <;> rfl
def ins0 : Ins := ⟨0, 0, 0, 0, 0, 0⟩
def atI (p : Pg) (a : Int) : Ins := p.is.getD a.toNat ins0
def isB (p : Pg) (a o : Int) : Bool := inB a 0 ((p.is.length : Int) - 1) && ((atI p a).op == o)
theorem at_rd {p : Pg} {a : Int} (h0 : 0 ≤ a) (h1 : a < (p.is.length : Int)) : rd (p.is.map insD) a.toNat = insD (atI p a) := by
  unfold atI rd
  have h : a.toNat < p.is.length := by omega
  simp [List.getD_eq_getElem?_getD, h]
theorem lenW {n : Nat} (h : n ≤ 6000000000000) : IntKind.i64.wrap ((n : Int) - 1) = (n : Int) - 1 := w64 (by omega) (by omega)
theorem is_E {p : Pg} (hp : OkPg p) (a o : Int) : E C 42 [.agg [.shr 37 (p.is.map insD), .shr 44 (p.sets.map fun l => .list (rs l)), .shr 47 (p.loops.map cntD), .int .i64 p.g], .int .i64 a, .int .i64 o] = some [.bool (isB p a o)] := by
  have := hp.is
  apply o42
  rw [List.length_map, lenW (by omega), bT (within_E _ _ _)]
  simp only [rd0, datB]
  unfold isB
  cases h : inB a 0 ((p.is.length : Int) - 1) with
  | false => rfl
  | true =>
    rw [inB_iff] at h
    rw [cond_true, dT (by omega), dT (by omega), dT (by omega), at_rd (by omega) (by omega)]
    rfl
def nextB (p : Pg) (a : Int) (i : Ins) : Bool := decide (i.y < a) && (isB p i.y 8 && ((atI p i.y).x == i.x && decide ((atI p i.y).y > a)))
theorem next_E {p : Pg} (hp : OkPg p) (a : Int) (i : Ins) : E C 43 [.agg [.shr 37 (p.is.map insD), .shr 44 (p.sets.map fun l => .list (rs l)), .shr 47 (p.loops.map cntD), .int .i64 p.g], .int .i64 a, .agg [.int .i64 i.op, .int .i64 i.x, .int .i64 i.y, .int .i64 i.z, .int .i64 i.node, .int .i64 i.phase]] = some [.bool (nextB p a i)] := by
  have := hp.is
  apply o43
  rw [List.length_map, bT (is_E hp _ _)]
  simp only [rd0, datB]
  unfold nextB
  by_cases c : i.y < a
  · rw [dT c, decide_eq_true c]
    cases h : isB p i.y 8 with
    | false => rfl
    | true =>
      unfold isB at h
      rw [Bool.and_eq_true, inB_iff] at h
      rw [cond_true, dT (by omega), dT (by omega), dT (by omega), at_rd (by omega) (by omega), dT (by omega), dT (by omega), dT (by omega)]
      show (bif (atI p i.y).x == i.x then _ else _) = _
      cases ((atI p i.y).x == i.x) <;> rfl
  · rw [dF c, decide_eq_false c]
    rfl
def zeroB (i : Ins) : Bool := i.y == 0 && i.z == 0
def goesB (p : Pg) (a : Int) (i : Ins) : Bool :=
  if i.op = 4 then aheadB p a i.x && (isB p i.x 5 && zeroB i)
  else if i.op = 5 then (i.x == -1 || (aheadB p a i.x && isB p i.x 5)) && zeroB i
  else if i.op = 6 then aheadB p a i.x && zeroB i
  else if i.op = 13 then (i.x == -1 || aheadB p a i.x) && zeroB i
  else if i.op = 8 then inB i.x 0 ((p.loops.length : Int) - 1) && (aheadB p a i.y && (aheadB p a i.z && isB p (a + 1) 5))
  else if i.op = 10 then inB i.x 0 ((p.loops.length : Int) - 1) && (nextB p a i && i.z == 0)
  else i.x == 0 && zeroB i
theorem goes_E {p : Pg} (hp : OkPg p) (a : Int) (ha : 0 ≤ a ∧ a ≤ 1000000) (i : Ins) : E C 26 [.agg [.shr 37 (p.is.map insD), .shr 44 (p.sets.map fun l => .list (rs l)), .shr 47 (p.loops.map cntD), .int .i64 p.g], .int .i64 a, .agg [.int .i64 i.op, .int .i64 i.x, .int .i64 i.y, .int .i64 i.z, .int .i64 i.node, .int .i64 i.phase]] = some [.bool (goesB p a i)] := by
  have hl := hp.loops
  have e1 : IntKind.i64.wrap (a + 1) = a + 1 := w64 (by omega) (by omega)
  apply o26
  rw [List.length_map, lenW hl, e1]
  simp only [within_E, ahead_E, is_E hp, next_E hp, Option.bind_some, rd0, datB]
  unfold goesB zeroB
  by_cases c4 : i.op = 4
  · rw [eT c4, if_pos c4]
    cases aheadB p a i.x <;> cases isB p i.x 5 <;> cases (i.y == 0) <;> rfl
  rw [eF c4, if_neg c4]
  by_cases c5 : i.op = 5
  · rw [eT c5, if_pos c5]
    cases (i.x == -1) <;> cases aheadB p a i.x <;> cases isB p i.x 5 <;> cases (i.y == 0) <;> rfl
  rw [eF c5, if_neg c5]
  by_cases c6 : i.op = 6
  · rw [eT c6, if_pos c6]
    cases aheadB p a i.x <;> cases (i.y == 0) <;> rfl
  rw [eF c6, if_neg c6]
  by_cases c13 : i.op = 13
  · rw [eT c13, if_pos c13]
    cases (i.x == -1) <;> cases aheadB p a i.x <;> cases (i.y == 0) <;> rfl
  rw [eF c13, if_neg c13]
  by_cases c8 : i.op = 8
  · rw [eT c8, if_pos c8]
    cases inB i.x 0 ((p.loops.length : Int) - 1) <;> cases aheadB p a i.y <;> cases aheadB p a i.z <;> rfl
  rw [eF c8, if_neg c8]
  by_cases c10 : i.op = 10
  · rw [eT c10, if_pos c10]
    cases inB i.x 0 ((p.loops.length : Int) - 1) <;> cases nextB p a i <;> rfl
  rw [eF c10, if_neg c10]
  cases (i.x == 0) <;> cases (i.y == 0) <;> rfl
def namesB (p : Pg) (a : Int) (i : Ins) : Bool :=
  if i.op = 1 then inB i.x 0 ((p.sets.length : Int) - 1) && zeroB i
  else if i.op = 2 then inB i.x 1 7 && zeroB i
  else if i.op = 3 then inB i.x 1 p.g && (inB i.y 0 1 && i.z == 0)
  else if i.op = 11 ∨ i.op = 12 then inB i.x 1 p.g && zeroB i
  else if i.op = 7 ∨ i.op = 9 then inB i.x 0 ((p.loops.length : Int) - 1) && zeroB i
  else if i.op = 14 then inB i.x 0 i.y && (decide (i.y ≤ 255) && i.z == 0)
  else goesB p a i
theorem names_E {p : Pg} (hp : OkPg p) (a : Int) (ha : 0 ≤ a ∧ a ≤ 1000000) (i : Ins) : E C 16 [.agg [.shr 37 (p.is.map insD), .shr 44 (p.sets.map fun l => .list (rs l)), .shr 47 (p.loops.map cntD), .int .i64 p.g], .int .i64 a, .agg [.int .i64 i.op, .int .i64 i.x, .int .i64 i.y, .int .i64 i.z, .int .i64 i.node, .int .i64 i.phase]] = some [.bool (namesB p a i)] := by
  have hl := hp.loops
  have hs := hp.sets
  apply o16
  rw [List.length_map, List.length_map, lenW hl, lenW hs]
  simp only [within_E, goes_E hp a ha, Option.bind_some, rd0, datB]
  unfold namesB zeroB
  by_cases c1 : i.op = 1
  · rw [eT c1, if_pos c1]
    cases inB i.x 0 ((p.sets.length : Int) - 1) <;> cases (i.y == 0) <;> rfl
  rw [eF c1, if_neg c1]
  by_cases c2 : i.op = 2
  · rw [eT c2, if_pos c2]
    cases inB i.x 1 7 <;> cases (i.y == 0) <;> rfl
  rw [eF c2, if_neg c2]
  by_cases c3 : i.op = 3
  · rw [eT c3, if_pos c3]
    cases inB i.x 1 p.g <;> cases inB i.y 0 1 <;> rfl
  rw [eF c3, if_neg c3]
  by_cases c11 : i.op = 11
  · rw [if_pos (.inl c11)]
    repeat rw [eT c11]
    cases inB i.x 1 p.g <;> cases (i.y == 0) <;> rfl
  by_cases c12 : i.op = 12
  · rw [if_pos (.inr c12)]
    repeat (first | rw [eF c11] | rw [eT c12])
    cases inB i.x 1 p.g <;> cases (i.y == 0) <;> rfl
  rw [if_neg (by omega)]
  by_cases c7 : i.op = 7
  · rw [if_pos (.inl c7)]
    repeat (first | rw [eF c11] | rw [eF c12] | rw [eT c7])
    cases inB i.x 0 ((p.loops.length : Int) - 1) <;> cases (i.y == 0) <;> rfl
  by_cases c9 : i.op = 9
  · rw [if_pos (.inr c9)]
    repeat (first | rw [eF c11] | rw [eF c12] | rw [eF c7] | rw [eT c9])
    cases inB i.x 0 ((p.loops.length : Int) - 1) <;> cases (i.y == 0) <;> rfl
  rw [if_neg (by omega)]
  by_cases c14 : i.op = 14
  · rw [if_pos c14]
    repeat (first | rw [eF c11] | rw [eF c12] | rw [eF c7] | rw [eF c9] | rw [eT c14])
    cases inB i.x 0 i.y <;> cases decide (i.y ≤ 255) <;> rfl
  · rw [if_neg c14]
    repeat (first | rw [eF c11] | rw [eF c12] | rw [eF c7] | rw [eF c9] | rw [eF c14])
/-! The instructions, one by one. -/
def insB (p : Pg) (a : Int) (i : Ins) : Bool := inB i.op 1 19 && (((i.op == 19) == (a == (p.is.length : Int) - 1)) && (inB i.node 0 16384 && (inB i.phase 0 16384 && namesB p a i)))
def insAll (p : Pg) : List Ins → Nat → Bool
  | [], _ => true
  | i :: l, a => insB p (a : Int) i && insAll p l (a + 1)
theorem insAll_get {p : Pg} : ∀ (l : List Ins) (a : Nat), insAll p l a = true → ∀ (k : Nat) (h : k < l.length), insB p ((a + k : Nat) : Int) l[k] = true
  | i :: l, a, h, 0, hk => by
    unfold insAll at h
    rw [Bool.and_eq_true] at h
    exact h.1
  | i :: l, a, h, k + 1, hk => by
    unfold insAll at h
    rw [Bool.and_eq_true] at h
    have := insAll_get l (a + 1) h.2 k (by rw [List.length_cons] at hk; omega)
    rw [show a + 1 + k = a + (k + 1) by omega] at this
    exact this
/-- What is known of an instruction where all may be. -/
theorem leads_in {p : Pg} (h : insAll p p.is 0 = true) : ∀ (a : Nat) (h : a < p.is.length) (n : Int), ∀ l, l ∈ leadsL (a : Int) p.is[a] n → 0 ≤ l.1 ∧ l.1 < (p.is.length : Int) := by
  intro a ha n l hl
  have hb := insAll_get p.is 0 h a ha
  rw [Nat.zero_add] at hb
  unfold insB at hb
  simp only [Bool.and_eq_true, inB_iff, beq_iff_eq] at hb
  obtain ⟨b1, b2, b3, b4, b5⟩ := hb
  have last : p.is[a].op ≠ 19 → (a : Int) + 1 < (p.is.length : Int) := fun q => by
    have e1 : (p.is[a].op == 19) = false := beq_eq_false_iff_ne.2 q
    rw [e1] at b2
    have e2 : ((a : Int) == (p.is.length : Int) - 1) = false := b2.symm
    have := beq_eq_false_iff_ne.1 e2
    omega
  generalize p.is[a] = i at *
  unfold namesB goesB aheadB nextB isB at b5
  unfold leadsL at hl
  by_cases c4 : i.op = 4
  · rw [if_pos (.inl c4)] at hl
    rw [if_neg (by omega), if_neg (by omega), if_neg (by omega), if_neg (by omega), if_neg (by omega), if_neg (by omega), if_pos c4] at b5
    simp only [Bool.and_eq_true, decide_eq_true_eq] at b5
    have := last (by omega)
    split at hl <;> simp only [List.mem_cons, List.not_mem_nil, or_false] at hl
    · rcases hl with rfl | rfl
      · exact ⟨by show 0 ≤ (a : Int) + 1; omega, this⟩
      · exact ⟨by show 0 ≤ i.x; omega, by show i.x < _; omega⟩
    · rw [hl]; exact ⟨by show 0 ≤ (a : Int) + 1; omega, this⟩
  by_cases c5 : i.op = 5
  · rw [if_pos (.inr c5)] at hl
    rw [if_neg (by omega), if_neg (by omega), if_neg (by omega), if_neg (by omega), if_neg (by omega), if_neg (by omega), if_neg (by omega), if_pos c5] at b5
    simp only [Bool.and_eq_true, Bool.or_eq_true, decide_eq_true_eq, beq_iff_eq] at b5
    have := last (by omega)
    split at hl <;> simp only [List.mem_cons, List.not_mem_nil, or_false] at hl
    · rcases hl with rfl | rfl
      · exact ⟨by show 0 ≤ (a : Int) + 1; omega, this⟩
      · exact ⟨by show 0 ≤ i.x; omega, by show i.x < _; omega⟩
    · rw [hl]; exact ⟨by show 0 ≤ (a : Int) + 1; omega, this⟩
  rw [if_neg (by omega)] at hl
  by_cases c6 : i.op = 6
  · rw [if_pos c6, List.mem_singleton] at hl
    rw [if_neg (by omega), if_neg (by omega), if_neg (by omega), if_neg (by omega), if_neg (by omega), if_neg (by omega), if_neg (by omega), if_neg (by omega), if_pos c6] at b5
    simp only [Bool.and_eq_true, decide_eq_true_eq] at b5
    rw [hl]
    exact ⟨by show 0 ≤ i.x; omega, by show i.x < _; omega⟩
  rw [if_neg c6] at hl
  by_cases c8 : i.op = 8
  · rw [if_pos c8] at hl
    rw [if_neg (by omega), if_neg (by omega), if_neg (by omega), if_neg (by omega), if_neg (by omega), if_neg (by omega), if_neg (by omega), if_neg (by omega), if_neg (by omega), if_neg (by omega), if_pos c8] at b5
    simp only [Bool.and_eq_true, decide_eq_true_eq, inB_iff] at b5
    simp only [List.mem_cons, List.not_mem_nil, or_false] at hl
    rcases hl with rfl | rfl | rfl
    · exact ⟨by show 0 ≤ (a : Int) + 1; omega, by show (a : Int) + 1 < _; omega⟩
    · exact ⟨by show 0 ≤ i.y; omega, by show i.y < _; omega⟩
    · exact ⟨by show 0 ≤ i.z; omega, by show i.z < _; omega⟩
  rw [if_neg c8] at hl
  by_cases c10 : i.op = 10
  · rw [if_pos c10, List.mem_singleton] at hl
    rw [if_neg (by omega), if_neg (by omega), if_neg (by omega), if_neg (by omega), if_neg (by omega), if_neg (by omega), if_neg (by omega), if_neg (by omega), if_neg (by omega), if_neg (by omega), if_neg (by omega), if_pos c10] at b5
    simp only [Bool.and_eq_true, decide_eq_true_eq, inB_iff] at b5
    rw [hl]
    exact ⟨by show 0 ≤ i.y; omega, by show i.y < _; omega⟩
  rw [if_neg c10] at hl
  by_cases c13 : i.op = 13
  · rw [if_pos c13] at hl
    rw [if_neg (by omega), if_neg (by omega), if_neg (by omega), if_neg (by omega), if_neg (by omega), if_neg (by omega), if_neg (by omega), if_neg (by omega), if_neg (by omega), if_pos c13] at b5
    simp only [Bool.and_eq_true, Bool.or_eq_true, decide_eq_true_eq, beq_iff_eq] at b5
    have := last (by omega)
    split at hl <;> simp only [List.mem_cons, List.not_mem_nil, or_false] at hl
    · rcases hl with rfl | rfl
      · exact ⟨by show 0 ≤ (a : Int) + 1; omega, this⟩
      · exact ⟨by show 0 ≤ i.x; omega, by show i.x < _; omega⟩
    · rw [hl]; exact ⟨by show 0 ≤ (a : Int) + 1; omega, this⟩
  rw [if_neg c13] at hl
  by_cases c16 : i.op = 16 ∨ i.op = 17
  · rw [if_pos c16, List.mem_singleton] at hl
    rw [hl]
    exact ⟨by show 0 ≤ (a : Int) + 1; omega, last (by omega)⟩
  rw [if_neg c16] at hl
  by_cases c18 : i.op = 18 ∨ i.op = 19
  · rw [if_pos c18] at hl; cases hl
  · rw [if_neg c18, List.mem_singleton] at hl
    rw [hl]
    exact ⟨by show 0 ≤ (a : Int) + 1; omega, last (by omega)⟩
theorem bal_E (p : Pg) (hp : OkPg p) (ha : insAll p p.is 0 = true) {b : Bool} (h : balB p.is = some b) : E C 17 [.agg [.shr 37 (p.is.map insD), .shr 44 (p.sets.map fun l => .list (rs l)), .shr 47 (p.loops.map cntD), .int .i64 p.g]] = some [.bool b] := by
  have hl := hp.is
  refine E_given (h := gBal 37 44 47) (by kernel_rfl) ?_
  have e : (p.is.map insD).map insOf = p.is := by
    rw [List.map_map]
    conv => rhs; rw [← List.map_id p.is]
    exact List.map_congr_left fun i _ => rfl
  show (bif Nat.beq _ _ && (Nat.beq _ _ && (Nat.beq _ _ && (decide ((p.is.map insD).length ≤ 4294967296) && ldsIn ((p.is.map insD).map insOf)))) then (balB ((p.is.map insD).map insOf)).map fun r => [Dat.bool r] else none) = _
  rw [e, h, List.length_map, decide_eq_true (show p.is.length ≤ 4294967296 by omega), ldsIn_iff.2 (leads_in ha)]
  rfl
/-- May a program be? -/
def rightPB (p : Pg) : Bool := decide (p.is.length ≠ 0) && (decide (p.loops.length ≤ 4096) && (inB p.g 0 99 && (p.sets.all leastB && (p.loops.all cntB && (insAll p p.is 0 && (balB p.is).getD false)))))
theorem upC {k n : Nat} (h : k < n) (hn : n ≤ 20000000000000) : IntKind.i64.wrap ((k : Int) + 1) = ((k + 1 : Nat) : Int) := by rw [w64 (by omega) (by omega)]; omega
theorem right_3 {p : Pg} (hp : OkPg p) (h0 : p.is.length ≠ 0) (v0_0 v0_1 v0_2 : List Dat) (v0_3 : Int) (v2 : Bool) (v27 : List Dat) (v28 v29 : Int) (v38 : List Dat) (v39 v40 : Int) : ∀ (rest pre : List Ins), p.is = pre ++ rest → (insAll p rest pre.length = true → insAll p p.is 0 = true) →
    M7_3 v0_0 v0_1 v0_2 v0_3 (p.is.map insD) (p.sets.map fun l => .list (rs l)) (p.loops.map cntD) p.g v2 v27 v28 v29 v38 v39 v40 (p.is.map insD) (p.is.length : Int) (pre.length : Int) = some [.bool (insAll p rest pre.length && (balB p.is).getD false)]
  | [], pre, e, h => by
    have hb := h rfl
    obtain ⟨b, hbal⟩ := balB_some (by omega) (leads_in hb)
    rw [List.append_nil] at e
    apply M7_3_of
    rw [← e, dF (by omega), bT (bal_E p hp hb hbal), hbal]
    rfl
  | i :: rest, pre, e, h => by
    have hl := hp.is
    have hlen : p.is.length = pre.length + (rest.length + 1) := by rw [e, List.length_append, List.length_cons]
    have hrd : rd (p.is.map insD) pre.length = insD i := by
      have : pre.length < p.is.length := by omega
      simp [rd, e]
    have hrec := fun q => right_3 hp h0 v0_0 v0_1 v0_2 v0_3 v2 v27 v28 v29 v38 v39 v40 rest (pre ++ [i]) (by rw [e, List.append_assoc]; rfl) q
    rw [List.length_append, List.length_cons, List.length_nil] at hrec
    apply M7_3_of
    rw [dT (by omega), List.length_map, ixT ⟨by omega, by omega⟩, Int.toNat_natCast, hrd, lenW (by omega), upC (n := p.is.length) (by omega) (by omega)]
    simp only [insD, aggC0, aggC1, aggC2, aggC3, aggC4, aggC5, datI]
    rw [bT (within_E _ _ _)]
    simp only [rd0, datB]
    rw [bT (within_E _ _ _)]
    simp only [rd0, datB]
    rw [bT (within_E _ _ _)]
    simp only [rd0, datB]
    rw [bT (names_E hp _ ⟨by omega, by omega⟩ i)]
    simp only [rd0, datB]
    unfold insAll insB
    cases h1 : inB i.op 1 19 with
    | false => rfl
    | true =>
    cases h2 : ((i.op == 19) == (((pre.length : Nat) : Int) == (p.is.length : Int) - 1)) with
    | false => rfl
    | true =>
    cases h3 : inB i.node 0 16384 with
    | false => rfl
    | true =>
    cases h4 : inB i.phase 0 16384 with
    | false => rfl
    | true =>
    cases h5 : namesB p ((pre.length : Nat) : Int) i with
    | false => rfl
    | true =>
    refine (hrec (fun q => h ?_)).trans ?_
    · unfold insAll insB
      rw [h1, h2, h3, h4, h5]
      exact q
    · rfl
theorem right_2 {p : Pg} (hp : OkPg p) (h0 : p.is.length ≠ 0) (v0_0 v0_1 v0_2 : List Dat) (v0_3 : Int) (v2 : Bool) (v27 : List Dat) (v28 v29 : Int) : ∀ (rest pre : List (Int × Int × Int)), p.loops = pre ++ rest →
    M7_2 v0_0 v0_1 v0_2 v0_3 (p.is.map insD) (p.sets.map fun l => .list (rs l)) (p.loops.map cntD) p.g v2 v27 v28 v29 (p.loops.map cntD) (p.loops.length : Int) (pre.length : Int) = some [.bool (rest.all cntB && (insAll p p.is 0 && (balB p.is).getD false))]
  | [], pre, e => by
    rw [List.append_nil] at e
    apply M7_2_of
    rw [← e, dF (by omega), List.length_map]
    exact right_3 hp h0 v0_0 v0_1 v0_2 v0_3 v2 v27 v28 v29 _ _ _ p.is [] rfl (fun q => q)
  | c :: rest, pre, e => by
    have hl := hp.loops
    have hlen : p.loops.length = pre.length + (rest.length + 1) := by rw [e, List.length_append, List.length_cons]
    have hrd : rd (p.loops.map cntD) pre.length = cntD c := by
      have : pre.length < p.loops.length := by omega
      simp [rd, e]
    have hrec := right_2 hp h0 v0_0 v0_1 v0_2 v0_3 v2 v27 v28 v29 rest (pre ++ [c]) (by rw [e, List.append_assoc]; rfl)
    rw [List.length_append, List.length_cons, List.length_nil] at hrec
    apply M7_2_of
    rw [dT (by omega), List.length_map, ixT ⟨by omega, by omega⟩, Int.toNat_natCast, hrd, upC (n := p.loops.length) (by omega) (by omega)]
    simp only [cntD, aggC0, aggC1, aggC2, datI]
    rw [bT (cnt_E c)]
    simp only [rd0, datB]
    rw [List.all_cons]
    cases cntB c with
    | false => rfl
    | true => exact hrec
theorem right_1 {p : Pg} (hp : OkPg p) (h0 : p.is.length ≠ 0) (v0_0 v0_1 v0_2 : List Dat) (v0_3 : Int) (v2 : Bool) : ∀ (rest pre : List (List (Int × Int))), p.sets = pre ++ rest →
    M7_1 v0_0 v0_1 v0_2 v0_3 (p.is.map insD) (p.sets.map fun l => .list (rs l)) (p.loops.map cntD) p.g v2 (p.sets.map fun l => .list (rs l)) (p.sets.length : Int) (pre.length : Int) = some [.bool (rest.all leastB && (p.loops.all cntB && (insAll p p.is 0 && (balB p.is).getD false)))]
  | [], pre, e => by
    rw [List.append_nil] at e
    apply M7_1_of
    rw [← e, dF (by omega), List.length_map]
    exact right_2 hp h0 v0_0 v0_1 v0_2 v0_3 v2 _ _ _ p.loops [] rfl
  | c :: rest, pre, e => by
    have hl := hp.sets
    have hc := hp.set c (by rw [e]; simp)
    have hlen : p.sets.length = pre.length + (rest.length + 1) := by rw [e, List.length_append, List.length_cons]
    have hrd : rd (p.sets.map fun l => Dat.list (rs l)) pre.length = .list (rs c) := by
      have : pre.length < p.sets.length := by omega
      simp [rd, e]
    have hrec := right_1 hp h0 v0_0 v0_1 v0_2 v0_3 v2 rest (pre ++ [c]) (by rw [e, List.append_assoc]; rfl)
    rw [List.length_append, List.length_cons, List.length_nil] at hrec
    apply M7_1_of
    rw [dT (by omega), List.length_map, ixT ⟨by omega, by omega⟩, Int.toNat_natCast, hrd, upC (n := p.sets.length) (by omega) (by omega)]
    simp only [datL]
    rw [bT (Right_E c (by omega))]
    simp only [rd0, datB]
    rw [List.all_cons]
    cases leastB c with
    | false => rfl
    | true => exact hrec
theorem RightP_E {p : Pg} (hp : OkPg p) : E C 7 [.agg [.shr 37 (p.is.map insD), .shr 44 (p.sets.map fun l => .list (rs l)), .shr 47 (p.loops.map cntD), .int .i64 p.g]] = some [.bool (rightPB p)] := by
  have hl := hp.loops
  apply o7
  rw [List.length_map, List.length_map]
  unfold rightPB
  by_cases h0 : p.is.length = 0
  · rw [eT (by omega), decide_eq_false (fun q => q h0)]; rfl
  rw [eF (by omega), decide_eq_true h0]
  by_cases h1 : (p.loops.length : Int) > 4096
  · rw [dT h1, decide_eq_false (by omega)]; rfl
  rw [dF h1, decide_eq_true (by omega), bT (within_E _ _ _)]
  simp only [rd0, datB]
  cases inB p.g 0 99 with
  | false => rfl
  | true =>
    rw [nF rfl, List.length_map]
    exact right_1 hp h0 _ _ _ _ _ p.sets [] rfl
end Go.Proofs.YtbhffcogeeeidaaDoor.V
