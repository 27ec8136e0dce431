/- Words for chapters that read patterns: arguments as plain data, bytes at places. -/
import Derived.Test.YtbhffcogeeeidaaDoorVCa
import Derived.Test.YtbhffcogeeeidaaDoorEc
namespace Go.Proofs.YtbhffcogeeeidaaDoor.V
open Go Go.Ev Go.RowKit
set_option linter.unusedVariables false
set_option linter.unusedSimpArgs false
theorem tyi : C.T 3 = some ⟨1, 8, [.int .i64], false, .scal⟩ := rfl
theorem tyb : C.T 5 = some ⟨1, 1, [.int .u8], false, .scal⟩ := rfl
theorem tybs : C.T 75 = some ⟨1, 24, [.slice 5], false, .slice 5⟩ := rfl
def i64P (x : Int) : Prop := -9223372036854775808 ≤ x ∧ x ≤ 9223372036854775807
theorem fit_u8 {k : Nat} {d : Dat} (h : fitT C.T (k + 1) 5 d) : ∃ n : Int, d = .int n ∧ 0 ≤ n ∧ n < 256 := by
  obtain ⟨n, rfl, n', h1, h2⟩ := fit_int tyb rfl rfl h
  refine ⟨n, rfl, ?_⟩
  simp only [Dat.int.injEq] at h1
  subst h1
  simp only [Lit.wf, IntKind.min, IntKind.max, IntKind.signed, IntKind.bits, Bool.and_eq_true, decide_eq_true_eq] at h2
  simp at h2
  omega
theorem fit_i64 {k : Nat} {d : Dat} (h : fitT C.T (k + 1) 3 d) : ∃ n : Int, d = .int n ∧ -9223372036854775808 ≤ n ∧ n ≤ 9223372036854775807 := by
  obtain ⟨n, rfl, n', h1, h2⟩ := fit_int tyi rfl rfl h
  refine ⟨n, rfl, ?_⟩
  simp only [Dat.int.injEq] at h1
  subst h1
  simp only [Lit.wf, IntKind.min, IntKind.max, IntKind.signed, IntKind.bits, Bool.and_eq_true, decide_eq_true_eq] at h2
  simp at h2
  omega
theorem fit_bytes {k : Nat} {d : Dat} (h : fitT C.T (k + 2) 75 d) : ∃ b : List Int, d = .list (b.map .int) ∧ isBytes b = true ∧ b.length ≤ 140737488351232 := by
  obtain ⟨l, rfl, h1, h2⟩ := fit_ints tybs tyb rfl rfl h
  refine ⟨l, rfl, ?_, by simpa using h1⟩
  unfold isBytes
  rw [List.all_eq_true]
  intro x hx
  obtain ⟨n, e, g1, g2⟩ := fit_u8 (h2 x hx)
  simp only [Dat.int.injEq] at e
  subst e
  simp [g1, g2]
theorem E_from {f : FuncId} {args : List AV} {r : List Dat} (k : Nat) (h : ∀ n, ev C (n + k) f args = some r) : E C f args = some r :=
  lim_some.2 ⟨k, fun φ hφ => by
    have h0 := hφ 0
    have e : φ 0 = (φ 0 - k) + k := by omega
    show ev C (φ 0) f args = some r
    rw [e]
    exact h _⟩
/-- The byte at a place; 0 beyond all. -/
def atB (b : List Int) (i : Int) : Int := if 0 ≤ i ∧ i < (b.length : Int) then b.getD i.toNat 0 else 0
theorem atB_in {b : List Int} {k : Nat} (h : k < b.length) : atB b (k : Int) = b[k] := by
  unfold atB
  rw [if_pos (by omega), Int.toNat_natCast]
  simp [List.getD_eq_getElem?_getD, h]
theorem atB_out {b : List Int} {i : Int} (h : ¬ (0 ≤ i ∧ i < (b.length : Int))) : atB b i = 0 := if_neg h
theorem atB_some {b : List Int} {i : Int} (h : atB b i ≠ 0) : 0 ≤ i ∧ i < (b.length : Int) := by
  unfold atB at h
  split at h
  · assumption
  · exact absurd rfl h
theorem isBytes_get {b : List Int} (hb : isBytes b = true) {k : Nat} (h : k < b.length) : 0 ≤ b[k] ∧ b[k] < 256 := by
  have hx := List.all_eq_true.1 hb b[k] (List.getElem_mem h)
  simp only [Bool.and_eq_true, decide_eq_true_eq] at hx
  exact hx
theorem atB_byte {b : List Int} (hb : isBytes b = true) (i : Int) : 0 ≤ atB b i ∧ atB b i < 256 := by
  by_cases h : 0 ≤ i ∧ i < (b.length : Int)
  · obtain ⟨k, rfl⟩ : ∃ k : Nat, i = (k : Int) := ⟨i.toNat, by omega⟩
    rw [atB_in (by omega)]
    exact isBytes_get hb _
  · rw [atB_out h]; omega
theorem rdB {b : List Int} {k : Nat} (h : k < b.length) : (rd (b.map Dat.int) k).I = b[k] := by rw [rdI]; simp [List.getD_eq_getElem?_getD, h]
theorem rdA {b : List Int} {i : Int} (h : 0 ≤ i ∧ i < (b.length : Int)) : (rd (b.map Dat.int) i.toNat).I = atB b i := by
  unfold atB
  rw [if_pos h, rdI]
/-- A look at a place of a row, its checks passed. -/
theorem ixT {α : Type} {i : Int} {n : Nat} {a x y z : α} (h : 0 ≤ i ∧ i < (n : Int)) : (bif decide (0 ≤ i) then (bif decide (i < (n : Int)) then (bif decide (i.toNat < n) then a else x) else y) else z) = a := by
  rw [dT h.1, dT h.2, dT (by omega)]
theorem nT {α : Type} {b : Bool} {x y : α} (h : b = false) : (bif !b then x else y) = x := by rw [h]; rfl
theorem nF {α : Type} {b : Bool} {x y : α} (h : b = true) : (bif !b then x else y) = y := by rw [h]; rfl
theorem neT {α : Type} {x y : Int} {a b : α} (h : x ≠ y) : (bif x != y then a else b) = a := by
  have : (x != y) = true := by simpa using h
  rw [this]; rfl
theorem neF {α : Type} {x y : Int} {a b : α} (h : x = y) : (bif x != y then a else b) = b := by
  rw [h]; simp
@[simp] theorem aggC0 (a : Dat) (l : List Dat) : (Dat.agg (a :: l)).C 0 = a := (rfl)
@[simp] theorem aggC1 (a b : Dat) (l : List Dat) : (Dat.agg (a :: b :: l)).C 1 = b := (rfl)
@[simp] theorem aggC2 (a b c : Dat) (l : List Dat) : (Dat.agg (a :: b :: c :: l)).C 2 = c := (rfl)
@[simp] theorem aggC3 (a b c d : Dat) (l : List Dat) : (Dat.agg (a :: b :: c :: d :: l)).C 3 = d := (rfl)
@[simp] theorem aggC4 (a b c d e : Dat) (l : List Dat) : (Dat.agg (a :: b :: c :: d :: e :: l)).C 4 = e := (rfl)
@[simp] theorem aggC5 (a b c d e f : Dat) (l : List Dat) : (Dat.agg (a :: b :: c :: d :: e :: f :: l)).C 5 = f := (rfl)
@[simp] theorem rd3 (a b c d : Dat) (l : List Dat) : rd (a :: b :: c :: d :: l) 3 = d := (rfl)
@[simp] theorem rd4 (a b c d e : Dat) (l : List Dat) : rd (a :: b :: c :: d :: e :: l) 4 = e := (rfl)
theorem w8 {n : Int} (h0 : 0 ≤ n) (h1 : n ≤ 255) : IntKind.u8.wrap n = n := IntWalk.u8_in n ⟨h0, h1⟩
/-- Is a byte a letter, a digit? -/
def letB (c : Int) : Bool := (decide (97 ≤ c) && decide (c ≤ 122)) || (decide (65 ≤ c) && decide (c ≤ 90))
def digB (c : Int) : Bool := decide (48 ≤ c) && decide (c ≤ 57)
theorem letB_iff {c : Int} : letB c = true ↔ (97 ≤ c ∧ c ≤ 122) ∨ (65 ≤ c ∧ c ≤ 90) := by simp [letB]
theorem digB_iff {c : Int} : digB c = true ↔ 48 ≤ c ∧ c ≤ 57 := by simp [digB]
theorem letB_no {c : Int} : letB c = false ↔ ¬ ((97 ≤ c ∧ c ≤ 122) ∨ (65 ≤ c ∧ c ≤ 90)) := by rw [← letB_iff, Bool.not_eq_true]
theorem digB_no {c : Int} : digB c = false ↔ ¬ (48 ≤ c ∧ c ≤ 57) := by rw [← digB_iff, Bool.not_eq_true]
end Go.Proofs.YtbhffcogeeeidaaDoor.V
