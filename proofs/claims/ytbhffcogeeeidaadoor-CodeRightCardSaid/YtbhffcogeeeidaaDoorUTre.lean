/- Trees as plain data. -/
import Derived.Test.YtbhffcogeeeidaaDoorUBas
namespace Go.Proofs.YtbhffcogeeeidaaDoor.V
open Go Go.Ev Go.RowKit
set_option linter.unusedVariables false
set_option linter.unusedSimpArgs false
theorem fitF_one {T : TypeId → Option TI} {k off : Nat} {ft : TypeId} {fs : List (Nat × TypeId)} {l : List Dat} {fti : TI} (h : fitF (fitT T k) T ((off, ft) :: fs) l) (ht : T ft = some fti) (ha : fti.agg = false) : ∃ d l', l = d :: l' ∧ fitT T k ft d ∧ fitF (fitT T k) T fs l' := by
  simp only [fitF] at h
  obtain ⟨fti', d, l', h1, h2, h3, h4, h5⟩ := h
  obtain rfl := Option.some.inj (ht.symm.trans h1)
  have e : dcells fti d = [d] := by unfold dcells; simp [ha]
  exact ⟨d, l', by rw [h2, e]; rfl, h4, h5⟩
theorem fit_struct {T : TypeId → Option TI} {k : Nat} {t : TypeId} {ti : TI} {fs : List (Nat × TypeId)} {d : Dat} (ht : T t = some ti) (hs : ti.sh = .struct fs) (h : fitT T (k + 1) t d) : ∃ l, d = .agg l ∧ fitF (fitT T k) T fs l := by
  simp only [fitT] at h
  obtain ⟨ti', h1, h2⟩ := h
  obtain rfl := Option.some.inj (ht.symm.trans h1)
  rw [hs] at h2
  exact h2
theorem fit_slice {T : TypeId → Option TI} {k : Nat} {t e : TypeId} {ti te : TI} {d : Dat} (ht : T t = some ti) (hs : ti.sh = .slice e) (he : T e = some te) (h : fitT T (k + 1) t d) : ∃ l, d = .list l ∧ l.length * te.bytes ≤ 140737488351232 ∧ ∀ x, x ∈ l → fitT T k e x := by
  simp only [fitT] at h
  obtain ⟨ti', h1, h2⟩ := h
  obtain rfl := Option.some.inj (ht.symm.trans h1)
  rw [hs] at h2
  obtain ⟨l, h3, ⟨te', h4, h5⟩, h6⟩ := h2
  obtain rfl := Option.some.inj (he.symm.trans h4)
  exact ⟨l, h3, h5, h6⟩
theorem tys9 : C.T 9 = some ⟨1, 16, [.str], false, .scal⟩ := rfl
theorem fit_str {k : Nat} {d : Dat} (h : fitT C.T (k + 1) 9 d) : ∃ s : ByteArray, d = .str s ∧ s.size ≤ 140737488351232 := by
  simp only [fitT] at h
  obtain ⟨ti', h1, h2⟩ := h
  obtain rfl := Option.some.inj (tys9.symm.trans h1)
  obtain ⟨c, h3, h4⟩ := h2
  simp only [List.cons.injEq, and_true] at h3
  subst h3
  exact h4
theorem list_of {α : Type} (f : α → Dat) (P : α → Prop) : ∀ l : List Dat, (∀ x, x ∈ l → ∃ a, x = f a ∧ P a) → ∃ m : List α, l = m.map f ∧ ∀ a, a ∈ m → P a
  | [], _ => ⟨[], rfl, fun a h => by cases h⟩
  | x :: l, h => by
    obtain ⟨a, h1, h2⟩ := h x List.mem_cons_self
    obtain ⟨m, h3, h4⟩ := list_of f P l (fun y hy => h y (List.mem_cons_of_mem _ hy))
    refine ⟨a :: m, by rw [h1, h3]; rfl, fun b hb => ?_⟩
    rw [List.mem_cons] at hb
    cases hb with
    | inl e => rw [e]; exact h2
    | inr e => exact h4 b e
theorem fit_str_row {k : Nat} {d : Dat} (h : fitT C.T (k + 2) 57 d) : ∃ l : List ByteArray, d = .list (l.map .str) ∧ l.length ≤ 8796093021952 := by
  obtain ⟨l, rfl, h1, h2⟩ := fit_slice (t := 57) rfl rfl tys9 h
  obtain ⟨m, rfl, _⟩ := list_of Dat.str (fun s => s.size ≤ 140737488351232) l (fun x hx => fit_str (h2 x hx))
  refine ⟨m, rfl, ?_⟩
  rw [List.length_map] at h1
  simp only at h1
  omega
theorem fit_int_row {k : Nat} {d : Dat} (h : fitT C.T (k + 2) 62 d) : ∃ l : List Int, d = .list (l.map .int) ∧ l.length ≤ 17592186043904 ∧ ∀ x, x ∈ l → i64P x := by
  obtain ⟨l, rfl, h1, h2⟩ := fit_slice (t := 62) rfl rfl tyi h
  obtain ⟨m, rfl, h3⟩ := list_of Dat.int i64P l (fun x hx => fit_i64 (h2 x hx))
  refine ⟨m, rfl, ?_, h3⟩
  rw [List.length_map] at h1
  simp only at h1
  omega
def tyr : TI := ⟨2, 16, [.int .i64, .int .i64], true, .struct [(0, 3), (1, 3)]⟩
theorem fit_rg {k : Nat} {d : Dat} (h : fitT C.T (k + 2) 55 d) : ∃ p : Int × Int, d = .agg [.int p.1, .int p.2] ∧ i64P p.1 ∧ i64P p.2 := by
  obtain ⟨l, rfl, h1⟩ := fit_struct (t := 55) (ti := tyr) rfl rfl h
  obtain ⟨d0, l, rfl, g0, h1⟩ := fitF_one h1 tyi rfl
  obtain ⟨d1, l, rfl, g1, h1⟩ := fitF_one h1 tyi rfl
  obtain rfl : l = [] := h1
  obtain ⟨a, rfl, ha⟩ := fit_i64 g0
  obtain ⟨b, rfl, hb⟩ := fit_i64 g1
  exact ⟨(a, b), rfl, ha, hb⟩
theorem fit_rs {k : Nat} {d : Dat} (h : fitT C.T (k + 3) 44 d) : ∃ l : List (Int × Int), d = .list (rs l) ∧ l.length ≤ 8796093021952 ∧ ∀ p, p ∈ l → i64P p.1 ∧ i64P p.2 := by
  obtain ⟨l, rfl, h1, h2⟩ := fit_slice (t := 44) (te := tyr) rfl rfl rfl h
  obtain ⟨m, e, h3⟩ := list_of (fun p : Int × Int => Dat.agg [.int p.1, .int p.2]) (fun p => i64P p.1 ∧ i64P p.2) l (fun x hx => fit_rg (h2 x hx))
  subst e
  refine ⟨m, rfl, ?_, h3⟩
  rw [List.length_map] at h1
  simp only [tyr] at h1
  omega
/-- A node. -/
structure Nd where
  kind : Int
  frm : Int
  to : Int
  num : Int
  min : Int
  max : Int
  mode : Int
  name : ByteArray
  set : List (Int × Int)
  kids : List Int
def nodeD (n : Nd) : Dat := .agg [.int n.kind, .int n.frm, .int n.to, .int n.num, .int n.min, .int n.max, .int n.mode, .str n.name, .list (rs n.set), .list (n.kids.map .int)]
structure OkN (n : Nd) : Prop where
  kind : i64P n.kind
  frm : i64P n.frm
  to : i64P n.to
  num : i64P n.num
  min : i64P n.min
  max : i64P n.max
  mode : i64P n.mode
  name : n.name.size ≤ 140737488351232
  set : n.set.length ≤ 8796093021952
  rng : ∀ p, p ∈ n.set → i64P p.1 ∧ i64P p.2
  kids : n.kids.length ≤ 17592186043904
  kid : ∀ x, x ∈ n.kids → i64P x
def tyn : TI := ⟨10, 120, [.int .i64, .int .i64, .int .i64, .int .i64, .int .i64, .int .i64, .int .i64, .str, .slice 55, .slice 3], true, .struct [(0, 3), (1, 3), (2, 3), (3, 3), (4, 3), (5, 3), (6, 3), (7, 9), (8, 44), (9, 62)]⟩
/-- A tree: its nodes, how many groups it has, their names. -/
structure Tr where
  ns : List Nd
  groups : Int
  names : List ByteArray
structure OkT (t : Tr) : Prop where
  ns : t.ns.length ≤ 1172812402928
  nd : ∀ n, n ∈ t.ns → OkN n
  groups : i64P t.groups
  names : t.names.length ≤ 8796093021952
def nsD (l : List Nd) : List Dat := l.map nodeD
def treeD (t : Tr) : Dat := .agg [.list (nsD t.ns), .int t.groups, .list (t.names.map .str)]
theorem nsD_len (l : List Nd) : (nsD l).length = l.length := List.length_map ..
theorem nsD_rd {l : List Nd} {i : Nat} (h : i < l.length) : rd (nsD l) i = nodeD l[i] := by simp [rd, nsD, h]
theorem nsD_append (l : List Nd) (n : Nd) : nsD l ++ [nodeD n] = nsD (l ++ [n]) := by simp [nsD]
@[simp] theorem nd0 (n : Nd) : (nodeD n).C 0 = .int n.kind := (rfl)
@[simp] theorem nd1 (n : Nd) : (nodeD n).C 1 = .int n.frm := (rfl)
@[simp] theorem nd2 (n : Nd) : (nodeD n).C 2 = .int n.to := (rfl)
@[simp] theorem nd3 (n : Nd) : (nodeD n).C 3 = .int n.num := (rfl)
@[simp] theorem nd4 (n : Nd) : (nodeD n).C 4 = .int n.min := (rfl)
@[simp] theorem nd5 (n : Nd) : (nodeD n).C 5 = .int n.max := (rfl)
@[simp] theorem nd6 (n : Nd) : (nodeD n).C 6 = .int n.mode := (rfl)
@[simp] theorem nd7 (n : Nd) : (nodeD n).C 7 = .str n.name := (rfl)
@[simp] theorem nd8 (n : Nd) : (nodeD n).C 8 = .list (rs n.set) := (rfl)
@[simp] theorem nd9 (n : Nd) : (nodeD n).C 9 = .list (n.kids.map .int) := (rfl)
end Go.Proofs.YtbhffcogeeeidaaDoor.V
