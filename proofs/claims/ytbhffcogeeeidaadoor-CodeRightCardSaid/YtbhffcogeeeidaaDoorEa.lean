/- A reader of loaded functions over plain data, and its soundness: part 1. -/
import Derived.Orders
import Derived.KernelRfl
import Derived.Below
import Derived.Laws.Append
import Derived.Laws.MakeOwn
import Derived.Laws.Rows
import Derived.Laws.Entries
import Derived.Tactics
import Derived.Laws.Concat
import Derived.Laws.StructEq
import Derived.DeepKeys
import Derived.Laws.Slices
import Derived.Laws.BytesString
import Derived.Lib.ConvBytes
/- A reader of loaded Go functions over plain data: what a function answers, as long as its slices are not shared where they are written. The words alone. -/
namespace Go.Ev
open Go
set_option linter.unusedVariables false

/-- Plain data: what lies in a cell, or in the cells of a struct. -/
inductive Dat where
  | nil
  | int (n : Int)
  | bool (b : Bool)
  | str (s : ByteArray)
  | list (l : List Dat)
  | agg (l : List Dat)
instance : Inhabited Dat := ⟨.nil⟩
def Dat.I : Dat → Int | .int n => n | _ => 0
def Dat.B : Dat → Bool | .bool b => b | _ => false
def Dat.S : Dat → ByteArray | .str s => s | _ => ByteArray.empty
def Dat.L : Dat → List Dat | .list l => l | _ => []
def Dat.C (d : Dat) (j : Nat) : Dat := match d with | .agg l => l.getD j .nil | _ => .nil
def rd (l : List Dat) (i : Nat) : Dat := l.getD i .nil

/-- What a cell may hold. -/
inductive CT where
  | int (k : IntKind) | bool | str | slice (e : TypeId) | ptr | oth
  deriving DecidableEq
inductive Sh where
  | scal | slice (e : TypeId) | ptr (e : TypeId) | struct (fs : List (Nat × TypeId)) | arr (n : Nat) (e : TypeId) | oth
/-- A type: how many cells and bytes, which cells, whether its values are aggregates. -/
structure TI where
  size : Nat
  bytes : Nat
  cts : List CT
  agg : Bool
  sh : Sh

/-- What a slot holds. -/
inductive AV where
  | und | dead | skp
  | int (k : IntKind) (n : Int)
  | bool (b : Bool)
  | str (s : ByteArray)
  | nilS (e : TypeId)
  | shr (e : TypeId) (l : List Dat)
  | own (t i : Nat) (e : TypeId) (l : List Dat)
  | view (s off t i : Nat)
  | ref (s off : Nat)
  | eref (s off t i : Nat) (e : TypeId) (ix sub : Nat)
  | sref (e : TypeId) (l : List Dat) (ix sub : Nat)
  | fnil | pnil
  | agg (cs : List AV)
  | tup (vs : List AV)
  | box (t : TypeId) (cs : List AV)
  | pbox (cs : List AV)
  | clo (f : FuncId) (first caps : List AV)
instance : Inhabited AV := ⟨.und⟩
abbrev Env := List AV
def geti (E : Env) (s : Nat) : AV := E.getD s .und

def cellOf (ti : TI) (d : Dat) (j : Nat) : Dat := if ti.agg then d.C j else d
def ofD : CT → Dat → AV
  | .int k, d => .int k d.I
  | .bool, d => .bool d.B
  | .str, d => .str d.S
  | .slice e, d => .shr e d.L
  | .ptr, _ => .dead
  | .oth, _ => .dead
def ofDs (ti : TI) (d : Dat) : Nat → List CT → List AV
  | _, [] => []
  | j, c :: cs => ofD c (cellOf ti d j) :: ofDs ti d (j + 1) cs
def AV.cellD : AV → Option Dat
  | .int _ n => some (.int n)
  | .bool b => some (.bool b)
  | .str s => some (.str s)
  | .shr _ l => some (.list l)
  | .nilS _ => some (.list [])
  | _ => none
def cellDs : List AV → Option (List Dat)
  | [] => some []
  | c :: cs => c.cellD.bind fun d => (cellDs cs).map (d :: ·)
/-- As plain data, where the cells are of the types wanted. -/
def fitC : CT → AV → Bool
  | .int k, .int k' _ => k == k'
  | .bool, .bool _ => true
  | .str, .str _ => true
  | .slice e, .shr e' _ => e == e'
  | .slice e, .nilS e' => e == e'
  | _, _ => false
def fitCs : List CT → List AV → Bool
  | [], [] => true
  | t :: ts, c :: cs => fitC t c && fitCs ts cs
  | _, _ => false
def toD (ti : TI) (v : AV) : Option Dat :=
  if ti.agg then match v with
    | .agg cs => if fitCs ti.cts cs then (cellDs cs).map .agg else none
    | _ => none
  else if fitCs ti.cts [v] then v.cellD else none
def zeroC : CT → Option AV
  | .int k => some (.int k 0)
  | .bool => some (.bool false)
  | .str => some (.str ByteArray.empty)
  | .slice e => some (.nilS e)
  | .ptr => some .pnil
  | .oth => none
def zeroCs : List CT → Option (List AV)
  | [] => some []
  | c :: cs => (zeroC c).bind fun v => (zeroCs cs).map (v :: ·)
def zeroCD : CT → Dat
  | .int _ => .int 0
  | .bool => .bool false
  | .str => .str ByteArray.empty
  | .slice _ => .list []
  | .ptr => .nil
  | .oth => .nil
def zeroD (ti : TI) : Dat := if ti.agg then .agg (ti.cts.map zeroCD) else zeroCD (ti.cts.headD .oth)

/-- Of what kind a result is. 'self': within a box, the box's own place. -/
inductive RK where
  | int (k : IntKind) | bool | str | shr (e : TypeId) | own (e : TypeId) | self
  | agg (ks : List RK)
def RK.cellAV (s i : Nat) : RK → Dat → AV
  | .int k, d => .int k d.I
  | .bool, d => .bool d.B
  | .str, d => .str d.S
  | .shr e, d => .shr e d.L
  | .own e, d => .own s i e d.L
  | .self, _ => .dead
  | .agg _, _ => .dead
/-- Cells out of data; 's', 'i': the token that the first gets; 'sb', 'ob': the box's slot, and the place in it. -/
def RK.cellsAV (s sb ob : Nat) (d : Dat) : Nat → Nat → List RK → List AV
  | _, _, [] => []
  | i, j, .self :: ks => .ref sb ob :: RK.cellsAV s sb ob d (i + 1) (j + 1) ks
  | i, j, k :: ks => k.cellAV s i (d.C j) :: RK.cellsAV s sb ob d (i + 1) (j + 1) ks
def RK.width : RK → Nat | .agg ks => ks.length | _ => 1
def RK.av (s i : Nat) (k : RK) (d : Dat) : AV :=
  match k with
  | .agg ks => .agg (RK.cellsAV s s 0 d i 0 ks)
  | .int k => .int k d.I
  | .bool => .bool d.B
  | .str => .str d.S
  | .shr e => .shr e d.L
  | .own e => .own s i e d.L
  | .self => .dead
def RK.avs (s : Nat) (ds : List Dat) : Nat → Nat → List RK → List AV
  | _, _, [] => []
  | i, j, k :: ks => k.av s i (rd ds j) :: RK.avs s ds (i + k.width) (j + 1) ks
/-- A result as plain data, if it is of its kind. -/
def RK.cellUn (sb ob : Nat) : RK → AV → Option Dat
  | .int k, .int k' n => if k = k' then some (.int n) else none
  | .bool, .bool b => some (.bool b)
  | .str, .str s => some (.str s)
  | .shr e, .shr e' l => if e = e' then some (.list l) else none
  | .shr e, .own _ _ e' l => if e = e' then some (.list l) else none
  | .shr e, .nilS e' => if e = e' then some (.list []) else none
  | .own e, .own _ _ e' l => if e = e' then some (.list l) else none
  | .own e, .nilS e' => if e = e' then some (.list []) else none
  | .self, .ref s o => if s = sb ∧ o = ob then some .nil else none
  | _, _ => none
def RK.cellsUn (sb ob : Nat) : List RK → List AV → Option (List Dat)
  | [], [] => some []
  | k :: ks, c :: cs => (k.cellUn sb ob c).bind fun d => (RK.cellsUn sb ob ks cs).map (d :: ·)
  | _, _ => none
def RK.plain : RK → Bool | .self => false | .agg _ => false | _ => true
def RK.un (k : RK) (v : AV) : Option Dat :=
  match k, v with
  | .agg ks, .agg cs => if ks.all RK.plain then (RK.cellsUn 0 0 ks cs).map .agg else none
  | .agg _, _ => none
  | .self, _ => none
  | k, v => k.cellUn 0 0 v
def RK.slC : RK → Bool
  | .shr _ => true
  | .own _ => true
  | _ => false
def RK.hasSl : RK → Bool
  | .agg ks => ks.any RK.slC
  | k => k.slC

/-- A piece of work on slots: what is looked at, put, asked and called. -/
inductive Prg (α : Type) where
  | ret (a : α)
  | fail
  | get (s : Nat) (k : AV → Prg α)
  | set (s : Nat) (v : AV) (k : Prg α)
  | chk (c : Bool) (k : Prg α)
  | call (f : FuncId) (args : List AV) (k : List Dat → Prg α)
namespace Prg
def bind {α β : Type} : Prg α → (α → Prg β) → Prg β
  | .ret a, f => f a
  | .fail, _ => .fail
  | .get s k, f => .get s fun v => (k v).bind f
  | .set s v k, f => .set s v (k.bind f)
  | .chk c k, f => .chk c (k.bind f)
  | .call g asx k, f => .call g asx fun ds => (k ds).bind f
instance : Monad Prg where
  pure := Prg.ret
  bind := Prg.bind
end Prg
abbrev CF := FuncId → List AV → Option (List Dat)
def Prg.run {α : Type} (cf : CF) (K : α → Env → Option (List Dat)) : Prg α → Env → Option (List Dat)
  | .ret a, E => K a E
  | .fail, _ => none
  | .get s k, E => (k (geti E s)).run cf K E
  | .set s v k, E => k.run cf K (E.set s v)
  | .chk c k, E => bif c then k.run cf K E else none
  | .call f args k, E => (cf f args).bind fun ds => (k ds).run cf K E
/-- The same, keeping which slots were looked at, and put. -/
def Prg.runL {α : Type} (cf : CF) (K : α → Env → List Nat → List Nat → Option (List Dat)) : Prg α → Env → List Nat → List Nat → Option (List Dat)
  | .ret a, E, r, w => K a E r w
  | .fail, _, _, _ => none
  | .get s k, E, r, w => (k (geti E s)).runL cf K E (s :: r) w
  | .set s v k, E, r, w => k.runL cf K (E.set s v) r (s :: w)
  | .chk c k, E, r, w => bif c then k.runL cf K E r w else none
  | .call f args k, E, r, w => (cf f args).bind fun ds => (k ds).runL cf K E r w
end Go.Ev

/- What a value and the memory behind it have to do with plain data; nothing of it turns while the memory that it reads stays. -/
namespace Go.Ev
open Go
set_option linter.unusedVariables false

section
variable (T : TypeId → Option TI)

/-- A cell's value, and the data for it. -/
inductive RelD (w : World) (St : Nat → Prop) : CT → Value → Dat → Prop
  | int {k : IntKind} {v : Value} {d : Dat} (h : v = .int k d.I) : RelD w St (.int k) v d
  | bool {v : Value} {d : Dat} (h : v = .bool d.B) : RelD w St .bool v d
  | str {v : Value} {d : Dat} (h : v = .string d.S) : RelD w St .str v d
  | slice {e : TypeId} {v : Value} {d : Dat} (ti : TI) (a : Option Addr) (cap : Nat) (b o : Nat) (us : Nat → Nat → Value) (hT : d.L ≠ [] → T e = some ti ∧ 0 < ti.size) (hv : v = .slice a d.L.length cap) (hc : d.L.length ≤ cap)
      (ha : d.L ≠ [] → a = some ⟨b, o, none⟩ ∧ St b)
      (hcell : ∀ i j, i < d.L.length → j < ti.size → w.cell? ⟨b, o + i * ti.size + j, none⟩ = some (us i j))
      (hrel : ∀ i j ct, i < d.L.length → ti.cts[j]? = some ct → RelD w St ct (us i j) (cellOf ti (rd d.L i) j)) : RelD w St (.slice e) v d
  | ptr {v : Value} {d : Dat} (h : ∃ p, v = .pointer p) : RelD w St .ptr v d
  | oth {v : Value} {d : Dat} : RelD w St .oth v d

/-- A row of elements, from a place on. -/
def RowD (w : World) (St : Nat → Prop) (b o : Nat) (ti : TI) (l : List Dat) : Prop :=
  ∀ i j, i < l.length → j < ti.size → ∃ u, w.cell? ⟨b, o + i * ti.size + j, none⟩ = some u ∧ ∀ ct, ti.cts[j]? = some ct → RelD T w St ct u (cellOf ti (rd l i) j)

variable {T}
theorem cell_of_heap {w w' : World} {b o : Nat} (h : w'.heap[b]? = w.heap[b]?) : w'.cell? ⟨b, o, none⟩ = w.cell? ⟨b, o, none⟩ := by
  simp only [World.cell?, h]
theorem RelD.mono {w w' : World} {St St' : Nat → Prop} {ct : CT} {v : Value} {d : Dat} (h : RelD T w St ct v d) (hs : ∀ b, St b → St' b) (hw : ∀ b, St b → w'.heap[b]? = w.heap[b]?) : RelD T w' St' ct v d := by
  induction h with
  | int h => exact .int h
  | bool h => exact .bool h
  | str h => exact .str h
  | oth => exact .oth
  | ptr h => exact .ptr h
  | @slice e v d ti a cap b o us hT hv hc ha hcell hrel ih =>
    refine .slice ti a cap b o us hT hv hc (fun hn => ⟨(ha hn).1, hs _ (ha hn).2⟩) (fun i j hi hj => ?_) ih
    have hn : d.L ≠ [] := by intro h0; rw [h0] at hi; exact absurd hi (Nat.not_lt_zero _)
    rw [cell_of_heap (hw b (ha hn).2)]
    exact hcell i j hi hj
theorem RowD.mono {w w' : World} {St St' : Nat → Prop} {b o : Nat} {ti : TI} {l : List Dat} (h : RowD T w St b o ti l) (hs : ∀ b, St b → St' b) (hw : ∀ b, St b → w'.heap[b]? = w.heap[b]?) (hb : w'.heap[b]? = w.heap[b]?) : RowD T w' St' b o ti l := by
  intro i j hi hj
  obtain ⟨u, hu, hr⟩ := h i j hi hj
  exact ⟨u, by rw [cell_of_heap hb]; exact hu, fun ct hct => (hr ct hct).mono hs hw⟩
theorem RowD.nil {w : World} {St : Nat → Prop} {b o : Nat} {ti : TI} : RowD T w St b o ti [] := fun i j hi => absurd hi (Nat.not_lt_zero _)
/-- A slice's reading, out of a row. -/
theorem RelD.of_row {w : World} {St : Nat → Prop} {e : TypeId} {ti : TI} {a : Option Addr} {cap b o : Nat} {l : List Dat} (hT : l ≠ [] → T e = some ti ∧ 0 < ti.size) (hc : l.length ≤ cap)
    (ha : l ≠ [] → a = some ⟨b, o, none⟩ ∧ St b) (hr : RowD T w St b o ti l) (hcts : l ≠ [] → ti.cts.length = ti.size) : RelD T w St (.slice e) (.slice a l.length cap) (.list l) := by
  have : ∀ i j, ∃ u, i < l.length → j < ti.size → w.cell? ⟨b, o + i * ti.size + j, none⟩ = some u ∧ ∀ ct, ti.cts[j]? = some ct → RelD T w St ct u (cellOf ti (rd l i) j) := by
    intro i j
    by_cases h : i < l.length ∧ j < ti.size
    · obtain ⟨u, hu⟩ := hr i j h.1 h.2
      exact ⟨u, fun _ _ => hu⟩
    · exact ⟨.bool false, fun h1 h2 => absurd ⟨h1, h2⟩ h⟩
  have hus := fun i j => Classical.choose_spec (this i j)
  refine .slice (d := .list l) ti a cap b o (fun i j => Classical.choose (this i j)) hT rfl hc ha (fun i j hi hj => (hus i j hi hj).1) (fun i j ct hi hct => ?_)
  have hl : l ≠ [] := by intro h0; rw [h0] at hi; exact absurd hi (Nat.not_lt_zero _)
  have hj : j < ti.size := by rw [← hcts hl]; exact (List.getElem?_eq_some_iff.1 hct).1
  exact (hus i j hi hj).2 ct hct
/-- A slice's reading, taken apart. -/
theorem RelD.row {w : World} {St : Nat → Prop} {e : TypeId} {v : Value} {d : Dat} (h : RelD T w St (.slice e) v d) :
    ∃ ti a cap b o, (d.L ≠ [] → T e = some ti ∧ 0 < ti.size) ∧ v = .slice a d.L.length cap ∧ d.L.length ≤ cap ∧ (d.L ≠ [] → a = some ⟨b, o, none⟩ ∧ St b) ∧ RowD T w St b o ti d.L := by
  cases h with
  | slice ti a cap b o us hT hv hc ha hcell hrel =>
    exact ⟨ti, a, cap, b, o, hT, hv, hc, ha, fun i j hi hj => ⟨us i j, hcell i j hi hj, fun ct hct => hrel i j ct hi hct⟩⟩
end

/-- The addresses that slots' tokens, and slots' boxes, stand for: known to the proof alone. -/
structure Gh where
  hd0 : Nat → Nat → Option Addr × Nat × Nat
  bx : Nat → Nat × Nat
def Gh.hd (H : Gh) (t i : Nat) : Value := .slice (H.hd0 t i).1 (H.hd0 t i).2.1 (H.hd0 t i).2.2

section
variable (T : TypeId → Option TI) (w : World) (St : Nat → Prop) (H : Gh)

def NoFz (fz : Nat × Nat) (n : Nat) : Prop := fz.1 ≤ fz.2 ∧ ∀ x, x < n → ¬ (fz.1 ≤ x ∧ x < fz.2)
/-- A row that one slot alone has. -/
def Own (e : TypeId) (l : List Dat) (v : Value) (fp : List Nat) : Prop :=
  ∃ ti a cap, (cap ≠ 0 → T e = some ti ∧ 0 < ti.size) ∧ v = .slice a l.length cap ∧ l.length ≤ cap ∧
    ((cap = 0 ∧ fp = []) ∨ ∃ b o arr et fz, a = some ⟨b, o, none⟩ ∧ fp = [b] ∧ w.heap[b]? = some (.cells arr et fz) ∧ NoFz fz arr.size ∧ o + cap * ti.size ≤ arr.size ∧ RowD T w St b o ti l)

/-- A value, and what a slot is told to hold, and the blocks that it alone has: as far as it fits one cell. -/
def RelC (v : Value) (fp : List Nat) : AV → Prop
  | .und => fp = []
  | .dead => fp = []
  | .skp => fp = [] ∧ v = undef
  | .int k n => fp = [] ∧ v = .int k n
  | .bool b => fp = [] ∧ v = .bool b
  | .str s => fp = [] ∧ v = .string s
  | .nilS e => fp = [] ∧ v = .slice none 0 0
  | .shr e l => fp = [] ∧ RelD T w St (.slice e) v (.list l)
  | .own t i e l => v = H.hd t i ∧ Own T w St e l v fp
  | .view s off t i => fp = [] ∧ v = H.hd t i
  | .ref s off => fp = [] ∧ v = .pointer (some ⟨(H.bx s).1, (H.bx s).2 + off, none⟩)
  | .eref s off t i e ix sub => fp = [] ∧ ∃ ti b o len cap, T e = some ti ∧ H.hd t i = .slice (some ⟨b, o, none⟩) len cap ∧ v = .pointer (some ⟨b, o + ix * ti.size + sub, none⟩)
  | .sref e l ix sub => fp = [] ∧ ∃ ti b o, T e = some ti ∧ 0 < ti.size ∧ v = .pointer (some ⟨b, o + ix * ti.size + sub, none⟩) ∧ St b ∧ RowD T w St b o ti l
  | .fnil => fp = [] ∧ v = .nilFunc
  | .pnil => fp = [] ∧ v = .pointer none
  | _ => False
def Cells : List Value → List Nat → List AV → Prop
  | [], fp, [] => fp = []
  | v :: vs, fp, c :: cs => ∃ f1 f2, fp = f1 ++ f2 ∧ RelC T w St H v f1 c ∧ Cells vs f2 cs
  | _, _, _ => False
/-- The same, an aggregate too. -/
def RelG (v : Value) (fp : List Nat) : AV → Prop
  | .agg cs => ∃ vs, v = .agg vs ∧ Cells T w St H vs.toList fp cs
  | c => RelC T w St H v fp c
def Gs : List Value → List Nat → List AV → Prop
  | [], fp, [] => fp = []
  | v :: vs, fp, c :: cs => ∃ f1 f2, fp = f1 ++ f2 ∧ RelG T w St H v f1 c ∧ Gs vs f2 cs
  | _, _, _ => False
/-- The same, for whatever a slot may hold. -/
def RelS (v : Value) (fp : List Nat) : AV → Prop
  | .tup vs => ∃ us, v = .tuple us ∧ Gs T w St H us.toList fp vs
  | .box t cs => ∃ b arr et fz f2, v = .pointer (some ⟨b, 0, none⟩) ∧ fp = b :: f2 ∧ w.heap[b]? = some (.cells arr et fz) ∧ NoFz fz arr.size ∧ arr.size = cs.length ∧ Cells T w St H arr.toList f2 cs
  | .pbox cs => ∃ b o arr et fz, v = .pointer (some ⟨b, o, none⟩) ∧ w.heap[b]? = some (.cells arr et fz) ∧ NoFz fz arr.size ∧ o + cs.length ≤ arr.size ∧ Cells T w St H ((arr.toList.drop o).take cs.length) fp cs
  | .clo f first caps => ∃ us vs, v = .func (.func f) us vs ∧ fp = [] ∧ Gs T w St H us.toList [] first ∧ Gs T w St H vs.toList [] caps
  | c => RelG T w St H v fp c
end

/-- Does it speak of a slot (its box, or its token)? -/
def mentC (x : Nat) : AV → Bool
  | .own t _ _ _ => t == x
  | .view s _ t _ => s == x || t == x
  | .ref s _ => s == x
  | .eref s _ t _ _ _ _ => s == x || t == x
  | _ => false
def ment (x : Nat) : AV → Bool
  | .agg cs => cs.any (mentC x)
  | .tup vs => vs.any fun v => match v with | .agg cs => cs.any (mentC x) | c => mentC x c
  | .box _ cs => cs.any (mentC x)
  | .pbox cs => cs.any (mentC x)
  | .clo _ a b => (a.any fun v => match v with | .agg cs => cs.any (mentC x) | c => mentC x c) || (b.any fun v => match v with | .agg cs => cs.any (mentC x) | c => mentC x c)
  | c => mentC x c
end Go.Ev

/- A reader of loaded Go functions over plain data: its moves. -/
namespace Go.Ev
open Go
set_option linter.unusedVariables false

/-- A whole number, whichever; a table of cells. -/
def intO (k : IntKind) (o : Obj) : Prop := ∃ cs t f m, o = .cells cs t f ∧ cs[0]? = some (.int k m)
def tabO (cs : Array Value) (o : Obj) : Prop := ∃ t f, o = .cells cs t f
structure Ctx where
  T : TypeId → Option TI
  fn : FuncId → Option Func
  rk : FuncId → List RK
  pk : FuncId → Nat → Option (List RK)
  ow : FuncId → Nat → Bool
  glob : Nat → Option AV
  given : FuncId → Option (List AV → Option (List Dat))
  keep : FuncId → List Nat
  io : FuncId → Bool := fun _ => false
  eqs : TypeId → Bool := fun _ => false
  gint : List (Nat × (Obj → Prop)) := []

/-- What stands at a place of a slot: the whole row, or a cell. -/
def AV.at? (v : AV) (off : Nat) : AV := match v with
  | .own t i e l => if off = 0 then .own t i e l else .und
  | .agg cs => cs.getD off .und
  | .box _ cs => cs.getD off .und
  | .pbox cs => cs.getD off .und
  | _ => .und
def AV.putAt (v : AV) (off : Nat) (c : AV) : AV := match v with
  | .agg cs => .agg (cs.set off c)
  | .box t cs => .box t (cs.set off c)
  | .pbox cs => .pbox (cs.set off c)
  | _ => c
def ownAt (s off t i : Nat) : Prg (TypeId × List Dat) :=
  .get s fun v => match v.at? off with
    | .own t' i' e l => if t = t' ∧ i = i' then .ret (e, l) else .fail
    | _ => .fail
def freeze (s off t i : Nat) : Prg (TypeId × List Dat) :=
  .get s fun v => match v.at? off with
    | .own t' i' e l => if t = t' ∧ i = i' then .set s (v.putAt off (.shr e l)) (.ret (e, l)) else .fail
    | _ => .fail
def take (s off t i : Nat) : Prg (TypeId × List Dat) :=
  .get s fun v => match v.at? off with
    | .own t' i' e l => if t = t' ∧ i = i' then .set s (v.putAt off .dead) (.ret (e, l)) else .fail
    | _ => .fail
/-- Put a row's new elements (as many as before) in its place. -/
def upd (s off t i : Nat) (l' : List Dat) : Prg Unit :=
  .get s fun v => match v.at? off with
    | .own t' i' e l => if t = t' ∧ i = i' then .set s (v.putAt off (.own t i e l')) (.ret ()) else .fail
    | _ => .fail
/-- The cells of an aggregate that lies in a slot, from a place on: rows that it alone has are told as views. -/
def views (s : Nat) : Nat → List AV → List AV
  | _, [] => []
  | j, .own t i e l :: cs => .view s j t i :: views s (j + 1) cs
  | j, c :: cs => c :: views s (j + 1) cs
/-- What a slot holds, as a value: no row that a slot alone has, no box. -/
def opS (s : Nat) : Prg AV :=
  .get s fun v => match v with
    | .und => .fail
    | .dead => .fail
    | .skp => .fail
    | .own t i e l => .ret (.view s 0 t i)
    | .box _ cs => .ret (.ref s 0)
    | .pbox cs => .ret (.ref s 0)
    | .agg cs => .ret (.agg (views s 0 cs))
    | .tup vs => .fail
    | v => .ret v
def nilOf (T : TypeId → Option TI) (t : TypeId) : Prg AV :=
  match T t with
  | some ti => match ti.sh with
    | .slice e => .ret (.nilS e)
    | _ => .fail
  | none => .fail
def opd (C : Ctx) (t : TypeId) (x : Operand) : Prg AV :=
  match x with
  | .tmp s => opS s
  | .const (.int k n) => .ret (.int k n)
  | .const (.bool b) => .ret (.bool b)
  | .const (.string s) => .ret (.str s)
  | .const (.slice none 0 0) => nilOf C.T t
  | .const .nilFunc => .ret .fnil
  | .const (.pointer none) => .ret .pnil
  | .const _ => .fail
  | .global g => match C.glob g with | some v => .ret v | none => .fail
  | .func f => .ret (.clo f [] [])
def tiOf (C : Ctx) (t : TypeId) : Prg TI := match C.T t with | some ti => .ret ti | none => .fail
def isTmp (x : Operand) (s : Nat) : Bool := match x with | .tmp t => t == s | _ => false
/-- A value put away whole: what its own temporary has goes along, what another slot has is shared from now on. -/
def giveC (x : Operand) : AV → Prg AV
  | .view s off t i => if isTmp x s then (take s off t i).bind fun r => .ret (.own t i r.1 r.2) else (freeze s off t i).bind fun r => .ret (.shr r.1 r.2)
  | v => .ret v
def giveCs (x : Operand) : List AV → Prg (List AV)
  | [] => .ret []
  | c :: cs => (giveC x c).bind fun v => (giveCs x cs).bind fun vs => .ret (v :: vs)
def give (x : Operand) : AV → Prg AV
  | .agg cs => (giveCs x cs).bind fun vs => .ret (.agg vs)
  | v => giveC x v
/-- A value put away as plain data: what a slot has is shared from now on. -/
def dataC : AV → Prg AV
  | .view s off t i => (freeze s off t i).bind fun r => .ret (.shr r.1 r.2)
  | v => .ret v
def dataCs : List AV → Prg (List AV)
  | [] => .ret []
  | c :: cs => (dataC c).bind fun v => (dataCs cs).bind fun vs => .ret (v :: vs)
def dataV : AV → Prg AV
  | .agg cs => (dataCs cs).bind fun vs => .ret (.agg vs)
  | v => dataC v
def lift {α : Type} (o : Option α) : Prg α := match o with | some a => .ret a | none => .fail
/-- The elements of a slice, to be read. -/
def elems : AV → Prg (TypeId × List Dat)
  | .shr e l => .ret (e, l)
  | .nilS e => .ret (e, [])
  | .view s off t i => ownAt s off t i
  | _ => .fail
def newTok (d : Nat) : Prg Unit := .get d fun v => match v with | .und => .ret () | _ => .fail
def isCell : AV → Bool
  | .agg _ => false
  | .tup _ => false
  | .box _ _ => false
  | .pbox _ => false
  | .clo _ _ _ => false
  | .und => false
  | .dead => false
  | .skp => false
  | _ => true
def cellsV (ti : TI) (v : AV) : Option (List AV) :=
  if ti.agg then match v with
    | .agg cs => if cs.length = ti.size ∧ cs.all isCell then some cs else none
    | _ => none
  else if isCell v ∧ ti.size = 1 then some [v] else none
def splice (cs : List AV) (off : Nat) (new : List AV) : List AV := cs.take off ++ new ++ cs.drop (off + new.length)
def ofCells (ti : TI) (cs : List AV) : Option AV :=
  if ti.agg then (if cs.length = ti.size then some (.agg cs) else none) else match cs with | [c] => some c | _ => none
/-- The cells of one element from a place on, for a type that is read there. -/
def elemV (te ti : TI) (d : Dat) (sub : Nat) : Option AV :=
  if sub + ti.size ≤ te.size ∧ (te.cts.drop sub).take ti.size = ti.cts then ofCells ti (ofDs te d sub ti.cts) else none
def updCells (d : Dat) (sub : Nat) (new : List Dat) : Nat → List CT → List Dat
  | _, [] => []
  | j, _ :: cts => (if sub ≤ j ∧ j < sub + new.length then rd new (j - sub) else d.C j) :: updCells d sub new (j + 1) cts
def updElem (te : TI) (d : Dat) (sub : Nat) (new : List Dat) : Dat := if te.agg then .agg (updCells d sub new 0 te.cts) else new.headD .nil
def capB (b : Nat) : Nat := 140737488355328 / b
def strD (s : ByteArray) : List Dat := s.data.toList.map fun b => .int b.toNat
def strOf (l : List Dat) : ByteArray := ⟨(l.map fun d => UInt8.ofNat d.I.toNat).toArray⟩
def bt (s : ByteArray) (i : Nat) : Int := ((s.data.toList.getD i 0).toNat : Int)
def subS (s : ByteArray) (a b : Nat) : ByteArray := s.extract a b

def intOp (op : BinOp) (k : IntKind) (a b : Int) : Option AV :=
  match op with
  | .add => some (.int k (k.wrap (a + b)))
  | .sub => some (.int k (k.wrap (a - b)))
  | .mul => some (.int k (k.wrap (a * b)))
  | .eql => some (.bool (a == b))
  | .neq => some (.bool (a != b))
  | .lss => some (.bool (decide (a < b)))
  | .leq => some (.bool (decide (a ≤ b)))
  | .gtr => some (.bool (decide (a > b)))
  | .geq => some (.bool (decide (a ≥ b)))
  | _ => none
def bitOp (op : BinOp) (k : IntKind) (a b : Int) : Option AV :=
  match op with
  | .and => some (.int k (k.wrap (BitVec.ofInt k.bits a &&& BitVec.ofInt k.bits b).toNat))
  | .or => some (.int k (k.wrap (BitVec.ofInt k.bits a ||| BitVec.ofInt k.bits b).toNat))
  | .xor => some (.int k (k.wrap (BitVec.ofInt k.bits a ^^^ BitVec.ofInt k.bits b).toNat))
  | _ => none
def strOp (op : BinOp) (a b : ByteArray) : Option AV :=
  match op with
  | .add => some (.str (a ++ b))
  | .eql => some (.bool (a.toList == b.toList))
  | .neq => some (.bool !(a.toList == b.toList))
  | .lss => some (.bool (Op.bytesLess a.toList b.toList))
  | _ => none
def eqC : AV → AV → Option Bool
  | .int k a, .int k' b => if k = k' then some (a == b) else none
  | .bool a, .bool b => some (a == b)
  | .str a, .str b => some (a.toList == b.toList)
  | _, _ => none
def eqCs : List AV → List AV → Option Bool
  | [], [] => some true
  | a :: asx, b :: bs => (eqC a b).bind fun x => (eqCs asx bs).map fun y => x && y
  | _, _ => none
def binP (op : BinOp) (x y : AV) : Prg AV :=
  match x, y with
  | .int k a, .int k' b => match op with
    | .quo => if k = k' then .chk (b != 0) (.ret (.int k (k.wrap (a.tdiv b)))) else .fail
    | .rem => if k = k' then .chk (b != 0) (.ret (.int k (a.tmod b))) else .fail
    | .shl => .chk (decide (0 ≤ b)) (.ret (.int k (k.wrap (a * 2 ^ min b.toNat k.bits))))
    | .shr => .chk (decide (0 ≤ b)) (.ret (.int k (a.fdiv (2 ^ min b.toNat k.bits))))
    | .and => if k = k' then lift (bitOp op k a b) else .fail
    | .or => if k = k' then lift (bitOp op k a b) else .fail
    | .xor => if k = k' then lift (bitOp op k a b) else .fail
    | op => if k = k' then lift (intOp op k a b) else .fail
  | .bool a, .bool b => match op with
    | .eql => .ret (.bool (a == b))
    | .neq => .ret (.bool !(a == b))
    | _ => .fail
  | .str a, .str b => match op with
    | .add => .chk (decide (a.size + b.size ≤ 9223372036854775807)) (.ret (.str (a ++ b)))
    | op => lift (strOp op a b)
  | .agg a, .agg b => match op with
    | .eql => (lift (eqCs a b)).bind fun r => .ret (.bool r)
    | .neq => (lift (eqCs a b)).bind fun r => .ret (.bool !r)
    | _ => .fail
  | _, _ => .fail
end Go.Ev

/- A reader of loaded Go functions over plain data: its moves, put together. -/
namespace Go.Ev
open Go
set_option linter.unusedVariables false

def setD (d : Option Tmp) (v : AV) : Prg Unit := match d with | some s => .set s v (.ret ()) | none => .ret ()
/-- A value put into a slot as what the slot holds: rows go along. -/
def giveAll (v : AV) : Prg AV := match v with
  | .view s off t i => (take s off t i).bind fun r => .ret (.own t i r.1 r.2)
  | v => .ret v
def evMove (C : Ctx) (o : Oper) (x : Operand) : Prg Unit :=
  match o.dst, x with
  | some d, .tmp s => .get s fun v => match v with
    | .tup vs => .set s .dead (.set d (.tup vs) (.ret ()))
    | _ => (opS s).bind fun v => .set d v (.ret ())
  | some d, x => (opd C o.type x).bind fun v => .set d v (.ret ())
  | none, _ => .fail
def evAssign (C : Ctx) (o : Oper) (x : Operand) : Prg Unit :=
  match o.dst with
  | some d => (opd C o.type x).bind fun v => match v with
    | .view s off t i => (take s off t i).bind fun r => .set d (.own t i r.1 r.2) (.ret ())
    | .agg cs => (giveCs x cs).bind fun vs => .set d (.agg vs) (.ret ())
    | v => .set d v (.ret ())
  | none => .fail
def pickV (c : Bool) (x y : AV) : Option AV :=
  match x, y with
  | .bool a, .bool b => some (.bool (bif c then a else b))
  | .int k a, .int k' b => if k = k' then some (.int k (bif c then a else b)) else none
  | .str a, .str b => some (.str (bif c then a else b))
  | _, _ => none
def rawV (C : Ctx) (t : TypeId) (x : Operand) : Prg AV := match x with | .tmp s => .get s fun v => .ret v | x => opd C t x
/-- What was looked at is not looked at again. -/
def killS (x : Operand) : Prg Unit := match x with
  | .tmp s => .get s fun v => (match v with
    | .skp => .set s .dead (.ret ())
    | .bool _ => .set s .dead (.ret ())
    | _ => .ret ())
  | _ => .ret ()
def endP (d : Nat) (v : AV) (x y : Operand) : Prg Unit := .set d v ((killS x).bind fun _ => killS y)
def evPick (C : Ctx) (o : Oper) (c a b : Operand) : Prg Unit :=
  match o.dst with
  | some d => (opd C o.type c).bind fun cv => match cv with
    | .bool cb => (rawV C o.type a).bind fun x => (rawV C o.type b).bind fun y => match x, y with
      | .skp, .bool q => .chk (!cb) (endP d (.bool q) a b)
      | .bool p, .skp => .chk cb (endP d (.bool p) a b)
      | x, y => (lift (pickV cb x y)).bind fun v => endP d v a b
    | _ => .fail
  | none => .fail
def evAlloc (C : Ctx) (o : Oper) (t : TypeId) : Prg Unit :=
  match o.dst with
  | some d => (newTok d).bind fun _ => (tiOf C t).bind fun ti => (lift (zeroCs ti.cts)).bind fun cs => .set d (.box t cs) (.ret ())
  | none => .fail
def evBox (C : Ctx) (o : Oper) (t : TypeId) (x : Operand) : Prg Unit :=
  match o.dst with
  | some d => (tiOf C t).bind fun ti => (opd C t x).bind fun v => (give x v).bind fun v => (lift (cellsV ti v)).bind fun cs => (newTok d).bind fun _ => .set d (.box t cs) (.ret ())
  | none => .fail
/-- Where a part lies in a struct or an array, and of which type it is. -/
def partAt (ti : TI) (i : Nat) : Option (Nat × TypeId) :=
  match ti.sh with
  | .struct fs => fs[i]?
  | .arr n e => if i < n then some (i, e) else none
  | _ => none
def offOf (ti pt : TI) (p : Nat) : Nat :=
  match ti.sh with
  | .arr _ _ => p * pt.size
  | _ => p
def buildParts (C : Ctx) (ti : TI) : List (Nat × Operand) → List AV → Prg (List AV)
  | [], cs => .ret cs
  | (i, x) :: ps, cs => (lift (partAt ti i)).bind fun p => (tiOf C p.2).bind fun pt => (opd C p.2 x).bind fun v => (give x v).bind fun v => (lift (cellsV pt v)).bind fun new =>
      if offOf ti pt p.1 + new.length ≤ cs.length then buildParts C ti ps (splice cs (offOf ti pt p.1) new) else .fail
def okShape (C : Ctx) (ti : TI) : Bool :=
  match ti.sh with
  | .struct _ => true
  | .arr _ e => (C.T e).isSome
  | _ => false
def evBuild (C : Ctx) (o : Oper) (t : TypeId) (ps : List (Nat × Operand)) : Prg Unit :=
  match o.dst with
  | some d => (tiOf C t).bind fun ti => match okShape C ti with
    | true => (lift (zeroCs ti.cts)).bind fun cs => (buildParts C ti ps cs).bind fun cs => .set d (.agg cs) (.ret ())
    | false => .fail
  | none => .fail
def litParts (C : Ctx) (ti : TI) (e : TypeId) : List (Nat × Operand) → List Dat → Prg (List Dat)
  | [], l => .ret l
  | (i, x) :: ps, l => (opd C e x).bind fun v => (dataV v).bind fun v => (lift (toD ti v)).bind fun d => if i < l.length then litParts C ti e ps (l.set i d) else .fail
def sliceElem (C : Ctx) (t : TypeId) : Prg (TypeId × TI) :=
  (tiOf C t).bind fun ti => match ti.sh with | .slice e => (tiOf C e).bind fun te => if 0 < te.size ∧ 0 < te.bytes ∧ (zeroCs te.cts).isSome = true then .ret (e, te) else .fail | _ => .fail
def evLit (C : Ctx) (o : Oper) (t : TypeId) (n : Nat) (ps : List (Nat × Operand)) : Prg Unit :=
  match o.dst with
  | some d => (sliceElem C t).bind fun et => if n * et.2.size ≤ 16777216 then (litParts C et.2 et.1 ps (List.replicate n (zeroD et.2))).bind fun l => (newTok d).bind fun _ => .set d (.own d 0 et.1 l) (.ret ()) else .fail
  | none => .fail
/-- A pointer's reading. -/
def loadP (C : Ctx) (ti : TI) : AV → Prg AV
  | .ref s off => .get s fun b => match b with
    | .box _ cs => if off + ti.size ≤ cs.length then lift (ofCells ti (views s off ((cs.drop off).take ti.size))) else .fail
    | .pbox cs => if off + ti.size ≤ cs.length then lift (ofCells ti (views s off ((cs.drop off).take ti.size))) else .fail
    | _ => .fail
  | .eref s off t i e ix sub => (ownAt s off t i).bind fun r => (tiOf C e).bind fun te => if r.1 = e then .chk (decide (ix < r.2.length)) (lift (elemV te ti (rd r.2 ix) sub)) else .fail
  | .sref e l ix sub => (tiOf C e).bind fun te => .chk (decide (ix < l.length)) (lift (elemV te ti (rd l ix) sub))
  | _ => .fail
def okV : AV → Bool
  | .dead => false
  | .und => false
  | .skp => false
  | .agg cs => cs.all fun c => match c with | .dead => false | .und => false | .skp => false | _ => true
  | _ => true
def evLoad (C : Ctx) (o : Oper) (t : TypeId) (p : Operand) : Prg Unit :=
  match o.dst with
  | some d => (tiOf C t).bind fun ti => (opd C t p).bind fun a => (loadP C ti a).bind fun v => if okV v then .set d v (.ret ()) else .fail
  | none => .fail
def evStore (C : Ctx) (o : Oper) (t : TypeId) (p x : Operand) : Prg Unit :=
  (tiOf C t).bind fun ti => (opd C t p).bind fun a => (opd C t x).bind fun v => match a with
    | .ref s off => (give x v).bind fun v => (lift (cellsV ti v)).bind fun new => .get s fun b => match b with
      | .box bt cs => if off + new.length ≤ cs.length then .set s (.box bt (splice cs off new)) (setD o.dst .dead) else .fail
      | .pbox cs => if off + new.length ≤ cs.length then .set s (.pbox (splice cs off new)) (setD o.dst .dead) else .fail
      | _ => .fail
    | .eref s off tk i e ix sub => (dataV v).bind fun v => (lift (cellsV ti v)).bind fun new => (lift (cellDs new)).bind fun ds => (tiOf C e).bind fun te => (ownAt s off tk i).bind fun r =>
        if r.1 = e ∧ 0 < ti.size ∧ sub + ti.size ≤ te.size ∧ (te.cts.drop sub).take ti.size = ti.cts ∧ fitCs ti.cts new = true then .chk (decide (ix < r.2.length)) ((upd s off tk i (r.2.set ix (updElem te (rd r.2 ix) sub ds))).bind fun _ => setD o.dst .dead) else .fail
    | _ => .fail
def kindOf (C : Ctx) (t : TypeId) : Option CT :=
  match C.T t with
  | some ti => (match ti.sh, ti.cts with | .scal, [c] => some c | .slice _, [c] => some c | _, _ => none)
  | none => none
def num (C : Ctx) (y : Option Operand) (dflt : Int) : Prg Int :=
  match y with
  | none => .ret dflt
  | some y => (opd C 0 y).bind fun v => match v with | .int _ n => .ret n | _ => .fail
def evSlice (C : Ctx) (o : Oper) (x : Operand) (lo hi mx : Option Operand) (t : TypeId) : Prg Unit :=
  match o.dst, mx with
  | some d, none => (opd C t x).bind fun v => (num C lo 0).bind fun a => match kindOf C t with
    | some .str => (match v with
        | .str s => (num C hi s.size).bind fun b => .chk (decide (0 ≤ a)) (.chk (decide (a ≤ b)) (.chk (decide (b ≤ s.size)) (.set d (.str (subS s a.toNat b.toNat)) (.ret ()))))
        | _ => .fail)
    | some (.slice e) => (tiOf C e).bind fun te => (match v with
        | .shr e' l => if e' = e then (num C hi l.length).bind fun b => .chk (decide (0 ≤ a)) (.chk (decide (a ≤ b)) (.chk (decide (b ≤ l.length)) (.set d (.shr e ((l.take b.toNat).drop a.toNat)) (.ret ())))) else .fail
        | .nilS e' => if e' = e then (num C hi 0).bind fun b => .chk (decide (0 ≤ a)) (.chk (decide (a ≤ b)) (.chk (decide (b ≤ 0)) (.set d (.nilS e) (.ret ())))) else .fail
        | .view s off tk i => (newTok d).bind fun _ => (ownAt s off tk i).bind fun r => if r.1 = e then (num C hi r.2.length).bind fun b => .chk (decide (0 ≤ a)) (.chk (decide (a ≤ b)) (.chk (decide (b ≤ r.2.length))
            (match lo with
              | none => (take s off tk i).bind fun _ => .set d (.own d 0 e (r.2.take b.toNat)) (.ret ())
              | some _ => (freeze s off tk i).bind fun _ => .set d (.shr e ((r.2.take b.toNat).drop a.toNat)) (.ret ())))) else .fail
        | _ => .fail)
    | _ => .fail
  | _, _ => .fail
def evFieldAddr (C : Ctx) (o : Oper) (st : TypeId) (p : Operand) (f : Nat) : Prg Unit :=
  match o.dst with
  | some d => (tiOf C st).bind fun ti => match ti.sh with
    | .struct fs => (lift fs[f]?).bind fun q => (tiOf C q.2).bind fun ft => if 0 < ft.size then (opd C st p).bind fun a => match a with
      | .ref s off => .set d (.ref s (off + q.1)) (.ret ())
      | .eref s off t i e ix sub => .set d (.eref s off t i e ix (sub + q.1)) (.ret ())
      | .sref e l ix sub => .set d (.sref e l ix (sub + q.1)) (.ret ())
      | _ => .fail else .fail
    | _ => .fail
  | none => .fail
def evField (C : Ctx) (o : Oper) (st : TypeId) (x : Operand) (f : Nat) : Prg Unit :=
  match o.dst with
  | some d => (tiOf C st).bind fun ti => match ti.sh with
    | .struct fs => (lift fs[f]?).bind fun q => (tiOf C q.2).bind fun ft => (opd C st x).bind fun a => match a with
      | .agg cs => if q.1 + ft.size ≤ cs.length then (lift (ofCells ft ((cs.drop q.1).take ft.size))).bind fun v => if okV v then .set d v (.ret ()) else .fail else .fail
      | _ => .fail
    | _ => .fail
  | none => .fail
def allD (ct : CT) : List AV → Option (List Dat)
  | [] => some []
  | c :: cs => if fitC ct c then c.cellD.bind fun d => (allD ct cs).map (d :: ·) else none
def isCon (x : Operand) : Bool := match x with | .const _ => true | _ => false
/-- Cells in rows. -/
def rowsD (te : TI) : Nat → List AV → Option (List Dat)
  | 0, cs => bif cs.isEmpty then some [] else none
  | n + 1, cs => (ofCells te (cs.take te.size)).bind fun v => (toD te v).bind fun d => (rowsD te n (cs.drop te.size)).map (d :: ·)
def evIndexAddr (C : Ctx) (o : Oper) (t : TypeId) (x ix : Operand) : Prg Unit :=
  match o.dst with
  | some d => (tiOf C t).bind fun ti => (opd C t x).bind fun a => (opd C 0 ix).bind fun iv => match iv with
    | .int _ n => match ti.sh with
      | .slice e => match a with
        | .shr e' l => if e' = e then .chk (decide (0 ≤ n)) (.chk (decide (n < l.length)) (.set d (.sref e l n.toNat 0) (.ret ()))) else .fail
        | .view s off tk i => (ownAt s off tk i).bind fun r => if r.1 = e then .chk (decide (0 ≤ n)) (.chk (decide (n < r.2.length)) (.set d (.eref s off tk i e n.toNat 0) (.ret ()))) else .fail
        | _ => .fail
      | .arr m e => match a with
        | .sref e' l ix 0 => if e' = e ∧ ix = 0 ∧ l.length = m then .chk (decide (0 ≤ n)) (.chk (decide (n < m)) (.set d (.sref e l n.toNat 0) (.ret ())))
            else if e' = t then (tiOf C e).bind fun te => .chk (decide (0 ≤ n)) (.chk (decide (n < m)) (.set d (.sref e' l ix (n.toNat * te.size)) (.ret ()))) else .fail
        | .ref s off => (tiOf C e).bind fun te => match isCon ix, off with
          | true, off => .chk (decide (0 ≤ n)) (.chk (decide (n < m)) (.set d (.ref s (off + n.toNat * te.size)) (.ret ())))
          | false, 0 => if 0 < te.size then .get s fun b => match b with
            | .box _ cs => (lift (rowsD te m cs)).bind fun l => .chk (decide (0 ≤ n)) (.chk (decide (n < m)) (.set s (.sref e l 0 0) (.set d (.sref e l n.toNat 0) (.ret ()))))
            | _ => .fail else .fail
          | false, _ => .fail
        | _ => .fail
      | _ => .fail
    | _ => .fail
  | none => .fail
def evIndex (C : Ctx) (o : Oper) (t : TypeId) (x ix : Operand) : Prg Unit :=
  match o.dst with
  | some d => (opd C t x).bind fun a => (opd C 0 ix).bind fun iv => match iv with
    | .int _ n => match a with
      | .str s => match kindOf C t with
        | some .str => .chk (decide (0 ≤ n)) (.chk (decide (n < s.size)) (.set d (.int .u8 (bt s n.toNat)) (.ret ())))
        | _ => .fail
      | .agg cs => (tiOf C t).bind fun ti => match ti.sh with
        | .arr m e => (tiOf C e).bind fun te => match te.cts with
          | [ct] => if te.agg = false ∧ te.size = 1 ∧ cs.length = m then (lift (allD ct cs)).bind fun l => .chk (decide (0 ≤ n)) (.chk (decide (n < m)) (.set d (ofD ct (rd l n.toNat)) (.ret ()))) else .fail
          | _ => .fail
        | _ => .fail
      | _ => .fail
    | _ => .fail
  | none => .fail
def evConvert (C : Ctx) (o : Oper) (src dst : TypeId) (x : Operand) : Prg Unit :=
  match o.dst with
  | some d => (opd C src x).bind fun v => match v with
    | .int _ n => match kindOf C src, kindOf C dst with
      | some (.int _), some (.int k) => .set d (.int k (k.wrap n)) (.ret ())
      | some (.int _), some .str => .set d (.str (Utf8.encode n)) (.ret ())
      | _, _ => .fail
    | .str s => match kindOf C src, kindOf C dst with
      | some .str, some .str => .set d (.str s) (.ret ())
      | some .str, some (.slice e) => (newTok d).bind fun _ => match kindOf C e with
        | some (.int .u8) => .chk (decide (s.size ≤ capB 1)) (.set d (.own d 0 e (strD s)) (.ret ()))
        | _ => .fail
      | _, _ => .fail
    | .agg cs => .fail
    | v => match kindOf C src, kindOf C dst with
      | some (.slice e), some .str => match kindOf C e with
        | some (.int .u8) => (elems v).bind fun r => if r.1 = e then .set d (.str (strOf r.2)) (.ret ()) else .fail
        | _ => .fail
      | some (.slice e), some (.slice e') => if e = e' ∧ src = dst then match kindOf C e with
          | some (.int .u8) => (match v with
            | .view s off t i => (ownAt s off t i).bind fun r => .chk (decide (0 < r.2.length)) (.set d (.view s off t i) (.ret ()))
            | _ => .fail)
          | _ => .fail else .fail
      | _, _ => .fail
  | none => .fail
def evUn (C : Ctx) (o : Oper) (op : UnOp) (t : TypeId) (x : Operand) : Prg Unit :=
  match o.dst with
  | some d => (opd C t x).bind fun v => match op, v with
    | .not, .bool b => .set d (.bool !b) (.ret ())
    | .neg, .int k n => .set d (.int k (k.wrap (0 - n))) (.ret ())
    | _, _ => .fail
  | none => .fail
def opds (C : Ctx) : List (TypeId × Operand) → Prg (List AV)
  | [] => .ret []
  | (t, x) :: xs => (opd C t x).bind fun v => (opds C xs).bind fun vs => .ret (v :: vs)
def mm (mx : Bool) (k : IntKind) (n : Int) : List AV → Option AV
  | [] => some (.int k n)
  | .int k' m :: vs => if k = k' then mm mx k (if mx then (if m > n then m else n) else (if m < n then m else n)) vs else none
  | _ => none
def evMinMax (C : Ctx) (o : Oper) (mx : Bool) (xs : List (TypeId × Operand)) : Prg Unit :=
  match o.dst with
  | some d => (opds C xs).bind fun vs => match vs with
    | .int k n :: vs => (lift (mm mx k n vs)).bind fun v => .set d v (.ret ())
    | _ => .fail
  | none => .fail
def evLen (C : Ctx) (o : Oper) (t : TypeId) (x : Operand) : Prg Unit :=
  match o.dst with
  | some d => (opd C t x).bind fun v => match kindOf C t, v with
    | some .str, .str s => .set d (.int .i64 s.size) (.ret ())
    | some (.slice _), v => (elems v).bind fun r => .set d (.int .i64 r.2.length) (.ret ())
    | _, _ => .fail
  | none => .fail
/-- What is appended: a slice's elements, or a string's bytes. -/
def appended (C : Ctx) (tx e : TypeId) (v : AV) : Prg (List Dat) :=
  match v with
  | .str s => (match kindOf C tx, kindOf C e with | some .str, some (.int .u8) => .ret (strD s) | _, _ => .fail)
  | v => (match kindOf C tx with | some (.slice _) => (elems v).bind fun r => if r.1 = e then .ret r.2 else .fail | _ => .fail)
def evAppend (C : Ctx) (o : Oper) (t tx : TypeId) (x y : Operand) : Prg Unit :=
  match o.dst with
  | some d => (sliceElem C t).bind fun et => (opd C t x).bind fun v => (opd C tx y).bind fun u => (appended C tx et.1 u).bind fun l1 => match v with
    | .nilS e => if e = et.1 then .chk (decide (l1.length ≤ capB et.2.bytes)) ((newTok d).bind fun _ => .set d (.own d 0 et.1 l1) (.ret ())) else .fail
    | .view s off tk i => (take s off tk i).bind fun r => if r.1 = et.1 then .chk (decide (r.2.length + l1.length ≤ capB et.2.bytes)) ((newTok d).bind fun _ => .set d (.own d 0 et.1 (r.2 ++ l1)) (.ret ())) else .fail
    | _ => .fail
  | none => .fail
/-- What is lent to a call: rows that are read, boxes that are read, a part of a box that the call may write. -/
structure Lent where
  rows : List (Nat × Nat × Nat × Nat)
  boxes : List Nat
  part : Option (Nat × Nat × List RK)
def Lent.none : Lent := ⟨[], [], .none⟩
def hasRow (s off t i : Nat) : List (Nat × Nat × Nat × Nat) → Bool
  | [] => false
  | (s', off', t', i') :: ps => (s.beq s' && off.beq off' && t.beq t' && i.beq i') || hasRow s off t i ps
def argC (L : Lent) : AV → Prg (AV × Lent)
  | .view s off t i => (ownAt s off t i).bind fun r => .ret (.shr r.1 r.2, match hasRow s off t i L.rows with | true => L | false => { L with rows := (s, off, t, i) :: L.rows })
  | .nilS e => .ret (.shr e [], L)
  | .int k n => .ret (.int k n, L)
  | .bool b => .ret (.bool b, L)
  | .str s => .ret (.str s, L)
  | .shr e l => .ret (.shr e l, L)
  | .sref e l ix sub => .ret (.sref e l ix sub, L)
  | .fnil => .ret (.fnil, L)
  | _ => .fail
def argCs (L : Lent) : List AV → Prg (List AV × Lent)
  | [] => .ret ([], L)
  | c :: cs => (argC L c).bind fun r => (argCs r.2 cs).bind fun q => .ret (r.1 :: q.1, q.2)
/-- A function value's box, lent to be read. -/
def capV (C : Ctx) (L : Lent) : AV → Prg (AV × Lent)
  | .ref s 0 => .get s fun b => match b with
    | .box t cs => (argCs L (views s 0 cs)).bind fun r => (tiOf C t).bind fun ti => (lift (ofCells ti r.1)).bind fun v => (lift (toD ti v)).bind fun d => if 0 < ti.size then .ret (.sref t [d] 0 0, { r.2 with boxes := s :: r.2.boxes }) else .fail
    | _ => .fail
  | .agg cs => (argCs L cs).bind fun r => .ret (.agg r.1, r.2)
  | v => argC L v
def capVs (C : Ctx) (L : Lent) : List AV → Prg (List AV × Lent)
  | [] => .ret ([], L)
  | c :: cs => (capV C L c).bind fun r => (capVs C r.2 cs).bind fun q => .ret (r.1 :: q.1, q.2)
/-- The cells of a box's part, as the call's own. -/
def retokC (j s off i : Nat) : AV → Option AV
  | .own _ _ e l => some (.own j (i + 1) e l)
  | .ref s' o => if s' = s ∧ o = off then some (.ref j 0) else none
  | .int k n => some (.int k n)
  | .bool b => some (.bool b)
  | .str s => some (.str s)
  | .shr e l => some (.shr e l)
  | .nilS e => some (.nilS e)
  | .pnil => some .pnil
  | _ => none
def retok (j s off : Nat) : Nat → List AV → Option (List AV)
  | _, [] => some []
  | i, c :: cs => (retokC j s off i c).bind fun c => (retok j s off (i + 1) cs).map (c :: ·)
def lend (j s off n : Nat) (mk : List AV → AV) (cs : List AV) : Prg AV :=
  if off + n ≤ cs.length then (lift (retok j s off 0 ((cs.drop off).take n))).bind fun seg => .set s (mk (splice cs off (List.replicate n .dead))) (.ret (.pbox seg)) else .fail
def argV (C : Ctx) (f : FuncId) (j : Nat) (L : Lent) : AV → Prg (AV × Lent)
  | .view s off t i => if C.ow f j then (take s off t i).bind fun r => .ret (.own j 0 r.1 r.2, L) else argC L (.view s off t i)
  | .nilS e => if C.ow f j then .ret (.own j 0 e [], L) else .ret (.shr e [], L)
  | .agg cs => (argCs L cs).bind fun r => .ret (.agg r.1, r.2)
  | .clo g first caps => (capVs C L first).bind fun r => (capVs C r.2 caps).bind fun q => .ret (.clo g r.1 q.1, q.2)
  | .ref s off => match C.pk f j, L.part with
    | some ks, none => .get s fun b => match b with
      | .box t cs => (lend j s off ks.length (.box t) cs).bind fun v => .ret (v, { L with part := some (s, off, ks) })
      | .pbox cs => (lend j s off ks.length .pbox cs).bind fun v => .ret (v, { L with part := some (s, off, ks) })
      | _ => .fail
    | _, _ => .fail
  | v => argC L v
def argVs (C : Ctx) (f : FuncId) : Nat → Lent → List AV → Prg (List AV × Lent)
  | _, L, [] => .ret ([], L)
  | j, L, v :: vs => (argV C f j L v).bind fun r => (argVs C f (j + 1) r.2 vs).bind fun q => .ret (r.1 :: q.1, q.2)
def freezes : List (Nat × Nat × Nat × Nat) → Prg Unit
  | [] => .ret ()
  | (s, off, t, i) :: ps => (freeze s off t i).bind fun _ => freezes ps
/-- What was lent is still in its place. -/
def rowsIn : List (Nat × Nat × Nat × Nat) → Prg Unit
  | [] => .ret ()
  | (s, off, t, i) :: ps => (ownAt s off t i).bind fun _ => rowsIn ps
def boxesIn (p : Option Nat) : List Nat → Prg Unit
  | [] => .ret ()
  | s :: ps => .get s fun v => match v, p with
    | .box _ _, none => boxesIn p ps
    | .box _ _, some q => if q = s then .fail else boxesIn p ps
    | _, _ => .fail
def widths : List RK → Nat
  | [] => 0
  | k :: ks => k.width + widths ks
def resV (d : Nat) (ks : List RK) (ds : List Dat) : AV :=
  match ks with
  | [k] => k.av d 0 (rd ds 0)
  | ks => .tup (RK.avs d ds 0 0 ks)
/-- What the call has left in the part that was lent. -/
def putBack (d b0 : Nat) (dat : Dat) : Option (Nat × Nat × List RK) → Prg Unit
  | none => .ret ()
  | some (s, off, pks) => .get d fun q => match q with
    | .und => .fail
    | _ => .get s fun b => match b with
    | .box t cs => if off + pks.length ≤ cs.length then .set s (.box t (splice cs off (RK.cellsAV d s off dat b0 0 pks))) (.ret ()) else .fail
    | .pbox cs => if off + pks.length ≤ cs.length then .set s (.pbox (splice cs off (RK.cellsAV d s off dat b0 0 pks))) (.ret ()) else .fail
    | _ => .fail
def partSl : Option (Nat × Nat × List RK) → Bool
  | some p => p.2.2.any RK.slC
  | none => false
/-- May slices come back? -/
def slOf (C : Ctx) (f : FuncId) (p : Option (Nat × Nat × List RK)) : Bool := (C.rk f).any RK.hasSl || partSl p
def callF (C : Ctx) (d : Nat) (f : FuncId) (vs : List AV) : Prg Unit :=
  (argVs C f 0 Lent.none vs).bind fun r => (rowsIn r.2.rows).bind fun _ => (boxesIn (r.2.part.map (·.1)) r.2.boxes).bind fun _ =>
    match slOf C f r.2.part, r.2.boxes with
    | true, _ :: _ => .fail
    | true, [] => (freezes r.2.rows).bind fun _ => (newTok d).bind fun _ => .call f r.1 fun ds => .set d (resV d (C.rk f) ds) (putBack d (widths (C.rk f)) (rd ds (C.rk f).length) r.2.part)
    | false, _ => (newTok d).bind fun _ => .call f r.1 fun ds => .set d (resV d (C.rk f) ds) (putBack d (widths (C.rk f)) (rd ds (C.rk f).length) r.2.part)
/-- A function value alone, or nothing. -/
def cloB : List AV → Bool
  | [] => true
  | [.clo _ [] []] => true
  | _ => false
/-- A call that turns a row in its place. -/
def ioF (C : Ctx) (d : Nat) (f : FuncId) (vs : List AV) : Prg Unit :=
  match vs with
  | .view s off t i :: cl => if cloB cl = true ∧ (C.fn f).isSome = true then (ownAt s off t i).bind fun r => (newTok d).bind fun _ => .call f (.shr r.1 r.2 :: cl) fun ds => (upd s off t i (rd ds 0).L).bind fun _ => .set d .dead (.ret ())
    else .fail
  | .nilS e :: cl => if cloB cl = true ∧ (C.fn f).isSome = true then (newTok d).bind fun _ => .call f (.shr e [] :: cl) fun _ => .set d .dead (.ret ()) else .fail
  | _ => .fail
def evCall (C : Ctx) (o : Oper) (c : Call) : Prg Unit :=
  match o.dst with
  | none => .fail
  | some d =>
    let xs := c.argTypes.toList.zip c.args.toList
    match c.callee with
    | .builtin .len => (match c.argTypes.toList, c.args.toList with | [t], [x] => evLen C o t x | _, _ => .fail)
    | .builtin .append => (match c.argTypes.toList, c.args.toList with | [t, tx], [x, y] => evAppend C o t tx x y | _, _ => .fail)
    | .builtin .min => if c.argTypes.toList.length = c.args.toList.length then evMinMax C o false xs else .fail
    | .builtin .max => if c.argTypes.toList.length = c.args.toList.length then evMinMax C o true xs else .fail
    | .builtin _ => .fail
    | .invoke _ _ => .fail
    | .value x => (opd C 0 x).bind fun fv => match fv with
      | .clo f first caps => (opds C xs).bind fun vs => if c.argTypes.toList.length = c.args.toList.length then (match C.io f with | true => ioF C d f (first ++ vs ++ caps) | false => callF C d f (first ++ vs ++ caps)) else .fail
      | _ => .fail
def plainG : AV → Bool
  | .tup _ => false
  | .clo _ _ _ => false
  | _ => true
def evMakeFunc (C : Ctx) (o : Oper) (f : FuncId) (first caps : List Operand) : Prg Unit :=
  match o.dst with
  | some d => (opds C (first.map fun x => (0, x))).bind fun a => (opds C (caps.map fun x => (0, x))).bind fun b => match a.all plainG && b.all plainG with
    | true => .set d (.clo f a b) (.ret ())
    | false => .fail
  | none => .fail
def ownsC : AV → Bool
  | .own _ _ _ _ => true
  | _ => false
def owns : AV → Bool
  | .agg cs => cs.any ownsC
  | c => ownsC c
def evExtract (C : Ctx) (o : Oper) (x : Operand) (i : Nat) : Prg Unit :=
  match o.dst, x with
  | some d, .tmp s => .get s fun v => match v with
    | .tup vs => match vs[i]? with
      | some v => if okV v then (match owns v with | true => .set s (.tup (vs.set i .dead)) (.set d v (.ret ())) | false => .set d v (.ret ())) else .fail
      | none => .fail
    | _ => .fail
  | _, _ => .fail
def evMake (C : Ctx) (o : Oper) (t : TypeId) (l c : Operand) : Prg Unit :=
  match o.dst with
  | some d => (newTok d).bind fun _ => (sliceElem C t).bind fun et => (opd C 0 l).bind fun lv => (opd C 0 c).bind fun cv => match lv, cv with
    | .int _ n, .int _ m => .chk (decide (0 ≤ n)) (.chk (decide (n ≤ m)) (.chk (decide (m ≤ capB et.2.bytes)) (.set d (.own d 0 et.1 (List.replicate n.toNat (zeroD et.2))) (.ret ()))))
    | _, _ => .fail
  | none => .fail
def evNil (C : Ctx) (o : Oper) (x : Operand) : Prg Unit :=
  match o.dst with
  | some d => (opd C o.type x).bind fun v => match v with
    | .ref s off => .set d (.ref s off) (.ret ())
    | .eref s off t i e ix sub => .set d (.eref s off t i e ix sub) (.ret ())
    | .sref e l ix sub => .set d (.sref e l ix sub) (.ret ())
    | _ => .fail
  | none => .fail
def isKind (C : Ctx) (t : TypeId) : AV → Bool
  | .bool _ => (match kindOf C t with | some .bool => true | _ => false)
  | .agg cs => C.eqs t && (match C.T t with | some ti => fitCs ti.cts cs | none => false)
  | _ => true
def evBin (C : Ctx) (o : Oper) (op : BinOp) (t : TypeId) (x y : Operand) (ty : TypeId) : Prg Unit :=
  match o.dst with
  | some d => (opd C t x).bind fun a => (opd C ty y).bind fun b => match isKind C t a with
    | true => (binP op a b).bind fun v => .set d v (.ret ())
    | false => .fail
  | none => .fail
def evOp (C : Ctx) (o : Oper) : Prg Unit :=
  match o.op with
  | .move x => evMove C o x
  | .assign x => evAssign C o x
  | .pick c a b => evPick C o c a b
  | .alloc t => evAlloc C o t
  | .box t x => evBox C o t x
  | .build t ps => evBuild C o t ps.toList
  | .buildSlice t n ps => evLit C o t n ps.toList
  | .load t p => evLoad C o t p
  | .store t p x => evStore C o t p x
  | .nilCheck x => evNil C o x
  | .binOp op t x y ty => evBin C o op t x y ty
  | .unOp op t x => evUn C o op t x
  | .convert s t x => evConvert C o s t x
  | .makeFunc (.func f) first caps => evMakeFunc C o f first.toList caps.toList
  | .makeSlice t l c => evMake C o t l c
  | .slice t x lo hi mx => evSlice C o x lo hi mx t
  | .fieldAddr t x f => evFieldAddr C o t x f
  | .field t x f => evField C o t x f
  | .indexAddr t x i => evIndexAddr C o t x i
  | .index t x i => evIndex C o t x i
  | .extract x i => evExtract C o x i
  | .call c => evCall C o c
  | _ => .fail

/-! The region, the code, the function. -/
abbrev R := Option (List Dat)
def gslot (ops : List Oper) (j : Nat) : Option Nat := (ops[j]?).bind (·.dst)
def skipD (o : Oper) (E : Env) : Option Env :=
  match o.dst with
  | some d => some (E.set d .skp)
  | none => some E
/-- An operation under its guard. -/
def stepO (C : Ctx) (cf : CF) (ops : List Oper) (o : Oper) (E : Env) (K : Env → R) : R :=
  match o.guard with
  | none => (evOp C o).run cf (fun _ E => K E) E
  | some (j, want) => match gslot ops j with
    | none => none
    | some g => match geti E g with
      | .bool c => bif c then (match want with | true => (evOp C o).run cf (fun _ E => K E) (E.set g (.bool true)) | false => (skipD o (E.set g (.bool true))).bind K)
          else (match want with | true => (skipD o (E.set g (.bool false))).bind K | false => (evOp C o).run cf (fun _ E => K E) (E.set g (.bool false)))
      | .skp => (skipD o E).bind K
      | _ => none
def evOps (C : Ctx) (cf : CF) (ops : List Oper) : List Oper → Env → (Env → R) → R
  | [], E, K => K E
  | o :: rest, E, K => stepO C cf ops o E fun E => evOps C cf ops rest E K
def isBox : AV → Bool | .box _ _ => true | .pbox _ => true | _ => false
/-- An operation that looks at a slot only for being a box: it hands on the pointer. -/
def kindMv (o : Oper) (E : Env) : Option (Nat × Nat) :=
  match o.op, o.dst with
  | .move (.tmp s), some d => bif isBox (geti E s) then some (s, d) else none
  | .assign (.tmp s), some d => bif isBox (geti E s) then some (s, d) else none
  | _, _ => none
def runX (C : Ctx) (cf : CF) (o : Oper) (E : Env) (g : List Nat) (K : Env → List Nat → List Nat → List Nat → R) : R :=
  match kindMv o E with
  | some (s, d) => K (E.set d (.ref s 0)) g [d] [s]
  | none => (evOp C o).runL cf (fun _ E r w => K E r w []) E g []
/-- The same, in a region that draws its order: each looks at nothing that another one puts, unless it waits for it. -/
def stepL (C : Ctx) (cf : CF) (ops : List Oper) (o : Oper) (E : Env) (K : Env → List Nat → List Nat → List Nat → R) : R :=
  match o.guard with
  | none => runX C cf o E [] K
  | some (j, want) => match gslot ops j with
    | none => none
    | some g => match geti E g with
      | .bool c => bif c then (match want with | true => runX C cf o (E.set g (.bool true)) [g] K | false => (skipD o (E.set g (.bool true))).bind fun E => K E [g] o.dst.toList [])
          else (match want with | true => (skipD o (E.set g (.bool false))).bind fun E => K E [g] o.dst.toList [] | false => runX C cf o (E.set g (.bool false)) [g] K)
      | .skp => (skipD o E).bind fun E => K E [g] o.dst.toList []
      | _ => none
def inter (a b : List Nat) : Bool := a.any fun x => b.contains x
def apartL (r w r' w' : List Nat) : Bool := !inter w r' && !inter w w' && !inter r w'
/-- Numbers, each once. -/
def once : List Nat → List Nat
  | [] => []
  | x :: l => bif (once l).any (Nat.beq x) then once l else x :: once l
/-- What each operation waits for, through others too. -/
def waits : List Oper → List (List Nat) → List (List Nat)
  | [], acc => acc
  | o :: rest, acc => waits rest (acc ++ [once ((o.after.toList.filter fun e => Region.binds .any e).flatMap fun e => e.on :: acc.getD e.on [])])
abbrev Log := List Nat × List Nat × List Nat × List Nat
def kindB (rk w wb : List Nat) : Bool := rk.all fun s => !w.contains s || wb.contains s
def apartK (x y : Log) : Bool := apartL x.1 x.2.1 y.1 y.2.1 && kindB y.2.2.1 x.2.1 x.2.2.2 && kindB x.2.2.1 y.2.1 y.2.2.2
def boxy (E E1 : Env) (w : List Nat) : List Nat := w.filter fun s => isBox (geti E s) && isBox (geti E1 s)
def evDraw (C : Ctx) (cf : CF) (ops : List Oper) (wt : List (List Nat)) : List (Nat × Oper) → List (Nat × Log) → Env → (Env → R) → R
  | [], _, E, K => K E
  | (i, o) :: rest, logs, E, K => stepL C cf ops o E fun E1 r w rk =>
      match (o.after.toList.all fun e => !Region.binds .any e || e.on.blt i) && logs.all fun q => (wt.getD i []).contains q.1 || apartK q.2 (r, w, rk, boxy E E1 w) with
      | true => evDraw C cf ops wt rest ((i, r, w, rk, boxy E E1 w) :: logs) E1 K
      | false => none
def tokOf : AV → Nat → Nat → AV
  | .own _ _ e l, s, i => .own s i e l
  | .nilS e, s, i => .own s i e []
  | v, _, _ => v
/-- A view's new token, if it is one still. -/
def viewOf (kp : Nat → Bool) (E : Env) (s off t i : Nat) : Option (Nat × Nat) :=
  if kp s then match geti E s with
    | .own t' i' _ _ => if off = 0 ∧ t = t' ∧ i = i' then some (s, 0) else none
    | v => match v.at? off with
      | .own t' i' _ _ => if t = t' ∧ i = i' then some (s, off + 1) else none
      | _ => none
  else none
def canC (kp : Nat → Bool) (E : Env) : AV → AV
  | .view s off t i => match viewOf kp E s off t i with | some q => .view s off q.1 q.2 | none => .dead
  | .ref s off => if kp s then (match geti E s with | .box _ _ => .ref s off | .pbox _ => .ref s off | _ => .dead) else .dead
  | .eref s off t i e ix sub => match viewOf kp E s off t i with | some q => .eref s off q.1 q.2 e ix sub | none => .dead
  | v => v
def canCs (kp : Nat → Bool) (E : Env) (s : Nat) : Nat → List AV → List AV
  | _, [] => []
  | j, c :: cs => tokOf (canC kp E c) s (j + 1) :: canCs kp E s (j + 1) cs
/-- A cell that speaks of no slot. -/
def plC : AV → Bool
  | .int _ _ => true
  | .bool _ => true
  | .str _ => true
  | .shr _ _ => true
  | .nilS _ => true
  | .sref _ _ _ _ => true
  | .fnil => true
  | .pnil => true
  | _ => false
def plG : AV → Bool
  | .agg cs => cs.all plC
  | c => plC c
def canV (kp : Nat → Bool) (E : Env) (s : Nat) : AV → AV
  | .agg cs => .agg (canCs kp E s 0 cs)
  | .box t cs => .box t (canCs kp E s 0 cs)
  | .pbox cs => .pbox (canCs kp E s 0 cs)
  | .tup _ => .dead
  | .clo f a b => bif a.all plG && b.all plG then .clo f a b else .dead
  | v => tokOf (canC kp E v) s 0
def isUnd : AV → Bool | .und => true | _ => false
def canE (kp : Nat → Bool) (E : Env) : Nat → List AV → Env
  | _, [] => []
  | s, v :: vs => (if kp s then canV kp E s v else .und) :: canE kp E (s + 1) vs
def canon (keep : List Nat) (E : Env) : Env := canE (fun s => keep.contains s && !isUnd (geti E s)) E 0 E
def loopIter (B : Env → (Exit → Env → R) → R) (keep : List Nat) (K : Exit → Env → R) : Nat → Env → R
  | 0, _ => none
  | n + 1, E => B E fun x E => match x with
    | .normal => loopIter B keep K n (canon keep E)
    | x => K x E
/-- A place to stop at. -/
def jn (f : Unit → R) : R := f ()
def evCode (C : Ctx) (cf : CF) (N : Nat) (keep : List Nat) : Code → Env → (Exit → Env → R) → R
  | .skip, E, K => K .normal E
  | .region _ ops false, E, K => jn fun _ => evOps C cf ops.toList ops.toList E (K .normal)
  | .region _ ops true, E, K => evDraw C cf ops.toList (waits ops.toList []) (ops.toList.zipIdx.map fun p => (p.2, p.1)) [] E (K .normal)
  | .seq a b, E, K => evCode C cf N keep a E fun x E => match x with
    | .normal => evCode C cf N keep b E K
    | x => K x E
  | .cond c a b, E, K => match c with
    | .tmp s => match geti E s with
      | .bool c => bif c then evCode C cf N keep a E K else evCode C cf N keep b E K
      | _ => none
    | .const (.bool c) => bif c then evCode C cf N keep a E K else evCode C cf N keep b E K
    | _ => none
  | .block id c, E, K => evCode C cf N keep c E fun x E => match x with
    | .exit id' => if id' = id then K .normal E else K (.exit id') E
    | x => K x E
  | .loop c, E, K =>
    let kp := keep.filter fun s => !isUnd (geti E s)
    loopIter (fun E K => evCode C cf N keep c E K) kp K N (canon kp E)
  | .exit id, E, K => K (.exit id) E
  | .scope c, E, K => evCode C cf N keep c E K
  | .label _, E, K => K .normal E
  | .ret, E, K => K .ret E
  | _, _, _ => none
def resDs (C : Ctx) (E : Env) : List ResultVar → List RK → R
  | [], [] => some []
  | .tmp t :: rs, k :: ks => (k.un (geti E t)).bind fun d => (resDs C E rs ks).map (d :: ·)
  | .cell a t :: rs, k :: ks => match geti E a, C.T t with
    | .box _ cs, some ti => (ofCells ti cs).bind fun v => (k.un v).bind fun d => (resDs C E rs ks).map (d :: ·)
    | _, _ => none
  | _, _ => none
def resSlots : List ResultVar → List Nat
  | [] => []
  | .tmp t :: rs => t :: resSlots rs
  | .cell a _ :: rs => a :: resSlots rs
def nodupB : List Nat → Bool
  | [] => true
  | x :: xs => !(xs.any fun y => x.beq y) && nodupB xs
/-- What stands in the box that was lent to a call. -/
def partDs (C : Ctx) (f : FuncId) (E : Env) : Nat → List AV → R
  | _, [] => some []
  | j, .pbox _ :: asx => match C.pk f j, geti E j with
    | some ks, .pbox cs => (RK.cellsUn j 0 ks cs).bind fun ds => (partDs C f E (j + 1) asx).map (.agg ds :: ·)
    | _, _ => none
  | j, _ :: asx => partDs C f E (j + 1) asx
def evBody (C : Ctx) (cf : CF) (N : Nat) (f : FuncId) (fn : Func) (c : Code) (args : List AV) : R :=
  bif !nodupB (resSlots fn.results.toList) then none else
  evCode C cf N (C.keep f) c (args ++ List.replicate (fn.ntmps - args.length) .und) fun x E => match x with
    | .normal => (resDs C E fn.results.toList (C.rk f)).bind fun a => (partDs C f E 0 args).map (a ++ ·)
    | .ret => (resDs C E fn.results.toList (C.rk f)).bind fun a => (partDs C f E 0 args).map (a ++ ·)
    | _ => none
def ev (C : Ctx) : Nat → FuncId → List AV → R
  | 0, _, _ => none
  | n + 1, f, args => match C.given f with
    | some g => g args
    | none => match C.io f with
      | true => none
      | false => match C.fn f with
        | some fn => match fn.body with
          | some c => evBody C (ev C n) n f fn c args
          | none => none
        | none => none
end Go.Ev

/- The reader's work on slots told step by step, without what comes behind it. -/
namespace Go.Ev
open Go
set_option linter.unusedVariables false
set_option linter.unusedSimpArgs false

def Prg.exec {α : Type} (cf : CF) : Prg α → Env → Option (α × Env)
  | .ret a, E => some (a, E)
  | .fail, _ => none
  | .get s k, E => (k (geti E s)).exec cf E
  | .set s v k, E => k.exec cf (E.set s v)
  | .chk c k, E => bif c then k.exec cf E else none
  | .call f args k, E => (cf f args).bind fun ds => (k ds).exec cf E
/-- The same, with the slots that were looked at, and put. -/
def Prg.execL {α : Type} (cf : CF) : Prg α → Env → List Nat → List Nat → Option (α × Env × List Nat × List Nat)
  | .ret a, E, r, w => some (a, E, r, w)
  | .fail, _, _, _ => none
  | .get s k, E, r, w => (k (geti E s)).execL cf E (s :: r) w
  | .set s v k, E, r, w => k.execL cf (E.set s v) r (s :: w)
  | .chk c k, E, r, w => bif c then k.execL cf E r w else none
  | .call f args k, E, r, w => (cf f args).bind fun ds => (k ds).execL cf E r w
variable {cf : CF} {α β : Type}
theorem Prg.run_eq (K : α → Env → Option (List Dat)) : ∀ (p : Prg α) (E : Env), p.run cf K E = (p.exec cf E).bind fun q => K q.1 q.2
  | .ret a, E => rfl
  | .fail, _ => rfl
  | .get s k, E => Prg.run_eq K (k (geti E s)) E
  | .set s v k, E => Prg.run_eq K k (E.set s v)
  | .chk c k, E => by cases c <;> simp [Prg.run, Prg.exec, Prg.run_eq K k E]
  | .call f args k, E => by
    simp only [Prg.run, Prg.exec]
    cases cf f args with
    | none => rfl
    | some ds => exact Prg.run_eq K (k ds) E
theorem Prg.runL_eq (K : α → Env → List Nat → List Nat → Option (List Dat)) : ∀ (p : Prg α) (E : Env) (r w : List Nat), p.runL cf K E r w = (p.execL cf E r w).bind fun q => K q.1 q.2.1 q.2.2.1 q.2.2.2
  | .ret a, E, r, w => rfl
  | .fail, _, _, _ => rfl
  | .get s k, E, r, w => Prg.runL_eq K (k (geti E s)) E _ _
  | .set s v k, E, r, w => Prg.runL_eq K k (E.set s v) _ _
  | .chk c k, E, r, w => by cases c <;> simp [Prg.runL, Prg.execL, Prg.runL_eq K k E]
  | .call f args k, E, r, w => by
    simp only [Prg.runL, Prg.execL]
    cases cf f args with
    | none => rfl
    | some ds => exact Prg.runL_eq K (k ds) E _ _
theorem Prg.exec_of_execL : ∀ (p : Prg α) (E : Env) (r w : List Nat), p.exec cf E = (p.execL cf E r w).map fun q => (q.1, q.2.1)
  | .ret a, E, r, w => rfl
  | .fail, _, _, _ => rfl
  | .get s k, E, r, w => Prg.exec_of_execL (k (geti E s)) E _ _
  | .set s v k, E, r, w => Prg.exec_of_execL k (E.set s v) _ _
  | .chk c k, E, r, w => by cases c <;> simp [Prg.exec, Prg.execL, ← Prg.exec_of_execL k E r w]
  | .call f args k, E, r, w => by
    simp only [Prg.exec, Prg.execL]
    cases cf f args with
    | none => rfl
    | some ds => exact Prg.exec_of_execL (k ds) E _ _
theorem Prg.exec_bind (f : α → Prg β) : ∀ (p : Prg α) (E : Env), (p.bind f).exec cf E = (p.exec cf E).bind fun q => (f q.1).exec cf q.2
  | .ret a, E => rfl
  | .fail, _ => rfl
  | .get s k, E => Prg.exec_bind f (k (geti E s)) E
  | .set s v k, E => Prg.exec_bind f k (E.set s v)
  | .chk c k, E => by cases c <;> simp [Prg.bind, Prg.exec, Prg.exec_bind f k E]
  | .call g args k, E => by
    simp only [Prg.bind, Prg.exec]
    cases cf g args with
    | none => rfl
    | some ds => exact Prg.exec_bind f (k ds) E
theorem geti_set (E : Env) (s : Nat) (v : AV) (x : Nat) : geti (E.set s v) x = if x = s ∧ s < E.length then v else geti E x := by
  simp only [geti, List.getD_eq_getElem?_getD, List.getElem?_set]
  by_cases h : s = x
  · subst h
    by_cases hl : s < E.length
    · simp [hl]
    · simp [hl, List.getElem?_eq_none (Nat.le_of_not_lt hl)]
  · have : ¬ x = s := fun e => h e.symm
    simp [h, this]
theorem geti_ge {E : Env} {s : Nat} (h : E.length ≤ s) : geti E s = .und := by
  simp [geti, List.getElem?_eq_none h]
/-- Slots that it looks at being alike, it does alike; of the rest it turns nothing. -/
theorem Prg.execL_local : ∀ (p : Prg α) (E E2 : Env) (r w : List Nat) (a : α) (E1 : Env) (r1 w1 : List Nat), p.execL cf E r w = some (a, E1, r1, w1) → E2.length = E.length → (∀ s ∈ r1, s ∉ w → geti E2 s = geti E s) → (∀ s ∈ w, geti E2 s = geti E s) →
    ∃ E3, p.execL cf E2 r w = some (a, E3, r1, w1) ∧ E3.length = E2.length ∧ E1.length = E.length ∧ (∀ s ∈ w1, geti E3 s = geti E1 s) ∧ (∀ s, s ∉ w1 → geti E3 s = geti E2 s ∧ geti E1 s = geti E s) ∧ (∀ s ∈ w, s ∈ w1) ∧ (∀ s ∈ r, s ∈ r1)
  | .ret a, E, E2, r, w, b, E1, r1, w1, h, hl, hr, hw => by
    simp only [Prg.execL, Option.some.injEq, Prod.mk.injEq] at h
    obtain ⟨rfl, rfl, rfl, rfl⟩ := h
    exact ⟨E2, rfl, rfl, rfl, hw, fun s hs => ⟨rfl, rfl⟩, fun _ h => h, fun _ h => h⟩
  | .fail, _, _, _, _, _, _, _, _, h, _, _, _ => by simp [Prg.execL] at h
  | .get s k, E, E2, r, w, b, E1, r1, w1, h, hl, hr, hw => by
    simp only [Prg.execL] at h ⊢
    have hs : geti E2 s = geti E s := by
      have hmem : s ∈ r1 := by
        obtain ⟨_, _, _, _, _, _, _, h7⟩ := Prg.execL_local (k (geti E s)) E E (s :: r) w b E1 r1 w1 h rfl (fun _ _ _ => rfl) (fun _ _ => rfl)
        exact h7 s (List.mem_cons_self)
      by_cases hin : s ∈ w
      · exact hw s hin
      · exact hr s hmem hin
    rw [hs]
    obtain ⟨E3, h1, h2, h3, h4, h5, h6, h7⟩ := Prg.execL_local (k (geti E s)) E E2 (s :: r) w b E1 r1 w1 h hl hr hw
    exact ⟨E3, h1, h2, h3, h4, h5, h6, fun x hx => h7 x (List.mem_cons_of_mem _ hx)⟩
  | .set s v k, E, E2, r, w, b, E1, r1, w1, h, hl, hr, hw => by
    simp only [Prg.execL] at h ⊢
    have hset : ∀ x, x = s ∨ geti E2 x = geti E x → geti (E2.set s v) x = geti (E.set s v) x := by
      intro x hx
      rw [geti_set, geti_set, hl]
      by_cases h : x = s ∧ s < E.length
      · rw [if_pos h, if_pos h]
      · rw [if_neg h, if_neg h]
        rcases hx with rfl | hx
        · have : E.length ≤ x := Nat.le_of_not_lt fun hlt => h ⟨rfl, hlt⟩
          rw [geti_ge this, geti_ge (by omega)]
        · exact hx
    obtain ⟨E3, h1, h2, h3, h4, h5, h6, h7⟩ := Prg.execL_local k (E.set s v) (E2.set s v) r (s :: w) b E1 r1 w1 h (by simp [hl])
      (fun x hx hn => by
        rw [List.mem_cons, not_or] at hn
        exact hset x (.inr (hr x hx hn.2)))
      (fun x hx => by
        rcases List.mem_cons.1 hx with rfl | hx
        · exact hset _ (.inl rfl)
        · exact hset x (.inr (hw x hx)))
    refine ⟨E3, h1, by simpa using h2, by simpa using h3, h4, fun x hx => ?_, fun x hx => h6 x (List.mem_cons_of_mem _ hx), h7⟩
    have hxs : x ≠ s := fun e => hx (e ▸ h6 s (List.mem_cons_self))
    obtain ⟨g1, g2⟩ := h5 x hx
    rw [geti_set, if_neg (fun hh => hxs hh.1)] at g1 g2
    exact ⟨g1, g2⟩
  | .chk c k, E, E2, r, w, b, E1, r1, w1, h, hl, hr, hw => by
    cases c with
    | true => exact Prg.execL_local k E E2 r w b E1 r1 w1 h hl hr hw
    | false => simp [Prg.execL] at h
  | .call f args k, E, E2, r, w, b, E1, r1, w1, h, hl, hr, hw => by
    simp only [Prg.execL] at h ⊢
    cases hc : cf f args with
    | none => simp [hc] at h
    | some ds =>
      simp only [hc, Option.bind_some] at h ⊢
      exact Prg.execL_local (k ds) E E2 r w b E1 r1 w1 h hl hr hw
end Go.Ev

/- What a slot is told to hold stays true while the memory that it has, and what is shared, stays as it is. -/
namespace Go.Ev
open Go
set_option linter.unusedVariables false
set_option linter.unusedSimpArgs false

def HAg (H H' : Gh) (x : Nat) : Prop := H'.bx x = H.bx x ∧ ∀ i, H'.hd x i = H.hd x i
theorem HAg.refl (H : Gh) (x : Nat) : HAg H H x := ⟨rfl, fun _ => rfl⟩
variable {T : TypeId → Option TI} {w w' : World} {St St' : Nat → Prop} {H H' : Gh}
theorem Own.mono {e : TypeId} {l : List Dat} {v : Value} {fp : List Nat} (h : Own T w St e l v fp) (hs : ∀ b, St b → St' b) (hw : ∀ b, St b → w'.heap[b]? = w.heap[b]?) (hf : ∀ b, b ∈ fp → w'.heap[b]? = w.heap[b]?) : Own T w' St' e l v fp := by
  obtain ⟨ti, a, cap, h1, h3, h4, h5⟩ := h
  refine ⟨ti, a, cap, h1, h3, h4, ?_⟩
  rcases h5 with h5 | ⟨b, o, arr, et, fz, g1, g2, g3, g4, g5, g6⟩
  · exact .inl h5
  · have hb : w'.heap[b]? = w.heap[b]? := hf b (by rw [g2]; exact List.mem_singleton_self b)
    exact .inr ⟨b, o, arr, et, fz, g1, g2, by rw [hb]; exact g3, g4, g5, g6.mono hs hw hb⟩
theorem RelC.mono {c : AV} {v : Value} {fp : List Nat} (h : RelC T w St H v fp c) (hs : ∀ b, St b → St' b) (hw : ∀ b, St b → w'.heap[b]? = w.heap[b]?) (hf : ∀ b, b ∈ fp → w'.heap[b]? = w.heap[b]?)
    (hm : ∀ x, mentC x c = true → HAg H H' x) : RelC T w' St' H' v fp c := by
  cases c <;> simp only [RelC] at h ⊢ <;> try exact h
  case shr e l => exact ⟨h.1, h.2.mono hs hw⟩
  case own t i e l =>
    refine ⟨?_, h.2.mono hs hw hf⟩
    rw [(hm t (by simp [mentC])).2]
    exact h.1
  case view s off t i =>
    refine ⟨h.1, ?_⟩
    rw [(hm t (by simp [mentC])).2]
    exact h.2
  case ref s off =>
    refine ⟨h.1, ?_⟩
    rw [(hm s (by simp [mentC])).1]
    exact h.2
  case eref s off t i e ix sub =>
    obtain ⟨h0, ti, b, o, len, cap, h1, h2, h3⟩ := h
    exact ⟨h0, ti, b, o, len, cap, h1, by rw [(hm t (by simp [mentC])).2]; exact h2, h3⟩
  case sref e l ix sub =>
    obtain ⟨h0, ti, b, o, h1, h2, h3, h4, h5⟩ := h
    exact ⟨h0, ti, b, o, h1, h2, h3, hs b h4, h5.mono hs hw (hw b h4)⟩
theorem Cells.mono : ∀ {vs : List Value} {fp : List Nat} {cs : List AV}, Cells T w St H vs fp cs → (∀ b, St b → St' b) → (∀ b, St b → w'.heap[b]? = w.heap[b]?) → (∀ b, b ∈ fp → w'.heap[b]? = w.heap[b]?) →
    (∀ x, cs.any (mentC x) = true → HAg H H' x) → Cells T w' St' H' vs fp cs
  | [], _, [], h, _, _, _, _ => h
  | [], _, _ :: _, h, _, _, _, _ => h.elim
  | _ :: _, _, [], h, _, _, _, _ => h.elim
  | v :: vs, fp, c :: cs, h, hs, hw, hf, hm => by
    obtain ⟨f1, f2, rfl, h1, h2⟩ := h
    refine ⟨f1, f2, rfl, h1.mono hs hw (fun b hb => hf b (List.mem_append_left _ hb)) (fun x hx => hm x (by simp [hx])), ?_⟩
    exact Cells.mono h2 hs hw (fun b hb => hf b (List.mem_append_right _ hb)) (fun x hx => hm x (by rw [List.any_cons, hx, Bool.or_true]))
def mentG (x : Nat) : AV → Bool
  | .agg cs => cs.any (mentC x)
  | c => mentC x c
theorem RelG.mono {c : AV} {v : Value} {fp : List Nat} (h : RelG T w St H v fp c) (hs : ∀ b, St b → St' b) (hw : ∀ b, St b → w'.heap[b]? = w.heap[b]?) (hf : ∀ b, b ∈ fp → w'.heap[b]? = w.heap[b]?)
    (hm : ∀ x, mentG x c = true → HAg H H' x) : RelG T w' St' H' v fp c := by
  cases c
  case agg cs =>
    obtain ⟨vs, h1, h2⟩ := h
    exact ⟨vs, h1, h2.mono hs hw hf hm⟩
  all_goals (simp only [RelG] at h ⊢; exact RelC.mono h hs hw hf hm)
theorem Gs.mono : ∀ {vs : List Value} {fp : List Nat} {cs : List AV}, Gs T w St H vs fp cs → (∀ b, St b → St' b) → (∀ b, St b → w'.heap[b]? = w.heap[b]?) → (∀ b, b ∈ fp → w'.heap[b]? = w.heap[b]?) →
    (∀ x, cs.any (mentG x) = true → HAg H H' x) → Gs T w' St' H' vs fp cs
  | [], _, [], h, _, _, _, _ => h
  | [], _, _ :: _, h, _, _, _, _ => h.elim
  | _ :: _, _, [], h, _, _, _, _ => h.elim
  | v :: vs, fp, c :: cs, h, hs, hw, hf, hm => by
    obtain ⟨f1, f2, rfl, h1, h2⟩ := h
    refine ⟨f1, f2, rfl, h1.mono hs hw (fun b hb => hf b (List.mem_append_left _ hb)) (fun x hx => hm x (by simp [hx])), ?_⟩
    exact Gs.mono h2 hs hw (fun b hb => hf b (List.mem_append_right _ hb)) (fun x hx => hm x (by rw [List.any_cons, hx, Bool.or_true]))
theorem ment_eq (x : Nat) (v : AV) : ment x v = match v with
    | .agg cs => cs.any (mentC x)
    | .tup vs => vs.any (mentG x)
    | .box _ cs => cs.any (mentC x)
    | .pbox cs => cs.any (mentC x)
    | .clo _ a b => a.any (mentG x) || b.any (mentG x)
    | c => mentC x c := by
  have e : (fun v : AV => match v with | .agg cs => cs.any (mentC x) | c => mentC x c) = mentG x := by funext v; cases v <;> rfl
  cases v <;> first | rfl | (simp only [ment]; rw [e])
theorem RelS.mono {c : AV} {v : Value} {fp : List Nat} (h : RelS T w St H v fp c) (hs : ∀ b, St b → St' b) (hw : ∀ b, St b → w'.heap[b]? = w.heap[b]?) (hf : ∀ b, b ∈ fp → w'.heap[b]? = w.heap[b]?)
    (hm : ∀ x, ment x c = true → HAg H H' x) (hpb : ∀ cs b o, c = .pbox cs → v = .pointer (some ⟨b, o, none⟩) → w'.heap[b]? = w.heap[b]?) : RelS T w' St' H' v fp c := by
  simp only [ment_eq] at hm
  cases c
  case tup vs =>
    obtain ⟨us, h1, h2⟩ := h
    exact ⟨us, h1, h2.mono hs hw hf hm⟩
  case box t cs =>
    obtain ⟨b, arr, et, fz, f2, h1, rfl, h3, h4, h5, h6⟩ := h
    exact ⟨b, arr, et, fz, f2, h1, rfl, by rw [hf b List.mem_cons_self]; exact h3, h4, h5, h6.mono hs hw (fun b hb => hf b (List.mem_cons_of_mem _ hb)) hm⟩
  case pbox cs =>
    obtain ⟨b, o, arr, et, fz, h1, h3, h4, h5, h6⟩ := h
    exact ⟨b, o, arr, et, fz, h1, by rw [hpb _ b o rfl h1]; exact h3, h4, h5, h6.mono hs hw hf hm⟩
  case clo f a b =>
    obtain ⟨us, vs, h1, rfl, h3, h4⟩ := h
    exact ⟨us, vs, h1, rfl, h3.mono hs hw hf (fun x hx => hm x (by simp only [hx, Bool.true_or])),
      h4.mono hs hw hf (fun x hx => hm x (by simp only [hx, Bool.or_true]))⟩
  case agg cs =>
    obtain ⟨vs, h1, h2⟩ := h
    exact ⟨vs, h1, h2.mono hs hw hf hm⟩
  all_goals (simp only [RelS, RelG] at h ⊢; exact RelC.mono h hs hw hf hm)

/-! Rows of cells, put together and taken apart. -/
theorem Cells.length : ∀ {vs : List Value} {fp : List Nat} {cs : List AV}, Cells T w St H vs fp cs → vs.length = cs.length
  | [], _, [], _ => rfl
  | [], _, _ :: _, h => h.elim
  | _ :: _, _, [], h => h.elim
  | _ :: vs, _, _ :: cs, h => by
    obtain ⟨f1, f2, _, _, h2⟩ := h
    simp [Cells.length h2]
theorem Cells.append : ∀ {vs : List Value} {f : List Nat} {cs : List AV} {vs' : List Value} {f' : List Nat} {cs' : List AV}, Cells T w St H vs f cs → Cells T w St H vs' f' cs' → Cells T w St H (vs ++ vs') (f ++ f') (cs ++ cs')
  | [], _, [], _, _, _, h, h' => by
    simp only [Cells] at h
    subst h
    exact h'
  | [], _, _ :: _, _, _, _, h, _ => h.elim
  | _ :: _, _, [], _, _, _, h, _ => h.elim
  | v :: vs, _, c :: cs, vs', f', cs', h, h' => by
    obtain ⟨f1, f2, rfl, h1, h2⟩ := h
    exact ⟨f1, f2 ++ f', by rw [List.append_assoc], h1, Cells.append h2 h'⟩
theorem Cells.split : ∀ {vs : List Value} {f : List Nat} {cs cs' : List AV}, Cells T w St H vs f (cs ++ cs') → ∃ vs1 vs2 f1 f2, vs = vs1 ++ vs2 ∧ f = f1 ++ f2 ∧ vs1.length = cs.length ∧ Cells T w St H vs1 f1 cs ∧ Cells T w St H vs2 f2 cs'
  | vs, f, [], cs', h => ⟨[], vs, [], f, rfl, rfl, rfl, rfl, h⟩
  | [], _, _ :: _, _, h => h.elim
  | v :: vs, f, c :: cs, cs', h => by
    obtain ⟨f1, f2, rfl, h1, h2⟩ := h
    obtain ⟨vs1, vs2, g1, g2, rfl, rfl, hl, h3, h4⟩ := Cells.split h2
    exact ⟨v :: vs1, vs2, f1 ++ g1, g2, rfl, by rw [List.append_assoc], by simp [hl], ⟨f1, g1, rfl, h1, h3⟩, h4⟩
theorem Cells.get : ∀ {vs : List Value} {f : List Nat} {cs : List AV} (i : Nat) {c : AV}, Cells T w St H vs f cs → cs[i]? = some c → ∃ v fc, vs[i]? = some v ∧ (∀ b, b ∈ fc → b ∈ f) ∧ RelC T w St H v fc c
  | [], _, [], _, _, _, h => by simp at h
  | [], _, _ :: _, _, _, h, _ => h.elim
  | _ :: _, _, [], _, _, h, _ => h.elim
  | v :: vs, _, c :: cs, 0, c', h, hc => by
    obtain ⟨f1, f2, rfl, h1, h2⟩ := h
    simp only [List.getElem?_cons_zero, Option.some.injEq] at hc
    subst hc
    exact ⟨v, f1, rfl, fun b hb => List.mem_append_left _ hb, h1⟩
  | v :: vs, _, c :: cs, i + 1, c', h, hc => by
    obtain ⟨f1, f2, rfl, h1, h2⟩ := h
    obtain ⟨u, fc, g1, g2, g3⟩ := Cells.get i h2 (by simpa using hc)
    exact ⟨u, fc, by simpa using g1, fun b hb => List.mem_append_right _ (g2 b hb), g3⟩
/-- One cell told otherwise. -/
theorem Cells.setC : ∀ {vs : List Value} {f : List Nat} {cs : List AV} (i : Nat) {c : AV}, Cells T w St H vs f cs → cs[i]? = some c → ∃ v fc fr, vs[i]? = some v ∧ f.Perm (fc ++ fr) ∧ RelC T w St H v fc c ∧
    ∀ w' St', (∀ b, St b → St' b) → (∀ b, St b → w'.heap[b]? = w.heap[b]?) → (∀ b, b ∈ fr → w'.heap[b]? = w.heap[b]?) → ∀ v' c' fc', RelC T w' St' H v' fc' c' → ∃ f', f'.Perm (fc' ++ fr) ∧ Cells T w' St' H (vs.set i v') f' (cs.set i c')
  | [], _, [], _, _, _, h => by simp at h
  | [], _, _ :: _, _, _, h, _ => h.elim
  | _ :: _, _, [], _, _, h, _ => h.elim
  | v :: vs, _, c :: cs, 0, c', h, hc => by
    obtain ⟨f1, f2, rfl, h1, h2⟩ := h
    simp only [List.getElem?_cons_zero, Option.some.injEq] at hc
    subst hc
    exact ⟨v, f1, f2, rfl, List.Perm.refl _, h1, fun w' St' hs hw hf v' c' fc' h' => ⟨fc' ++ f2, List.Perm.refl _, fc', f2, rfl, h', h2.mono hs hw hf (fun x _ => HAg.refl H x)⟩⟩
  | v :: vs, _, c :: cs, i + 1, c', h, hc => by
    obtain ⟨f1, f2, rfl, h1, h2⟩ := h
    obtain ⟨u, fc, fr, g1, g2, g3, g5⟩ := Cells.setC i h2 (by simpa using hc)
    have pm : ∀ {x : List Nat} {fc' : List Nat}, x.Perm (fc' ++ fr) → (f1 ++ x).Perm (fc' ++ (f1 ++ fr)) := fun {x fc'} hx => by
      have e1 : (f1 ++ x).Perm (f1 ++ (fc' ++ fr)) := List.Perm.append_left _ hx
      refine e1.trans ?_
      rw [← List.append_assoc, ← List.append_assoc]
      exact List.Perm.append_right _ List.perm_append_comm
    refine ⟨u, fc, f1 ++ fr, by simpa using g1, pm g2, g3, fun w' St' hs hw hf v' c' fc' h' => ?_⟩
    obtain ⟨f', k1, k2⟩ := g5 w' St' hs hw (fun b hb => hf b (List.mem_append_right _ hb)) v' c' fc' h'
    exact ⟨f1 ++ f', pm k1, f1, f', rfl, h1.mono hs hw (fun b hb => hf b (List.mem_append_left _ hb)) (fun x _ => HAg.refl H x), k2⟩
end Go.Ev

/- What holds between a frame's slots, the memory and what the reader tells of them; the moves under which it holds on. -/
namespace Go.Ev
open Go
set_option linter.unusedVariables false
set_option linter.unusedSimpArgs false

/-- What a call found: its world, what is shared, which blocks it may write, its arguments; the part of a box that was lent to it (slot, block, from, how many cells). -/
structure Frm where
  w0 : World
  St0 : Nat → Prop
  O : List Nat
  pb : Option (Nat × Nat × Nat × Nat)

structure Keep (S : Frm) (w : World) : Prop where
  os : w.os = S.w0.os
  tape : w.tape = S.w0.tape
  output : w.output = S.w0.output
  size : S.w0.heap.size ≤ w.heap.size
  heap : ∀ k, k < S.w0.heap.size → k ∉ S.O → w.heap[k]? = S.w0.heap[k]?
  part : ∀ j b o n, S.pb = some (j, b, o, n) → ∃ arr0 arr et fz, S.w0.heap[b]? = some (.cells arr0 et fz) ∧ w.heap[b]? = some (.cells arr et fz) ∧ arr.size = arr0.size ∧ ∀ x, x < o ∨ o + n ≤ x → arr[x]? = arr0[x]?

structure Inv (T : TypeId → Option TI) (S : Frm) (tmps : Array Value) (w : World) (St : Nat → Prop) (H : Gh) (F : Nat → List Nat) (E : Env) (A : List Nat) : Prop where
  len : E.length = tmps.size
  keep : Keep S w
  st0 : ∀ b, S.St0 b → St b
  stl : ∀ b, St b → b < w.heap.size ∧ (S.St0 b ∨ b ∈ S.O ∨ S.w0.heap.size ≤ b)
  rel : ∀ s, s < E.length → RelS T w St H (tmps.getD s undef) (F s) (geti E s)
  out : ∀ s, E.length ≤ s → F s = []
  one : ∀ s t b, b ∈ F s → b ∈ F t → s = t
  nd : ∀ s, (F s).Nodup
  fre : ∀ s b, b ∈ F s → ¬ St b ∧ b ∉ A ∧ b < w.heap.size ∧ (b ∈ S.O ∨ S.w0.heap.size ≤ b)
  and : A.Nodup
  afr : ∀ b, b ∈ A → ¬ St b ∧ b < w.heap.size ∧ (b ∈ S.O ∨ S.w0.heap.size ≤ b)
  ment : ∀ s x, ment x (geti E s) = true → geti E x ≠ .und
  box : ∀ s, isBox (geti E s) = true → tmps.getD s undef = .pointer (some ⟨(H.bx s).1, (H.bx s).2, none⟩)
  pbox : ∀ s cs, geti E s = .pbox cs → ∃ b o, S.pb = some (s, b, o, cs.length) ∧ H.bx s = (b, o)
  pbx : ∀ j b o n, S.pb = some (j, b, o, n) → ¬ St b ∧ b ∉ A ∧ b < S.w0.heap.size ∧ ∀ s, b ∉ F s

variable {T : TypeId → Option TI} {S : Frm} {tmps : Array Value} {w w' : World} {St St' : Nat → Prop} {H H' : Gh} {F : Nat → List Nat} {E : Env} {A f fd : List Nat}

theorem tmps_set (tmps : Array Value) (d : Nat) (u : Value) (s : Nat) : (tmps.setIfInBounds d u).getD s undef = if s = d ∧ d < tmps.size then u else tmps.getD s undef := by
  rw [Array.getD_eq_getD_getElem?, Array.getD_eq_getD_getElem?, Array.getElem?_setIfInBounds]
  by_cases h : d = s
  · subst h
    by_cases hl : d < tmps.size
    · simp [hl]
    · rw [if_pos rfl, if_neg hl, if_neg (fun q => hl q.2), Array.getElem?_eq_none (Nat.le_of_not_lt hl)]
  · rw [if_neg h, if_neg (fun q => h q.1.symm)]
theorem tmps_same (tmps : Array Value) (d : Nat) : tmps.setIfInBounds d (tmps.getD d undef) = tmps := by
  apply Array.ext_getElem?
  intro i
  rw [Array.getElem?_setIfInBounds]
  split
  · rename_i h
    subst h
    split
    · rename_i hl
      rw [Array.getElem?_eq_getElem hl]
      rfl
    · rename_i hl
      rw [Array.getElem?_eq_none (Nat.le_of_not_lt hl)]
  · rfl

theorem RelS.dead (v : Value) : RelS T w St H v [] .dead := rfl
theorem RelS_of_RelC {c : AV} {v : Value} {fp : List Nat} (h : RelC T w St H v fp c) : RelS T w St H v fp c := by
  cases c <;> first | exact h | exact h.elim
theorem RelG_of_RelC {c : AV} {v : Value} {fp : List Nat} (h : RelC T w St H v fp c) : RelG T w St H v fp c := by
  cases c <;> first | exact h | exact h.elim

/-- What is in hand may be let go. -/
theorem Inv.drop (h : Inv T S tmps w St H F E (f ++ A)) : Inv T S tmps w St H F E A :=
  { h with
    fre := fun s b hb => ⟨(h.fre s b hb).1, fun ha => (h.fre s b hb).2.1 (List.mem_append_right _ ha), (h.fre s b hb).2.2⟩
    and := (List.nodup_append.1 h.and).2.1
    afr := fun b hb => h.afr b (List.mem_append_right _ hb)
    pbx := fun j b o n hp => ⟨(h.pbx j b o n hp).1, fun ha => (h.pbx j b o n hp).2.1 (List.mem_append_right _ ha), (h.pbx j b o n hp).2.2⟩ }
theorem Inv.perm {A' : List Nat} (h : Inv T S tmps w St H F E A) (hp : A.Perm A') : Inv T S tmps w St H F E A' :=
  { h with
    fre := fun s b hb => ⟨(h.fre s b hb).1, fun ha => (h.fre s b hb).2.1 (hp.mem_iff.2 ha), (h.fre s b hb).2.2⟩
    and := hp.nodup_iff.1 h.and
    afr := fun b hb => h.afr b (hp.mem_iff.2 hb)
    pbx := fun j b o n hq => ⟨(h.pbx j b o n hq).1, fun ha => (h.pbx j b o n hq).2.1 (hp.mem_iff.2 ha), (h.pbx j b o n hq).2.2⟩ }
/-- A slot's blocks taken in hand. -/
theorem Inv.lift (h : Inv T S tmps w St H F E A) (s : Nat) : Inv T S tmps w St H (fun x => if x = s then [] else F x) (E.set s .dead) (F s ++ A) where
  len := by simpa using h.len
  keep := h.keep
  st0 := h.st0
  stl := h.stl
  rel := fun x hx => by
    rw [geti_set]
    by_cases hxs : x = s
    · subst hxs
      have hl : x < E.length := by simpa using hx
      rw [if_pos (⟨rfl, hl⟩ : x = x ∧ x < E.length)]
      simp only [if_true]
      exact RelS.dead _
    · rw [if_neg (fun q : x = s ∧ s < E.length => hxs q.1)]
      simp only [hxs, if_false]
      exact h.rel x (by simpa using hx)
  out := fun x hx => by
    by_cases hxs : x = s
    · simp [hxs]
    · rw [if_neg hxs]
      exact h.out x (by simpa using hx)
  one := fun x y b hx hy => by
    by_cases h1 : x = s
    · simp [h1] at hx
    · by_cases h2 : y = s
      · simp [h2] at hy
      · rw [if_neg h1] at hx
        rw [if_neg h2] at hy
        exact h.one x y b hx hy
  nd := fun x => by
    by_cases h1 : x = s
    · simp [h1]
    · rw [if_neg h1]
      exact h.nd x
  fre := fun x b hb => by
    by_cases h1 : x = s
    · simp [h1] at hb
    · rw [if_neg h1] at hb
      refine ⟨(h.fre x b hb).1, fun ha => ?_, (h.fre x b hb).2.2⟩
      rcases List.mem_append.1 ha with ha | ha
      · exact h1 (h.one x s b hb ha)
      · exact (h.fre x b hb).2.1 ha
  and := List.nodup_append.2 ⟨h.nd s, h.and, fun a ha b hb e => (h.fre s a ha).2.1 (e ▸ hb)⟩
  afr := fun b hb => by
    rcases List.mem_append.1 hb with hb | hb
    · exact ⟨(h.fre s b hb).1, (h.fre s b hb).2.2⟩
    · exact h.afr b hb
  ment := fun x y hm => by
    rw [geti_set] at hm
    by_cases hc : x = s ∧ s < E.length
    · rw [if_pos hc] at hm
      exact absurd hm (by simp [Ev.ment, mentC])
    · rw [if_neg hc] at hm
      rw [geti_set]
      split
      · simp
      · exact h.ment x y hm
  box := fun x hx => by
    rw [geti_set] at hx
    by_cases hc : x = s ∧ s < E.length
    · rw [if_pos hc] at hx
      simp [isBox] at hx
    · rw [if_neg hc] at hx
      exact h.box x hx
  pbox := fun x cs hx => by
    rw [geti_set] at hx
    by_cases hc : x = s ∧ s < E.length
    · rw [if_pos hc] at hx
      simp at hx
    · rw [if_neg hc] at hx
      exact h.pbox x cs hx
  pbx := fun j b o n hp => by
    obtain ⟨h1, h2, h3, h4⟩ := h.pbx j b o n hp
    refine ⟨h1, fun ha => ?_, h3, fun x hx => ?_⟩
    · rcases List.mem_append.1 ha with ha | ha
      · exact h4 s ha
      · exact h2 ha
    · split at hx
      · cases hx
      · exact h4 x hx
/-- A slot given something that is in hand. -/
theorem Inv.put (h : Inv T S tmps w St H F E (fd ++ A)) (d : Nat) (u : Value) (v : AV) (hr : RelS T w St H u fd v) (hv : v ≠ .und) (hm : ∀ x, Ev.ment x v = true → x ≠ d → geti E x ≠ .und)
    (hb : isBox v = true → u = .pointer (some ⟨(H.bx d).1, (H.bx d).2, none⟩)) (hp : ∀ cs, v = .pbox cs → ∃ b o, S.pb = some (d, b, o, cs.length) ∧ H.bx d = (b, o)) :
    Inv T S (tmps.setIfInBounds d u) w St H (fun x => if x = d ∧ d < E.length then fd else F x) (E.set d v) A where
  len := by simpa using h.len
  keep := h.keep
  st0 := h.st0
  stl := h.stl
  rel := fun x hx => by
    have hx' : x < E.length := by simpa using hx
    rw [geti_set, tmps_set]
    by_cases hc : x = d ∧ d < E.length
    · rw [if_pos hc, if_pos hc, if_pos (by rw [← h.len]; exact hc)]
      exact hr
    · rw [if_neg hc, if_neg hc, if_neg (by rw [← h.len]; exact hc)]
      exact h.rel x hx'
  out := fun x hx => by
    have hx' : E.length ≤ x := by simpa using hx
    rw [if_neg (fun q => by omega)]
    exact h.out x hx'
  one := fun x y b hx hy => by
    by_cases h1 : x = d ∧ d < E.length
    · by_cases h2 : y = d ∧ d < E.length
      · rw [h1.1, h2.1]
      · rw [if_pos h1] at hx
        rw [if_neg h2] at hy
        exact absurd (List.mem_append_left _ hx) (h.fre y b hy).2.1
    · by_cases h2 : y = d ∧ d < E.length
      · rw [if_neg h1] at hx
        rw [if_pos h2] at hy
        exact absurd (List.mem_append_left _ hy) (h.fre x b hx).2.1
      · rw [if_neg h1] at hx
        rw [if_neg h2] at hy
        exact h.one x y b hx hy
  nd := fun x => by
    split
    · exact (List.nodup_append.1 h.and).1
    · exact h.nd x
  fre := fun x b hb => by
    split at hb
    · refine ⟨(h.afr b (List.mem_append_left _ hb)).1, fun ha => ?_, (h.afr b (List.mem_append_left _ hb)).2⟩
      exact (List.nodup_append.1 h.and).2.2 b hb b ha rfl
    · exact ⟨(h.fre x b hb).1, fun ha => (h.fre x b hb).2.1 (List.mem_append_right _ ha), (h.fre x b hb).2.2⟩
  and := (List.nodup_append.1 h.and).2.1
  afr := fun b hb => h.afr b (List.mem_append_right _ hb)
  ment := fun x y hm' => by
    rw [geti_set] at hm'
    rw [geti_set]
    by_cases hy : y = d ∧ d < E.length
    · rw [if_pos hy]
      exact hv
    · rw [if_neg hy]
      by_cases hc : x = d ∧ d < E.length
      · rw [if_pos hc] at hm'
        by_cases hyd : y = d
        · exact absurd ⟨hyd, hc.2⟩ hy
        · exact hm y hm' hyd
      · rw [if_neg hc] at hm'
        exact h.ment x y hm'
  box := fun x hx => by
    rw [geti_set] at hx
    rw [tmps_set]
    by_cases hc : x = d ∧ d < E.length
    · rw [if_pos hc] at hx
      rw [if_pos (by rw [← h.len]; exact hc), hc.1]
      exact hb hx
    · rw [if_neg hc] at hx
      rw [if_neg (by rw [← h.len]; exact hc)]
      exact h.box x hx
  pbox := fun x cs hx => by
    rw [geti_set] at hx
    by_cases hc : x = d ∧ d < E.length
    · rw [if_pos hc] at hx
      rw [hc.1]
      exact hp cs hx
    · rw [if_neg hc] at hx
      exact h.pbox x cs hx
  pbx := fun j b o n hp => by
    obtain ⟨h1, h2, h3, h4⟩ := h.pbx j b o n hp
    refine ⟨h1, fun ha => h2 (List.mem_append_right _ ha), h3, fun x hx => ?_⟩
    split at hx
    · exact h2 (List.mem_append_left _ hx)
    · exact h4 x hx
/-- What is in hand is shared from now on. -/
theorem Inv.share (h : Inv T S tmps w St H F E (f ++ A)) : Inv T S tmps w (fun b => St b ∨ b ∈ f) H F E A :=
  { h with
    st0 := fun b hb => .inl (h.st0 b hb)
    stl := fun b hb => by
      rcases hb with hb | hb
      · exact h.stl b hb
      · exact ⟨(h.afr b (List.mem_append_left _ hb)).2.1, .inr (h.afr b (List.mem_append_left _ hb)).2.2⟩
    rel := fun s hs => (h.rel s hs).mono (fun b hb => .inl hb) (fun _ _ => rfl) (fun _ _ => rfl) (fun x _ => HAg.refl H x) (fun _ _ _ _ _ => rfl)
    fre := fun s b hb => ⟨fun hn => hn.elim (h.fre s b hb).1 (fun hf => (h.fre s b hb).2.1 (List.mem_append_left _ hf)), fun ha => (h.fre s b hb).2.1 (List.mem_append_right _ ha), (h.fre s b hb).2.2⟩
    and := (List.nodup_append.1 h.and).2.1
    afr := fun b hb => ⟨fun hn => hn.elim (h.afr b (List.mem_append_right _ hb)).1 (fun hf => (List.nodup_append.1 h.and).2.2 b hf b hb rfl), (h.afr b (List.mem_append_right _ hb)).2⟩
    pbx := fun j b o n hp => by
      obtain ⟨h1, h2, h3, h4⟩ := h.pbx j b o n hp
      exact ⟨fun hn => hn.elim h1 (fun hf => h2 (List.mem_append_left _ hf)), fun ha => h2 (List.mem_append_right _ ha), h3, h4⟩ }
/-- The world may turn where the hand has it. -/
theorem Inv.world (h : Inv T S tmps w St H F E A) (hk : Keep S w') (hsz : w.heap.size ≤ w'.heap.size) (hw : ∀ b, b < w.heap.size → b ∉ A → w'.heap[b]? = w.heap[b]?) : Inv T S tmps w' St H F E A :=
  { h with
    keep := hk
    stl := fun b hb => ⟨Nat.lt_of_lt_of_le (h.stl b hb).1 hsz, (h.stl b hb).2⟩
    rel := fun s hs => (h.rel s hs).mono (fun _ hb => hb) (fun b hb => hw b (h.stl b hb).1 (fun ha => (h.afr b ha).1 hb)) (fun b hb => hw b (h.fre s b hb).2.2.1 (h.fre s b hb).2.1) (fun x _ => HAg.refl H x) (fun cs b o hc hv => by
      obtain ⟨b2, o2, q1, q2⟩ := h.pbox s cs hc
      have q3 := h.box s (by rw [hc]; rfl)
      rw [q2, hv] at q3
      simp only [Value.pointer.injEq, Option.some.injEq, Addr.mk.injEq, and_true] at q3
      obtain ⟨r1, r2, r3, r4⟩ := h.pbx _ _ _ _ q1
      rw [q3.1]
      exact hw b2 (Nat.lt_of_lt_of_le r3 h.keep.size) r2)
    fre := fun s b hb => ⟨(h.fre s b hb).1, (h.fre s b hb).2.1, Nat.lt_of_lt_of_le (h.fre s b hb).2.2.1 hsz, (h.fre s b hb).2.2.2⟩
    afr := fun b hb => ⟨(h.afr b hb).1, Nat.lt_of_lt_of_le (h.afr b hb).2.1 hsz, (h.afr b hb).2.2⟩ }
/-- New blocks come to hand. -/
theorem Inv.news (h : Inv T S tmps w St H F E A) (hk : Keep S w') (hn : w'.heap.size = w.heap.size + 1) (hw : ∀ b, b < w.heap.size → w'.heap[b]? = w.heap[b]?) : Inv T S tmps w' St H F E (w.heap.size :: A) := by
  have h1 := h.world hk (by omega) (fun b hb _ => hw b hb)
  have hS : S.w0.heap.size ≤ w.heap.size := h.keep.size
  exact { h1 with
    fre := fun s b hb => ⟨(h1.fre s b hb).1, fun ha => by
      rcases List.mem_cons.1 ha with rfl | ha
      · exact absurd (h.fre s _ hb).2.2.1 (Nat.lt_irrefl _)
      · exact (h1.fre s b hb).2.1 ha, (h1.fre s b hb).2.2⟩
    and := List.nodup_cons.2 ⟨fun ha => absurd (h.afr _ ha).2.1 (Nat.lt_irrefl _), h.and⟩
    afr := fun b hb => by
      rcases List.mem_cons.1 hb with rfl | hb
      · exact ⟨fun hs => absurd (h.stl _ hs).1 (Nat.lt_irrefl _), by omega, .inr hS⟩
      · exact h1.afr b hb
    pbx := fun j b o n hp => by
      obtain ⟨g1, g2, g3, g4⟩ := h1.pbx j b o n hp
      refine ⟨g1, fun ha => ?_, g3, g4⟩
      rcases List.mem_cons.1 ha with rfl | ha
      · omega
      · exact g2 ha }
/-- The proof's addresses for a slot of which nothing is told. -/
theorem Inv.ghost (h : Inv T S tmps w St H F E A) {d : Nat} (hd : geti E d = .und) (hH : ∀ x, x ≠ d → HAg H H' x) : Inv T S tmps w St H' F E A := by
  have hx : ∀ s x, Ev.ment x (geti E s) = true → HAg H H' x := fun s x hm => hH x (fun e => h.ment s x hm (e ▸ hd))
  exact { h with
    rel := fun s hs => (h.rel s hs).mono (fun _ hb => hb) (fun _ _ => rfl) (fun _ _ => rfl) (hx s) (fun _ _ _ _ _ => rfl)
    box := fun s hs => by
      have : s ≠ d := fun e => by rw [e, hd] at hs; simp [isBox] at hs
      rw [(hH s this).1]
      exact h.box s hs
    pbox := fun s cs hs => by
      have : s ≠ d := fun e => by rw [e, hd] at hs; simp at hs
      rw [(hH s this).1]
      exact h.pbox s cs hs }
end Go.Ev

/- The reader's small moves keep what holds between slots, memory and what is told. -/
namespace Go.Ev
open Go
set_option linter.unusedVariables false
set_option linter.unusedSimpArgs false

def isAggD : TypeDesc → Bool
  | .struct _ => true
  | .array _ _ => true
  | _ => false
def zeroV : CT → Value
  | .int k => .int k 0
  | .bool => .bool false
  | .str => .string ByteArray.empty
  | .slice _ => .slice none 0 0
  | .ptr => .pointer none
  | .oth => undef
/-- A type of the context is the program's. -/
structure TIok (P : Program) (t : TypeId) (ti : TI) : Prop where
  info : ∃ i, P.info? t = some i ∧ i.size = ti.size ∧ i.bytes = ti.bytes ∧ ((∀ c, c ∈ ti.cts → c ≠ .oth) → i.zero = some (if ti.agg then .agg (ti.cts.map zeroV).toArray else (match ti.cts with | [c] => zeroV c | _ => undef)))
  len : ti.cts.length = ti.size
  agg : ti.agg = true ↔ (∃ fs, P.underlying t = some (.struct fs)) ∨ (∃ n e, P.underlying t = some (.array n e))
  sh : match ti.sh with
    | .scal => ∃ c, ti.cts = [c] ∧ (match c with | .int k => P.underlying t = some (.int k) | .bool => P.underlying t = some .bool | .str => P.underlying t = some .string | _ => False)
    | .slice e => P.underlying t = some (.slice e) ∧ ti.cts = [.slice e]
    | .ptr e => P.underlying t = some (.pointer e) ∧ ti.cts = [.ptr]
    | .struct fs => ∃ fields : Array Field, P.underlying t = some (.struct fields) ∧ fields.toList.map (fun f => (f.offset, f.type)) = fs ∧ (fields.toList.mapM (fun f => (P.info? f.type).map fun i => (f.offset, i.size))).isSome = true
    | .arr n e => P.underlying t = some (.array n e)
    | .oth => True
  one : ti.agg = false → ti.size = 1
  under : ∃ d, P.underlying t = some d
/-- The fields of a struct that is compared field by field: plain cells, one behind the other. -/
def eqFsG (g : TypeId → List CT → Bool) (P : Program) : Nat → List Field → List CT → Bool
  | _, [], [] => true
  | _, [], _ :: _ => false
  | i, f :: fs, cts => decide (f.name ≠ "_") && decide (f.offset = i) && decide (P.cellsOf f.type ≤ cts.length) && g f.type (cts.take (P.cellsOf f.type)) && eqFsG g P (i + P.cellsOf f.type) fs (cts.drop (P.cellsOf f.type))
def eqIsG (g : List CT → Bool) (s : Nat) : Nat → List CT → Bool
  | 0, [] => true
  | 0, _ :: _ => false
  | n + 1, cts => decide (s ≤ cts.length) && g (cts.take s) && eqIsG g s n (cts.drop s)
def eqT (P : Program) : Nat → TypeId → List CT → Bool
  | 0, _, _ => false
  | d + 1, t, cts => decide (P.cellsOf t = cts.length) && match P.underlying t with
    | some (.int k') => (match cts with | [.int k] => k == k' | _ => false)
    | some .bool => (match cts with | [.bool] => true | _ => false)
    | some .string => (match cts with | [.str] => true | _ => false)
    | some (.struct fs) => !P.stoodInHeld t && eqFsG (eqT P d) P 0 fs.toList cts
    | some (.array n e) => n != 0 && eqIsG (eqT P d e) (P.cellsOf e) n cts
    | _ => false
structure EqOk (P : Program) (t : TypeId) (ti : TI) : Prop where
  st : eqT P 6 t ti.cts = true
  agg : ∃ d, P.underlying t = some d ∧ isAggD d = true
  guard : P.eqGuardType P.depth t = false
structure POk (P : Program) (C : Ctx) : Prop where
  eq : ∀ t ti, C.eqs t = true → C.T t = some ti → EqOk P t ti
  ti : ∀ t ti, C.T t = some ti → TIok P t ti
  fn : ∀ f fn, C.fn f = some fn → P.funcs[f]? = some fn
  mixed : P.follows .mixedOrders = true
  enter : ∀ f, (C.fn f).isSome = true → ∀ (args : Array Value) (w : World), (callFunc f args).run P w = .ok (.enter f args) w

variable {cf : CF} {P : Program} {C : Ctx} {S : Frm} {tmps : Array Value} {w w' : World} {St St' : Nat → Prop} {H H' : Gh} {F : Nat → List Nat} {E E' : Env} {A f fd : List Nat}

theorem lift_exec {α : Type} {o : Option α} {a : α} (h : (lift o).exec cf E = some (a, E')) : o = some a ∧ E' = E := by
  cases o with
  | none => simp [lift, Prg.exec] at h
  | some b => simp only [lift, Prg.exec, Option.some.injEq, Prod.mk.injEq] at h; exact ⟨by rw [h.1], h.2.symm⟩
theorem tiOf_exec {t : TypeId} {ti : TI} (h : (tiOf C t).exec cf E = some (ti, E')) : C.T t = some ti ∧ E' = E := by
  unfold tiOf at h
  cases hT : C.T t with
  | none => simp [hT, Prg.exec] at h
  | some b => simp only [hT, Prg.exec, Option.some.injEq, Prod.mk.injEq] at h; exact ⟨by rw [h.1], h.2.symm⟩
theorem newTok_exec {d : Nat} {a : Unit} (h : (newTok d).exec cf E = some (a, E')) : geti E d = .und ∧ E' = E := by
  simp only [newTok, Prg.exec] at h
  cases hv : geti E d <;> simp [hv, Prg.exec] at h
  exact ⟨rfl, h.symm⟩
theorem bind_exec {α β : Type} {p : Prg α} {f : α → Prg β} {b : β} (h : (p.bind f).exec cf E = some (b, E')) : ∃ a E1, p.exec cf E = some (a, E1) ∧ (f a).exec cf E1 = some (b, E') := by
  rw [Prg.exec_bind] at h
  cases hp : p.exec cf E with
  | none => simp [hp] at h
  | some q => simp only [hp, Option.bind_some] at h; exact ⟨q.1, q.2, by simp, h⟩
theorem chk_exec {α : Type} {c : Bool} {p : Prg α} {b : α} (h : (Prg.chk c p).exec cf E = some (b, E')) : c = true ∧ p.exec cf E = some (b, E') := by
  cases c with
  | true => exact ⟨rfl, h⟩
  | false => simp [Prg.exec] at h
theorem set_exec {s : Nat} {v : AV} {b : Unit} (h : (Prg.set s v (.ret ())).exec cf E = some (b, E')) : E' = E.set s v := by
  simp only [Prg.exec, Option.some.injEq, Prod.mk.injEq] at h
  exact h.2.symm

theorem atq_own {v : AV} {off t i : Nat} {e : TypeId} {l : List Dat} (h : v.at? off = .own t i e l) : (v = .own t i e l ∧ off = 0) ∨ (∃ cs, (v = .agg cs ∨ (∃ bt, v = .box bt cs) ∨ v = .pbox cs) ∧ cs[off]? = some (.own t i e l)) := by
  cases v <;> simp only [AV.at?] at h
  case own t' i' e' l' =>
    by_cases ho : off = 0
    · rw [if_pos ho] at h; exact .inl ⟨h, ho⟩
    · rw [if_neg ho] at h; cases h
  all_goals first
    | cases h
    | (right
       rename_i cs
       refine ⟨cs, by simp, ?_⟩
       rw [List.getD_eq_getElem?_getD] at h
       cases hc : cs[off]? with
       | none => rw [hc] at h; simp at h
       | some q => rw [hc] at h; simp at h; rw [h])
theorem ownAt_exec {s off t i : Nat} {r : TypeId × List Dat} (h : (ownAt s off t i).exec cf E = some (r, E')) : E' = E ∧ (geti E s).at? off = .own t i r.1 r.2 := by
  simp only [ownAt, Prg.exec] at h
  split at h
  · rename_i t' i' e l heq
    split at h
    · rename_i hc
      simp only [Prg.exec, Option.some.injEq, Prod.mk.injEq] at h
      obtain ⟨rfl, rfl⟩ := h
      exact ⟨rfl, by rw [heq, hc.1, hc.2]⟩
    · simp [Prg.exec] at h
  · simp [Prg.exec] at h
theorem take_exec {s off t i : Nat} {r : TypeId × List Dat} (h : (take s off t i).exec cf E = some (r, E')) : E' = E.set s ((geti E s).putAt off .dead) ∧ (geti E s).at? off = .own t i r.1 r.2 := by
  simp only [take, Prg.exec] at h
  split at h
  · rename_i t' i' e l heq
    split at h
    · rename_i hc
      simp only [Prg.exec, Option.some.injEq, Prod.mk.injEq] at h
      obtain ⟨rfl, rfl⟩ := h
      exact ⟨rfl, by rw [heq, hc.1, hc.2]⟩
    · simp [Prg.exec] at h
  · simp [Prg.exec] at h
theorem freeze_exec {s off t i : Nat} {r : TypeId × List Dat} (h : (freeze s off t i).exec cf E = some (r, E')) : E' = E.set s ((geti E s).putAt off (.shr r.1 r.2)) ∧ (geti E s).at? off = .own t i r.1 r.2 := by
  simp only [freeze, Prg.exec] at h
  split at h
  · rename_i t' i' e l heq
    split at h
    · rename_i hc
      simp only [Prg.exec, Option.some.injEq, Prod.mk.injEq] at h
      obtain ⟨rfl, rfl⟩ := h
      exact ⟨rfl, by rw [heq, hc.1, hc.2]⟩
    · simp [Prg.exec] at h
  · simp [Prg.exec] at h
theorem upd_exec {s off t i : Nat} {l' : List Dat} {u : Unit} (h : (upd s off t i l').exec cf E = some (u, E')) : ∃ e l, E' = E.set s ((geti E s).putAt off (.own t i e l')) ∧ (geti E s).at? off = .own t i e l := by
  simp only [upd, Prg.exec] at h
  split at h
  · rename_i t' i' e l heq
    split at h
    · rename_i hc
      simp only [Prg.exec, Option.some.injEq, Prod.mk.injEq] at h
      exact ⟨e, l, h.2.symm, by rw [heq, hc.1, hc.2]⟩
    · simp [Prg.exec] at h
  · simp [Prg.exec] at h

/-- A row's cell within what a slot holds: taken apart, and told otherwise. -/
theorem RelS_at {T : TypeId → Option TI} {u : Value} {fp : List Nat} {v : AV} {off t i : Nat} {e : TypeId} {l : List Dat} (h : RelS T w St H u fp v) (ha : v.at? off = .own t i e l) :
    ∃ f fr, fp.Perm (f ++ fr) ∧ Own T w St e l (H.hd t i) f ∧ ∀ w' St', (∀ b, St b → St' b) → (∀ b, St b → w'.heap[b]? = w.heap[b]?) → (∀ b, b ∈ fr → w'.heap[b]? = w.heap[b]?) → (∀ cs b o, v = .pbox cs → u = .pointer (some ⟨b, o, none⟩) → w'.heap[b]? = w.heap[b]?) →
      ∀ c' fc', RelC T w' St' H (H.hd t i) fc' c' → ∃ f', f'.Perm (fc' ++ fr) ∧ RelS T w' St' H u f' (v.putAt off c') := by
  rcases atq_own ha with ⟨rfl, rfl⟩ | ⟨cs, hv, hc⟩
  · obtain ⟨h1, h2⟩ := (show u = H.hd t i ∧ Own T w St e l u fp from h)
    refine ⟨fp, [], by simp, h1 ▸ h2, fun w' St' hs _ _ _ c' fc' hr => ⟨fc', by simp, ?_⟩⟩
    rw [← h1] at hr
    exact RelS_of_RelC hr
  · have same : ∀ {vs : List Value} {v0 : Value}, vs[off]? = some v0 → vs.set off v0 = vs := fun {vs v0} hv => by
      apply List.ext_getElem?
      intro j
      rw [List.getElem?_set]
      by_cases hj : off = j
      · subst hj
        have := (List.getElem?_eq_some_iff.1 hv).1
        rw [if_pos rfl, if_pos this, hv]
      · rw [if_neg hj]
    rcases hv with rfl | ⟨bt, rfl⟩ | rfl
    · obtain ⟨vs, h1, h2⟩ := (show ∃ vs, u = .agg vs ∧ Cells T w St H vs.toList fp cs from h)
      obtain ⟨v0, fc, fr, g1, g2, g3, g4⟩ := Cells.setC off h2 hc
      have g3' : v0 = H.hd t i ∧ Own T w St e l v0 fc := g3
      refine ⟨fc, fr, g2, g3'.1 ▸ g3'.2, fun w' St' hs hw hf hpb c' fc' hr => ?_⟩
      obtain ⟨f', k1, k2⟩ := g4 w' St' hs hw hf (H.hd t i) c' fc' hr
      refine ⟨f', k1, vs, h1, ?_⟩
      rw [← g3'.1, same g1] at k2
      exact k2
    · obtain ⟨b, arr, et, fz, f2, h1, rfl, h3, h4, h5, h6⟩ := h
      obtain ⟨v0, fc, fr, g1, g2, g3, g4⟩ := Cells.setC off h6 hc
      have g3' : v0 = H.hd t i ∧ Own T w St e l v0 fc := g3
      refine ⟨fc, b :: fr, ?_, g3'.1 ▸ g3'.2, fun w' St' hs hw hf hpb c' fc' hr => ?_⟩
      · exact (List.Perm.cons b g2).trans (List.perm_middle.symm)
      obtain ⟨f', k1, k2⟩ := g4 w' St' hs hw (fun b hb => hf b (List.mem_cons_of_mem _ hb)) (H.hd t i) c' fc' hr
      rw [← g3'.1, same g1] at k2
      exact ⟨b :: f', (List.Perm.cons b k1).trans (List.perm_middle.symm), b, arr, et, fz, f', h1, rfl, by rw [hf b List.mem_cons_self]; exact h3, h4, by simpa using h5, k2⟩
    · obtain ⟨b, o, arr, et, fz, h1, h3, h4, h5, h6⟩ := h
      obtain ⟨v0, fc, fr, g1, g2, g3, g4⟩ := Cells.setC off h6 hc
      have g3' : v0 = H.hd t i ∧ Own T w St e l v0 fc := g3
      refine ⟨fc, fr, g2, g3'.1 ▸ g3'.2, fun w' St' hs hw hf hpb c' fc' hr => ?_⟩
      obtain ⟨f', k1, k2⟩ := g4 w' St' hs hw hf (H.hd t i) c' fc' hr
      rw [← g3'.1, same g1] at k2
      exact ⟨f', k1, b, o, arr, et, fz, h1, by rw [hpb _ b o rfl h1]; exact h3, h4, by simpa using h5, by rw [List.length_set]; exact k2⟩

/-- What a slot may be told of a value that is looked at. -/
structure VOk (T : TypeId → Option TI) (w : World) (St : Nat → Prop) (H : Gh) (E : Env) (u : Value) (v : AV) : Prop where
  rel : RelS T w St H u [] v
  ment : ∀ x, Ev.ment x v = true → geti E x ≠ .und
  und : v ≠ .und
  box : isBox v = false
theorem any_set {p : AV → Bool} : ∀ (cs : List AV) (i : Nat) (c : AV), (cs.set i c).any p = true → cs.any p = true ∨ p c = true
  | [], _, _, h => by simp at h
  | d :: cs, 0, c, h => by
    simp only [List.set_cons_zero, List.any_cons, Bool.or_eq_true] at h ⊢
    exact h.elim .inr (fun h => .inl (.inr h))
  | d :: cs, i + 1, c, h => by
    simp only [List.set_cons_succ, List.any_cons, Bool.or_eq_true] at h ⊢
    rcases h with h | h
    · exact .inl (.inl h)
    · exact (any_set cs i c h).elim (fun h => .inl (.inr h)) .inr
theorem putAt_ment {v c : AV} {off x : Nat} (h : Ev.ment x (v.putAt off c) = true) : Ev.ment x v = true ∨ mentC x c = true ∨ Ev.ment x c = true := by
  cases v <;> simp only [AV.putAt] at h
  case agg cs => exact (any_set cs off c h).elim .inl (fun h => .inr (.inl h))
  case box t cs => exact (any_set cs off c h).elim .inl (fun h => .inr (.inl h))
  case pbox cs => exact (any_set cs off c h).elim .inl (fun h => .inr (.inl h))
  all_goals exact .inr (.inr h)
theorem Own.toShr {T : TypeId → Option TI} (hT : ∀ t ti, T t = some ti → ti.cts.length = ti.size) {e : TypeId} {l : List Dat} {v : Value} {f : List Nat} (h : Own T w St e l v f) : RelD T w (fun b => St b ∨ b ∈ f) (.slice e) v (.list l) := by
  obtain ⟨ti, a, cap, h1, rfl, h4, h5⟩ := h
  rcases h5 with ⟨rfl, rfl⟩ | ⟨b, o, arr, et, fz, rfl, rfl, g3, g4, g5, g6⟩
  · have : l = [] := List.length_eq_zero_iff.1 (Nat.le_zero.1 h4)
    subst this
    exact RelD.of_row (ti := ti) (b := 0) (o := 0) (fun hn => absurd rfl hn) h4 (fun hn => absurd rfl hn) RowD.nil (fun hn => absurd rfl hn)
  · have hn : l ≠ [] → cap ≠ 0 := fun hn h0 => hn (List.length_eq_zero_iff.1 (by omega))
    exact RelD.of_row (b := b) (o := o) (fun hl => h1 (hn hl)) h4 (fun _ => ⟨rfl, .inr (List.mem_singleton_self b)⟩) (g6.mono (fun _ hb => .inl hb) (fun _ _ => rfl) rfl) (fun hl => hT e ti (h1 (hn hl)).1)
theorem putAt_und {v c : AV} {off : Nat} (hv : v ≠ .und) (hc : c ≠ .und) : v.putAt off c ≠ .und := by
  cases v <;> simp only [AV.putAt] <;> first | exact hc | simp
theorem putAt_box {v c : AV} {off : Nat} (hc : isBox c = false) (h : isBox (v.putAt off c) = true) : isBox v = true := by
  cases v <;> simp only [AV.putAt] at h <;> first | rfl | (rw [hc] at h; cases h) | (simp [isBox] at h)
theorem putAt_pbox {v c : AV} {off : Nat} (hc : isBox c = false) {cs : List AV} (h : v.putAt off c = .pbox cs) : ∃ cs0, v = .pbox cs0 ∧ cs0.length = cs.length := by
  cases v <;> simp only [AV.putAt] at h
  case pbox cs0 => simp only [AV.pbox.injEq] at h; exact ⟨cs0, rfl, by rw [← h]; simp⟩
  all_goals first
    | (rw [h] at hc; simp [isBox] at hc; done)
    | cases h
theorem at_lt {s off t i : Nat} {e : TypeId} {l : List Dat} (ha : (geti E s).at? off = .own t i e l) : s < E.length := by
  rcases Nat.lt_or_ge s E.length with h | h
  · exact h
  · rw [geti_ge h] at ha; simp [AV.at?] at ha
theorem at_und {v : AV} {off t i : Nat} {e : TypeId} {l : List Dat} (ha : v.at? off = .own t i e l) : v ≠ .und := by
  intro h; rw [h] at ha; simp [AV.at?] at ha
theorem at_ment {v : AV} {off t i : Nat} {e : TypeId} {l : List Dat} (ha : v.at? off = .own t i e l) : Ev.ment t v = true := by
  rcases atq_own ha with ⟨rfl, _⟩ | ⟨cs, hv, hc⟩
  · simp [Ev.ment, mentC]
  · have : cs.any (mentC t) = true := List.any_eq_true.2 ⟨_, List.mem_of_getElem? hc, by simp [mentC]⟩
    rcases hv with rfl | ⟨bt, rfl⟩ | rfl <;> exact this
/-- A cell of a slot told otherwise, its row in hand. -/
theorem Inv.swap {T : TypeId → Option TI} (h : Inv T S tmps w St H F E A) {s off t i : Nat} {e : TypeId} {l : List Dat} (ha : (geti E s).at? off = .own t i e l) :
    ∃ f fr, Own T w St e l (H.hd t i) f ∧ Inv T S tmps w St H (fun x => if x = s then [] else F x) (E.set s .dead) (f ++ (fr ++ A)) ∧
      ∀ St', (∀ b, St b → St' b) → ∀ (c' : AV) (fc' : List Nat) (A' : List Nat) (w2 : World), (∀ b, St b → w2.heap[b]? = w.heap[b]?) → (∀ b, b ∈ fr → w2.heap[b]? = w.heap[b]?) → (∀ j b o n, S.pb = some (j, b, o, n) → w2.heap[b]? = w.heap[b]?) → RelC T w2 St' H (H.hd t i) fc' c' → (∀ x, mentC x c' = true → geti E x ≠ .und) → (∀ x, Ev.ment x c' = true → geti E x ≠ .und) → isBox c' = false → c' ≠ .und →
        Inv T S tmps w2 St' H (fun x => if x = s then [] else F x) (E.set s .dead) (fc' ++ (fr ++ A')) → ∃ F', Inv T S tmps w2 St' H F' (E.set s ((geti E s).putAt off c')) A' := by
  have hl := at_lt ha
  obtain ⟨f, fr, hp, ho, hc⟩ := RelS_at (h.rel s hl) ha
  refine ⟨f, fr, ho, (h.lift s).perm ?_, fun St' hs c' fc' A' w2 hw2 hf2 hpb2 hr hm1 hm2 hb hu hi => ?_⟩
  · rw [← List.append_assoc]
    exact List.Perm.append_right _ hp
  obtain ⟨f', k1, k2⟩ := hc w2 St' hs hw2 hf2 (fun cs b o hcs hv => by
    obtain ⟨b2, o2, q1, q2⟩ := h.pbox s cs hcs
    have q3 := h.box s (by rw [hcs]; rfl)
    rw [q2, hv] at q3
    simp only [Value.pointer.injEq, Option.some.injEq, Addr.mk.injEq, and_true] at q3
    rw [q3.1]
    exact hpb2 _ _ _ _ q1) c' fc' hr
  have hi' := hi.perm (A' := f' ++ A') (by
    rw [← List.append_assoc]
    exact List.Perm.append_right _ k1.symm)
  have hput := hi'.put s (tmps.getD s undef) ((geti E s).putAt off c') k2 (putAt_und (at_und ha) hu)
    (fun x hx hxs => by
      rw [geti_set]
      split
      · simp
      · rcases putAt_ment hx with hx | hx | hx
        · exact h.ment s x hx
        · exact hm1 x hx
        · exact hm2 x hx)
    (fun hbx => h.box s (putAt_box hb hbx))
    (fun cs hcs => by
      obtain ⟨cs0, e0, e1⟩ := putAt_pbox hb hcs
      rw [← e1]
      exact h.pbox s cs0 e0)
  rw [tmps_same, List.set_set] at hput
  exact ⟨_, hput⟩
theorem Inv.take {T : TypeId → Option TI} (h : Inv T S tmps w St H F E A) {s off t i : Nat} {e : TypeId} {l : List Dat} (ha : (geti E s).at? off = .own t i e l) :
    ∃ f F', Own T w St e l (H.hd t i) f ∧ Inv T S tmps w St H F' (E.set s ((geti E s).putAt off .dead)) (f ++ A) := by
  obtain ⟨f, fr, ho, h1, h2⟩ := h.swap ha
  obtain ⟨F', h3⟩ := h2 St (fun _ hb => hb) .dead [] (f ++ A) w (fun _ _ => rfl) (fun _ _ => rfl) (fun _ _ _ _ _ => rfl) rfl (by simp [mentC]) (by simp [Ev.ment, mentC]) rfl (by simp) (by
    refine h1.perm ?_
    rw [List.nil_append, ← List.append_assoc, ← List.append_assoc]
    exact List.Perm.append_right _ List.perm_append_comm)
  exact ⟨f, F', ho, h3⟩
theorem Inv.freeze {T : TypeId → Option TI} (hT : ∀ t ti, T t = some ti → ti.cts.length = ti.size) (h : Inv T S tmps w St H F E A) {s off t i : Nat} {e : TypeId} {l : List Dat} (ha : (geti E s).at? off = .own t i e l) :
    ∃ St' F', (∀ b, St b → St' b) ∧ RelD T w St' (.slice e) (H.hd t i) (.list l) ∧ Inv T S tmps w St' H F' (E.set s ((geti E s).putAt off (.shr e l))) A := by
  obtain ⟨f, fr, ho, h1, h2⟩ := h.swap ha
  have hr := ho.toShr hT
  obtain ⟨F', h3⟩ := h2 _ (fun _ hb => .inl hb) (.shr e l) [] A w (fun _ _ => rfl) (fun _ _ => rfl) (fun _ _ _ _ _ => rfl) ⟨rfl, hr⟩ (by simp [mentC]) (by simp [Ev.ment, mentC]) rfl (by simp) (by
    rw [List.nil_append]
    exact h1.share)
  exact ⟨_, F', fun _ hb => .inl hb, hr, h3⟩
end Go.Ev

/- Operands are read, and values put away, as the reader tells. -/
namespace Go.Ev
open Go
set_option linter.unusedVariables false
set_option linter.unusedSimpArgs false
variable {cf : CF} {P : Program} {C : Ctx} {S : Frm} {tmps : Array Value} {w w' : World} {St St' : Nat → Prop} {H H' : Gh} {F : Nat → List Nat} {E E' : Env} {A f fd : List Nat}

/-- What a frame may lean on. -/
structure FOk (C : Ctx) (S : Frm) : Prop where
  glob : ∀ g v, C.glob g = some v → (∀ H, RelS C.T S.w0 S.St0 H (.pointer (some ⟨g, 0, none⟩)) [] v) ∧ (∀ x, ment x v = false) ∧ v ≠ .und ∧ isBox v = false
  st : ∀ b, S.St0 b → b < S.w0.heap.size ∧ b ∉ S.O
  pb : ∀ j b o n, S.pb = some (j, b, o, n) → b ∈ S.O
  gi : ∀ p, p ∈ C.gint → S.St0 p.1 ∧ ∃ o, S.w0.heap[p.1]? = some o ∧ p.2 o
/-- What only turns what is told. -/
structure Gst (St St' : Nat → Prop) (E E' : Env) : Prop where
  st : ∀ b, St b → St' b
  nu : ∀ x, geti E x ≠ .und → geti E' x ≠ .und
theorem Gst.refl (St : Nat → Prop) (E : Env) : Gst St St E E := ⟨fun _ h => h, fun _ h => h⟩
theorem Gst.trans {St St1 St2 : Nat → Prop} {E E1 E2 : Env} (h : Gst St St1 E E1) (h' : Gst St1 St2 E1 E2) : Gst St St2 E E2 := ⟨fun b hb => h'.st b (h.st b hb), fun x hx => h'.nu x (h.nu x hx)⟩
theorem Gst.set {St St' : Nat → Prop} {s : Nat} {v : AV} (hs : ∀ b, St b → St' b) (hv : v ≠ .und) : Gst St St' E (E.set s v) := ⟨hs, fun x hx => by
  rw [geti_set]
  split
  · exact hv
  · exact hx⟩
theorem VOk.mono {T : TypeId → Option TI} {u : Value} {v : AV} (h : VOk T w St H E u v) (g : Gst St St' E E') : VOk T w St' H E' u v :=
  ⟨h.rel.mono g.st (fun _ _ => rfl) (fun _ _ => rfl) (fun x _ => HAg.refl H x) (fun _ _ _ _ _ => rfl), fun x hx => g.nu x (h.ment x hx), h.und, h.box⟩

theorem RelC.fp {T : TypeId → Option TI} {v : Value} {fp : List Nat} {c : AV} (h : RelC T w St H v fp c) (hc : ∀ t i e l, c ≠ .own t i e l) : fp = [] := by
  cases c <;> simp only [RelC] at h <;> first
    | exact h
    | exact h.1
    | exact absurd rfl (hc _ _ _ _)
theorem RelS.toC {T : TypeId → Option TI} {v : Value} {fp : List Nat} {c : AV} (h : RelS T w St H v fp c) (hc : isCell c = true) : RelC T w St H v fp c := by
  cases c <;> first
    | exact h
    | (simp [isCell] at hc; done)
theorem views_ok {T : TypeId → Option TI} (s : Nat) : ∀ {vs : List Value} {fp : List Nat} (j : Nat) {cs : List AV}, Cells T w St H vs fp cs → Cells T w St H vs [] (views s j cs)
  | [], _, _, [], h => rfl
  | [], _, _, _ :: _, h => h.elim
  | _ :: _, _, _, [], h => h.elim
  | v :: vs, _, j, c :: cs, h => by
    obtain ⟨f1, f2, rfl, h1, h2⟩ := h
    have ih := views_ok s (j + 1) h2
    cases c
    case own t i e l => exact ⟨[], [], rfl, ⟨rfl, h1.1⟩, ih⟩
    all_goals
      have hf := h1.fp (by intros; simp)
      subst hf
      exact ⟨[], [], rfl, h1, ih⟩
theorem views_ment (s x : Nat) : ∀ (j : Nat) (cs : List AV), (views s j cs).any (mentC x) = true → x = s ∨ cs.any (mentC x) = true
  | _, [], h => by simp [views] at h
  | j, c :: cs, h => by
    cases c
    case own t i e l =>
      simp only [views, List.any_cons, mentC, Bool.or_eq_true, beq_iff_eq] at h ⊢
      rcases h with (h | h) | h
      · exact .inl h.symm
      · exact .inr (.inl h)
      · exact (views_ment s x (j + 1) cs h).imp id .inr
    all_goals
      simp only [views, List.any_cons, Bool.or_eq_true] at h ⊢
      rcases h with h | h
      · exact .inr (.inl h)
      · exact (views_ment s x (j + 1) cs h).imp id .inr
theorem opS_ok {T : TypeId → Option TI} (h : Inv T S tmps w St H F E A) {s : Nat} {v : AV} (he : (opS s).exec cf E = some (v, E')) : E' = E ∧ VOk T w St H E (tmps.getD s undef) v := by
  have hl : s < E.length := by
    rcases Nat.lt_or_ge s E.length with h | h
    · exact h
    · simp [opS, Prg.exec, geti_ge h] at he
  have hr := h.rel s hl
  have hm := h.ment s
  have hb := h.box s
  simp only [opS, Prg.exec] at he
  cases hv : geti E s <;> rw [hv] at he hr hm hb <;> simp only [Prg.exec, Option.some.injEq, Prod.mk.injEq, reduceCtorEq] at he <;> (try obtain ⟨rfl, rfl⟩ := he) <;> refine ⟨rfl, ?_⟩
  case own t i e l =>
    refine ⟨⟨rfl, hr.1⟩, fun x hx => ?_, by simp, rfl⟩
    simp only [Ev.ment, mentC, Bool.or_eq_true, beq_iff_eq] at hx
    rcases hx with rfl | rfl
    · rw [hv]; simp
    · exact hm t (by simp [Ev.ment, mentC])
  case box bt cs =>
    refine ⟨⟨rfl, hb rfl⟩, fun x hx => ?_, by simp, rfl⟩
    simp only [Ev.ment, mentC, beq_iff_eq] at hx
    subst hx
    rw [hv]; simp
  case pbox cs =>
    refine ⟨⟨rfl, hb rfl⟩, fun x hx => ?_, by simp, rfl⟩
    simp only [Ev.ment, mentC, beq_iff_eq] at hx
    subst hx
    rw [hv]; simp
  case agg cs =>
    obtain ⟨vs, h1, h2⟩ := hr
    refine ⟨⟨vs, h1, views_ok s 0 h2⟩, fun x hx => ?_, by simp, rfl⟩
    rcases views_ment s x 0 cs hx with rfl | hx
    · rw [hv]; simp
    · exact hm x hx
  case clo f a b =>
    obtain ⟨us, vs, h1, h2, h3, h4⟩ := hr
    exact ⟨⟨us, vs, h1, rfl, h3, h4⟩, hm, by simp, rfl⟩
  all_goals
    have hr' := RelS.toC hr rfl
    have hf := hr'.fp (by intros; simp)
    rw [hf] at hr'
    exact ⟨RelS_of_RelC hr', hm, by simp, rfl⟩
theorem nilOf_ok {t : TypeId} {v : AV} (he : (nilOf C.T t).exec cf E = some (v, E')) : E' = E ∧ VOk C.T w St H E (.slice none 0 0) v := by
  unfold nilOf at he
  cases hT : C.T t with
  | none => simp [hT, Prg.exec] at he
  | some ti =>
    simp only [hT] at he
    cases hs : ti.sh <;> simp only [hs, Prg.exec, Option.some.injEq, Prod.mk.injEq, reduceCtorEq] at he
    obtain ⟨rfl, rfl⟩ := he
    exact ⟨rfl, ⟨rfl, rfl⟩, fun x hx => by simp [Ev.ment, mentC] at hx, by simp, rfl⟩
/-- What was shared at the beginning is as it was. -/
theorem Inv.old {T : TypeId → Option TI} (hS : FOk C S) (h : Inv T S tmps w St H F E A) : ∀ b, S.St0 b → w.heap[b]? = S.w0.heap[b]? := fun b hb => h.keep.heap b (hS.st b hb).1 (hS.st b hb).2
theorem opd_ok (hS : FOk C S) {a : Act} (h : Inv C.T S a.tmps w St H F E A) {t : TypeId} {x : Operand} {v : AV} (he : (opd C t x).exec cf E = some (v, E')) : E' = E ∧ VOk C.T w St H E (a.eval x) v := by
  cases x with
  | tmp s => exact opS_ok h he
  | func f =>
    simp only [opd, Prg.exec, Option.some.injEq, Prod.mk.injEq] at he
    obtain ⟨rfl, rfl⟩ := he
    exact ⟨rfl, ⟨#[], #[], rfl, rfl, rfl, rfl⟩, fun x hx => by simp [Ev.ment] at hx, by simp, rfl⟩
  | global g =>
    simp only [opd] at he
    cases hg : C.glob g with
    | none => simp [hg, Prg.exec] at he
    | some v' =>
      simp only [hg, Prg.exec, Option.some.injEq, Prod.mk.injEq] at he
      obtain ⟨rfl, rfl⟩ := he
      obtain ⟨h1, h2, h3, h4⟩ := hS.glob g v' hg
      exact ⟨rfl, (h1 H).mono h.st0 (h.old hS) (fun b hb => by cases hb) (fun x _ => HAg.refl H x) (fun cs b o hc _ => by rw [hc] at h4; cases h4), fun x hx => absurd hx (by rw [h2 x]; simp), h3, h4⟩
  | const v' =>
    cases v' <;> simp only [opd, Prg.exec, Option.some.injEq, Prod.mk.injEq, reduceCtorEq] at he
    case slice a l c =>
      cases a with
      | some a => simp [opd, Prg.exec] at he
      | none =>
        cases l with
        | succ l => simp [opd, Prg.exec] at he
        | zero =>
          cases c with
          | succ c => simp [opd, Prg.exec] at he
          | zero => exact nilOf_ok he
    case pointer a =>
      cases a with
      | some a => simp [opd, Prg.exec] at he
      | none =>
        simp only [opd, Prg.exec, Option.some.injEq, Prod.mk.injEq] at he
        obtain ⟨rfl, rfl⟩ := he
        exact ⟨rfl, ⟨rfl, rfl⟩, fun x hx => by simp [Ev.ment, mentC] at hx, by simp, rfl⟩
    all_goals
      obtain ⟨rfl, rfl⟩ := he
      exact ⟨rfl, ⟨rfl, rfl⟩, fun x hx => by simp [Ev.ment, mentC] at hx, by simp, rfl⟩

theorem isTmp_eq {x : Operand} {s : Nat} (h : isTmp x s = true) : x = .tmp s := by
  cases x <;> simp [isTmp] at h
  rw [h]
theorem set_nu {s : Nat} {v : AV} (hv : v ≠ .und) : ∀ x, geti E x ≠ .und → geti (E.set s v) x ≠ .und := (Gst.set (St := fun _ => True) (St' := fun _ => True) (s := s) (fun _ h => h) hv).nu
theorem hT_of (hP : POk P C) : ∀ t ti, C.T t = some ti → ti.cts.length = ti.size := fun t ti h => (hP.ti t ti h).len
/-- A cell's value put away. -/
theorem giveC_ok (hP : POk P C) (h : Inv C.T S tmps w St H F E A) {x : Operand} {u : Value} {v c' : AV} (hr : RelC C.T w St H u [] v) (hm : ∀ x, mentC x v = true → geti E x ≠ .und)
    (he : (giveC x v).exec cf E = some (c', E')) : ∃ St' F' f, Gst St St' E E' ∧ Inv C.T S tmps w St' H F' E' (f ++ A) ∧ RelC C.T w St' H u f c' ∧ (∀ x, mentC x c' = true → geti E' x ≠ .und) ∧ (v ≠ .und → c' ≠ .und) ∧ E'.length = E.length := by
  have idc : ∀ {c'' : AV}, (Prg.ret v : Prg AV).exec cf E = some (c'', E') → ∃ St' F' f, Gst St St' E E' ∧ Inv C.T S tmps w St' H F' E' (f ++ A) ∧ RelC C.T w St' H u f c'' ∧ (∀ x, mentC x c'' = true → geti E' x ≠ .und) ∧ (v ≠ .und → c'' ≠ .und) ∧ E'.length = E.length := fun {c''} hx => by
    simp only [Prg.exec, Option.some.injEq, Prod.mk.injEq] at hx
    obtain ⟨rfl, rfl⟩ := hx
    exact ⟨St, F, [], Gst.refl _ _, h, hr, hm, fun h => h, rfl⟩
  cases v
  case view s off t i =>
    obtain ⟨_, hv⟩ := hr
    simp only [giveC] at he
    split at he
    · obtain ⟨r, E1, h1, h2⟩ := bind_exec he
      simp only [Prg.exec, Option.some.injEq, Prod.mk.injEq] at h2
      obtain ⟨rfl, rfl⟩ := h2
      obtain ⟨rfl, ha⟩ := take_exec h1
      obtain ⟨f, F', ho, hi⟩ := h.take ha
      have hnu := putAt_und (c := .dead) (off := off) (at_und ha) (by simp)
      refine ⟨St, F', f, Gst.set (fun _ h => h) hnu, hi, ⟨hv, hv ▸ ho⟩, fun x hx => ?_, by simp, by simp⟩
      simp only [mentC, beq_iff_eq] at hx
      subst hx
      exact set_nu hnu t (h.ment s t (at_ment ha))
    · obtain ⟨r, E1, h1, h2⟩ := bind_exec he
      simp only [Prg.exec, Option.some.injEq, Prod.mk.injEq] at h2
      obtain ⟨rfl, rfl⟩ := h2
      obtain ⟨rfl, ha⟩ := freeze_exec h1
      obtain ⟨St', F', hs, hd, hi⟩ := h.freeze (hT_of hP) ha
      have hnu := putAt_und (c := .shr r.1 r.2) (off := off) (at_und ha) (by simp)
      exact ⟨St', F', [], Gst.set hs hnu, hi, ⟨rfl, hv ▸ hd⟩, fun x hx => by simp [mentC] at hx, by simp, by simp⟩
  all_goals exact idc he
theorem giveCs_ok (hP : POk P C) {x : Operand} (vs : List AV) : ∀ (us : List Value) (cs' : List AV) (St : Nat → Prop) (F : Nat → List Nat) (E E' : Env) (A : List Nat), Inv C.T S tmps w St H F E A → Cells C.T w St H us [] vs → (∀ x, vs.any (mentC x) = true → geti E x ≠ .und) →
    (giveCs x vs).exec cf E = some (cs', E') → ∃ St' F' f, Gst St St' E E' ∧ Inv C.T S tmps w St' H F' E' (f ++ A) ∧ Cells C.T w St' H us f cs' ∧ (∀ x, cs'.any (mentC x) = true → geti E' x ≠ .und) ∧ E'.length = E.length := by
  induction vs with
  | nil =>
    intro us cs' St F E E' A h hr hm he
    simp only [giveCs, Prg.exec, Option.some.injEq, Prod.mk.injEq] at he
    obtain ⟨rfl, rfl⟩ := he
    exact ⟨St, F, [], Gst.refl _ _, h, hr, hm, rfl⟩
  | cons v vs ih =>
    intro us cs' St F E E' A h hr hm he
    cases us with
    | nil => exact hr.elim
    | cons u us =>
      obtain ⟨f1, f2, hf, h1, h2⟩ := hr
      obtain ⟨rfl, rfl⟩ := List.append_eq_nil_iff.1 hf.symm
      simp only [giveCs] at he
      obtain ⟨c', E1, g1, he⟩ := bind_exec he
      obtain ⟨cs1, E2, g2, he⟩ := bind_exec he
      simp only [Prg.exec, Option.some.injEq, Prod.mk.injEq] at he
      obtain ⟨rfl, rfl⟩ := he
      obtain ⟨St1, F1, k1, q1, q2, q3, q4, q5, q6⟩ := giveC_ok hP h h1 (fun x hx => hm x (by simp [hx])) g1
      obtain ⟨St2, F2, k2, r1, r2, r3, r4, r6⟩ := ih us cs1 St1 F1 E1 E2 (k1 ++ A) q2 (h2.mono q1.st (fun _ _ => rfl) (fun _ _ => rfl) (fun x _ => HAg.refl H x)) (fun x hx => q1.nu x (hm x (by rw [List.any_cons, hx, Bool.or_true]))) g2
      refine ⟨St2, F2, k1 ++ k2, q1.trans r1, r2.perm ?_, ⟨k1, k2, rfl, q3.mono r1.st (fun _ _ => rfl) (fun _ _ => rfl) (fun x _ => HAg.refl H x), r3⟩, fun x hx => ?_, r6.trans q6⟩
      · rw [← List.append_assoc]
        exact List.Perm.append_right _ List.perm_append_comm
      · rw [List.any_cons, Bool.or_eq_true] at hx
        exact hx.elim (fun hx => r1.nu x (q4 x hx)) (r4 x)
/-- What putting a value away leaves. -/
structure Put (C : Ctx) (S : Frm) (tmps : Array Value) (w : World) (St St' : Nat → Prop) (H : Gh) (F' : Nat → List Nat) (E E' : Env) (A f : List Nat) (u : Value) (v' : AV) : Prop where
  g : Gst St St' E E'
  inv : Inv C.T S tmps w St' H F' E' (f ++ A)
  rel : RelS C.T w St' H u f v'
  ment : ∀ x, Ev.ment x v' = true → geti E' x ≠ .und
  und : v' ≠ .und
  box : isBox v' = false
  len : E'.length = E.length
theorem isBox_of_RelC {T : TypeId → Option TI} {u : Value} {f : List Nat} {c : AV} (h : RelC T w St H u f c) : isBox c = false := by
  cases c <;> first | rfl | exact h.elim
theorem ment_of_RelC {T : TypeId → Option TI} {u : Value} {f : List Nat} {c : AV} (h : RelC T w St H u f c) (x : Nat) : Ev.ment x c = mentC x c := by
  cases c <;> first | rfl | exact h.elim
theorem RelS.cellOr {T : TypeId → Option TI} {u : Value} {f : List Nat} {v : AV} (h : RelS T w St H u f v) (hb : isBox v = false) : RelC T w St H u f v ∨ (∃ cs, v = .agg cs) ∨ (∃ vs, v = .tup vs) ∨ (∃ g a b, v = .clo g a b) := by
  cases v <;> first
    | exact .inl h
    | (simp [isBox] at hb; done)
    | exact .inr (.inl ⟨_, rfl⟩)
    | exact .inr (.inr (.inl ⟨_, rfl⟩))
    | exact .inr (.inr (.inr ⟨_, _, _, rfl⟩))
theorem give_ok (hP : POk P C) (h : Inv C.T S tmps w St H F E A) {x : Operand} {u : Value} {v v' : AV} (hv : VOk C.T w St H E u v) (he : (give x v).exec cf E = some (v', E')) :
    ∃ St' F' f, Put C S tmps w St St' H F' E E' A f u v' := by
  rcases hv.rel.cellOr hv.box with hr | ⟨cs, rfl⟩ | ⟨vs, rfl⟩ | ⟨g, a, b, rfl⟩
  · have hne : ∀ cs, v ≠ .agg cs := fun cs e => by rw [e] at hr; exact hr.elim
    have he' : (giveC x v).exec cf E = some (v', E') := by
      cases v <;> first | exact he | exact absurd rfl (hne _)
    obtain ⟨St', F', f, q1, q2, q3, q4, q5, q6⟩ := giveC_ok hP h hr (fun x hx => hv.ment x (by rw [ment_of_RelC hr]; exact hx)) he'
    exact ⟨St', F', f, q1, q2, RelS_of_RelC q3, fun x hx => q4 x (by rw [← ment_of_RelC q3]; exact hx), q5 hv.und, isBox_of_RelC q3, q6⟩
  · obtain ⟨us, h1, h2⟩ := (show ∃ vs, u = .agg vs ∧ Cells C.T w St H vs.toList [] cs from hv.rel)
    simp only [give] at he
    obtain ⟨cs', E1, g1, g2⟩ := bind_exec he
    simp only [Prg.exec, Option.some.injEq, Prod.mk.injEq] at g2
    obtain ⟨rfl, rfl⟩ := g2
    obtain ⟨St', F', f, q1, q2, q3, q4, q6⟩ := giveCs_ok hP cs us.toList cs' St F E E1 A h h2 hv.ment g1
    exact ⟨St', F', f, q1, q2, ⟨us, h1, q3⟩, q4, by simp, rfl, q6⟩
  · simp only [give, giveC, Prg.exec, Option.some.injEq, Prod.mk.injEq] at he
    obtain ⟨rfl, rfl⟩ := he
    exact ⟨St, F, [], Gst.refl _ _, h, hv.rel, hv.ment, by simp, rfl, rfl⟩
  · simp only [give, giveC, Prg.exec, Option.some.injEq, Prod.mk.injEq] at he
    obtain ⟨rfl, rfl⟩ := he
    exact ⟨St, F, [], Gst.refl _ _, h, hv.rel, hv.ment, by simp, rfl, rfl⟩
theorem dataC_give {x : Operand} (hx : ∀ s, isTmp x s = false) (v : AV) : dataC v = giveC x v := by
  cases v <;> simp [dataC, giveC, hx]
theorem dataCs_give {x : Operand} (hx : ∀ s, isTmp x s = false) : ∀ (vs : List AV), dataCs vs = giveCs x vs
  | [] => rfl
  | v :: vs => by
    simp only [dataCs, giveCs, dataC_give hx, dataCs_give hx vs]
theorem dataV_give (v : AV) : dataV v = give (.func 0) v := by
  have hx : ∀ s, isTmp (.func 0) s = false := fun _ => rfl
  cases v <;> simp only [dataV, give, dataCs_give hx, dataC_give hx]
theorem dataV_ok (hP : POk P C) (h : Inv C.T S tmps w St H F E A) {u : Value} {v v' : AV} (hv : VOk C.T w St H E u v) (he : (dataV v).exec cf E = some (v', E')) :
    ∃ St' F' f, Put C S tmps w St St' H F' E E' A f u v' := give_ok hP h hv (dataV_give v ▸ he)

/-- The cells of a value that fits a type. -/
theorem cells_of_RelC {T : TypeId → Option TI} {u : Value} {f : List Nat} {c : AV} (h : RelC T w St H u f c) (hc : isCell c = true) : u.cells = #[u] := by
  cases c <;> simp only [RelC] at h <;> first
    | (obtain ⟨_, rfl⟩ := h; rfl)
    | (simp [isCell] at hc; done)
    | skip
  case shr => obtain ⟨_, h⟩ := h; obtain ⟨_, _, _, _, _, _, rfl, _⟩ := h.row; rfl
  case own => obtain ⟨_, _, _, _, _, rfl, _⟩ := h; rfl
  case eref => obtain ⟨_, _, _, _, _, _, _, _, rfl⟩ := h; rfl
  case sref => obtain ⟨_, _, _, _, _, _, rfl, _⟩ := h; rfl
end Go.Ev

/- The reader's operations are the model's: those that touch no memory. -/
namespace Go.Ev
open Go
set_option linter.unusedVariables false
set_option linter.unusedSimpArgs false
variable {cf : CF} {P : Program} {C : Ctx} {S : Frm} {w w' : World} {St St' : Nat → Prop} {H H' : Gh} {F : Nat → List Nat} {E E' E1 : Env} {A f fd : List Nat} {o : Oper} {a : Act}

def OpOk (P : Program) (C : Ctx) (S : Frm) (o : Oper) (a : Act) (w : World) (E' : Env) : Prop :=
  ∀ (next : Act → World → Prop) (Q : Exit → Act → World → Prop), (∀ a' w', a'.defers = a.defers → (∃ St H F, Inv C.T S a'.tmps w' St H F E' []) → next a' w') → o.wp P a w next Q
theorem OpOk.value {v : Value} (hrun : (execOp a.eval o).run P w = .ok (.value v) w') (hi : ∃ St H F, Inv C.T S (a.put o.dst v).tmps w' St H F E' []) : OpOk P C S o a w E' := by
  intro next Q hn
  unfold Oper.wp
  rw [hrun, Oper.upon_value]
  refine hn _ _ ?_ hi
  cases o.dst <;> rfl
theorem OpOk.set {d : Nat} {u : Value} {v : AV} (hd : o.dst = some d) (hrun : (execOp a.eval o).run P w = .ok (.value u) w') (h : Inv C.T S a.tmps w' St H F E1 (f ++ [])) (hr : RelS C.T w' St H u f v)
    (hm : ∀ x, ment x v = true → geti E1 x ≠ .und) (hu : v ≠ .und) (hb : isBox v = false) : OpOk P C S o a w (E1.set d v) := by
  have hi := h.put d u v hr hu (fun x hx _ => hm x hx) (fun hx => by rw [hb] at hx; cases hx) (fun cs hcs => by rw [hcs] at hb; cases hb)
  exact OpOk.value hrun ⟨_, _, _, by rw [hd]; exact hi⟩
theorem OpOk.setV {d : Nat} {u : Value} {v : AV} (hd : o.dst = some d) (hrun : (execOp a.eval o).run P w = .ok (.value u) w) (h : Inv C.T S a.tmps w St H F E1 []) (hr : VOk C.T w St H E1 u v) : OpOk P C S o a w (E1.set d v) :=
  OpOk.set hd hrun (f := []) h hr.rel hr.ment hr.und hr.box

theorem op_move (hS : FOk C S) (h : Inv C.T S a.tmps w St H F E []) {x : Operand} (ho : o.op = .move x ∨ o.op = .assign x) {u : Unit} (he : (evMove C o x).exec cf E = some (u, E')) : OpOk P C S o a w E' := by
  have hrun : (execOp a.eval o).run P w = .ok (.value (a.eval x)) w := by
    rcases ho with ho | ho <;> simp [execOp, ho]
  unfold evMove at he
  cases hd : o.dst with
  | none => simp [hd, Prg.exec] at he
  | some d =>
    have gen : ∀ {p : Prg AV}, (∀ {v E1}, p.exec cf E = some (v, E1) → E1 = E ∧ VOk C.T w St H E (a.eval x) v) → (p.bind fun v => Prg.set d v (.ret ())).exec cf E = some (u, E') → OpOk P C S o a w E' := by
      intro p hp he
      obtain ⟨v, E1, h1, h2⟩ := bind_exec he
      obtain ⟨rfl, hv⟩ := hp h1
      rw [set_exec h2]
      exact OpOk.setV hd hrun h hv
    cases x with
    | tmp s =>
      simp only [hd, Prg.exec] at he
      cases hv : geti E s
      case tup vs =>
        simp only [hv, Prg.exec, Option.some.injEq, Prod.mk.injEq] at he
        rw [← he.2]
        have hl : s < E.length := by
          rcases Nat.lt_or_ge s E.length with h | h
          · exact h
          · rw [geti_ge h] at hv; cases hv
        have hr := h.rel s hl
        rw [hv] at hr
        exact OpOk.set hd hrun (f := F s) (h.lift s) hr (fun y hy => by
          rw [geti_set]
          split
          · simp
          · exact h.ment s y (by rw [hv]; exact hy)) (by simp) rfl
      all_goals
        simp only [hv] at he
        exact gen (fun hp => opS_ok h hp) he
    | _ =>
      simp only [hd] at he
      exact gen (fun hp => opd_ok hS h hp) he
theorem op_assign (hP : POk P C) (hS : FOk C S) (h : Inv C.T S a.tmps w St H F E []) {x : Operand} (ho : o.op = .move x ∨ o.op = .assign x) {u : Unit} (he : (evAssign C o x).exec cf E = some (u, E')) : OpOk P C S o a w E' := by
  have hrun : (execOp a.eval o).run P w = .ok (.value (a.eval x)) w := by
    rcases ho with ho | ho <;> simp [execOp, ho]
  unfold evAssign at he
  cases hd : o.dst with
  | none => simp [hd, Prg.exec] at he
  | some d =>
    simp only [hd] at he
    obtain ⟨v, E1, h1, h2⟩ := bind_exec he
    obtain ⟨rfl, hv⟩ := opd_ok hS h h1
    cases v
    case view s off t i =>
      obtain ⟨r, E2, g1, g2⟩ := bind_exec h2
      rw [set_exec g2]
      obtain ⟨rfl, ha⟩ := take_exec g1
      obtain ⟨f, F', ho', hi⟩ := h.take ha
      obtain ⟨_, hu⟩ := hv.rel
      have hu' : a.eval x = H.hd t i := hu
      exact OpOk.set hd hrun hi ⟨hu', hu' ▸ ho'⟩ (fun y hy => by
        simp only [Ev.ment, mentC, beq_iff_eq] at hy
        subst hy
        exact set_nu (putAt_und (at_und ha) (by simp)) t (h.ment s t (at_ment ha))) (by simp) rfl
    case agg cs =>
      obtain ⟨cs', E2, g1, g2⟩ := bind_exec h2
      rw [set_exec g2]
      obtain ⟨us, k1, k2⟩ := hv.rel
      obtain ⟨St', F', f, q1, q2, q3, q4, q6⟩ := giveCs_ok hP cs us.toList cs' St F E1 E2 [] h k2 hv.ment g1
      exact OpOk.set hd hrun q2 ⟨us, k1, q3⟩ q4 (by simp) rfl
    all_goals
      rw [set_exec h2]
      exact OpOk.setV hd hrun h hv
theorem rel_int {T : TypeId → Option TI} {u : Value} {f : List Nat} {k : IntKind} {n : Int} (h : RelS T w St H u f (.int k n)) : u = .int k n := h.2
theorem rel_bool {T : TypeId → Option TI} {u : Value} {f : List Nat} {b : Bool} (h : RelS T w St H u f (.bool b)) : u = .bool b := h.2
theorem rel_str {T : TypeId → Option TI} {u : Value} {f : List Nat} {s : ByteArray} (h : RelS T w St H u f (.str s)) : u = .string s := h.2
theorem vok_int {T : TypeId → Option TI} {k : IntKind} {n : Int} : VOk T w St H E (.int k n) (.int k n) := ⟨⟨rfl, rfl⟩, fun x hx => by simp [Ev.ment, mentC] at hx, by simp, rfl⟩
theorem vok_bool {T : TypeId → Option TI} {b : Bool} : VOk T w St H E (.bool b) (.bool b) := ⟨⟨rfl, rfl⟩, fun x hx => by simp [Ev.ment, mentC] at hx, by simp, rfl⟩
theorem vok_str {T : TypeId → Option TI} {s : ByteArray} : VOk T w St H E (.string s) (.str s) := ⟨⟨rfl, rfl⟩, fun x hx => by simp [Ev.ment, mentC] at hx, by simp, rfl⟩
/-- What a temporary holds, as it stands. -/
theorem raw_ok (hS : FOk C S) (h : Inv C.T S a.tmps w St H F E []) {t : TypeId} {x : Operand} {v : AV} (he : (rawV C t x).exec cf E = some (v, E')) : E' = E ∧ ∃ f, RelS C.T w St H (a.eval x) f v ∨ v = .und := by
  cases x with
  | tmp s =>
    simp only [rawV, Prg.exec, Option.some.injEq, Prod.mk.injEq] at he
    obtain ⟨rfl, rfl⟩ := he
    refine ⟨rfl, ?_⟩
    rcases Nat.lt_or_ge s E.length with hl | hl
    · exact ⟨F s, .inl (h.rel s hl)⟩
    · exact ⟨[], .inr (geti_ge hl)⟩
  | const q =>
    obtain ⟨h1, h2⟩ := opd_ok hS h (show (opd C t (.const q)).exec cf E = some (v, E') from he)
    exact ⟨h1, [], .inl h2.rel⟩
  | global q =>
    obtain ⟨h1, h2⟩ := opd_ok hS h (show (opd C t (.global q)).exec cf E = some (v, E') from he)
    exact ⟨h1, [], .inl h2.rel⟩
  | func q =>
    obtain ⟨h1, h2⟩ := opd_ok hS h (show (opd C t (.func q)).exec cf E = some (v, E') from he)
    exact ⟨h1, [], .inl h2.rel⟩
theorem pickV_ok {c : Bool} {x y v : AV} (h : pickV c x y = some v) : (∃ p q, x = .bool p ∧ y = .bool q ∧ v = .bool (bif c then p else q)) ∨ (∃ k p q, x = .int k p ∧ y = .int k q ∧ v = .int k (bif c then p else q)) ∨
    (∃ p q, x = .str p ∧ y = .str q ∧ v = .str (bif c then p else q)) := by
  unfold pickV at h
  split at h
  · simp only [Option.some.injEq] at h
    exact .inl ⟨_, _, rfl, rfl, h.symm⟩
  · split at h
    · rename_i hk
      subst hk
      simp only [Option.some.injEq] at h
      exact .inr (.inl ⟨_, _, _, rfl, rfl, h.symm⟩)
    · cases h
  · simp only [Option.some.injEq] at h
    exact .inr (.inr ⟨_, _, rfl, rfl, h.symm⟩)
  · cases h
theorem OpOk.imp (h : OpOk P C S o a w E1) (hi : ∀ (tmps : Array Value) (w : World) (St : Nat → Prop) (H : Gh) (F : Nat → List Nat), Inv C.T S tmps w St H F E1 [] → ∃ F', Inv C.T S tmps w St H F' E' []) : OpOk P C S o a w E' :=
  fun next Q hn => h next Q fun a' w' hd hx => by
    obtain ⟨St, H, F, hinv⟩ := hx
    obtain ⟨F', h'⟩ := hi _ _ _ _ _ hinv
    exact hn a' w' hd ⟨St, H, F', h'⟩
theorem kill_ok {T : TypeId → Option TI} {x : Operand} {u : Unit} (he : (killS x).exec cf E = some (u, E')) {tmps : Array Value} (h : Inv T S tmps w St H F E []) : ∃ F', Inv T S tmps w St H F' E' [] := by
  unfold killS at he
  have set : ∀ s, F s = [] → ∃ F', Inv T S tmps w St H F' (E.set s .dead) [] := fun s hs => by
    have := h.lift s
    rw [hs] at this
    exact ⟨_, this⟩
  cases x with
  | tmp s =>
    simp only [Prg.exec] at he
    cases hv : geti E s <;> simp only [hv, Prg.exec, Option.some.injEq, Prod.mk.injEq] at he <;> obtain ⟨_, rfl⟩ := he
    case skp => exact set s (by
      rcases Nat.lt_or_ge s E.length with hl | hl
      · have := h.rel s hl
        rw [hv] at this
        exact this.1
      · exact h.out s hl)
    case bool b => exact set s (by
      rcases Nat.lt_or_ge s E.length with hl | hl
      · have := h.rel s hl
        rw [hv] at this
        exact this.1
      · exact h.out s hl)
    all_goals exact ⟨_, h⟩
  | _ =>
    simp only [Prg.exec, Option.some.injEq, Prod.mk.injEq] at he
    rw [← he.2]
    exact ⟨_, h⟩
theorem op_pick (hS : FOk C S) (h : Inv C.T S a.tmps w St H F E []) {c x y : Operand} (ho : o.op = .pick c x y) {u : Unit} (he : (evPick C o c x y).exec cf E = some (u, E')) : OpOk P C S o a w E' := by
  unfold evPick at he
  cases hd : o.dst with
  | none => simp [hd, Prg.exec] at he
  | some d =>
    simp only [hd] at he
    obtain ⟨cv, E1, h1, he1⟩ := bind_exec he
    clear he
    obtain ⟨rfl, hcv⟩ := opd_ok hS h h1
    cases cv <;> simp only [Prg.exec, reduceCtorEq] at he1
    case bool cb =>
      have ec := rel_bool hcv.rel
      obtain ⟨xv, E2, h2, he2⟩ := bind_exec he1
      clear he1
      obtain ⟨rfl, fx, hx⟩ := raw_ok hS h h2
      obtain ⟨yv, E3, h3, he⟩ := bind_exec he2
      clear he2
      obtain ⟨rfl, fy, hy⟩ := raw_ok hS h h3
      have hrun : (execOp a.eval o).run P w = .ok (.value (if cb then a.eval x else a.eval y)) w := by
        cases cb <;> simp [execOp, ho, ec, asBool]
      have fin : ∀ {v : AV} {uv : Value}, (if cb then a.eval x else a.eval y) = uv → VOk C.T w St H E3 uv v → (endP d v x y).exec cf E3 = some (u, E') → OpOk P C S o a w E' := by
        intro v uv e1 hv he
        unfold endP at he
        simp only [Prg.exec] at he
        obtain ⟨_, E5, h5, h6⟩ := bind_exec he
        refine (OpOk.setV (E1 := E3) hd (hrun.trans (by rw [e1])) h hv).imp fun tmps w St H F hi => ?_
        obtain ⟨F1, h1⟩ := kill_ok h5 hi
        exact kill_ok h6 h1
      have gen : ((lift (pickV cb xv yv)).bind fun v => endP d v x y).exec cf E3 = some (u, E') → OpOk P C S o a w E' := by
        intro he
        obtain ⟨v, E4, h4, he⟩ := bind_exec he
        obtain ⟨hp, rfl⟩ := lift_exec h4
        rcases pickV_ok hp with ⟨p, q, rfl, rfl, rfl⟩ | ⟨k, p, q, rfl, rfl, rfl⟩ | ⟨p, q, rfl, rfl, rfl⟩
        · have e1 := rel_bool (hx.resolve_right (by simp))
          have e2 := rel_bool (hy.resolve_right (by simp))
          refine fin ?_ (vok_bool (E := E4) (b := bif cb then p else q)) he
          cases cb <;> simp [e1, e2]
        · have e1 := rel_int (hx.resolve_right (by simp))
          have e2 := rel_int (hy.resolve_right (by simp))
          refine fin ?_ (vok_int (E := E4) (n := bif cb then p else q)) he
          cases cb <;> simp [e1, e2]
        · have e1 := rel_str (hx.resolve_right (by simp))
          have e2 := rel_str (hy.resolve_right (by simp))
          refine fin ?_ (vok_str (E := E4) (s := bif cb then p else q)) he
          cases cb <;> simp [e1, e2]
      split at he
      · rename_i q
        obtain ⟨hc, he⟩ := chk_exec he
        have e2 := rel_bool (hy.resolve_right (by simp))
        refine fin ?_ (vok_bool (b := q)) he
        cases cb <;> simp at hc ⊢
        exact e2
      · rename_i p
        obtain ⟨hc, he⟩ := chk_exec he
        have e2 := rel_bool (hx.resolve_right (by simp))
        refine fin ?_ (vok_bool (b := p)) he
        subst hc
        simp [e2]
      · exact gen he
end Go.Ev

/- The reader's operations are the model's: numbers, strings, parts of values. -/
namespace Go.Ev
open Go
set_option linter.unusedVariables false
set_option linter.unusedSimpArgs false
variable {cf : CF} {P : Program} {C : Ctx} {S : Frm} {w w' : World} {St St' : Nat → Prop} {H H' : Gh} {F : Nat → List Nat} {E E' E1 : Env} {A f fd : List Nat} {o : Oper} {a : Act}

theorem ret_exec {α : Type} {x y : α} (h : (Prg.ret x : Prg α).exec cf E = some (y, E')) : y = x ∧ E' = E := by
  simp only [Prg.exec, Option.some.injEq, Prod.mk.injEq] at h
  exact ⟨h.1.symm, h.2.symm⟩
theorem fail_exec {α : Type} {y : α} (h : (Prg.fail : Prg α).exec cf E = some (y, E')) : False := by simp [Prg.exec] at h
theorem strOp_ok {op : BinOp} {p q : ByteArray} {v : AV} (h : strOp op p q = some v) (hop : op ≠ .add) : ∃ uv, (Op.stringOp op p q).run P w = .ok uv w ∧ VOk C.T w St H E uv v := by
  cases op <;> simp only [strOp, Option.some.injEq, reduceCtorEq] at h <;> subst h
  case add => exact absurd rfl hop
  case eql => exact ⟨_, by simp [Op.stringOp], vok_bool⟩
  case neq => exact ⟨_, by simp [Op.stringOp], vok_bool⟩
  case lss => exact ⟨_, by simp [Op.stringOp], vok_bool⟩
theorem kind_of (hP : POk P C) {t : TypeId} {c : CT} (h : kindOf C t = some c) :
    ∃ ti, C.T t = some ti ∧ ti.cts = [c] ∧ TIok P t ti ∧ (match c with | .int k => P.underlying t = some (.int k) | .bool => P.underlying t = some .bool | .str => P.underlying t = some .string | .slice e => P.underlying t = some (.slice e) | _ => False) := by
  unfold kindOf at h
  cases ht : C.T t with
  | none => simp [ht] at h
  | some ti =>
    simp only [ht] at h
    have hok := hP.ti t ti ht
    have hsh := hok.sh
    split at h
    · rename_i c' hs hc
      simp only [Option.some.injEq] at h
      subst h
      rw [hs] at hsh
      obtain ⟨c2, e2, hsh⟩ := hsh
      rw [hc] at e2
      simp only [List.cons.injEq, and_true] at e2
      subst e2
      exact ⟨ti, rfl, hc, hok, by cases c' <;> first | exact hsh | exact hsh.elim⟩
    · rename_i e c' hs hc
      simp only [Option.some.injEq] at h
      subst h
      rw [hs] at hsh
      obtain ⟨hu, e2⟩ := hsh
      rw [hc] at e2
      simp only [List.cons.injEq, and_true] at e2
      subst e2
      exact ⟨ti, rfl, hc, hok, hu⟩
    · cases h
theorem kind_bool (hP : POk P C) {t : TypeId} (h : kindOf C t = some .bool) : P.underlying t = some .bool := by
  obtain ⟨_, _, _, _, h⟩ := kind_of hP h
  exact h
theorem run_equalIn_bool {t : TypeId} (d : Nat) (p q : Bool) (h : P.underlying t = some .bool) : (Op.equalIn (d + 1) t (.bool p) (.bool q)).run P w = .ok (p == q) w := by
  simp only [Op.equalIn, Sem.run_bind, run_underlying h, Result.andThen_ok, Sem.run_pure]
theorem run_equal_bool {t : TypeId} {p q : Bool} (h : P.underlying t = some .bool) : (Op.equal t (.bool p) (.bool q)).run P w = .ok (p == q) w := run_equalIn_bool 9999 p q h
theorem Cells.at_nil {T : TypeId → Option TI} : ∀ {vs : List Value} {cs : List AV} {fp : List Nat}, Cells T w St H vs fp cs → fp = [] → ∀ (i : Nat) (c : AV), cs[i]? = some c → ∃ u, vs[i]? = some u ∧ RelC T w St H u [] c
  | [], [], _, _, _, i, c, hc => by simp at hc
  | [], _ :: _, _, h, _, _, _, _ => by cases h
  | _ :: _, [], _, h, _, _, _, _ => by cases h
  | v :: vs, d :: cs, fp, h, h0, i, c, hc => by
    obtain ⟨f1, f2, e, h1, h2⟩ := h
    rw [h0] at e
    obtain ⟨rfl, rfl⟩ := List.append_eq_nil_iff.1 e.symm
    cases i with
    | zero =>
      simp only [List.getElem?_cons_zero, Option.some.injEq] at hc
      subst hc
      exact ⟨v, rfl, h1⟩
    | succ i =>
      simp only [List.getElem?_cons_succ] at hc ⊢
      exact Cells.at_nil h2 rfl i c hc
theorem run_partOf {t : TypeId} {xs : Array Value} {i : Nat} {v : Value} (hu : ∀ d, P.underlying t = some d → isAggD d = false) (hs : ∃ d, P.underlying t = some d) (hx : xs[i]? = some v) : (part t xs i).run P w = .ok v w := by
  obtain ⟨d, hd⟩ := hs
  have := hu d hd
  cases d <;> simp [isAggD] at this <;> simp [part, isAgg, run_underlying hd, hx]
def CellsAt (T : TypeId → Option TI) (w : World) (St : Nat → Prop) (H : Gh) (us : List Value) (as : List AV) : Prop := us.length = as.length ∧ ∀ (j : Nat) (c : AV), as[j]? = some c → ∃ u, us[j]? = some u ∧ RelC T w St H u [] c
theorem CellsAt.take {T : TypeId → Option TI} {us : List Value} {as : List AV} (h : CellsAt T w St H us as) (s : Nat) : CellsAt T w St H (us.take s) (as.take s) := by
  refine ⟨by rw [List.length_take, List.length_take, h.1], fun j c hj => ?_⟩
  rw [List.getElem?_take] at hj
  split at hj
  · rename_i hjs
    obtain ⟨u, h1, h2⟩ := h.2 j c hj
    exact ⟨u, by rw [List.getElem?_take, if_pos hjs]; exact h1, h2⟩
  · cases hj
theorem CellsAt.drop {T : TypeId → Option TI} {us : List Value} {as : List AV} (h : CellsAt T w St H us as) (s : Nat) : CellsAt T w St H (us.drop s) (as.drop s) := by
  refine ⟨by rw [List.length_drop, List.length_drop, h.1], fun j c hj => ?_⟩
  rw [List.getElem?_drop] at hj
  obtain ⟨u, h1, h2⟩ := h.2 _ c hj
  exact ⟨u, by rw [List.getElem?_drop]; exact h1, h2⟩
theorem eqCs_split : ∀ (s : Nat) (as bs : List AV) (r : Bool), eqCs as bs = some r → s ≤ as.length → ∃ r1 r2, eqCs (as.take s) (bs.take s) = some r1 ∧ eqCs (as.drop s) (bs.drop s) = some r2 ∧ r = (r1 && r2)
  | 0, as, bs, r, h, _ => ⟨true, r, rfl, h, rfl⟩
  | s + 1, [], bs, r, h, hl => by simp at hl
  | s + 1, a :: as, [], r, h, hl => by simp [eqCs] at h
  | s + 1, a :: as, b :: bs, r, h, hl => by
    simp only [eqCs] at h
    obtain ⟨q, hq, h⟩ := Option.bind_eq_some_iff.1 h
    obtain ⟨q2, hq2, h⟩ := Option.map_eq_some_iff.1 h
    obtain ⟨r1, r2, h1, h2, h3⟩ := eqCs_split s as bs q2 hq2 (by simpa using hl)
    exact ⟨q && r1, r2, by simp [eqCs, hq, h1], h2, by rw [← h, h3, Bool.and_assoc]⟩
theorem fitCs_split : ∀ (s : Nat) (cts : List CT) (as : List AV), fitCs cts as = true → fitCs (cts.take s) (as.take s) = true ∧ fitCs (cts.drop s) (as.drop s) = true
  | 0, cts, as, h => ⟨rfl, h⟩
  | s + 1, [], [], h => ⟨rfl, rfl⟩
  | s + 1, [], _ :: _, h => by simp [fitCs] at h
  | s + 1, _ :: _, [], h => by simp [fitCs] at h
  | s + 1, c :: cts, a :: as, h => by
    simp only [fitCs, Bool.and_eq_true] at h
    have ih := fitCs_split s cts as h.2
    exact ⟨by simp [fitCs, h.1, ih.1], ih.2⟩
theorem fitCs_ln : ∀ (cts : List CT) (as : List AV), fitCs cts as = true → cts.length = as.length
  | [], [], h => rfl
  | [], _ :: _, h => by simp [fitCs] at h
  | _ :: _, [], h => by simp [fitCs] at h
  | c :: cts, a :: as, h => by
    simp only [fitCs, Bool.and_eq_true] at h
    rw [List.length_cons, List.length_cons, fitCs_ln cts as h.2]
def Vof (P : Program) (t : TypeId) (us : List Value) (v : Value) : Prop := ∀ d, P.underlying t = some d → if isAggD d = true then v = .agg us.toArray else us = [v]
theorem partT {d : Nat} {t : TypeId} {cts : List CT} (h : eqT P d t cts = true) {us : List Value} (hl : us.length = cts.length) {xs : Array Value} {off : Nat} (hx : (xs.toList.drop off).take cts.length = us) : ∃ x, (part t xs off).run P w = .ok x w ∧ Vof P t us x := by
  cases d with
  | zero => cases h
  | succ d =>
    unfold eqT at h
    rw [Bool.and_eq_true, decide_eq_true_eq] at h
    obtain ⟨hs, h⟩ := h
    cases hu : P.underlying t with
    | none => rw [hu] at h; cases h
    | some kd =>
      obtain ⟨i, hi⟩ := info_of_underlying hu
      cases hk : isAggD kd with
      | true =>
        refine ⟨.agg us.toArray, ?_, fun e he => ?_⟩
        · have e1 : xs.extract off (off + P.cellsOf t) = us.toArray := by
            apply Array.ext'
            rw [Array.toList_extract, ← hx, hs]
            simp [List.extract]
          cases kd <;> simp only [isAggD, Bool.false_eq_true] at hk <;> simp [part, isAgg, run_underlying hu, run_sizeOf w hi, e1]
        · obtain rfl := Option.some.inj (hu.symm.trans he)
          rw [if_pos hk]
      | false =>
        rw [hu] at h
        have one : ∃ c, cts = [c] := by
          cases kd <;> simp only [isAggD, Bool.true_eq_false, Bool.false_eq_true] at hk h
          all_goals (split at h <;> first | exact ⟨_, rfl⟩ | cases h)
        obtain ⟨c, rfl⟩ := one
        obtain ⟨u, rfl⟩ : ∃ u, us = [u] := List.length_eq_one_iff.1 hl
        have hg : xs[off]? = some u := by
          have := congrArg (fun l : List Value => l[0]?) hx
          simpa using this
        exact ⟨u, run_partOf (fun e he => by rw [hu] at he; cases he; exact hk) ⟨_, hu⟩ hg, fun e he => by
          obtain rfl := Option.some.inj (hu.symm.trans he)
          rw [hk]
          rfl⟩
theorem eqFieldsG_ok (D d : Nat) {xs ys : Array Value} (IH : ∀ (t : TypeId) (cts : List CT) (as bs : List AV) (us vs : List Value) (r : Bool), eqT P d t cts = true → fitCs cts as = true → eqCs as bs = some r → CellsAt C.T w St H us as → CellsAt C.T w St H vs bs → ∀ x y, Vof P t us x → Vof P t vs y → (Op.equalIn (D + d) t x y).run P w = .ok r w) :
    ∀ (fs : List Field) (cts : List CT) (as bs : List AV) (i : Nat) (r : Bool), eqFsG (eqT P d) P i fs cts = true → fitCs cts as = true → eqCs as bs = some r → CellsAt C.T w St H (xs.toList.drop i) as → CellsAt C.T w St H (ys.toList.drop i) bs → (Op.eqFields (D + d) xs ys fs).run P w = .ok r w
  | [], _ :: _, _, _, _, _, h, _, _, _, _ => by simp [eqFsG] at h
  | [], [], as, bs, i, r, _, hf, he, _, _ => by
    cases as with
    | cons a as => simp [fitCs] at hf
    | nil =>
      cases bs with
      | cons b bs => simp [eqCs] at he
      | nil =>
        simp only [eqCs, Option.some.injEq] at he
        subst he
        simp [Op.eqFields]
  | f :: fs, cts, as, bs, i, r, h, hf, he, hx, hy => by
    simp only [eqFsG, Bool.and_eq_true, decide_eq_true_eq] at h
    obtain ⟨⟨⟨⟨hn, ho⟩, hs⟩, hg⟩, hr⟩ := h
    have hl := fitCs_ln _ _ hf
    obtain ⟨r1, r2, e1, e2, rfl⟩ := eqCs_split (P.cellsOf f.type) as bs r he (by omega)
    obtain ⟨f1, f2⟩ := fitCs_split (P.cellsOf f.type) cts as hf
    have hb : as.length = bs.length := eqCs_len as bs he
    have ct : (cts.take (P.cellsOf f.type)).length = P.cellsOf f.type := by rw [List.length_take]; omega
    obtain ⟨x, p1, v1⟩ := partT (w := w) hg (us := (xs.toList.drop i).take (P.cellsOf f.type)) (by rw [List.length_take, hx.1, ct]; omega) (xs := xs) (off := f.offset) (by rw [ct, ho])
    obtain ⟨y, p2, v2⟩ := partT (w := w) hg (us := (ys.toList.drop i).take (P.cellsOf f.type)) (by rw [List.length_take, hy.1, ct]; omega) (xs := ys) (off := f.offset) (by rw [ct, ho])
    have p3 := IH f.type _ _ _ _ _ r1 hg f1 e1 (hx.take _) (hy.take _) x y v1 v2
    have ih := eqFieldsG_ok D d IH fs _ _ _ (i + P.cellsOf f.type) r2 hr f2 e2 (by have := hx.drop (P.cellsOf f.type); rwa [List.drop_drop] at this) (by have := hy.drop (P.cellsOf f.type); rwa [List.drop_drop] at this)
    simp only [Op.eqFields, hn, ne_eq, not_false_eq_true, if_true, Sem.run_bind, p1, p2, p3, Result.andThen_ok]
    cases r1
    · simp
    · simpa using ih
where
  eqCs_len : ∀ (as bs : List AV) {r : Bool}, eqCs as bs = some r → as.length = bs.length
    | [], [], _, _ => rfl
    | [], _ :: _, _, h => by simp [eqCs] at h
    | _ :: _, [], _, h => by simp [eqCs] at h
    | a :: as, b :: bs, r, h => by
      simp only [eqCs] at h
      obtain ⟨q, hq, h⟩ := Option.bind_eq_some_iff.1 h
      obtain ⟨q2, hq2, h⟩ := Option.map_eq_some_iff.1 h
      rw [List.length_cons, List.length_cons, eqCs_len as bs hq2]
theorem eqItemsG_ok (D d : Nat) {e : TypeId} {xs ys : Array Value} (IH : ∀ (t : TypeId) (cts : List CT) (as bs : List AV) (us vs : List Value) (r : Bool), eqT P d t cts = true → fitCs cts as = true → eqCs as bs = some r → CellsAt C.T w St H us as → CellsAt C.T w St H vs bs → ∀ x y, Vof P t us x → Vof P t vs y → (Op.equalIn (D + d) t x y).run P w = .ok r w) :
    ∀ (m a : Nat) (cts : List CT) (as bs : List AV) (r : Bool), eqIsG (eqT P d e) (P.cellsOf e) m cts = true → fitCs cts as = true → eqCs as bs = some r → CellsAt C.T w St H (xs.toList.drop (a * P.cellsOf e)) as → CellsAt C.T w St H (ys.toList.drop (a * P.cellsOf e)) bs → (Op.eqItems (D + d) e (P.cellsOf e) xs ys (List.range' a m)).run P w = .ok r w
  | 0, a, _ :: _, _, _, _, h, _, _, _, _ => by simp [eqIsG] at h
  | 0, a, [], as, bs, r, _, hf, he, _, _ => by
    cases as with
    | cons a as => simp [fitCs] at hf
    | nil =>
      cases bs with
      | cons b bs => simp [eqCs] at he
      | nil =>
        simp only [eqCs, Option.some.injEq] at he
        subst he
        simp [Op.eqItems]
  | m + 1, a, cts, as, bs, r, h, hf, he, hx, hy => by
    simp only [eqIsG, Bool.and_eq_true, decide_eq_true_eq] at h
    obtain ⟨⟨hs, hg⟩, hr⟩ := h
    have hl := fitCs_ln _ _ hf
    obtain ⟨r1, r2, e1, e2, rfl⟩ := eqCs_split (P.cellsOf e) as bs r he (by omega)
    obtain ⟨f1, f2⟩ := fitCs_split (P.cellsOf e) cts as hf
    have hb : as.length = bs.length := eqFieldsG_ok.eqCs_len as bs he
    have ct : (cts.take (P.cellsOf e)).length = P.cellsOf e := by rw [List.length_take]; omega
    obtain ⟨x, p1, v1⟩ := partT (w := w) hg (us := (xs.toList.drop (a * P.cellsOf e)).take (P.cellsOf e)) (by rw [List.length_take, hx.1, ct]; omega) (xs := xs) (off := a * P.cellsOf e) (by rw [ct])
    obtain ⟨y, p2, v2⟩ := partT (w := w) hg (us := (ys.toList.drop (a * P.cellsOf e)).take (P.cellsOf e)) (by rw [List.length_take, hy.1, ct]; omega) (xs := ys) (off := a * P.cellsOf e) (by rw [ct])
    have p3 := IH e _ _ _ _ _ r1 hg f1 e1 (hx.take _) (hy.take _) x y v1 v2
    have es : a * P.cellsOf e + P.cellsOf e = (a + 1) * P.cellsOf e := by rw [Nat.add_mul, Nat.one_mul]
    have ih := eqItemsG_ok D d IH m (a + 1) _ _ _ r2 hr f2 e2 (by have := hx.drop (P.cellsOf e); rwa [List.drop_drop, es] at this) (by have := hy.drop (P.cellsOf e); rwa [List.drop_drop, es] at this)
    simp only [List.range'_succ, Op.eqItems, Sem.run_bind, p1, p2, p3, Result.andThen_ok]
    cases r1
    · simp
    · simpa using ih
theorem eqT_ok (D : Nat) : ∀ (d : Nat) (t : TypeId) (cts : List CT) (as bs : List AV) (us vs : List Value) (r : Bool), eqT P d t cts = true → fitCs cts as = true → eqCs as bs = some r → CellsAt C.T w St H us as → CellsAt C.T w St H vs bs → ∀ x y, Vof P t us x → Vof P t vs y → (Op.equalIn (D + d) t x y).run P w = .ok r w
  | 0, t, cts, as, bs, us, vs, r, h, _, _, _, _, _, _, _, _ => by cases h
  | d + 1, t, cts, as, bs, us, vs, r, h, hf, he, hu1, hv1, x, y, vx, vy => by
    unfold eqT at h
    rw [Bool.and_eq_true, decide_eq_true_eq] at h
    obtain ⟨hs, h⟩ := h
    have one : ∀ (c : CT), cts = [c] → ∃ a b u v, as = [a] ∧ bs = [b] ∧ us = [u] ∧ vs = [v] ∧ fitC c a = true ∧ eqC a b = some r ∧ RelC C.T w St H u [] a ∧ RelC C.T w St H v [] b := by
      rintro c rfl
      obtain ⟨a, rfl⟩ : ∃ a, as = [a] := List.length_eq_one_iff.1 (fitCs_ln _ _ hf).symm
      obtain ⟨b, rfl⟩ : ∃ b, bs = [b] := List.length_eq_one_iff.1 (eqFieldsG_ok.eqCs_len _ _ he).symm
      obtain ⟨u, rfl⟩ : ∃ u, us = [u] := List.length_eq_one_iff.1 hu1.1
      obtain ⟨v, rfl⟩ : ∃ v, vs = [v] := List.length_eq_one_iff.1 hv1.1
      obtain ⟨u', g1, g2⟩ := hu1.2 0 a rfl
      obtain ⟨v', g3, g4⟩ := hv1.2 0 b rfl
      obtain rfl : u = u' := by simpa using g1
      obtain rfl : v = v' := by simpa using g3
      simp only [fitCs, Bool.and_true] at hf
      simp only [eqCs] at he
      obtain ⟨q, hq, he⟩ := Option.bind_eq_some_iff.1 he
      simp only [Option.map_some, Option.some.injEq, Bool.and_true] at he
      exact ⟨a, b, u, v, rfl, rfl, rfl, rfl, hf, by rw [hq, he], g2, g4⟩
    cases hu : P.underlying t with
    | none => rw [hu] at h; cases h
    | some kd =>
      have wx := vx _ hu
      have wy := vy _ hu
      rw [hu] at h
      rw [show D + (d + 1) = D + d + 1 from rfl]
      cases kd <;> simp only [Bool.false_eq_true] at h <;> simp only [isAggD, Bool.false_eq_true, if_false, if_true] at wx wy
      case int k' =>
        split at h
        · rename_i k
          obtain ⟨a, b, u, v, rfl, rfl, rfl, rfl, h1, h2, h3, h4⟩ := one _ rfl
          obtain rfl : u = x := by simpa using wx
          obtain rfl : v = y := by simpa using wy
          cases a <;> simp only [fitC, Bool.false_eq_true] at h1
          cases b <;> simp only [eqC, reduceCtorEq] at h2
          split at h2
          · rename_i e3
            subst e3
            cases h2
            rw [h3.2, h4.2]
            exact run_equalIn_int w _ _ _ k' _ _ hu
          · cases h2
        · cases h
      case bool =>
        split at h
        · obtain ⟨a, b, u, v, rfl, rfl, rfl, rfl, h1, h2, h3, h4⟩ := one _ rfl
          obtain rfl : u = x := by simpa using wx
          obtain rfl : v = y := by simpa using wy
          cases a <;> simp only [fitC, Bool.false_eq_true] at h1
          cases b <;> simp only [eqC, reduceCtorEq] at h2
          cases h2
          rw [h3.2, h4.2]
          exact run_equalIn_bool' w _ _ _ _ hu
        · cases h
      case string =>
        split at h
        · obtain ⟨a, b, u, v, rfl, rfl, rfl, rfl, h1, h2, h3, h4⟩ := one _ rfl
          obtain rfl : u = x := by simpa using wx
          obtain rfl : v = y := by simpa using wy
          cases a <;> simp only [fitC, Bool.false_eq_true] at h1
          cases b <;> simp only [eqC, reduceCtorEq] at h2
          cases h2
          rw [h3.2, h4.2]
          exact run_equalIn_string w _ _ _ _ hu
        · cases h
      case struct fs =>
        subst wx wy
        simp only [Bool.and_eq_true, Bool.not_eq_true'] at h
        have hfo : P.fieldsOf t = fs := by unfold Program.fieldsOf; rw [hu]
        rw [run_equalIn_struct w (D + d) t _ _ (by rw [hfo]; exact hu) h.1, hfo]
        exact eqFieldsG_ok (C := C) (St := St) (H := H) D d (eqT_ok D d) fs.toList cts as bs 0 r h.2 hf he (by simpa using hu1) (by simpa using hv1)
      case array n e =>
        subst wx wy
        cases n with
        | zero => simp at h
        | succ m =>
          replace h : eqIsG (eqT P d e) (P.cellsOf e) (m + 1) cts = true := by simpa using h
          have hie : ∃ i, P.info? e = some i := by
            simp only [eqIsG, Bool.and_eq_true] at h
            have h2 := h.1.2
            cases d with
            | zero => cases h2
            | succ d =>
              unfold eqT at h2
              rw [Bool.and_eq_true] at h2
              cases hue : P.underlying e with
              | none => rw [hue] at h2; cases h2.2
              | some _ => exact info_of_underlying hue
          obtain ⟨i, hi⟩ := hie
          rw [run_equalIn_array w (D + d) _ _ hu hi, List.range_eq_range']
          exact eqItemsG_ok (C := C) (St := St) (H := H) D d (eqT_ok D d) (m + 1) 0 cts as bs r h hf he (by simpa using hu1) (by simpa using hv1)
theorem rel_agg {u : Value} {cs : List AV} (h : RelS C.T w St H u [] (.agg cs)) : ∃ vs, u = .agg vs ∧ Cells C.T w St H vs.toList [] cs := h
theorem binP_ok {op : BinOp} {t : TypeId} {X Y : Operand} {u u' : Value} {x y v : AV} (hx : VOk C.T w St H E u x) (hy : VOk C.T w St H E u' y) (hP : POk P C) (ht : isKind C t x = true) (he : (binP op x y).exec cf E = some (v, E')) :
    E' = E ∧ ∃ uv, ((do eqGuard op t X Y u u'; binOp op t u u') : Sem Value).run P w = .ok uv w ∧ VOk C.T w St H E uv v := by
  unfold binP at he
  split at he
  · rename_i k p k' q
    have e1 := rel_int hx.rel
    have e2 := rel_int hy.rel
    have eg : eqGuard op t X Y u u' = pure () := by rw [e1]; exact eqGuard_at_int ..
    have guard : ∀ {g : Prg AV}, (if k = k' then g else .fail).exec cf E = some (v, E') → k = k' ∧ g.exec cf E = some (v, E') := by
      intro g hg
      by_cases hk : k = k'
      · rw [if_pos hk] at hg; exact ⟨hk, hg⟩
      · rw [if_neg hk] at hg; exact (fail_exec hg).elim
    rw [eg, e1, e2]
    cases op <;> simp only at he
    case quo =>
      obtain ⟨rfl, hg⟩ := guard he
      obtain ⟨hc, hg⟩ := chk_exec hg
      obtain ⟨rfl, rfl⟩ := ret_exec hg
      have hq : q ≠ 0 := by simpa using hc
      exact ⟨rfl, _, by simp [binOp, Op.intDiv, hq], vok_int⟩
    case rem =>
      obtain ⟨rfl, hg⟩ := guard he
      obtain ⟨hc, hg⟩ := chk_exec hg
      obtain ⟨rfl, rfl⟩ := ret_exec hg
      have hq : q ≠ 0 := by simpa using hc
      exact ⟨rfl, _, by simp [binOp, Op.intDiv, hq], vok_int⟩
    case shl =>
      obtain ⟨hc, hg⟩ := chk_exec he
      obtain ⟨rfl, rfl⟩ := ret_exec hg
      have hq : ¬ q < 0 := by simpa using hc
      exact ⟨rfl, _, by simp [binOp, Op.shift, hq], vok_int⟩
    case shr =>
      obtain ⟨hc, hg⟩ := chk_exec he
      obtain ⟨rfl, rfl⟩ := ret_exec hg
      have hq : ¬ q < 0 := by simpa using hc
      exact ⟨rfl, _, by simp [binOp, Op.shift, hq], vok_int⟩
    case and =>
      obtain ⟨rfl, hg⟩ := guard he
      obtain ⟨hl, rfl⟩ := lift_exec hg
      simp only [bitOp, Option.some.injEq] at hl
      subst hl
      exact ⟨rfl, _, by simp [binOp, Op.intBits], vok_int⟩
    case or =>
      obtain ⟨rfl, hg⟩ := guard he
      obtain ⟨hl, rfl⟩ := lift_exec hg
      simp only [bitOp, Option.some.injEq] at hl
      subst hl
      exact ⟨rfl, _, by simp [binOp, Op.intBits], vok_int⟩
    case xor =>
      obtain ⟨rfl, hg⟩ := guard he
      obtain ⟨hl, rfl⟩ := lift_exec hg
      simp only [bitOp, Option.some.injEq] at hl
      subst hl
      exact ⟨rfl, _, by simp [binOp, Op.intBits], vok_int⟩
    all_goals
      obtain ⟨rfl, hg⟩ := guard he
      obtain ⟨hl, rfl⟩ := lift_exec hg
      first
        | (simp only [intOp, reduceCtorEq] at hl; done)
        | (simp only [intOp, Option.some.injEq] at hl
           subst hl
           first
             | exact ⟨rfl, _, by simp [binOp, Op.intArith, Op.intCmp], vok_int⟩
             | exact ⟨rfl, _, by simp [binOp, Op.intArith, Op.intCmp], vok_bool⟩)
  · rename_i p q
    have e1 := rel_bool hx.rel
    have e2 := rel_bool hy.rel
    have eg : eqGuard op t X Y u u' = pure () := by rw [e1]; exact eqGuard_at_bool ..
    have hu := kind_bool hP (t := t) (by
      simp only [isKind] at ht
      split at ht
      · assumption
      · cases ht)
    rw [eg, e1, e2]
    cases op <;> simp only [Prg.exec, reduceCtorEq, Option.some.injEq, Prod.mk.injEq] at he
    · obtain ⟨rfl, rfl⟩ := he
      refine ⟨rfl, .bool (p == q), ?_, vok_bool⟩
      simp only [binOp, Sem.run_bind, Sem.run_pure, Result.andThen_ok, run_equal_bool hu]
    · obtain ⟨rfl, rfl⟩ := he
      refine ⟨rfl, .bool !(p == q), ?_, vok_bool⟩
      simp only [binOp, Sem.run_bind, Sem.run_pure, Result.andThen_ok, run_equal_bool hu]
  · rename_i p q
    have e1 := rel_str hx.rel
    have e2 := rel_str hy.rel
    have eg : eqGuard op t X Y u u' = pure () := by rw [e1]; cases op <;> rfl
    have eb : binOp op t u u' = Op.stringOp op p q := by rw [e1, e2]; cases op <;> rfl
    rw [eg, eb]
    by_cases hop : op = .add
    · subst hop
      obtain ⟨hc, hg⟩ := chk_exec he
      obtain ⟨rfl, rfl⟩ := ret_exec hg
      have hc' : p.size + q.size ≤ 9223372036854775807 := by simpa using hc
      exact ⟨rfl, .string (p ++ q), by
        have : ¬ (9223372036854775807 < (p.size : Int) + (q.size : Int)) := by omega
        simp [Op.stringOp, this], vok_str⟩
    · have hg : (lift (strOp op p q)).exec cf E = some (v, E') := by
        cases op <;> first | exact he | exact absurd rfl hop
      obtain ⟨hl, rfl⟩ := lift_exec hg
      obtain ⟨uv, h1, h2⟩ := strOp_ok (P := P) (C := C) (w := w) (St := St) (H := H) (E := E') hl hop
      exact ⟨rfl, uv, by simpa using h1, h2⟩
  · rename_i p q
    obtain ⟨xs, e1, c1⟩ := rel_agg hx.rel
    obtain ⟨ys, e2, c2⟩ := rel_agg hy.rel
    simp only [isKind, Bool.and_eq_true] at ht
    obtain ⟨hq, ht⟩ := ht
    split at ht
    · rename_i ti hti
      have hk := hP.eq t ti hq hti
      obtain ⟨dd, hdd, hagg⟩ := hk.agg
      have main : ∀ r, eqCs p q = some r → (Op.equalIn 10000 t (.agg xs) (.agg ys)).run P w = .ok r w := by
        intro r hr
        have l1 : xs.toList.length = p.length := c1.length
        have l2 : ys.toList.length = q.length := c2.length
        refine eqT_ok (C := C) (St := St) (H := H) 9994 6 t ti.cts p q xs.toList ys.toList r hk.st ht hr ⟨l1, fun j c hj => c1.at_nil rfl j c hj⟩ ⟨l2, fun j c hj => c2.at_nil rfl j c hj⟩ _ _ (fun e he => ?_) (fun e he => ?_)
        · obtain rfl := Option.some.inj (hdd.symm.trans he)
          rw [if_pos hagg]
        · obtain rfl := Option.some.inj (hdd.symm.trans he)
          rw [if_pos hagg]
      have hg := run_eqGuard_agg w op t X Y xs ys hk.guard
      rw [e1, e2]
      cases op <;> simp only [Prg.exec, reduceCtorEq] at he
      · obtain ⟨r, E1, h1, he2⟩ := bind_exec he
        obtain ⟨hl, rfl⟩ := lift_exec h1
        obtain ⟨rfl, rfl⟩ := ret_exec he2
        refine ⟨rfl, .bool r, ?_, vok_bool⟩
        rw [Sem.run_bind, hg, Result.andThen_ok, run_eql_struct, main r hl]
        rfl
      · obtain ⟨r, E1, h1, he2⟩ := bind_exec he
        obtain ⟨hl, rfl⟩ := lift_exec h1
        obtain ⟨rfl, rfl⟩ := ret_exec he2
        refine ⟨rfl, .bool !r, ?_, vok_bool⟩
        rw [Sem.run_bind, hg, Result.andThen_ok, run_neq_struct, main r hl]
        rfl
    · cases ht
  · exact (fail_exec he).elim
end Go.Ev

/- The reader's operations are the model's: more that touch no memory. -/
namespace Go.Ev
open Go
set_option linter.unusedVariables false
set_option linter.unusedSimpArgs false
variable {cf : CF} {P : Program} {C : Ctx} {S : Frm} {w w' : World} {St St' : Nat → Prop} {H H' : Gh} {F : Nat → List Nat} {E E' E1 : Env} {A f fd : List Nat} {o : Oper} {a : Act}

theorem op_bin (hP : POk P C) (hS : FOk C S) (h : Inv C.T S a.tmps w St H F E []) {op : BinOp} {t ty : TypeId} {x y : Operand} (ho : o.op = .binOp op t x y ty) {u : Unit} (he : (evBin C o op t x y ty).exec cf E = some (u, E')) : OpOk P C S o a w E' := by
  unfold evBin at he
  cases hd : o.dst with
  | none => simp [hd, Prg.exec] at he
  | some d =>
    simp only [hd] at he
    obtain ⟨xv, E1, h1, he1⟩ := bind_exec he
    clear he
    obtain ⟨rfl, hx⟩ := opd_ok hS h h1
    obtain ⟨yv, E2, h2, he2⟩ := bind_exec he1
    clear he1
    obtain ⟨rfl, hy⟩ := opd_ok hS h h2
    cases hk : isKind C t xv with
    | false => simp [hk, Prg.exec] at he2
    | true =>
      simp only [hk] at he2
      obtain ⟨v, E3, h3, he3⟩ := bind_exec he2
      clear he2
      obtain ⟨rfl, uv, hr, hv⟩ := binP_ok (X := x) (Y := y) (t := t) hx hy hP hk h3
      rw [set_exec he3]
      refine OpOk.setV hd ?_ h hv
      simp only [execOp, ho, Sem.run_bind] at hr ⊢
      rw [hr]
      rfl
theorem op_un (hS : FOk C S) (h : Inv C.T S a.tmps w St H F E []) {op : UnOp} {t : TypeId} {x : Operand} (ho : o.op = .unOp op t x) {u : Unit} (he : (evUn C o op t x).exec cf E = some (u, E')) : OpOk P C S o a w E' := by
  unfold evUn at he
  cases hd : o.dst with
  | none => simp [hd, Prg.exec] at he
  | some d =>
    simp only [hd] at he
    obtain ⟨xv, E1, h1, he1⟩ := bind_exec he
    clear he
    obtain ⟨rfl, hx⟩ := opd_ok hS h h1
    split at he1
    · rw [set_exec he1]
      have e1 := rel_bool hx.rel
      exact OpOk.setV hd (by simp [execOp, ho, e1, Op.unary]) h vok_bool
    · rw [set_exec he1]
      have e1 := rel_int hx.rel
      exact OpOk.setV hd (by simp [execOp, ho, e1, Op.unary, Op.intArith]) h vok_int
    · exact (fail_exec he1).elim
theorem op_nil (hS : FOk C S) (h : Inv C.T S a.tmps w St H F E []) {x : Operand} (ho : o.op = .nilCheck x) {u : Unit} (he : (evNil C o x).exec cf E = some (u, E')) : OpOk P C S o a w E' := by
  unfold evNil at he
  cases hd : o.dst with
  | none => simp [hd, Prg.exec] at he
  | some d =>
    simp only [hd] at he
    obtain ⟨xv, E1, h1, he1⟩ := bind_exec he
    clear he
    obtain ⟨rfl, hx⟩ := opd_ok hS h h1
    have hr := hx.rel
    cases xv <;> simp only [Prg.exec, reduceCtorEq] at he1
    case ref s off =>
      rw [← (by simpa using he1 : E1.set d (.ref s off) = E')]
      obtain ⟨_, e1⟩ := hr
      exact OpOk.setV hd (by simp [execOp, ho, e1]) h (e1 ▸ hx)
    case eref s off t i e ix sub =>
      rw [← (by simpa using he1 : E1.set d (.eref s off t i e ix sub) = E')]
      obtain ⟨_, ti, b, o', len, cap, _, _, e1⟩ := hr
      exact OpOk.setV hd (by simp [execOp, ho, e1]) h (e1 ▸ hx)
    case sref e l ix sub =>
      rw [← (by simpa using he1 : E1.set d (.sref e l ix sub) = E')]
      obtain ⟨_, ti, b, o', _, _, e1, _⟩ := hr
      exact OpOk.setV hd (by simp [execOp, ho, e1]) h (e1 ▸ hx)

theorem Gs.pair {T : TypeId → Option TI} {u : Value} {us : List Value} {v : AV} {vs : List AV} (h1 : RelG T w St H u [] v) (h2 : Gs T w St H us [] vs) : Gs T w St H (u :: us) [] (v :: vs) := ⟨[], [], rfl, h1, h2⟩
theorem RelS.toG {T : TypeId → Option TI} {u : Value} {f : List Nat} {v : AV} (h : RelS T w St H u f v) (hb : isBox v = false) (ht : ∀ vs, v ≠ .tup vs) (hc : ∀ g x y, v ≠ .clo g x y) : RelG T w St H u f v := by
  cases v <;> first
    | exact h
    | exact absurd rfl (ht _)
    | exact absurd rfl (hc _ _ _)
    | (simp [isBox] at hb; done)
def VOks (T : TypeId → Option TI) (w : World) (St : Nat → Prop) (H : Gh) (E : Env) : List Value → List AV → Prop
  | [], [] => True
  | u :: us, v :: vs => VOk T w St H E u v ∧ VOks T w St H E us vs
  | _, _ => False
theorem opds_ok (hS : FOk C S) (h : Inv C.T S a.tmps w St H F E []) : ∀ (xs : List (TypeId × Operand)) (vs : List AV) (E' : Env), (opds C xs).exec cf E = some (vs, E') → E' = E ∧ VOks C.T w St H E (xs.map fun p => a.eval p.2) vs
  | [], vs, E', he => by
    obtain ⟨rfl, rfl⟩ := ret_exec he
    exact ⟨rfl, trivial⟩
  | (t, x) :: xs, vs, E', he => by
    simp only [opds] at he
    obtain ⟨v, E1, h1, he1⟩ := bind_exec he
    obtain ⟨e1, hv⟩ := opd_ok hS h h1
    rw [e1] at he1
    obtain ⟨vs', E2, h2, he2⟩ := bind_exec he1
    obtain ⟨e2, hvs⟩ := opds_ok hS h xs vs' E2 h2
    rw [e2] at he2
    obtain ⟨e3, e4⟩ := ret_exec he2
    rw [e3]
    exact ⟨e4, hv, hvs⟩
theorem mm_ok (mx : Bool) : ∀ (vs : List AV) (us : List Value) (k : IntKind) (n : Int) (v : AV), VOks C.T w St H E us vs → mm mx k n vs = some v → ∃ m, v = .int k m ∧ ((us.foldlM (if mx then Builtin.max2 else Builtin.min2) (.int k n) : Sem Value).run P w = .ok (.int k m) w)
  | [], [], k, n, v, _, hm => by
    simp only [mm, Option.some.injEq] at hm
    exact ⟨n, hm.symm, rfl⟩
  | [], _ :: _, _, _, _, h, _ => h.elim
  | _ :: _, [], _, _, _, h, _ => h.elim
  | v0 :: vs, u :: us, k, n, v, h, hm => by
    obtain ⟨h1, h2⟩ := h
    cases v0 <;> simp only [mm, reduceCtorEq] at hm
    case int k' m =>
      split at hm
      · rename_i hk
        subst hk
        have e1 := rel_int h1.rel
        obtain ⟨q, rfl, hq⟩ := mm_ok mx vs us k _ v h2 hm
        refine ⟨q, rfl, ?_⟩
        rw [List.foldlM_cons, e1]
        cases mx
        · simp only [if_false, Bool.false_eq_true] at hq ⊢
          simp only [Builtin.min2, Sem.run_bind, Sem.run_pure, Result.andThen_ok]
          exact hq
        · simp only [if_true] at hq ⊢
          simp only [Builtin.max2, Sem.run_bind, Sem.run_pure, Result.andThen_ok]
          exact hq
      · cases hm
theorem zip_map {α β γ : Type} (f : β → γ) : ∀ (l : List α) (m : List β), l.length = m.length → (l.zip m).map (fun p => f p.2) = m.map f
  | [], [], _ => rfl
  | [], _ :: _, h => by simp at h
  | _ :: _, [], h => by simp at h
  | _ :: l, _ :: m, h => by
    simp only [List.zip_cons_cons, List.map_cons]
    rw [zip_map f l m (by simpa using h)]
theorem op_minmax (hS : FOk C S) (h : Inv C.T S a.tmps w St H F E []) {mx : Bool} {c : Call} (hc : c.callee = .builtin (if mx then .max else .min)) (ho : o.op = .call c) (hl : c.argTypes.toList.length = c.args.toList.length) {u : Unit}
    (he : (evMinMax C o mx (c.argTypes.toList.zip c.args.toList)).exec cf E = some (u, E')) : OpOk P C S o a w E' := by
  unfold evMinMax at he
  cases hd : o.dst with
  | none => simp [hd, Prg.exec] at he
  | some d =>
    simp only [hd] at he
    obtain ⟨vs, E1, h1, he1⟩ := bind_exec he
    clear he
    obtain ⟨rfl, hv⟩ := opds_ok hS h _ _ _ h1
    rw [zip_map a.eval _ _ hl] at hv
    cases vs with
    | nil => exact (fail_exec he1).elim
    | cons v0 vs =>
      cases v0 <;> simp only [Prg.exec, reduceCtorEq] at he1
      case int k n =>
        obtain ⟨v, E2, h2, he2⟩ := bind_exec he1
        clear he1
        obtain ⟨hm, rfl⟩ := lift_exec h2
        rw [set_exec he2]
        generalize hus : c.args.toList.map a.eval = us at hv
        cases us with
        | nil => exact hv.elim
        | cons u0 us =>
          obtain ⟨hv0, hvs⟩ := hv
          have e0 := rel_int hv0.rel
          obtain ⟨m, rfl, hr⟩ := mm_ok (P := P) mx vs us k n v hvs hm
          refine OpOk.setV (u := .int k m) hd ?_ h vok_int
          have harr : (c.args.map a.eval).toList = .int k n :: us := by rw [Array.toList_map, hus, e0]
          cases mx
          · simp only [if_false, Bool.false_eq_true] at hc hr
            simp only [execOp, ho, resolve, hc, Sem.run_bind, Sem.run_pure, Result.andThen_ok, invoke, builtin, Builtin.min_, harr, hr]
          · simp only [if_true] at hc hr
            simp only [execOp, ho, resolve, hc, Sem.run_bind, Sem.run_pure, Result.andThen_ok, invoke, builtin, Builtin.max_, harr, hr]
theorem VOks.toGs (us : List Value) (vs : List AV) : ∀ (h : VOks C.T w St H E us vs) (hb : vs.all plainG = true), Gs C.T w St H us [] vs := by
  induction vs generalizing us with
  | nil => intro h _; cases us with | nil => rfl | cons _ _ => exact h.elim
  | cons v vs ih =>
    intro h hb
    cases us with
    | nil => exact h.elim
    | cons u us =>
      simp only [List.all_cons, Bool.and_eq_true] at hb
      refine Gs.pair (h.1.rel.toG h.1.box ?_ ?_) (ih us h.2 hb.2)
      · intro vs' e; rw [e] at hb; simp [plainG] at hb
      · intro g x y e; rw [e] at hb; simp [plainG] at hb
theorem VOks.ment (us : List Value) (vs : List AV) (h : VOks C.T w St H E us vs) (x : Nat) (hx : vs.any (mentG x) = true) : geti E x ≠ .und := by
  induction vs generalizing us with
  | nil => simp at hx
  | cons v vs ih =>
    cases us with
    | nil => exact h.elim
    | cons u us =>
      rw [List.any_cons, Bool.or_eq_true] at hx
      rcases hx with hx | hx
      · refine h.1.ment x ?_
        rw [ment_eq]
        cases v <;> first | exact hx | (simp [mentG, mentC] at hx; done)
      · exact ih us h.2 hx
theorem op_makeFunc (hS : FOk C S) (h : Inv C.T S a.tmps w St H F E []) {f0 : FuncId} {first caps : Array Operand} (ho : o.op = .makeFunc (.func f0) first caps) {u : Unit} (he : (evMakeFunc C o f0 first.toList caps.toList).exec cf E = some (u, E')) : OpOk P C S o a w E' := by
  unfold evMakeFunc at he
  cases hd : o.dst with
  | none => simp [hd, Prg.exec] at he
  | some d =>
    simp only [hd] at he
    obtain ⟨asx, E1, h1, he1⟩ := bind_exec he
    clear he
    obtain ⟨rfl, ha⟩ := opds_ok hS h _ _ _ h1
    obtain ⟨bs, E2, h2, he2⟩ := bind_exec he1
    clear he1
    obtain ⟨rfl, hb⟩ := opds_ok hS h _ _ _ h2
    cases hk : asx.all plainG && bs.all plainG with
    | false => simp [hk, Prg.exec] at he2
    | true =>
      simp only [hk] at he2
      rw [Bool.and_eq_true] at hk
      rw [set_exec he2]
      simp only [List.map_map, Function.comp_def] at ha hb
      refine OpOk.setV (u := .func (.func f0) (first.map a.eval) (caps.map a.eval)) hd (by simp [execOp, ho, Instr.makeFunc]) h ⟨⟨_, _, rfl, rfl, ?_, ?_⟩, ?_, by simp, rfl⟩
      · rw [Array.toList_map]
        exact ha.toGs _ _ hk.1
      · rw [Array.toList_map]
        exact hb.toGs _ _ hk.2
      · intro x hx
        rw [ment_eq] at hx
        rcases Bool.or_eq_true _ _ ▸ hx with hx | hx
        · exact ha.ment _ _ x hx
        · exact hb.ment _ _ x hx
theorem Gs.setG {T : TypeId → Option TI} : ∀ {vs : List Value} {f : List Nat} {cs : List AV} (i : Nat) {c : AV}, Gs T w St H vs f cs → cs[i]? = some c → ∃ v fc fr, vs[i]? = some v ∧ f.Perm (fc ++ fr) ∧ RelG T w St H v fc c ∧ Gs T w St H vs fr (cs.set i .dead)
  | [], _, [], _, _, _, h => by simp at h
  | [], _, _ :: _, _, _, h, _ => h.elim
  | _ :: _, _, [], _, _, h, _ => h.elim
  | v :: vs, _, c :: cs, 0, c', h, hc => by
    obtain ⟨f1, f2, rfl, h1, h2⟩ := h
    simp only [List.getElem?_cons_zero, Option.some.injEq] at hc
    subst hc
    exact ⟨v, f1, f2, rfl, List.Perm.refl _, h1, [], f2, rfl, rfl, h2⟩
  | v :: vs, _, c :: cs, i + 1, c', h, hc => by
    obtain ⟨f1, f2, rfl, h1, h2⟩ := h
    obtain ⟨u, fc, fr, g1, g2, g3, g4⟩ := Gs.setG i h2 (by simpa using hc)
    refine ⟨u, fc, f1 ++ fr, by simpa using g1, ?_, g3, f1, fr, rfl, h1, g4⟩
    refine (List.Perm.append_left f1 g2).trans ?_
    rw [← List.append_assoc, ← List.append_assoc]
    exact List.Perm.append_right _ List.perm_append_comm
theorem RelG.toS {T : TypeId → Option TI} {u : Value} {f : List Nat} {v : AV} (h : RelG T w St H u f v) : RelS T w St H u f v ∧ isBox v = false := by
  cases v <;> first
    | exact ⟨h, rfl⟩
    | exact h.elim
theorem Cells.noOwn {T : TypeId → Option TI} : ∀ {us : List Value} {f : List Nat} {cs : List AV}, Cells T w St H us f cs → cs.any ownsC = false → f = []
  | [], _, [], h, _ => h
  | [], _, _ :: _, h, _ => h.elim
  | _ :: _, _, [], h, _ => h.elim
  | u :: us, _, c :: cs, h, hn => by
    obtain ⟨f1, f2, rfl, h1, h2⟩ := h
    rw [List.any_cons, Bool.or_eq_false_iff] at hn
    rw [Cells.noOwn h2 hn.2, List.append_nil]
    exact h1.fp (fun t i e l hc => by rw [hc] at hn; exact absurd hn.1 (by simp [ownsC]))
theorem RelG.noOwn {T : TypeId → Option TI} {u : Value} {c : AV} (h : RelG T w St H u f c) (hn : owns c = false) : f = [] := by
  cases c
  case agg cs =>
    obtain ⟨vs, _, h2⟩ := h
    exact Cells.noOwn h2 hn
  case own t i e l => simp [owns, ownsC] at hn
  all_goals
    simp only [RelG] at h
    exact RelC.fp h (by simp)
theorem op_extract (h : Inv C.T S a.tmps w St H F E []) {x : Operand} {i : Nat} (ho : o.op = .extract x i) {u : Unit} (he : (evExtract C o x i).exec cf E = some (u, E')) : OpOk P C S o a w E' := by
  unfold evExtract at he
  cases hd : o.dst with
  | none => simp [hd, Prg.exec] at he
  | some d =>
    cases x with
    | tmp s =>
      simp only [hd, Prg.exec] at he
      cases hv : geti E s <;> simp only [hv, Prg.exec, reduceCtorEq] at he
      case tup vs =>
        have hl : s < E.length := by
          rcases Nat.lt_or_ge s E.length with h | h
          · exact h
          · rw [geti_ge h] at hv; cases hv
        have hr := h.rel s hl
        rw [hv] at hr
        obtain ⟨us, e1, h2⟩ := hr
        cases hc : vs[i]? with
        | none => simp [hc, Prg.exec] at he
        | some c =>
          simp only [hc] at he
          by_cases hk : okV c = true
          · rw [if_pos hk] at he
            obtain ⟨v, fc, fr, g1, g2, g3, g4⟩ := Gs.setG i h2 hc
            obtain ⟨g3', hb⟩ := g3.toS
            have hcm : ∀ y, Ev.ment y (.tup vs) = true → geti E y ≠ .und := fun y hy => h.ment s y (by rw [hv]; exact hy)
            have hmem := List.mem_of_getElem? hc
            have hvm : ∀ y, Ev.ment y c = true → geti E y ≠ .und := fun y hy => hcm y (by
              rw [ment_eq]
              refine List.any_eq_true.2 ⟨c, hmem, ?_⟩
              rw [ment_eq] at hy
              cases c <;> first | exact hy | exact g3.elim)
            have hund : c ≠ .und := by intro e; rw [e] at hk; simp [okV] at hk
            have e2 : a.eval (.tmp s) = .tuple us := e1
            have g1' : us[i]? = some v := by simpa using g1
            have hrun : (execOp a.eval o).run P w = .ok (.value v) w := by simp [execOp, ho, e2, Instr.extract, g1']
            cases how : owns c with
            | false =>
              rw [how] at he
              simp only [Prg.exec, Option.some.injEq, Prod.mk.injEq] at he
              rw [← he.2]
              have := g3.noOwn how
              subst this
              exact OpOk.set (u := v) (f := []) hd hrun h g3' hvm hund hb
            | true =>
            rw [how] at he
            simp only [Prg.exec, Option.some.injEq, Prod.mk.injEq] at he
            rw [← he.2]
            have hi := (h.lift s).perm (A' := fr ++ (fc ++ [])) (by
              rw [List.append_nil, List.append_nil]
              exact g2.trans List.perm_append_comm)
            have hput := hi.put s (a.tmps.getD s undef) (.tup (vs.set i .dead)) ⟨us, e1, g4⟩ (by simp)
              (fun y hy _ => set_nu (by simp) y (hcm y (by
                rw [ment_eq] at hy ⊢
                rcases any_set vs i .dead hy with hy | hy
                · exact hy
                · simp [mentG, mentC] at hy)))
              (fun hx => by simp [isBox] at hx) (fun cs hcs => by simp at hcs)
            rw [tmps_same, List.set_set] at hput
            exact OpOk.set (u := v) hd hrun hput g3' (fun y hy => set_nu (by simp) y (hvm y hy)) hund hb
          · rw [if_neg hk] at he
            exact (fail_exec he).elim
    | _ => simp [hd, Prg.exec] at he
end Go.Ev

/- The reader's operations are the model's: those that read memory. -/
namespace Go.Ev
open Go
set_option linter.unusedVariables false
set_option linter.unusedSimpArgs false
variable {cf : CF} {P : Program} {C : Ctx} {S : Frm} {w w' : World} {St St' : Nat → Prop} {H H' : Gh} {F : Nat → List Nat} {E E' E1 : Env} {A f fd : List Nat} {o : Oper} {a : Act}

/-- A slice that can be read. -/
def SlOk (T : TypeId → Option TI) (w : World) (St : Nat → Prop) (e : TypeId) (l : List Dat) (u : Value) : Prop :=
  ∃ ti a cap b o, u = .slice a l.length cap ∧ l.length ≤ cap ∧ (l ≠ [] → T e = some ti ∧ 0 < ti.size ∧ a = some ⟨b, o, none⟩ ∧ RowD T w St b o ti l)
theorem SlOk.of_own {T : TypeId → Option TI} {e : TypeId} {l : List Dat} {u : Value} {f : List Nat} (h : Own T w St e l u f) : SlOk T w St e l u := by
  obtain ⟨ti, a, cap, h1, h2, h3, h4⟩ := h
  rcases h4 with ⟨rfl, _⟩ | ⟨b, o, arr, et, fz, g1, g2, g3, g4, g5, g6⟩
  · have : l = [] := List.length_eq_zero_iff.1 (Nat.le_zero.1 h3)
    exact ⟨ti, a, 0, 0, 0, h2, h3, fun hn => absurd this hn⟩
  · exact ⟨ti, a, cap, b, o, h2, h3, fun hn => ⟨(h1 (fun h0 => hn (List.length_eq_zero_iff.1 (by omega)))).1, (h1 (fun h0 => hn (List.length_eq_zero_iff.1 (by omega)))).2, g1, g6⟩⟩
theorem SlOk.of_relD {T : TypeId → Option TI} {e : TypeId} {l : List Dat} {u : Value} (h : RelD T w St (.slice e) u (.list l)) : SlOk T w St e l u := by
  obtain ⟨ti, a, cap, b, o, h1, h2, h3, h4, h5⟩ := h.row
  exact ⟨ti, a, cap, b, o, h2, h3, fun hn => ⟨(h1 hn).1, (h1 hn).2, (h4 hn).1, h5⟩⟩
theorem own_at {T : TypeId → Option TI} {tmps : Array Value} (h : Inv T S tmps w St H F E A) {s off t i : Nat} {e : TypeId} {l : List Dat} (ha : (geti E s).at? off = .own t i e l) : ∃ f, Own T w St e l (H.hd t i) f := by
  obtain ⟨f, _, _, h1, _⟩ := RelS_at (h.rel s (at_lt ha)) ha
  exact ⟨f, h1⟩
theorem elems_ok (h : Inv C.T S a.tmps w St H F E A) {u : Value} {v : AV} (hv : VOk C.T w St H E u v) {r : TypeId × List Dat} (he : (elems v).exec cf E = some (r, E')) : E' = E ∧ SlOk C.T w St r.1 r.2 u := by
  have hr := hv.rel
  cases v <;> simp only [elems, Prg.exec, Option.some.injEq, Prod.mk.injEq, reduceCtorEq] at he
  case nilS e =>
    obtain ⟨rfl, rfl⟩ := he
    exact ⟨rfl, ⟨0, 0, [], false, .oth⟩, none, 0, 0, 0, hr.2, Nat.le_refl _, fun hn => absurd rfl hn⟩
  case shr e l =>
    obtain ⟨rfl, rfl⟩ := he
    exact ⟨rfl, SlOk.of_relD hr.2⟩
  case view s off t i =>
    obtain ⟨rfl, ha⟩ := ownAt_exec he
    obtain ⟨f, ho⟩ := own_at h ha
    have e1 : u = H.hd t i := hr.2
    exact ⟨rfl, SlOk.of_own (e1 ▸ ho)⟩
theorem op_len (hP : POk P C) (hS : FOk C S) (h : Inv C.T S a.tmps w St H F E []) {t : TypeId} {x : Operand} {c : Call} (ho : o.op = .call c) (hc : c.callee = .builtin .len) (ht : c.argTypes.toList = [t]) (hx : c.args.toList = [x])
    {u : Unit} (he : (evLen C o t x).exec cf E = some (u, E')) : OpOk P C S o a w E' := by
  have hat : c.argTypes = #[t] ∧ c.args = #[x] := ⟨by rw [← Array.toArray_toList (xs := c.argTypes), ht], by rw [← Array.toArray_toList (xs := c.args), hx]⟩
  unfold evLen at he
  cases hd : o.dst with
  | none => simp [hd, Prg.exec] at he
  | some d =>
    simp only [hd] at he
    obtain ⟨v, E1, h1, he1⟩ := bind_exec he
    clear he
    obtain ⟨rfl, hv⟩ := opd_ok hS h h1
    have run : ∀ (n : Nat), (Builtin.len_ #[t] o.type #[a.eval x]).run P w = .ok (.int .i64 n) w → (execOp a.eval o).run P w = .ok (.value (.int .i64 n)) w := by
      intro n hn
      simp [execOp, ho, resolve, hc, hat.1, hat.2, invoke, builtin, hn]
    split at he1
    · rename_i s hk
      rw [set_exec he1]
      have e1 := rel_str hv.rel
      obtain ⟨_, _, _, _, hu⟩ := kind_of hP hk
      exact OpOk.setV (u := .int .i64 s.size) hd (run _ (by simp [Builtin.len_, run_underlying hu, e1, goInt])) h vok_int
    · rename_i e hk
      obtain ⟨r, E2, h2, he2⟩ := bind_exec he1
      clear he1
      obtain ⟨rfl, ti, ad, cap, b, o', e1, _⟩ := elems_ok h hv h2
      rw [set_exec he2]
      obtain ⟨_, _, _, _, hu⟩ := kind_of hP hk
      exact OpOk.setV (u := .int .i64 r.2.length) hd (run _ (by simp [Builtin.len_, run_underlying hu, e1, goInt])) h vok_int
    · exact (fail_exec he1).elim
theorem ok_struct (hP : POk P C) {t : TypeId} {ti : TI} {fs : List (Nat × TypeId)} (ht : C.T t = some ti) (hs : ti.sh = .struct fs) : ∃ fields : Array Field, P.underlying t = some (.struct fields) ∧ (∀ (i : Nat) (q : Nat × TypeId), fs[i]? = some q → ∃ fl : Field, fields[i]? = some fl ∧ fl.offset = q.1 ∧ fl.type = q.2) ∧ ∃ places : List (Nat × Nat), fields.toList.mapM (fun f => (P.info? f.type).map fun i => (f.offset, i.size)) = some places := by
  have h := (hP.ti t ti ht).sh
  rw [hs] at h
  obtain ⟨fields, h1, h2, h5⟩ := h
  refine ⟨fields, h1, fun i q hq => ?_, Option.isSome_iff_exists.1 h5⟩
  rw [← h2, List.getElem?_map] at hq
  obtain ⟨fl, h3, h4⟩ := Option.map_eq_some_iff.1 hq
  exact ⟨fl, by simpa using h3, by rw [← h4], by rw [← h4]⟩
theorem run_sizeOf (hP : POk P C) {t : TypeId} {ti : TI} (ht : C.T t = some ti) : (sizeOf t).run P w = .ok ti.size w := by
  obtain ⟨i, h1, h2, _⟩ := (hP.ti t ti ht).info
  simp [sizeOf, typeInfo, h1, h2]
theorem Addr.add_none (b o n : Nat) : Addr.add ⟨b, o, none⟩ n = ⟨b, o + n, none⟩ := by
  unfold Addr.add
  split
  · rename_i h; rw [h]; rfl
  · rfl
theorem run_fieldAt (hP : POk P C) {t : TypeId} {ti ft : TI} {fs : List (Nat × TypeId)} {i b o : Nat} {q : Nat × TypeId} (ht : C.T t = some ti) (hs : ti.sh = .struct fs) (hq : fs[i]? = some q) (hf : C.T q.2 = some ft) (h0 : 0 < ft.size) :
    (Instr.fieldAt t (.pointer (some ⟨b, o, none⟩)) i).run P w = .ok (.pointer (some ⟨b, o + q.1, none⟩)) w := by
  obtain ⟨fields, h1, h2, _⟩ := ok_struct hP ht hs
  obtain ⟨fl, h3, h4, h5⟩ := h2 i q hq
  have h6 := run_sizeOf (w := w) hP hf
  have h7 : ft.size ≠ 0 := Nat.pos_iff_ne_zero.1 h0
  rw [← h5] at h6
  simp only [Instr.fieldAt, Sem.run_bind, run_underlying h1, Result.andThen_ok, h3, Instr.sureAddr, Sem.run_pure, fieldPlace, h6, h7, if_false, Sem.run_ite, Addr.add_none, h4]
theorem op_fieldAddr (hP : POk P C) (hS : FOk C S) (h : Inv C.T S a.tmps w St H F E []) {st : TypeId} {p : Operand} {i : Nat} (ho : o.op = .fieldAddr st p i) {u : Unit} (he : (evFieldAddr C o st p i).exec cf E = some (u, E')) : OpOk P C S o a w E' := by
  unfold evFieldAddr at he
  cases hd : o.dst with
  | none => simp [hd, Prg.exec] at he
  | some d =>
    simp only [hd] at he
    obtain ⟨ti, E1, h1, he1⟩ := bind_exec he
    clear he
    obtain ⟨ht, rfl⟩ := tiOf_exec h1
    cases hs : ti.sh <;> simp only [hs, Prg.exec, reduceCtorEq] at he1
    case struct fs =>
      obtain ⟨q, E2, h2, he2⟩ := bind_exec he1
      clear he1
      obtain ⟨hq, rfl⟩ := lift_exec h2
      obtain ⟨ft, E3, h3, he3⟩ := bind_exec he2
      clear he2
      obtain ⟨hf, rfl⟩ := tiOf_exec h3
      by_cases h0 : 0 < ft.size
      · rw [if_pos h0] at he3
        obtain ⟨v, E4, h4, he4⟩ := bind_exec he3
        clear he3
        obtain ⟨rfl, hv⟩ := opd_ok hS h h4
        have hr := hv.rel
        have run : ∀ {b o' : Nat}, a.eval p = .pointer (some ⟨b, o', none⟩) → (execOp a.eval o).run P w = .ok (.value (.pointer (some ⟨b, o' + q.1, none⟩))) w := by
          intro b o' e1
          simp only [execOp, ho, Sem.run_bind, e1, run_fieldAt hP ht hs hq hf h0, Result.andThen_ok, Sem.run_pure]
        cases v <;> simp only [Prg.exec, reduceCtorEq] at he4
        case ref s off =>
          rw [← (by simpa using he4 : E4.set d (.ref s (off + q.1)) = E')]
          obtain ⟨_, e1⟩ := hr
          exact OpOk.setV hd (run e1) h ⟨⟨rfl, by rw [Nat.add_assoc]⟩, fun x hx => hv.ment x (by simpa [Ev.ment, mentC] using hx), by simp, rfl⟩
        case eref s off t i e ix sub =>
          rw [← (by simpa using he4 : E4.set d (.eref s off t i e ix (sub + q.1)) = E')]
          obtain ⟨_, te, b, o', len, cap, k1, k2, e1⟩ := hr
          exact OpOk.setV hd (run e1) h ⟨⟨rfl, te, b, o', len, cap, k1, k2, by rw [Nat.add_assoc]⟩, fun x hx => hv.ment x (by simpa [Ev.ment, mentC] using hx), by simp, rfl⟩
        case sref e l ix sub =>
          rw [← (by simpa using he4 : E4.set d (.sref e l ix (sub + q.1)) = E')]
          obtain ⟨_, te, b, o', k1, k2, e1, k3⟩ := hr
          exact OpOk.setV hd (run e1) h ⟨⟨rfl, te, b, o', k1, k2, by rw [Nat.add_assoc], k3⟩, fun x hx => by simp [Ev.ment, mentC] at hx, by simp, rfl⟩
      · rw [if_neg h0] at he3
        exact (fail_exec he3).elim
end Go.Ev

/- The reader's operations are the model's: loads, elements. -/
namespace Go.Ev
open Go
set_option linter.unusedVariables false
set_option linter.unusedSimpArgs false
variable {cf : CF} {P : Program} {C : Ctx} {S : Frm} {w w' : World} {St St' : Nat → Prop} {H H' : Gh} {F : Nat → List Nat} {E E' E1 : Env} {A f fd : List Nat} {o : Oper} {a : Act}

def valOf (ti : TI) (us : List Value) : Value := if ti.agg then .agg us.toArray else us.headD undef
theorem run_isAgg (hP : POk P C) {t : TypeId} {ti : TI} (ht : C.T t = some ti) : (isAgg t).run P w = .ok ti.agg w := by
  have h := hP.ti t ti ht
  obtain ⟨d, hd⟩ := h.under
  have hag := h.agg
  cases hb : ti.agg with
  | true =>
    rcases hag.1 hb with ⟨fs, hu⟩ | ⟨n, e, hu⟩ <;> simp [isAgg, run_underlying hu]
  | false =>
    have : ∀ fs, d ≠ .struct fs := fun fs e => by
      have := hag.2 (.inl ⟨fs, by rw [hd, e]⟩)
      rw [hb] at this; cases this
    have h2 : ∀ n e, d ≠ .array n e := fun n e e' => by
      have := hag.2 (.inr ⟨n, e, by rw [hd, e']⟩)
      rw [hb] at this; cases this
    cases d <;> first
      | (simp [isAgg, run_underlying hd]; done)
      | exact absurd rfl (this _)
      | exact absurd rfl (h2 _ _)
theorem run_loadAt (hP : POk P C) {t : TypeId} {ti : TI} {b p : Nat} {us : List Value} (ht : C.T t = some ti) (hl : us.length = ti.size) (h1 : ti.agg = false → ti.size = 1) (hc : ∀ j, j < us.length → w.cell? ⟨b, p + j, none⟩ = us[j]?) :
    (Instr.loadAt t (.pointer (some ⟨b, p, none⟩))).run P w = .ok (valOf ti us) w := by
  have hag := run_isAgg (w := w) hP ht
  have hsz := run_sizeOf (w := w) hP ht
  cases hb : ti.agg with
  | true =>
    rw [hb] at hag
    have hlc := run_loadCells_list (P := P) w ⟨b, p, none⟩ us (fun j v hj => by
      rw [Addr.add_none, hc j (List.getElem?_eq_some_iff.1 hj).1, hj])
    rw [hl] at hlc
    simp only [Instr.loadAt, Instr.sureAddr, Sem.run_bind, Sem.run_pure, Result.andThen_ok, loadVar, hag, if_true, Sem.run_ite, hsz, hlc, valOf, hb]
  | false =>
    rw [hb] at hag
    cases us with
    | nil => rw [← hl] at h1; simp at h1; rw [hb] at h1; simp at h1
    | cons u us =>
      have h0 := hc 0 (by simp)
      simp only [Nat.add_zero, List.getElem?_cons_zero] at h0
      simp only [Instr.loadAt, Instr.sureAddr, Sem.run_bind, Sem.run_pure, Result.andThen_ok, loadVar, hag, Bool.false_eq_true, if_false, Sem.run_ite, run_load, h0, valOf, hb, List.headD_cons]
theorem RelD.list {T : TypeId → Option TI} {e : TypeId} {u : Value} {d : Dat} (h : RelD T w St (.slice e) u d) : RelD T w St (.slice e) u (.list d.L) := by
  cases h with
  | slice ti a cap b o us hT hv hc ha hcell hrel => exact .slice (d := .list d.L) ti a cap b o us hT hv hc ha hcell hrel
theorem ofD_ok {T : TypeId → Option TI} {ct : CT} {u : Value} {d : Dat} (h : RelD T w St ct u d) : RelC T w St H u [] (ofD ct d) := by
  cases ct
  case int k => cases h with | int h => exact ⟨rfl, h⟩
  case bool => cases h with | bool h => exact ⟨rfl, h⟩
  case str => cases h with | str h => exact ⟨rfl, h⟩
  case slice e => exact ⟨rfl, h.list⟩
  case ptr => rfl
  case oth => rfl
theorem ofD_ment (x : Nat) (ct : CT) (d : Dat) : mentC x (ofD ct d) = false := by cases ct <;> rfl
theorem ofDs_ment (x : Nat) (te : TI) (d : Dat) : ∀ (j : Nat) (cts : List CT), (ofDs te d j cts).any (mentC x) = false
  | _, [] => rfl
  | j, c :: cts => by rw [ofDs, List.any_cons, ofD_ment, ofDs_ment x te d (j + 1) cts]; rfl
theorem ofDs_ok {T : TypeId → Option TI} (te : TI) (d : Dat) : ∀ (us : List Value) (j : Nat) (cts : List CT), us.length = cts.length → (∀ k ct u, cts[k]? = some ct → us[k]? = some u → RelD T w St ct u (cellOf te d (j + k))) → Cells T w St H us [] (ofDs te d j cts)
  | [], j, [], _, _ => rfl
  | [], _, _ :: _, h, _ => by simp at h
  | _ :: _, _, [], h, _ => by simp at h
  | u :: us, j, c :: cts, hl, h => by
    refine ⟨[], [], rfl, ofD_ok (by simpa using h 0 c u rfl rfl), ofDs_ok te d us (j + 1) cts (by simpa using hl) (fun k ct u' hk hu => ?_)⟩
    have := h (k + 1) ct u' (by simpa using hk) (by simpa using hu)
    rwa [show j + 1 + k = j + (k + 1) by omega]
theorem ofCells_ok {T : TypeId → Option TI} {ti : TI} {us : List Value} {f : List Nat} {cs : List AV} {v : AV} (hc : Cells T w St H us f cs) (ho : ofCells ti cs = some v) : RelG T w St H (valOf ti us) f v := by
  unfold ofCells at ho
  split at ho
  · rename_i hb
    split at ho
    · simp only [Option.some.injEq] at ho
      subst ho
      exact ⟨us.toArray, by simp [valOf, hb], hc⟩
    · cases ho
  · rename_i hb
    split at ho
    · rename_i c
      simp only [Option.some.injEq] at ho
      subst ho
      cases us with
      | nil => exact hc.elim
      | cons u us =>
        obtain ⟨f1, f2, rfl, h1, h2⟩ := hc
        cases us with
        | cons _ _ => exact h2.elim
        | nil =>
          have hf : f2 = [] := h2
          subst hf
          rw [List.append_nil]
          have : valOf ti [u] = u := by simp [valOf, hb]
          rw [this]
          exact RelG_of_RelC h1
    · cases ho
theorem ofCells_ment {ti : TI} {cs : List AV} {v : AV} {x : Nat} (ho : ofCells ti cs = some v) (hx : ment x v = true) : cs.any (mentC x) = true ∨ ∃ c, cs = [c] ∧ ment x c = true := by
  unfold ofCells at ho
  split at ho
  · split at ho
    · simp only [Option.some.injEq] at ho
      subst ho
      exact .inl hx
    · cases ho
  · split at ho
    · rename_i c
      simp only [Option.some.injEq] at ho
      subst ho
      exact .inr ⟨c, rfl, hx⟩
    · cases ho
theorem okV_und {v : AV} (h : okV v = true) : v ≠ .und := by intro e; rw [e] at h; simp [okV] at h
/-- Reading through a pointer. -/
theorem loadP_ok (hP : POk P C) (h : Inv C.T S a.tmps w St H F E A) {t : TypeId} {ti : TI} (ht : C.T t = some ti) (h1 : ti.agg = false → ti.size = 1) {u : Value} {p v : AV} (hp : VOk C.T w St H E u p) (he : (loadP C ti p).exec cf E = some (v, E')) (hk : okV v = true) :
    E' = E ∧ ∃ uv, (Instr.loadAt t u).run P w = .ok uv w ∧ VOk C.T w St H E uv v := by
  have elem : ∀ {te : TI} {b o' ix sub : Nat} {l : List Dat}, te.cts.length = te.size → RowD C.T w St b o' te l → ix < l.length → elemV te ti (rd l ix) sub = some v → ∃ uv, (Instr.loadAt t (.pointer (some ⟨b, o' + ix * te.size + sub, none⟩))).run P w = .ok uv w ∧ VOk C.T w St H E uv v := by
    intro te b o' ix sub l hlen hrow hix hel
    unfold elemV at hel
    split at hel
    · rename_i hc
      obtain ⟨hsz, hct⟩ := hc
      have hcl : ti.cts.length = ti.size := (hP.ti t ti ht).len
      have hex : ∀ j, ∃ u, j < ti.size → w.cell? ⟨b, o' + ix * te.size + sub + j, none⟩ = some u ∧ ∀ ct, ti.cts[j]? = some ct → RelD C.T w St ct u (cellOf te (rd l ix) (sub + j)) := by
        intro j
        by_cases hj : j < ti.size
        · obtain ⟨u, hu, hr⟩ := hrow ix (sub + j) hix (by omega)
          refine ⟨u, fun _ => ⟨by rw [Nat.add_assoc (o' + ix * te.size)]; exact hu, fun ct hct' => hr ct ?_⟩⟩
          rw [← hct, List.getElem?_take_of_lt hj, List.getElem?_drop] at hct'
          exact hct'
        · exact ⟨undef, fun h => absurd h hj⟩
      have hus := fun j => Classical.choose_spec (hex j)
      let us := (List.range ti.size).map fun j => Classical.choose (hex j)
      have hul : us.length = ti.size := by simp [us]
      have hug : ∀ j, j < ti.size → us[j]? = some (Classical.choose (hex j)) := fun j hj => by simp [us, hj]
      refine ⟨valOf ti us, run_loadAt hP ht hul h1 (fun j hj => ?_), ?_⟩
      · rw [hul] at hj
        rw [(hus j hj).1, hug j hj]
      · have hcells := ofDs_ok (w := w) (St := St) (H := H) (T := C.T) te (rd l ix) us sub ti.cts (by rw [hul, hcl]) (fun k ct u hk hu => by
          have hkl : k < ti.size := by rw [← hcl]; exact (List.getElem?_eq_some_iff.1 hk).1
          rw [hug k hkl, Option.some.injEq] at hu
          rw [← hu]
          exact (hus k hkl).2 ct hk)
        obtain ⟨hs, hb⟩ := (ofCells_ok hcells hel).toS
        refine ⟨hs, fun x hx => ?_, okV_und hk, hb⟩
        rcases ofCells_ment hel hx with hx | ⟨c, hc, hx⟩
        · rw [ofDs_ment] at hx; cases hx
        · exfalso
          have h3 := ofDs_ment x te (rd l ix) sub ti.cts
          rw [hc] at h3
          simp only [List.any_cons, List.any_nil, Bool.or_false] at h3
          have hcr : RelC C.T w St H (us.headD undef) [] c := by
            rw [hc] at hcells
            cases hus' : us with
            | nil => rw [hus'] at hcells; exact hcells.elim
            | cons u us =>
              rw [hus'] at hcells
              obtain ⟨f1, f2, hf, k1, k2⟩ := hcells
              obtain ⟨rfl, rfl⟩ := List.append_eq_nil_iff.1 hf.symm
              exact k1
          rw [ment_of_RelC hcr, h3] at hx
          cases hx
    · cases hel
  have hr := hp.rel
  cases p <;> simp only [loadP, Prg.exec, reduceCtorEq] at he
  case ref s off =>
    obtain ⟨_, e1⟩ := hr
    have fin : ∀ {cs : List AV} {b p : Nat} {arr : Array Value} {et : TypeId} {fz : Nat × Nat} {f2 : List Nat}, ment s (.agg cs) = ment s (.agg cs) → geti E s ≠ .und → (∀ x, cs.any (mentC x) = true → geti E x ≠ .und) → w.heap[b]? = some (.cells arr et fz) → Cells C.T w St H ((arr.toList.drop p).take cs.length) f2 cs → H.bx s = (b, p) →
        (if off + ti.size ≤ cs.length then lift (ofCells ti (views s off ((cs.drop off).take ti.size))) else (.fail : Prg AV)).exec cf E = some (v, E') → E' = E ∧ ∃ uv, (Instr.loadAt t u).run P w = .ok uv w ∧ VOk C.T w St H E uv v := by
      intro cs b p arr et fz f2 _ hns hm hheap hcells hbx he
      split at he
      · rename_i hle
        obtain ⟨hof, rfl⟩ := lift_exec he
        refine ⟨rfl, ?_⟩
        have hsplit : cs = cs.take off ++ ((cs.drop off).take ti.size ++ (cs.drop off).drop ti.size) := by rw [List.take_append_drop, List.take_append_drop]
        rw [hsplit] at hcells
        obtain ⟨vs1, vs2, g1, g2, q1, q2, q3, q4, q5⟩ := Cells.split hcells
        obtain ⟨vs3, vs4, g3, g4, r1, r2, r3, r4, r5⟩ := Cells.split q5
        have hcl : vs3.length = ti.size := by rw [r3]; simp; omega
        have hv1 : vs1.length = off := by rw [q3]; simp; omega
        have hcell : ∀ j, j < vs3.length → w.cell? ⟨b, p + off + j, none⟩ = vs3[j]? := by
          intro j hj
          have e2 : w.cell? ⟨b, p + off + j, none⟩ = arr[p + off + j]? := by simp only [World.cell?, hheap, Option.isSome_none, Bool.false_eq_true, if_false]
          rw [e2]
          have e3 : arr[p + off + j]? = ((arr.toList.drop p).take (cs.take off ++ ((cs.drop off).take ti.size ++ (cs.drop off).drop ti.size)).length)[off + j]? := by
            rw [List.getElem?_take_of_lt (by rw [← hsplit]; omega), List.getElem?_drop, ← Nat.add_assoc]
            simp
          rw [e3, q1, r1, List.getElem?_append_right (by omega), hv1, show off + j - off = j by omega, List.getElem?_append_left hj]
        have hvw := views_ok (H := H) s off r4
        rw [hbx] at e1
        refine ⟨valOf ti vs3, by rw [e1]; exact run_loadAt hP ht hcl h1 (fun j hj => hcell j hj), ?_⟩
        obtain ⟨hs, hb⟩ := (ofCells_ok hvw hof).toS
        refine ⟨hs, fun x hx => ?_, okV_und hk, hb⟩
        have hany : ∀ x, (views s off ((cs.drop off).take ti.size)).any (mentC x) = true → geti E' x ≠ .und := by
          intro x hx
          rcases views_ment s x off _ hx with rfl | hx
          · exact hns
          · refine hm x ?_
            obtain ⟨c, hc, hmc⟩ := List.any_eq_true.1 hx
            exact List.any_eq_true.2 ⟨c, List.mem_of_mem_drop (List.mem_of_mem_take hc), hmc⟩
        rcases ofCells_ment hof hx with hx | ⟨c, hc, hx⟩
        · exact hany x hx
        · refine hany x ?_
          rw [hc]
          have hcr : ∃ u0, RelC C.T w St H u0 [] c := by
            rw [hc] at hvw
            cases hus' : vs3 with
            | nil => rw [hus'] at hvw; exact hvw.elim
            | cons u us =>
              rw [hus'] at hvw
              obtain ⟨f1, f2, hf, k1, k2⟩ := hvw
              obtain ⟨rfl, rfl⟩ := List.append_eq_nil_iff.1 hf.symm
              exact ⟨u, k1⟩
          obtain ⟨u0, hcr⟩ := hcr
          rw [ment_of_RelC hcr] at hx
          simp [hx]
      · exact (fail_exec he).elim
    have hl : geti E s ≠ .und → s < E.length := fun hn => by
      rcases Nat.lt_or_ge s E.length with h | h
      · exact h
      · rw [geti_ge h] at hn; exact absurd rfl hn
    cases hv : geti E s <;> simp only [hv, Prg.exec, reduceCtorEq] at he
    case box bt cs =>
      have hs := hl (by rw [hv]; simp)
      have hrs := h.rel s hs
      rw [hv] at hrs
      obtain ⟨b, arr, et, fz, f2, k1, k2, k3, k4, k5, k6⟩ := hrs
      have hbx := h.box s (by rw [hv]; rfl)
      rw [k1] at hbx
      simp only [Value.pointer.injEq, Option.some.injEq, Addr.mk.injEq, and_true] at hbx
      refine fin (p := 0) (arr := arr) (b := b) rfl (by rw [hv]; simp) (fun x hx => h.ment s x (by rw [hv]; exact hx)) k3 (f2 := f2) ?_ (Prod.ext hbx.1.symm hbx.2.symm) he
      rw [List.drop_zero, List.take_of_length_le (by simp [k5])]
      exact k6
    case pbox cs =>
      have hs := hl (by rw [hv]; simp)
      have hrs := h.rel s hs
      rw [hv] at hrs
      obtain ⟨b, p, arr, et, fz, k1, k3, k4, k5, k6⟩ := hrs
      have hbx := h.box s (by rw [hv]; rfl)
      rw [k1] at hbx
      simp only [Value.pointer.injEq, Option.some.injEq, Addr.mk.injEq, and_true] at hbx
      exact fin (p := p) (arr := arr) (b := b) rfl (by rw [hv]; simp) (fun x hx => h.ment s x (by rw [hv]; exact hx)) k3 (f2 := F s) k6 (Prod.ext hbx.1.symm hbx.2.symm) he
  case eref s off t' i e ix sub =>
    obtain ⟨_, te, b, o', len, cap, k1, k2, rfl⟩ := hr
    obtain ⟨r, E2, h2, he2⟩ := bind_exec he
    obtain ⟨e2, ha⟩ := ownAt_exec h2
    rw [e2] at he2
    obtain ⟨te', E3, h3, he3⟩ := bind_exec he2
    obtain ⟨hte, e3⟩ := tiOf_exec h3
    rw [e3] at he3
    rw [k1, Option.some.injEq] at hte
    subst hte
    split at he3
    · rename_i hre
      obtain ⟨hc, he4⟩ := chk_exec he3
      obtain ⟨hel, e4⟩ := lift_exec he4
      have hix : ix < r.2.length := by simpa using hc
      obtain ⟨f, ti', ad, cap', q1, q2, q3, q4⟩ := own_at h ha
      rcases q4 with ⟨q4, _⟩ | ⟨b', p', arr, et, fz, q5, q6, q7, q8, q9, q10⟩
      · omega
      · rw [q2] at k2
        simp only [Value.slice.injEq, q5, Option.some.injEq, Addr.mk.injEq, and_true] at k2
        obtain ⟨⟨rfl, rfl⟩, _⟩ := k2
        have hTe := (q1 (by omega)).1
        rw [hre, k1, Option.some.injEq] at hTe
        subst hTe
        exact ⟨e4, elem (hT_of hP e te k1) q10 hix hel⟩
    · exact (fail_exec he3).elim
  case sref e l ix sub =>
    obtain ⟨_, te, b, o', k1, k2, rfl, k3, k4⟩ := hr
    obtain ⟨te', E3, h3, he3⟩ := bind_exec he
    obtain ⟨hte, e3⟩ := tiOf_exec h3
    rw [e3] at he3
    rw [k1, Option.some.injEq] at hte
    subst hte
    obtain ⟨hc, he4⟩ := chk_exec he3
    obtain ⟨hel, e4⟩ := lift_exec he4
    have hix : ix < l.length := by simpa using hc
    exact ⟨e4, elem (hT_of hP e te k1) k4 hix hel⟩
end Go.Ev

/- The reader's operations are the model's: loads, elements, parts, slices of slices. -/
namespace Go.Ev
open Go
set_option linter.unusedVariables false
set_option linter.unusedSimpArgs false
variable {cf : CF} {P : Program} {C : Ctx} {S : Frm} {w w' : World} {St St' : Nat → Prop} {H H' : Gh} {F : Nat → List Nat} {E E' E1 : Env} {A f fd : List Nat} {o : Oper} {a : Act}

theorem op_load (hP : POk P C) (hS : FOk C S) (h : Inv C.T S a.tmps w St H F E []) {t : TypeId} {p : Operand} (ho : o.op = .load t p) {u : Unit} (he : (evLoad C o t p).exec cf E = some (u, E')) : OpOk P C S o a w E' := by
  unfold evLoad at he
  cases hd : o.dst with
  | none => simp [hd, Prg.exec] at he
  | some d =>
    simp only [hd] at he
    obtain ⟨ti, E1, h1, he1⟩ := bind_exec he
    clear he
    obtain ⟨ht, rfl⟩ := tiOf_exec h1
    obtain ⟨pv, E2, h2, he2⟩ := bind_exec he1
    clear he1
    obtain ⟨rfl, hp⟩ := opd_ok hS h h2
    obtain ⟨v, E3, h3, he3⟩ := bind_exec he2
    clear he2
    by_cases hk : okV v = true
    · rw [if_pos hk] at he3
      obtain ⟨rfl, uv, hr, hv⟩ := loadP_ok hP h ht (hP.ti t ti ht).one hp h3 hk
      rw [set_exec he3]
      exact OpOk.setV hd (by simp only [execOp, ho, Sem.run_bind, hr, Result.andThen_ok, Sem.run_pure]) h hv
    · rw [if_neg hk] at he3
      exact (fail_exec he3).elim
theorem part_ok {T : TypeId → Option TI} {ti : TI} {us : List Value} {cs : List AV} {off n : Nat} (hc : Cells T w St H us [] cs) (hle : off + n ≤ cs.length) : Cells T w St H ((us.drop off).take n) [] ((cs.drop off).take n) := by
  have hsplit : cs = cs.take off ++ ((cs.drop off).take n ++ (cs.drop off).drop n) := by rw [List.take_append_drop, List.take_append_drop]
  rw [hsplit] at hc
  obtain ⟨vs1, vs2, g1, g2, q1, q2, q3, q4, q5⟩ := Cells.split hc
  obtain ⟨vs3, vs4, g3, g4, r1, r2, r3, r4, r5⟩ := Cells.split q5
  obtain ⟨rfl, rfl⟩ := List.append_eq_nil_iff.1 q2.symm
  obtain ⟨rfl, rfl⟩ := List.append_eq_nil_iff.1 r2.symm
  have hv1 : vs1.length = off := by rw [q3]; simp; omega
  have hv3 : vs3.length = n := by rw [r3]; simp; omega
  have : (us.drop off).take n = vs3 := by
    rw [q1, r1, ← hv1, List.drop_left, ← hv3, List.take_left]
  rw [this]
  exact r4
theorem cells1 {T : TypeId → Option TI} {us : List Value} {c : AV} (h : Cells T w St H us [] [c]) : ∃ u0, us = [u0] ∧ RelC T w St H u0 [] c := by
  cases us with
  | nil => exact h.elim
  | cons u us =>
    obtain ⟨f1, f2, hf, k1, k2⟩ := h
    obtain ⟨rfl, rfl⟩ := List.append_eq_nil_iff.1 hf.symm
    cases us with
    | nil => exact ⟨u, rfl, k1⟩
    | cons _ _ => exact k2.elim
theorem op_field (hP : POk P C) (hS : FOk C S) (h : Inv C.T S a.tmps w St H F E []) {st : TypeId} {x : Operand} {i : Nat} (ho : o.op = .field st x i) {u : Unit} (he : (evField C o st x i).exec cf E = some (u, E')) : OpOk P C S o a w E' := by
  unfold evField at he
  cases hd : o.dst with
  | none => simp [hd, Prg.exec] at he
  | some d =>
    simp only [hd] at he
    obtain ⟨ti, E1, h1, he1⟩ := bind_exec he
    clear he
    obtain ⟨ht, rfl⟩ := tiOf_exec h1
    cases hs : ti.sh <;> simp only [hs, Prg.exec, reduceCtorEq] at he1
    case struct fs =>
      obtain ⟨q, E2, h2, he2⟩ := bind_exec he1
      clear he1
      obtain ⟨hq, rfl⟩ := lift_exec h2
      obtain ⟨ft, E3, h3, he3⟩ := bind_exec he2
      clear he2
      obtain ⟨hf, rfl⟩ := tiOf_exec h3
      obtain ⟨v, E4, h4, he4⟩ := bind_exec he3
      clear he3
      obtain ⟨rfl, hv⟩ := opd_ok hS h h4
      cases v <;> simp only [Prg.exec, reduceCtorEq] at he4
      case agg cs =>
        split at he4
        · rename_i hle
          obtain ⟨v, E5, h5, he5⟩ := bind_exec he4
          clear he4
          obtain ⟨hof, rfl⟩ := lift_exec h5
          by_cases hk : okV v = true
          · rw [if_pos hk] at he5
            rw [set_exec he5]
            obtain ⟨us, e1, hc⟩ := hv.rel
            have hp := part_ok (ti := ti) hc hle
            obtain ⟨fields, k1, k2, _⟩ := ok_struct hP ht hs
            obtain ⟨fl, k3, k4, k5⟩ := k2 i q hq
            have hag := run_isAgg (w := w) hP hf
            have hsz := run_sizeOf (w := w) hP hf
            have hone := (hP.ti q.2 ft hf).one
            rw [← k5] at hag hsz
            have hul : us.size = cs.length := by simpa using hc.length
            have hrun : (Instr.field st (a.eval x) i).run P w = .ok (valOf ft ((us.toList.drop q.1).take ft.size)) w := by
              cases hb : ft.agg with
              | true =>
                rw [hb] at hag
                simp only [Instr.field, Sem.run_bind, run_underlying k1, Result.andThen_ok, k3, e1, asAgg, Sem.run_pure, part, hag, Sem.run_ite, if_true, hsz, k4, valOf, hb]
                congr 2
                apply Array.ext'
                simp [Array.toList_extract, List.extract_eq_take_drop, List.take_drop]
              | false =>
                rw [hb] at hag
                have hq1 : q.1 < us.size := by have := hone hb; omega
                have e2 : us[q.1]? = some us[q.1] := Array.getElem?_eq_getElem hq1
                simp only [Instr.field, Sem.run_bind, run_underlying k1, Result.andThen_ok, k3, e1, asAgg, Sem.run_pure, part, hag, Sem.run_ite, Bool.false_eq_true, if_false, k4, valOf, hb, e2]
                congr 2
                rw [hone hb, List.drop_eq_getElem_cons (by simpa using hq1)]
                simp
            obtain ⟨hs', hb'⟩ := (ofCells_ok hp hof).toS
            refine OpOk.setV hd (by simp only [execOp, ho, Sem.run_bind, hrun, Result.andThen_ok, Sem.run_pure]) h ⟨hs', fun y hy => ?_, okV_und hk, hb'⟩
            refine hv.ment y ?_
            rcases ofCells_ment hof hy with hy | ⟨c, hc1, hy⟩
            · obtain ⟨c, hc2, hmc⟩ := List.any_eq_true.1 hy
              exact List.any_eq_true.2 ⟨c, List.mem_of_mem_drop (List.mem_of_mem_take hc2), hmc⟩
            · rw [hc1] at hp
              obtain ⟨u0, _, hr0⟩ := cells1 hp
              rw [ment_of_RelC hr0] at hy
              have hmem : c ∈ (cs.drop q.1).take ft.size := by rw [hc1]; exact List.mem_singleton_self c
              exact List.any_eq_true.2 ⟨c, List.mem_of_mem_drop (List.mem_of_mem_take hmem), hy⟩
          · rw [if_neg hk] at he5
            exact (fail_exec he5).elim
        · exact (fail_exec he4).elim
theorem run_indexSlice (hP : POk P C) {t e : TypeId} {ti te : TI} {ad : Option Addr} {len cap b o' : Nat} {k : IntKind} {n : Int} (ht : C.T t = some ti) (hs : ti.sh = .slice e) (hte : C.T e = some te) (h0 : 0 ≤ n) (h1 : n < len) (ha : ad = some ⟨b, o', none⟩) :
    (Instr.indexAt t (.slice ad len cap) (.int k n)).run P w = .ok (.pointer (some ⟨b, o' + n.toNat * te.size, none⟩)) w := by
  have h := (hP.ti t ti ht).sh
  rw [hs] at h
  have hsz := run_sizeOf (w := w) hP hte
  simp [Instr.indexAt, asIntOf, run_underlying h.1, ha, h0, h1, hsz, Addr.add_none]
theorem run_indexArr (hP : POk P C) {t e : TypeId} {ti te : TI} {m b o' : Nat} {k : IntKind} {n : Int} (ht : C.T t = some ti) (hs : ti.sh = .arr m e) (hte : C.T e = some te) (h0 : 0 ≤ n) (h1 : n < m) :
    (Instr.indexAt t (.pointer (some ⟨b, o', none⟩)) (.int k n)).run P w = .ok (.pointer (some ⟨b, o' + n.toNat * te.size, none⟩)) w := by
  have h := (hP.ti t ti ht).sh
  rw [hs] at h
  have hsz := run_sizeOf (w := w) hP hte
  simp [Instr.indexAt, asIntOf, run_underlying h, h0, h1, hsz, Addr.add_none, Instr.sureAddr]
theorem allD_ok {T : TypeId → Option TI} {ct : CT} : ∀ {us : List Value} {f : List Nat} {cs : List AV} {l : List Dat}, Cells T w St H us f cs → allD ct cs = some l → l.length = cs.length ∧ ∀ i u, us[i]? = some u → RelD T w St ct u (rd l i)
  | [], _, [], l, _, h => by
    simp only [allD, Option.some.injEq] at h
    subst h
    exact ⟨rfl, fun i u hu => by simp at hu⟩
  | [], _, _ :: _, _, h, _ => h.elim
  | _ :: _, _, [], _, h, _ => h.elim
  | u :: us, f, c :: cs, l, h, hl => by
    obtain ⟨f1, f2, rfl, h1, h2⟩ := h
    simp only [allD] at hl
    split at hl
    · rename_i hfit
      obtain ⟨d, hd, hl⟩ := Option.bind_eq_some_iff.1 hl
      obtain ⟨l', hl', hl⟩ := Option.map_eq_some_iff.1 hl
      subst hl
      obtain ⟨q1, q2⟩ := allD_ok h2 hl'
      refine ⟨by simp [q1], fun i u' hu => ?_⟩
      cases i with
      | succ i => exact q2 i u' (by simpa using hu)
      | zero =>
        simp only [List.getElem?_cons_zero, Option.some.injEq] at hu
        subst hu
        show RelD T w St ct u d
        cases c <;> cases ct <;> simp only [fitC, AV.cellD, Option.some.injEq, reduceCtorEq, Bool.false_eq_true] at hfit hd
        case int.int k n k' =>
          subst hd
          obtain ⟨_, rfl⟩ := h1
          rw [beq_iff_eq] at hfit
          subst hfit
          exact .int rfl
        case bool.bool b =>
          subst hd
          obtain ⟨_, rfl⟩ := h1
          exact .bool rfl
        case str.str b =>
          subst hd
          obtain ⟨_, rfl⟩ := h1
          exact .str rfl
        case nilS.slice e e' =>
          subst hd
          obtain ⟨_, rfl⟩ := h1
          exact RelD.of_row (ti := ⟨0, 0, [], false, .oth⟩) (b := 0) (o := 0) (fun hn => absurd rfl hn) (Nat.le_refl _) (fun hn => absurd rfl hn) RowD.nil (fun hn => absurd rfl hn)
        case shr.slice e l e' =>
          subst hd
          rw [beq_iff_eq] at hfit
          subst hfit
          exact h1.2
    · cases hl
end Go.Ev

/- The reader's operations are the model's: indexes, slices of slices, conversions. -/
namespace Go.Ev
open Go
set_option linter.unusedVariables false
set_option linter.unusedSimpArgs false
variable {cf : CF} {P : Program} {C : Ctx} {S : Frm} {w w' : World} {St St' : Nat → Prop} {H H' : Gh} {F : Nat → List Nat} {E E' E1 : Env} {A f fd : List Nat} {o : Oper} {a : Act}

theorem byte_at (s : ByteArray) (i : Nat) (h : i < s.size) : s[i]? = some (s.data.toList.getD i 0) := by
  have h1 : i < s.data.toList.length := by simpa using h
  have : s[i]? = s.data[i]? := by
    show (if h : i < s.size then some s[i] else none) = _
    rw [dif_pos h]
    exact (Array.getElem?_eq_getElem (xs := s.data) h).symm
  rw [this, List.getD_eq_getElem?_getD, Array.getElem?_toList, Array.getElem?_eq_getElem (xs := s.data) h]
  rfl
theorem op_index (hP : POk P C) (hS : FOk C S) (h : Inv C.T S a.tmps w St H F E []) {t : TypeId} {x ix : Operand} (ho : o.op = .index t x ix) {u : Unit} (he : (evIndex C o t x ix).exec cf E = some (u, E')) : OpOk P C S o a w E' := by
  unfold evIndex at he
  cases hd : o.dst with
  | none => simp [hd, Prg.exec] at he
  | some d =>
    simp only [hd] at he
    obtain ⟨v, E2, h2, he2⟩ := bind_exec he
    clear he
    obtain ⟨rfl, hv⟩ := opd_ok hS h h2
    obtain ⟨iv, E3, h3, he3⟩ := bind_exec he2
    clear he2
    obtain ⟨rfl, hiv⟩ := opd_ok hS h h3
    cases iv <;> simp only [Prg.exec, reduceCtorEq] at he3
    case int k n =>
      have ei := rel_int hiv.rel
      have run : ∀ {uv : Value}, (Instr.index t (a.eval x) (.int k n)).run P w = .ok uv w → (execOp a.eval o).run P w = .ok (.value uv) w := by
        intro uv hu
        simp only [execOp, ho, ei, Sem.run_bind, hu, Result.andThen_ok, Sem.run_pure]
      cases v <;> simp only [Prg.exec, reduceCtorEq] at he3
      case str s =>
        have es := rel_str hv.rel
        split at he3
        · rename_i hk
          obtain ⟨_, _, _, _, hu⟩ := kind_of hP hk
          obtain ⟨hc0, he4⟩ := chk_exec he3
          obtain ⟨hc1, he5⟩ := chk_exec he4
          have h0 : 0 ≤ n := by simpa using hc0
          have h1' : n < (s.size : Int) := by simpa using hc1
          rw [set_exec he5]
          have hb := byte_at s n.toNat (by omega)
          refine OpOk.setV (u := .int .u8 (bt s n.toNat)) hd (run ?_) h vok_int
          simp only [Instr.index, asIntOf, Sem.run_bind, Sem.run_pure, Result.andThen_ok, run_underlying hu, es, h0, if_true, hb, bt]
        · exact (fail_exec he3).elim
      case agg cs =>
        obtain ⟨ti, E4, h4, he4⟩ := bind_exec he3
        clear he3
        obtain ⟨ht, rfl⟩ := tiOf_exec h4
        cases hs : ti.sh <;> simp only [hs, Prg.exec, reduceCtorEq] at he4
        case arr m e =>
          obtain ⟨te, E5, h5, he5⟩ := bind_exec he4
          clear he4
          obtain ⟨hte, rfl⟩ := tiOf_exec h5
          split at he5
          · rename_i ct hct
            split at he5
            · rename_i hcond
              obtain ⟨hag, hsz, hlen⟩ := hcond
              obtain ⟨l, E6, h6, he6⟩ := bind_exec he5
              clear he5
              obtain ⟨hall, rfl⟩ := lift_exec h6
              obtain ⟨hc0, he7⟩ := chk_exec he6
              obtain ⟨hc1, he8⟩ := chk_exec he7
              have h0 : 0 ≤ n := by simpa using hc0
              have h1' : n < (m : Int) := by simpa using hc1
              rw [set_exec he8]
              obtain ⟨us, e1, hc⟩ := hv.rel
              obtain ⟨ll, hdd⟩ := allD_ok hc hall
              have hul : us.size = cs.length := by simpa using hc.length
              have hn : n.toNat < us.size := by omega
              have hrel := hdd n.toNat us[n.toNat] (by simp [hn])
              have hsh := (hP.ti t ti ht).sh
              rw [hs] at hsh
              have hagr := run_isAgg (w := w) hP hte
              have hszr := run_sizeOf (w := w) hP hte
              rw [hag] at hagr
              rw [hsz] at hszr
              refine OpOk.setV (u := us[n.toNat]) hd (run ?_) h ?_
              · have hcond2 : 0 ≤ n ∧ n < (m : Int) := ⟨h0, h1'⟩
                simp only [Instr.index, asIntOf, Sem.run_bind, Sem.run_pure, Result.andThen_ok, run_underlying hsh, e1, Sem.run_ite, hcond2, and_self, if_true, hszr, Nat.mul_one, part, hagr, Bool.false_eq_true, if_false, Array.getElem?_eq_getElem hn]
              · have hr0 := ofD_ok (H := H) hrel
                refine ⟨RelS_of_RelC hr0, fun y hy => ?_, ?_, isBox_of_RelC hr0⟩
                · rw [ment_of_RelC hr0, ofD_ment] at hy; cases hy
                · cases ct <;> simp [ofD]
            · exact (fail_exec he5).elim
          · exact (fail_exec he5).elim
theorem num_ok (hS : FOk C S) (h : Inv C.T S a.tmps w St H F E []) {y : Option Operand} {dflt n : Int} (he : (num C y dflt).exec cf E = some (n, E')) : E' = E ∧ ((y = none ∧ n = dflt) ∨ ∃ q k, y = some q ∧ a.eval q = .int k n) := by
  cases y with
  | none =>
    obtain ⟨e1, e2⟩ := ret_exec he
    exact ⟨e2, .inl ⟨rfl, e1⟩⟩
  | some q =>
    obtain ⟨v, E1, h1, he1⟩ := bind_exec (show ((opd C 0 q).bind _).exec cf E = some (n, E') from he)
    obtain ⟨e1, hv⟩ := opd_ok hS h h1
    cases v <;> simp only [Prg.exec, reduceCtorEq, Option.some.injEq, Prod.mk.injEq] at he1
    case int k m =>
      obtain ⟨rfl, e2⟩ := he1
      exact ⟨e2 ▸ e1, .inr ⟨q, k, rfl, rel_int hv.rel⟩⟩
theorem run_bounds {isS : Bool} {len cap : Nat} {lo hi : Option Value} {l h : Int} (h0 : 0 ≤ l) (h1 : l ≤ h) (h2 : h ≤ cap) (hlo : (lo = none ∧ l = 0) ∨ ∃ k, lo = some (.int k l)) (hhi : (hi = none ∧ h = len) ∨ ∃ k, hi = some (.int k h)) :
    (Instr.sliceBounds isS len cap lo hi none).run P w = .ok (l.toNat, h.toNat, cap) w := by
  have hh : (0 : Int) ≤ h := by omega
  have h1' : l ≤ (h.toNat : Int) := by omega
  rcases hlo with ⟨rfl, rfl⟩ | ⟨k, rfl⟩ <;> rcases hhi with ⟨rfl, rfl⟩ | ⟨k', rfl⟩
  · simp [Instr.sliceBounds]
  · simp [Instr.sliceBounds, run_sliceBound _ _ _ _ _ hh h2]
  · simp [Instr.sliceBounds, run_sliceBound _ _ _ _ _ h0 (show l ≤ ((len : Nat) : Int) from h1)]
  · simp [Instr.sliceBounds, run_sliceBound _ _ _ _ _ hh h2, run_sliceBound _ _ _ _ _ h0 h1']
theorem rd_drop (l : List Dat) (p q i : Nat) (h : p + i < q) : rd ((l.take q).drop p) i = rd l (p + i) := by
  simp only [rd, List.getD_eq_getElem?_getD, List.getElem?_drop]
  rw [List.getElem?_take_of_lt h]
theorem RowD.cut {T : TypeId → Option TI} {b o' : Nat} {ti : TI} {l : List Dat} (h : RowD T w St b o' ti l) (p q : Nat) : RowD T w St b (o' + p * ti.size) ti ((l.take q).drop p) := by
  intro i j hi hj
  simp only [List.length_drop, List.length_take] at hi
  obtain ⟨u, hu, hr⟩ := h (p + i) j (by omega) hj
  refine ⟨u, ?_, fun ct hct => ?_⟩
  · rw [show o' + p * ti.size + i * ti.size + j = o' + (p + i) * ti.size + j by rw [Nat.add_mul]; omega]
    exact hu
  · rw [rd_drop l p q i (by omega)]
    exact hr ct hct
theorem map_eval {y : Option Operand} {n dflt : Int} (h : (y = none ∧ n = dflt) ∨ ∃ q k, y = some q ∧ a.eval q = .int k n) : (y.map a.eval = none ∧ n = dflt) ∨ ∃ k, y.map a.eval = some (.int k n) := by
  rcases h with ⟨rfl, h⟩ | ⟨q, k, rfl, h⟩
  · exact .inl ⟨rfl, h⟩
  · exact .inr ⟨k, by simp [h]⟩
/-- The token of a new row, for the proof. -/
def Gh.put (H : Gh) (d i : Nat) (a : Option Addr) (l c : Nat) : Gh := { H with hd0 := fun x y => if x = d ∧ y = i then (a, l, c) else H.hd0 x y }
theorem Gh.put_hd (H : Gh) (d i : Nat) (ad : Option Addr) (l c : Nat) : (H.put d i ad l c).hd d i = .slice ad l c := by simp [Gh.put, Gh.hd]
theorem Gh.put_ag (H : Gh) (d i : Nat) (ad : Option Addr) (l c : Nat) : ∀ x, x ≠ d → HAg H (H.put d i ad l c) x := fun x hx => ⟨rfl, fun j => by simp [Gh.put, Gh.hd, hx]⟩
/-- A new row in a slot of which nothing was told. -/
theorem OpOk.newOwn {d : Nat} {e : TypeId} {l : List Dat} {ad : Option Addr} {cap : Nat} (hd : o.dst = some d) (hu : geti E1 d = .und) (hrun : (execOp a.eval o).run P w = .ok (.value (.slice ad l.length cap)) w') (h : Inv C.T S a.tmps w' St H F E1 (f ++ []))
    (hown : Own C.T w' St e l (.slice ad l.length cap) f) : OpOk P C S o a w (E1.set d (.own d 0 e l)) := by
  have hg := h.ghost (H' := H.put d 0 ad l.length cap) hu (Gh.put_ag H d 0 ad l.length cap)
  have hput := hg.put d (.slice ad l.length cap) (.own d 0 e l) ⟨(Gh.put_hd H d 0 ad l.length cap).symm, hown⟩ (by simp) (fun x hx hxd => by
    simp only [Ev.ment, mentC, beq_iff_eq] at hx
    exact absurd hx.symm hxd) (fun hb => by simp [isBox] at hb) (fun cs hcs => by simp at hcs)
  exact OpOk.value hrun ⟨_, _, _, by rw [hd]; exact hput⟩
theorem own_take {T : TypeId → Option TI} {e : TypeId} {l : List Dat} {ad : Option Addr} {len cap : Nat} {f : List Nat} (h : Own T w St e l (.slice ad len cap) f) (q : Nat) (hq : q ≤ l.length) : Own T w St e (l.take q) (.slice ad (l.take q).length cap) f := by
  obtain ⟨ti, a', cap', h1, h2, h3, h4⟩ := h
  simp only [Value.slice.injEq] at h2
  obtain ⟨rfl, rfl, rfl⟩ := h2
  refine ⟨ti, ad, cap, h1, rfl, by simp; omega, ?_⟩
  rcases h4 with h4 | ⟨b, o', arr, et, fz, g1, g2, g3, g4, g5, g6⟩
  · exact .inl h4
  · refine .inr ⟨b, o', arr, et, fz, g1, g2, g3, g4, g5, ?_⟩
    have := g6.cut 0 q
    simpa using this
theorem op_slice (hP : POk P C) (hS : FOk C S) (h : Inv C.T S a.tmps w St H F E []) {t : TypeId} {x : Operand} {lo hi mx : Option Operand} (ho : o.op = .slice t x lo hi mx) {u : Unit} (he : (evSlice C o x lo hi mx t).exec cf E = some (u, E')) : OpOk P C S o a w E' := by
  unfold evSlice at he
  cases hd : o.dst with
  | none => simp [hd, Prg.exec] at he
  | some d =>
    cases mx with
    | some _ => simp [hd, Prg.exec] at he
    | none =>
      simp only [hd] at he
      obtain ⟨v, E1, h1, he1⟩ := bind_exec he
      clear he
      obtain ⟨rfl, hv⟩ := opd_ok hS h h1
      obtain ⟨l, E2, h2, he2⟩ := bind_exec he1
      clear he1
      obtain ⟨rfl, hlo⟩ := num_ok hS h h2
      have hlo' := map_eval hlo
      split at he2
      · rename_i hk
        obtain ⟨_, _, _, _, hu⟩ := kind_of hP hk
        cases v <;> simp only [Prg.exec, reduceCtorEq] at he2
        case str s =>
          obtain ⟨b, E3, h3, he3⟩ := bind_exec he2
          clear he2
          obtain ⟨rfl, hhi⟩ := num_ok hS h h3
          have hhi' := map_eval hhi
          obtain ⟨hc0, he4⟩ := chk_exec he3
          obtain ⟨hc1, he5⟩ := chk_exec he4
          obtain ⟨hc2, he6⟩ := chk_exec he5
          have k0 : 0 ≤ l := by simpa using hc0
          have k1 : l ≤ b := by simpa using hc1
          have k2 : b ≤ (s.size : Int) := by simpa using hc2
          rw [set_exec he6]
          have es := rel_str hv.rel
          have hb := run_bounds (P := P) (w := w) (isS := false) (len := s.size) k0 k1 k2 hlo' hhi'
          refine OpOk.setV (u := .string (subS s l.toNat b.toNat)) hd ?_ h vok_str
          simp only [execOp, ho, Sem.run_bind, Instr.sliceAt, run_underlying hu, Result.andThen_ok, Instr.slice, es, Option.map_none, Option.isSome_none, Bool.false_eq_true, if_false, hb, Sem.run_pure, subS, Sem.run_ite]
      · rename_i e hk
        obtain ⟨_, _, _, _, hu⟩ := kind_of hP hk
        obtain ⟨te, E3, h3, he3⟩ := bind_exec he2
        clear he2
        obtain ⟨hte, rfl⟩ := tiOf_exec h3
        have hsz := run_sizeOf (w := w) hP hte
        have run : ∀ {ad : Option Addr} {len cap : Nat} {b : Int}, a.eval x = .slice ad len cap → 0 ≤ l → l ≤ b → b ≤ cap → ((hi.map a.eval = none ∧ b = len) ∨ ∃ k, hi.map a.eval = some (.int k b)) →
            (execOp a.eval o).run P w = .ok (.value (.slice (if cap = l.toNat then ad else ad.map (·.add (l.toNat * te.size))) (b.toNat - l.toNat) (cap - l.toNat))) w := by
          intro ad len cap b e1 k0 k1 k2 hhi'
          have hb := run_bounds (P := P) (w := w) (isS := true) (len := len) k0 k1 k2 hlo' hhi'
          simp only [execOp, ho, Sem.run_bind, Instr.sliceAt, run_underlying hu, Result.andThen_ok, Instr.slice, e1, Option.map_none, hb, hsz, Sem.run_pure]
        cases v <;> simp only [Prg.exec, reduceCtorEq] at he3
        case shr e' ll =>
          split at he3
          · rename_i hee
            subst hee
            obtain ⟨b, E4, h4, he4⟩ := bind_exec he3
            clear he3
            obtain ⟨rfl, hhi⟩ := num_ok hS h h4
            have hhi' := map_eval hhi
            obtain ⟨hc0, he5⟩ := chk_exec he4
            obtain ⟨hc1, he6⟩ := chk_exec he5
            obtain ⟨hc2, he7⟩ := chk_exec he6
            have k0 : 0 ≤ l := by simpa using hc0
            have k1 : l ≤ b := by simpa using hc1
            have k2 : b ≤ (ll.length : Int) := by simpa using hc2
            rw [set_exec he7]
            obtain ⟨te2, ad, cap, b2, o2, r1, r2, r3, r4, r5⟩ := hv.rel.2.row
            have r3' : ll.length ≤ cap := r3
            have hlen : ((ll.take b.toNat).drop l.toNat).length = b.toNat - l.toNat := by simp; omega
            refine OpOk.setV hd (run r2 k0 k1 (by omega) hhi') h ⟨⟨rfl, ?_⟩, fun y hy => by simp [Ev.ment, mentC] at hy, by simp, rfl⟩
            rw [← hlen]
            by_cases hn : ll = []
            · subst hn
              have hnil : ((([] : List Dat).take b.toNat).drop l.toNat) = [] := by simp
              rw [hnil]
              exact RelD.of_row (ti := te) (b := 0) (o := 0) (fun hn => absurd rfl hn) (Nat.zero_le _) (fun hn => absurd rfl hn) RowD.nil (fun hn => absurd rfl hn)
            · obtain ⟨q1, q2⟩ := r1 hn
              rw [hte, Option.some.injEq] at q1
              subst q1
              refine RelD.of_row (ti := te) (b := b2) (o := o2 + l.toNat * te.size) (fun _ => ⟨hte, q2⟩) (by rw [hlen]; omega) (fun hn2 => ?_) (r5.cut l.toNat b.toNat) (fun _ => hT_of hP e' te hte)
              have hlt : l.toNat < b.toNat := by
                rcases Nat.lt_or_ge l.toNat b.toNat with h | h
                · exact h
                · exfalso; apply hn2; apply List.length_eq_zero_iff.1; omega
              rw [if_neg (by omega), (r4 hn).1, Option.map_some, Addr.add_none]
              exact ⟨rfl, (r4 hn).2⟩
          · exact (fail_exec he3).elim
        case nilS e' =>
          split at he3
          · rename_i hee
            subst hee
            obtain ⟨b, E4, h4, he4⟩ := bind_exec he3
            clear he3
            obtain ⟨rfl, hhi⟩ := num_ok hS h h4
            have hhi' := map_eval hhi
            obtain ⟨hc0, he5⟩ := chk_exec he4
            obtain ⟨hc1, he6⟩ := chk_exec he5
            obtain ⟨hc2, he7⟩ := chk_exec he6
            have k0 : 0 ≤ l := by simpa using hc0
            have k1 : l ≤ b := by simpa using hc1
            have k2 : b ≤ 0 := by simpa using hc2
            rw [set_exec he7]
            have hb0 : b = 0 := by omega
            have hl0 : l = 0 := by omega
            subst hb0 hl0
            have e1 : a.eval x = .slice none 0 0 := hv.rel.2
            have := run e1 k0 k1 (by simp) hhi'
            exact OpOk.setV (u := .slice none 0 0) hd (by simpa using this) h ⟨⟨rfl, rfl⟩, fun y hy => by simp [Ev.ment, mentC] at hy, by simp, rfl⟩
          · exact (fail_exec he3).elim
        case view s off t' i =>
          obtain ⟨_, E4, h4, he4⟩ := bind_exec he3
          clear he3
          obtain ⟨hund, rfl⟩ := newTok_exec h4
          obtain ⟨r, E5, h5, he5⟩ := bind_exec he4
          clear he4
          obtain ⟨rfl, ha⟩ := ownAt_exec h5
          split at he5
          · rename_i hee
            obtain ⟨b, E6, h6, he6⟩ := bind_exec he5
            clear he5
            obtain ⟨rfl, hhi⟩ := num_ok hS h h6
            have hhi' := map_eval hhi
            obtain ⟨hc0, he7⟩ := chk_exec he6
            obtain ⟨hc1, he8⟩ := chk_exec he7
            obtain ⟨hc2, he9⟩ := chk_exec he8
            have k0 : 0 ≤ l := by simpa using hc0
            have k1 : l ≤ b := by simpa using hc1
            have k2 : b ≤ (r.2.length : Int) := by simpa using hc2
            have e1 : a.eval x = H.hd t' i := hv.rel.2
            have hds : d ≠ s := fun e0 => at_und ha (by rw [← e0]; exact hund)
            cases lo with
            | none =>
              obtain ⟨r', E7, h7, he10⟩ := bind_exec he9
              obtain ⟨rfl, ha'⟩ := take_exec h7
              rw [set_exec he10]
              obtain ⟨f, F', ho', hi⟩ := h.take ha
              have hl0 : l = 0 := by rcases hlo with ⟨_, h⟩ | ⟨q, k, h, _⟩; exact h; cases h
              subst hl0
              obtain ⟨ti', ad, cap, q1, q2, q3, q4⟩ := ho'
              have hrun := run (by rw [e1, q2]) k0 k1 (by omega) hhi'
              have hown := own_take (q := b.toNat) (l := r.2) (ad := ad) (len := r.2.length) (cap := cap) (f := f) (e := r.1) (T := C.T) (w := w) (St := St) ⟨ti', ad, cap, q1, rfl, q3, q4⟩ (by omega)
              rw [hee] at hown
              have hlen : (r.2.take b.toNat).length = b.toNat := by simp; omega
              refine OpOk.newOwn (ad := ad) (cap := cap) hd (by rw [geti_set, if_neg (fun q => hds q.1)]; exact hund) ?_ hi hown
              rw [hrun, hlen]
              simp only [Int.toNat_zero, Nat.zero_mul, Nat.sub_zero]
              congr 3
              split
              · rfl
              · cases ad with
                | none => rfl
                | some ad => simp [Addr.add]
            | some lo =>
              obtain ⟨r', E7, h7, he10⟩ := bind_exec he9
              obtain ⟨rfl, ha'⟩ := freeze_exec h7
              rw [ha] at ha'
              simp only [AV.own.injEq, true_and] at ha'
              obtain ⟨he1', he2'⟩ := ha'
              rw [set_exec he10]
              obtain ⟨St', F', hs, hdd, hi⟩ := h.freeze (hT_of hP) ha
              rw [← he1', ← he2']
              obtain ⟨te2, ad, cap, b2, o2, r1, r2, r3, r4, r5⟩ := hdd.row
              have r3' : r.2.length ≤ cap := r3
              have hlen : ((r.2.take b.toNat).drop l.toNat).length = b.toNat - l.toNat := by simp; omega
              refine OpOk.setV hd (run (by rw [e1]; exact r2) k0 k1 (by omega) hhi') hi ⟨⟨rfl, ?_⟩, fun y hy => by simp [Ev.ment, mentC] at hy, by simp, rfl⟩
              rw [← hlen]
              by_cases hn : r.2 = []
              · have hnil : ((r.2.take b.toNat).drop l.toNat) = [] := by rw [hn]; simp
                rw [hnil]
                exact RelD.of_row (ti := te) (b := 0) (o := 0) (fun hn => absurd rfl hn) (Nat.zero_le _) (fun hn => absurd rfl hn) RowD.nil (fun hn => absurd rfl hn)
              · obtain ⟨q1, q2⟩ := r1 hn
                rw [hee, hte, Option.some.injEq] at q1
                subst q1
                refine RelD.of_row (ti := te) (b := b2) (o := o2 + l.toNat * te.size) (fun _ => ⟨hte, q2⟩) (by rw [hlen]; omega) (fun hn2 => ?_) (r5.cut l.toNat b.toNat) (fun _ => hT_of hP e te hte)
                have hlt : l.toNat < b.toNat := by
                  rcases Nat.lt_or_ge l.toNat b.toNat with h | h
                  · exact h
                  · exfalso; apply hn2; apply List.length_eq_zero_iff.1; omega
                rw [if_neg (by omega), (r4 hn).1, Option.map_some, Addr.add_none]
                exact ⟨rfl, (r4 hn).2⟩
          · exact (fail_exec he5).elim
      · exact (fail_exec he2).elim
end Go.Ev

/- The reader's operations are the model's: conversions. -/
namespace Go.Ev
open Go
set_option linter.unusedVariables false
set_option linter.unusedSimpArgs false
variable {cf : CF} {P : Program} {C : Ctx} {S : Frm} {w w' : World} {St St' : Nat → Prop} {H H' : Gh} {F : Nat → List Nat} {E E' E1 : Env} {A f fd : List Nat} {o : Oper} {a : Act}

theorem push_all : ∀ (ns : List Int) (arr : Array UInt8), ns.foldl (fun r n => ByteArray.push r (UInt8.ofNat n.toNat)) ⟨arr⟩ = ⟨arr ++ (ns.map fun n => UInt8.ofNat n.toNat).toArray⟩
  | [], arr => by simp
  | n :: ns, arr => by
    rw [List.foldl_cons]
    have : ByteArray.push ⟨arr⟩ (UInt8.ofNat n.toNat) = ⟨arr.push (UInt8.ofNat n.toNat)⟩ := rfl
    rw [this, push_all ns]
    simp
theorem run_bytes (hP : POk P C) {e : TypeId} {l : List Dat} {u : Value} (hk : kindOf C e = some (.int .u8)) (h : SlOk C.T w St e l u) : (Conv.bytesToString u).run P w = .ok (.string (strOf l)) w := by
  obtain ⟨ti, hti, hcts, hok, _⟩ := kind_of hP hk
  obtain ⟨te, ad, cap, b, o', rfl, h2, h3⟩ := h
  cases ad with
  | none =>
    have : l = [] := by
      by_cases hl : l = []
      · exact hl
      · obtain ⟨_, _, h4, _⟩ := h3 hl; cases h4
    subst this
    rfl
  | some ad =>
    have hload : (loadCells ad l.length).run P w = .ok ((l.map (·.I)).map (Value.int .u8)).toArray w := by
      by_cases hl : l = []
      · subst hl; rfl
      · obtain ⟨k1, k2, k3, k4⟩ := h3 hl
        rw [hti, Option.some.injEq] at k1
        subst k1
        have hsz : ti.size = 1 := by rw [← hok.len, hcts]; rfl
        have hag : ti.agg = false := by
          cases hb : ti.agg with
          | false => rfl
          | true =>
            obtain ⟨_, _, _, _, hu⟩ := kind_of hP hk
            rcases hok.agg.1 hb with ⟨fs, h⟩ | ⟨n, e', h⟩ <;> rw [hu] at h <;> cases h
        simp only [Option.some.injEq] at k3
        subst k3
        have := run_loadCells_list (P := P) w ⟨b, o', none⟩ ((l.map (·.I)).map (Value.int .u8)) (fun j v hj => by
          rw [Addr.add_none]
          have hjl : j < l.length := by have := (List.getElem?_eq_some_iff.1 hj).1; simpa using this
          obtain ⟨u, hu, hr⟩ := k4 j 0 hjl (by omega)
          have hr' := hr (.int .u8) (by rw [hcts]; rfl)
          rw [hsz, Nat.mul_one, Nat.add_zero] at hu
          rw [hu]
          cases hr' with
          | int hr' =>
            rw [hr', ← hj]
            simp [cellOf, hag, rd, hjl])
        simpa using this
    have := run_bytesToString (P := P) w ad l.length cap (l.map (·.I)) hload
    rw [this]
    congr 2
    have h0 := push_all (l.map (·.I)) #[]
    have he : (ByteArray.empty : ByteArray) = ⟨#[]⟩ := rfl
    rw [he, h0]
    simp [strOf, List.map_map, Function.comp_def]
theorem Keep.ext (h : Keep S w) (ho : w'.os = w.os) (ht : w'.tape = w.tape) (hu : w'.output = w.output) (hn : w.heap.size ≤ w'.heap.size) (hw : ∀ b, b < w.heap.size → w'.heap[b]? = w.heap[b]?) : Keep S w' where
  os := ho.trans h.os
  tape := ht.trans h.tape
  output := hu.trans h.output
  size := Nat.le_trans h.size hn
  heap := fun k hk hO => (hw k (Nat.lt_of_lt_of_le hk h.size)).trans (h.heap k hk hO)
  part := fun j b o' n hp => by
    obtain ⟨arr0, arr, et, fz, h1, h2, h3, h4⟩ := h.part j b o' n hp
    have hb : b < w.heap.size := by
      rcases Nat.lt_or_ge b w.heap.size with hb | hb
      · exact hb
      · rw [Array.getElem?_eq_none hb] at h2; cases h2
    exact ⟨arr0, arr, et, fz, h1, (hw b hb).trans h2, h3, h4⟩
theorem grown_ge (w : World) (need old : Nat) (e : TypeId) : need ≤ grownCap w need old e := by
  show need ≤ need + _
  omega
/-- A new block that is a row. -/
theorem Own.new {T : TypeId → Option TI} {e : TypeId} {te : TI} {l : List Dat} {n cap : Nat} {arr : Array Value} {et : TypeId} {fz : Nat × Nat} (hT : T e = some te) (h0 : 0 < te.size) (hl : l.length ≤ cap) (hh : w'.heap[n]? = some (.cells arr et fz)) (hf : NoFz fz arr.size) (hs : cap * te.size ≤ arr.size) (hr : RowD T w' St n 0 te l) :
    ∃ f, (f = [] ∨ f = [n]) ∧ Own T w' St e l (.slice (some ⟨n, 0, none⟩) l.length cap) f := by
  by_cases hc : cap = 0
  · exact ⟨[], .inl rfl, te, _, cap, fun h => absurd hc h, rfl, hl, .inl ⟨hc, rfl⟩⟩
  · exact ⟨[n], .inr rfl, te, _, cap, fun _ => ⟨hT, h0⟩, rfl, hl, .inr ⟨n, 0, arr, et, fz, rfl, rfl, hh, hf, by omega, hr⟩⟩
theorem Inv.some {T : TypeId → Option TI} {tmps : Array Value} {n : Nat} (h : Inv T S tmps w St H F E (n :: A)) (hf : f = [] ∨ f = [n]) : Inv T S tmps w St H F E (f ++ A) := by
  rcases hf with rfl | rfl
  · exact h.drop (f := [n])
  · exact h
theorem putAt_same {v : AV} {off t i : Nat} {e : TypeId} {l : List Dat} (h : v.at? off = .own t i e l) : v.putAt off (.own t i e l) = v := by
  rcases atq_own h with ⟨rfl, _⟩ | ⟨cs, hv, hc⟩
  · rfl
  · have hs : cs.set off (.own t i e l) = cs := by
      apply List.ext_getElem?
      intro j
      by_cases hj : off = j
      · subst hj
        rw [List.getElem?_set_self (List.getElem?_eq_some_iff.1 hc).1, hc]
      · rw [List.getElem?_set_ne hj]
    rcases hv with rfl | ⟨bt, rfl⟩ | rfl <;> simp only [AV.putAt, hs]
theorem set_geti {s : Nat} (h : s < E.length) : E.set s (geti E s) = E := by
  apply List.ext_getElem?
  intro j
  by_cases hj : s = j
  · subst hj
    rw [List.getElem?_set_self h]
    simp [geti, h]
  · rw [List.getElem?_set_ne hj]
/-- A list of cells that is a row of elements. -/
def RowL0 (T : TypeId → Option TI) (w : World) (St : Nat → Prop) (arr : List Value) (te : TI) (l : List Dat) : Prop :=
  ∀ i j, i < l.length → j < te.size → ∃ u, arr[i * te.size + j]? = some u ∧ ∀ ct, te.cts[j]? = some ct → RelD T w St ct u (cellOf te (rd l i) j)
theorem RowL0.mono {T : TypeId → Option TI} {arr : List Value} {te : TI} {l : List Dat} (h : RowL0 T w St arr te l) (hs : ∀ b, St b → St' b) (hw : ∀ b, St b → w'.heap[b]? = w.heap[b]?) : RowL0 T w' St' arr te l := by
  intro i j hi hj
  obtain ⟨u, h1, h2⟩ := h i j hi hj
  exact ⟨u, h1, fun ct hct => (h2 ct hct).mono hs hw⟩
theorem rowD_drop0 {T : TypeId → Option TI} {arr : Array Value} {et : TypeId} {fz : Nat × Nat} {te : TI} {l : List Dat} {b p : Nat} (hh : w.heap[b]? = some (.cells arr et fz)) : RowD T w St b p te l ↔ RowL0 T w St (arr.toList.drop p) te l := by
  have e : ∀ x, w.cell? ⟨b, p + x, none⟩ = (arr.toList.drop p)[x]? := by
    intro x
    simp only [World.cell?, hh, Option.isSome_none, Bool.false_eq_true, if_false, List.getElem?_drop, Array.getElem?_toList]
  constructor
  · intro h i j hi hj
    obtain ⟨u, h1, h2⟩ := h i j hi hj
    exact ⟨u, by rw [← e, ← Nat.add_assoc]; exact h1, h2⟩
  · intro h i j hi hj
    obtain ⟨u, h1, h2⟩ := h i j hi hj
    exact ⟨u, by rw [Nat.add_assoc, e]; exact h1, h2⟩
theorem Keep.hand0 (h : Keep S w) {b : Nat} (hb : b ∈ S.O ∨ S.w0.heap.size ≤ b) (hp : ∀ j b' o n, S.pb = some (j, b', o, n) → b' ≠ b) (ho : w'.os = w.os) (ht : w'.tape = w.tape) (hu : w'.output = w.output) (hn : w'.heap.size = w.heap.size) (hw : ∀ k, k ≠ b → w'.heap[k]? = w.heap[k]?) : Keep S w' where
  os := ho.trans h.os
  tape := ht.trans h.tape
  output := hu.trans h.output
  size := by rw [hn]; exact h.size
  heap := fun k hk hO => by
    have hkb : k ≠ b := by
      rintro rfl
      rcases hb with hb | hb
      · exact hO hb
      · omega
    exact (hw k hkb).trans (h.heap k hk hO)
  part := fun j b' o' n hq => by
    obtain ⟨arr0, arr, et, fz, h1, h2, h3, h4⟩ := h.part j b' o' n hq
    exact ⟨arr0, arr, et, fz, h1, (hw b' (hp j b' o' n hq)).trans h2, h3, h4⟩
theorem op_convert_row (hP : POk P C) (hS : FOk C S) {v : AV} (h : Inv C.T S a.tmps w St H F E []) {src dst : TypeId} {x : Operand} (hv : VOk C.T w St H E (a.eval x) v) {d : Nat} (hd : o.dst = some d) (run : ∀ {uv : Value} {w' : World}, (convert src dst (a.eval x)).run P w = .ok uv w' → (execOp a.eval o).run P w = .ok (.value uv) w') {u : Unit}
    (he : (match kindOf C src, kindOf C dst with
      | some (.slice e), some .str => match kindOf C e with
        | some (.int .u8) => (elems v).bind fun r => if r.1 = e then .set d (.str (strOf r.2)) (.ret ()) else .fail
        | _ => .fail
      | some (.slice e), some (.slice e') => if e = e' ∧ src = dst then match kindOf C e with
          | some (.int .u8) => (match v with
            | .view s off t i => (ownAt s off t i).bind fun r => .chk (decide (0 < r.2.length)) (.set d (.view s off t i) (.ret ()))
            | _ => .fail)
          | _ => .fail else .fail
      | _, _ => (.fail : Prg Unit)).exec cf E = some (u, E')) : OpOk P C S o a w E' := by
  split at he
  · rename_i e hk1 hk2
    split at he
    · rename_i hk3
      obtain ⟨r, E2, h2, he2⟩ := bind_exec he
      clear he
      obtain ⟨rfl, hsl⟩ := elems_ok h hv h2
      split at he2
      · rename_i hee
        rw [set_exec he2]
        rw [hee] at hsl
        obtain ⟨_, _, _, _, hu1⟩ := kind_of hP hk1
        obtain ⟨_, _, _, _, hu2⟩ := kind_of hP hk2
        obtain ⟨_, _, _, _, hu3⟩ := kind_of hP hk3
        have hb := run_bytes hP hk3 hsl
        obtain ⟨te, ad, cap, b, o', e1, _⟩ := hsl
        refine OpOk.setV (u := .string (strOf r.2)) hd (run ?_) h vok_str
        rw [e1] at hb ⊢
        rw [run_convert_bytes_string w src dst e ad r.2.length cap hu1 hu3 hu2]
        exact hb
      · exact (fail_exec he2).elim
    · exact (fail_exec he).elim
  · rename_i e e' hk1 hk2
    split at he
    · rename_i hee
      obtain ⟨rfl, rfl⟩ := hee
      obtain ⟨_, _, _, _, hu1⟩ := kind_of hP hk1
      have hr := hv.rel
      split at he
      · rename_i hk3
        split at he
        case h_2 => exact (fail_exec he).elim
        rename_i s off t i hv
        obtain ⟨_, _, _, _, hu3⟩ := kind_of hP hk3
        obtain ⟨r, E2, h2, he2⟩ := bind_exec he
        clear he
        obtain ⟨rfl, hat⟩ := ownAt_exec h2
        obtain ⟨hc0, he3⟩ := chk_exec he2
        have h0 : 0 < r.2.length := by simpa using hc0
        rw [set_exec he3]
        have eu : a.eval x = H.hd t i := hv.rel.2
        obtain ⟨fo, fr, hown, hsw, hfin⟩ := h.swap hat
        obtain ⟨te, ad, cap, q1, q2, q3, q4⟩ := hown
        have hc0 : cap ≠ 0 := by omega
        rcases q4 with ⟨q4, _⟩ | ⟨b, o2, arr, eT, fz, g1, g2, g3, g4, g5, g6⟩
        · exact absurd q4 hc0
        · subst g1
          let fz' : Nat × Nat := if fz.1 == fz.2 then (arr.size, arr.size + 1) else (min fz.1 arr.size, max fz.2 (arr.size + 1))
          have hnf : NoFz fz' arr.size := by
            obtain ⟨n1, n2⟩ := g4
            show NoFz (if fz.1 == fz.2 then (arr.size, arr.size + 1) else (min fz.1 arr.size, max fz.2 (arr.size + 1))) arr.size
            split
            · exact ⟨by simp, fun x hx => by simp; omega⟩
            · rename_i hne
              have hne' : fz.1 ≠ fz.2 := by simpa using hne
              have hge : arr.size ≤ fz.1 := by
                rcases Nat.lt_or_ge fz.1 arr.size with hlt | hge
                · exact absurd ⟨Nat.le_refl _, by omega⟩ (n2 fz.1 hlt)
                · exact hge
              exact ⟨by simp; omega, fun x hx => by simp; omega⟩
          have hsh : w.shape? b = some (eT, arr.size) := by simp only [World.shape?, g3]
          have hrun : (convert src src (.slice (some ⟨b, o2, none⟩) r.2.length cap)).run P w = .ok (.slice (some ⟨b, o2, none⟩) r.2.length cap) (w.freeze ⟨b, arr.size, none⟩ 1) := by
            simp [convert, run_underlying hu1, run_underlying hu3, markStringish, hsh]
          have hb2 : (w.freeze ⟨b, arr.size, none⟩ 1).heap[b]? = some (.cells arr eT fz') := by
            simp only [World.freeze, Nat.one_ne_zero, if_false, Array.getElem?_modify, if_true, g3, Option.map_some]
            rfl
          have hoth : ∀ k, k ≠ b → (w.freeze ⟨b, arr.size, none⟩ 1).heap[k]? = w.heap[k]? := fun k hk => by
            simp only [World.freeze, Nat.one_ne_zero, if_false, Array.getElem?_modify, if_neg (Ne.symm hk)]
          have hsize : (w.freeze ⟨b, arr.size, none⟩ 1).heap.size = w.heap.size := by
            simp only [World.freeze, Nat.one_ne_zero, if_false, Array.size_modify]
          have hb_in : b ∈ fo ++ (fr ++ []) := by rw [g2]; simp
          have hw := hsw.world (hsw.keep.hand0 (w' := w.freeze ⟨b, arr.size, none⟩ 1) (hsw.afr b hb_in).2.2 (fun j b' o' n hp e => (hsw.pbx j b' o' n hp).2.1 (e ▸ hb_in)) rfl rfl rfl hsize hoth) (by omega) (fun k _ hk => hoth k (fun e => hk (e ▸ hb_in)))
          have hnS : ∀ k, St k → (w.freeze ⟨b, arr.size, none⟩ 1).heap[k]? = w.heap[k]? := fun k hk => hoth k (fun e => (hsw.afr b hb_in).1 (e ▸ hk))
          have hnd := hsw.and
          rw [g2] at hnd
          have hnr : ∀ k, k ∈ fr → (w.freeze ⟨b, arr.size, none⟩ 1).heap[k]? = w.heap[k]? := fun k hk => hoth k (fun e => (List.nodup_cons.1 hnd).1 (by rw [← e]; simp [hk]))
          have hown' : Own C.T (w.freeze ⟨b, arr.size, none⟩ 1) St r.1 r.2 (H.hd t i) fo :=
            ⟨te, _, cap, q1, q2, q3, .inr ⟨b, o2, arr, eT, fz', rfl, g2, hb2, hnf, g5, (rowD_drop0 hb2).2 (((rowD_drop0 g3).1 g6).mono (fun _ h => h) hnS)⟩⟩
          obtain ⟨F2, hres⟩ := hfin St (fun _ hb => hb) (.own t i r.1 r.2) fo [] _ hnS hnr
            (fun j b3 o3 n3 hq => hoth b3 (fun e => (hsw.pbx j b3 o3 n3 hq).2.1 (e ▸ hb_in))) ⟨rfl, hown'⟩
            (fun y hy => h.ment s y (by
              have : y = t := (show t = y by simpa [mentC] using hy).symm
              rw [this]
              exact at_ment hat))
            (fun y hy => h.ment s y (by
              have : y = t := (show t = y by simpa [ment, mentC] using hy).symm
              rw [this]
              exact at_ment hat)) rfl (by simp) hw
          rw [putAt_same hat, set_geti (at_lt hat)] at hres
          refine OpOk.set (f := []) (u := H.hd t i) hd (run (by rw [eu, q2]; exact hrun)) hres ⟨rfl, rfl⟩ (fun y hy => hv.ment y hy) (by simp) rfl
      · exact (fail_exec he).elim
    · exact (fail_exec he).elim
  · exact (fail_exec he).elim
theorem op_convert (hP : POk P C) (hS : FOk C S) (h : Inv C.T S a.tmps w St H F E []) {src dst : TypeId} {x : Operand} (ho : o.op = .convert src dst x) {u : Unit} (he : (evConvert C o src dst x).exec cf E = some (u, E')) : OpOk P C S o a w E' := by
  unfold evConvert at he
  cases hd : o.dst with
  | none => simp [hd, Prg.exec] at he
  | some d =>
    simp only [hd] at he
    obtain ⟨v, E1, h1, he1⟩ := bind_exec he
    clear he
    obtain ⟨rfl, hv⟩ := opd_ok hS h h1
    have run : ∀ {uv : Value} {w' : World}, (convert src dst (a.eval x)).run P w = .ok uv w' → (execOp a.eval o).run P w = .ok (.value uv) w' := by
      intro uv w' hu
      simp only [execOp, ho, Sem.run_bind, hu, Result.andThen_ok, Sem.run_pure]
    cases v
    case int k n =>
      simp only at he1
      have e1 := rel_int hv.rel
      split at he1
      · rename_i k1 k2 hk1 hk2
        rw [set_exec he1]
        obtain ⟨_, _, _, _, hu1⟩ := kind_of hP hk1
        obtain ⟨_, _, _, _, hu2⟩ := kind_of hP hk2
        exact OpOk.setV (u := .int k2 (k2.wrap n)) hd (run (by simp [convert, run_underlying hu1, run_underlying hu2, e1, Conv.intToInt])) h vok_int
      · rename_i k1 hk1 hk2
        rw [set_exec he1]
        obtain ⟨_, _, _, _, hu1⟩ := kind_of hP hk1
        obtain ⟨_, _, _, _, hu2⟩ := kind_of hP hk2
        exact OpOk.setV (u := .string (Utf8.encode n)) hd (run (by simp [convert, run_underlying hu1, run_underlying hu2, e1, Conv.intToString])) h vok_str
      · exact (fail_exec he1).elim
    case str s =>
      simp only at he1
      have e1 := rel_str hv.rel
      split at he1
      · rename_i hk1 hk2
        rw [set_exec he1]
        obtain ⟨_, _, _, _, hu1⟩ := kind_of hP hk1
        obtain ⟨_, _, _, _, hu2⟩ := kind_of hP hk2
        exact OpOk.setV (u := .string s) hd (run (by simp [convert, run_underlying hu1, run_underlying hu2, e1])) h vok_str
      · rename_i e hk1 hk2
        obtain ⟨_, E2, h2, he2⟩ := bind_exec he1
        clear he1
        obtain ⟨hund, rfl⟩ := newTok_exec h2
        split at he2
        · rename_i hk3
          obtain ⟨hc, he3⟩ := chk_exec he2
          rw [set_exec he3]
          obtain ⟨_, _, _, _, hu1⟩ := kind_of hP hk1
          obtain ⟨_, _, _, _, hu2⟩ := kind_of hP hk2
          obtain ⟨te, hte, hcts, hok, hu3⟩ := kind_of hP hk3
          have hsz : te.size = 1 := by rw [← hok.len, hcts]; rfl
          have hag : te.agg = false := by
            cases hb : te.agg with
            | false => rfl
            | true => rcases hok.agg.1 hb with ⟨fs, h⟩ | ⟨n, e', h⟩ <;> rw [hu3] at h <;> cases h
          have hnew := Lib.run_convert_string_bytes (P := P) w src dst e s hu1 hu2 hu3
          have hkeep : Keep S (Lib.bytesWorld w e s) := h.keep.ext rfl rfl rfl (by rw [Lib.bytesWorld_size]; omega) (fun b hb => Lib.bytesWorld_at_old w e s b hb)
          have hi := h.news hkeep (Lib.bytesWorld_size w e s) (fun b hb => Lib.bytesWorld_at_old w e s b hb)
          have hlen : (strD s).length = s.size := by simp [strD]
          have hge := grown_ge w s.size 0 e
          have hrow : RowD C.T (Lib.bytesWorld w e s) St w.heap.size 0 te (strD s) := by
            intro i j hi hj
            have hj0 : j = 0 := by omega
            subst hj0
            rw [hlen] at hi
            refine ⟨_, by rw [hsz, Nat.mul_one, Nat.zero_add, Nat.add_zero]; exact Lib.bytesWorld_cell w e s i hi, fun ct hct => ?_⟩
            rw [hcts] at hct
            simp only [List.getElem?_cons_zero, Option.some.injEq] at hct
            subst hct
            refine .int ?_
            have hi' : i < s.data.size := hi
            simp only [cellOf, hag, rd, strD, List.getD_eq_getElem?_getD, List.getElem?_map, Array.getElem?_toList, Bool.false_eq_true, if_false]
            rw [Array.getElem?_eq_getElem hi']
            rfl
          obtain ⟨f, hf, hown⟩ := Own.new (e := e) (l := strD s) (n := w.heap.size) (cap := grownCap w s.size 0 e) (et := e) hte (by omega) (by rw [hlen]; exact hge) (Lib.bytesWorld_at_new w e s) ⟨Nat.le_succ _, fun x hx hn => by omega⟩ (by
            simp only [Lib.bytesCells, Array.size_append, Array.size_map, Array.size_replicate, hsz, Nat.mul_one]
            have : s.data.size = s.size := rfl
            omega) hrow
          refine OpOk.newOwn (f := f) hd hund (run ?_) (hi.some hf) hown
          rw [e1, hnew, hlen]
        · exact (fail_exec he2).elim
      · exact (fail_exec he1).elim
    case agg cs => exact (fail_exec he1).elim
    all_goals exact op_convert_row hP hS h hv hd run he1
end Go.Ev

/- The reader's operations are the model's: new variables, aggregates. -/
namespace Go.Ev
open Go
set_option linter.unusedVariables false
set_option linter.unusedSimpArgs false
variable {cf : CF} {P : Program} {C : Ctx} {S : Frm} {w w' : World} {St St' : Nat → Prop} {H H' : Gh} {F : Nat → List Nat} {E E' E1 : Env} {A f fd : List Nat} {o : Oper} {a : Act}

theorem zeroCs_ok {T : TypeId → Option TI} : ∀ {cts : List CT} {cs : List AV}, zeroCs cts = some cs → Cells T w St H (cts.map zeroV) [] cs ∧ cs.length = cts.length ∧ (∀ c, c ∈ cts → c ≠ .oth) ∧ ∀ x, cs.any (mentC x) = false
  | [], cs, h => by
    simp only [zeroCs, Option.some.injEq] at h
    subst h
    exact ⟨rfl, rfl, by simp, by simp⟩
  | c :: cts, cs, h => by
    simp only [zeroCs] at h
    obtain ⟨v, hv, h⟩ := Option.bind_eq_some_iff.1 h
    obtain ⟨cs', hcs, rfl⟩ := Option.map_eq_some_iff.1 h
    obtain ⟨h1, h2, h3, h4⟩ := zeroCs_ok hcs
    have hz : RelC T w St H (zeroV c) [] v ∧ c ≠ .oth ∧ ∀ x, mentC x v = false := by
      cases c <;> simp only [zeroC, Option.some.injEq, reduceCtorEq] at hv <;> subst hv <;> exact ⟨⟨rfl, rfl⟩, by simp, fun _ => rfl⟩
    exact ⟨⟨[], [], rfl, hz.1, h1⟩, by simp [h2], fun c' hc' => (List.mem_cons.1 hc').elim (fun e => e ▸ hz.2.1) (h3 c'), fun x => by rw [List.any_cons, hz.2.2 x, h4 x]; rfl⟩
theorem zeroV_cells (c : CT) (h : c ≠ .oth) : (zeroV c).cells = #[zeroV c] := by cases c <;> first | rfl | exact absurd rfl h
theorem run_zero (hP : POk P C) {t : TypeId} {ti : TI} {cs : List AV} (ht : C.T t = some ti) (hz : zeroCs ti.cts = some cs) : ∃ z, (zeroValue t).run P w = .ok z w ∧ z.cells = (ti.cts.map zeroV).toArray ∧ (∃ i, P.info? t = some i ∧ i.size = ti.size ∧ i.bytes = ti.bytes ∧ i.zero = some z) := by
  obtain ⟨i, h1, h2, h3, h4⟩ := (hP.ti t ti ht).info
  obtain ⟨_, h5, h6, _⟩ := zeroCs_ok (T := C.T) (w := w) (St := fun _ => True) (H := ⟨fun _ _ => (none, 0, 0), fun _ => (0, 0)⟩) hz
  have h7 := h4 h6
  refine ⟨_, by simp [zeroValue, typeInfo, h1, h7], ?_, i, h1, h2, h3, h7⟩
  cases hb : ti.agg with
  | true => simp [hb, Value.cells]
  | false =>
    have hone := (hP.ti t ti ht).one hb
    have hlen := (hP.ti t ti ht).len
    rw [hone] at hlen
    obtain ⟨c, hc⟩ := List.length_eq_one_iff.1 hlen
    simp [hb, hc, zeroV_cells c (h6 c (by rw [hc]; exact List.mem_singleton_self c))]
theorem heap_alloc_size (w : World) (ob : Obj) : (w.alloc ob).heap.size = w.heap.size + 1 := by simp
theorem Keep.alloc (h : Keep S w) (ob : Obj) : Keep S (w.alloc ob) := h.ext rfl rfl rfl (by simp) (fun b hb => heap_alloc_old w ob b hb)
/-- A new variable in a slot of which nothing was told. -/
theorem OpOk.newBox {d : Nat} {t et : TypeId} {arr : Array Value} {cs : List AV} (hd : o.dst = some d) (hu : geti E1 d = .und) (hrun : (execOp a.eval o).run P w = .ok (.value (.pointer (some ⟨w.heap.size, 0, none⟩))) (w.alloc (.cells arr et)))
    (h : Inv C.T S a.tmps w St H F E1 (f ++ [])) (hc : Cells C.T w St H arr.toList f cs) (hm : ∀ x, cs.any (mentC x) = true → geti E1 x ≠ .und) : OpOk P C S o a w (E1.set d (.box t cs)) := by
  have hn := h.news (h.keep.alloc _) (heap_alloc_size w _) (fun b hb => heap_alloc_old w (.cells arr et) b hb)
  let H' : Gh := { H with bx := fun x => if x = d then (w.heap.size, 0) else H.bx x }
  have hg := hn.ghost (H' := H') hu (fun x hx => ⟨by simp [H', hx], fun _ => rfl⟩)
  have hment : ∀ x, cs.any (mentC x) = true → HAg H H' x := fun x hx => ⟨by
    have : x ≠ d := fun e => hm x hx (e ▸ hu)
    simp [H', this], fun _ => rfl⟩
  have hstl : ∀ b, St b → (w.alloc (.cells arr et)).heap[b]? = w.heap[b]? := fun b hb => heap_alloc_old w _ b (h.stl b hb).1
  have hafr : ∀ b, b ∈ f → (w.alloc (.cells arr et)).heap[b]? = w.heap[b]? := fun b hb => heap_alloc_old w _ b (h.afr b (List.mem_append_left _ hb)).2.1
  have hc' : Cells C.T (w.alloc (.cells arr et)) St H' arr.toList f cs := hc.mono (fun _ h => h) hstl hafr hment
  have hput := Inv.put (fd := w.heap.size :: f) (A := []) hg d (.pointer (some ⟨w.heap.size, 0, none⟩)) (.box t cs)
    ⟨w.heap.size, arr, et, (0, 0), f, rfl, rfl, heap_alloc_new w _, ⟨Nat.le_refl _, fun x _ hx => by omega⟩, by simpa using hc.length, hc'⟩ (by simp)
    (fun x hx _ => hm x hx) (fun _ => by simp [H']) (fun cs hcs => by simp at hcs)
  exact OpOk.value hrun ⟨_, _, _, by rw [hd]; exact hput⟩
theorem op_alloc (hP : POk P C) (h : Inv C.T S a.tmps w St H F E []) {t : TypeId} (ho : o.op = .alloc t) {u : Unit} (he : (evAlloc C o t).exec cf E = some (u, E')) : OpOk P C S o a w E' := by
  unfold evAlloc at he
  cases hd : o.dst with
  | none => simp [hd, Prg.exec] at he
  | some d =>
    simp only [hd] at he
    obtain ⟨_, E1, h1, he1⟩ := bind_exec he
    clear he
    obtain ⟨hund, rfl⟩ := newTok_exec h1
    obtain ⟨ti, E2, h2, he2⟩ := bind_exec he1
    clear he1
    obtain ⟨ht, rfl⟩ := tiOf_exec h2
    obtain ⟨cs, E3, h3, he3⟩ := bind_exec he2
    clear he2
    obtain ⟨hz, rfl⟩ := lift_exec h3
    rw [set_exec he3]
    obtain ⟨z, k1, k2, _⟩ := run_zero (w := w) hP ht hz
    obtain ⟨q1, _, _, q4⟩ := zeroCs_ok (T := C.T) (w := w) (St := St) (H := H) hz
    refine OpOk.newBox (arr := (ti.cts.map zeroV).toArray) (et := t) (f := []) hd hund ?_ h q1 (fun x hx => by rw [q4 x] at hx; cases hx)
    simp only [execOp, ho, Sem.run_bind, Instr.alloc, k1, Result.andThen_ok, newVar, newRow, run_newObj, Sem.run_pure, k2, World.alloc_eq]
theorem cellsV_ok {T : TypeId → Option TI} {ti : TI} {u : Value} {v : AV} {cs : List AV} (hr : RelS T w St H u f v) (h : cellsV ti v = some cs) : Cells T w St H u.cells.toList f cs ∧ cs.length = ti.size ∧ ∀ x, cs.any (mentC x) = true → ment x v = true := by
  unfold cellsV at h
  split at h
  · split at h
    · rename_i cs'
      split at h
      · rename_i hc
        simp only [Option.some.injEq] at h
        subst h
        obtain ⟨vs, rfl, h2⟩ := hr
        exact ⟨h2, hc.1, fun x hx => hx⟩
      · cases h
    · cases h
  · split at h
    · rename_i hc
      simp only [Option.some.injEq] at h
      subst h
      have hrc := hr.toC hc.1
      rw [cells_of_RelC hrc hc.1]
      exact ⟨⟨f, [], by simp, hrc, rfl⟩, hc.2.symm, fun x hx => by
        rw [ment_of_RelC hrc]
        simpa using hx⟩
    · cases h
theorem op_box (hP : POk P C) (hS : FOk C S) (h : Inv C.T S a.tmps w St H F E []) {t : TypeId} {x : Operand} (ho : o.op = .box t x) {u : Unit} (he : (evBox C o t x).exec cf E = some (u, E')) : OpOk P C S o a w E' := by
  unfold evBox at he
  cases hd : o.dst with
  | none => simp [hd, Prg.exec] at he
  | some d =>
    simp only [hd] at he
    obtain ⟨ti, E2, h2, he2⟩ := bind_exec he
    clear he
    obtain ⟨ht, rfl⟩ := tiOf_exec h2
    obtain ⟨v, E3, h3, he3⟩ := bind_exec he2
    clear he2
    obtain ⟨rfl, hv⟩ := opd_ok hS h h3
    obtain ⟨v', E4, h4, he4⟩ := bind_exec he3
    clear he3
    obtain ⟨St', F', f, hp⟩ := give_ok hP h hv h4
    obtain ⟨cs, E5, h5, he5⟩ := bind_exec he4
    clear he4
    obtain ⟨hcs, rfl⟩ := lift_exec h5
    obtain ⟨_, E6, h6, he6⟩ := bind_exec he5
    clear he5
    obtain ⟨hund, rfl⟩ := newTok_exec h6
    rw [set_exec he6]
    obtain ⟨q1, q2, q3⟩ := cellsV_ok hp.rel hcs
    refine OpOk.newBox (et := t) hd hund ?_ hp.inv q1 (fun x hx => hp.ment x (q3 x hx))
    simp only [execOp, ho, Sem.run_bind, Instr.box, newVar, newRow, run_newObj, Result.andThen_ok, Sem.run_pure, World.alloc_eq]
end Go.Ev
