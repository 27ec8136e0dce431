/- Programs' balance: the walk. -/
import Derived.Test.YtbhffcogeeeidaaDoorVBa
import Derived.StillTailTactics
import Derived.Deep.QuietTactic
import Derived.BigQuiet
import Derived.Deep.RegionHeld3
namespace Go.Proofs.YtbhffcogeeeidaaDoor.V0
open Go Go.Ev Go.RowKit
set_option linter.unusedVariables false
set_option linter.unusedSimpArgs false
def InsAt (w : World) (b o a : Nat) (i : Ins) : Prop :=
  w.cell? ⟨b, o + a * 6, none⟩ = some (.int .i64 i.op) ∧ w.cell? ⟨b, o + a * 6 + 1, none⟩ = some (.int .i64 i.x) ∧ w.cell? ⟨b, o + a * 6 + 2, none⟩ = some (.int .i64 i.y) ∧
  w.cell? ⟨b, o + a * 6 + 3, none⟩ = some (.int .i64 i.z) ∧ w.cell? ⟨b, o + a * 6 + 4, none⟩ = some (.int .i64 i.node) ∧ w.cell? ⟨b, o + a * 6 + 5, none⟩ = some (.int .i64 i.phase)
theorem intInfo : (Tryd.prog.info? 3).map (fun i => (i.zero, i.size, i.bytes)) = some (some (.int .i64 0), 1, 8) := by kernel_rfl
theorem intZero (w : World) : (zeroValue 3).run Tryd.prog w = .ok (.int .i64 0) w := by kernel_rfl
/-- What is known at a round's start. -/
structure BI (is : List Ins) (r : Bool) (A : Option Addr) (cap : Nat) (v1 v2 : Value) (g : Int) (w : World) (f : Nat) (m : List (Int × Int)) (st : List Int) (D : DataW Unit) (v : Value) (wr : World) : Prop where
  bal : balG is f m st = some r
  map : MapR D m
  own : wr.ownsMap Tryd.prog 3 (plainElem (H := Unit) Tryd.prog 3) (w.heap.size + 1) m.length D
  row : wr.ownsRow (w.heap.size + 2) 3 1 v st.length (st.reverse.map (.int .i64))
  box : wr.cell? ⟨w.heap.size, 0, none⟩ = some (.slice A is.length cap)
  bel : Below w.heap.size w wr
  few : m.length + 3 * f ≤ 3 * is.length + 4
  stl : st.length ≤ m.length
  key : ∀ k v, lookB m k = some v → 0 ≤ k ∧ k < (is.length : Int) ∧ (f : Int) - (is.length + 1) ≤ v ∧ v ≤ is.length + 1 - f
  mem : ∀ a, a ∈ st → ∃ v, lookB m a = some v
/-- .. and at a round of the loop over leads. -/
structure BJ (is : List Ins) (A : Option Addr) (cap : Nat) (w : World) (f : Nat) (ls : List (Int × Int)) (LA : Option Addr) (lb lo : Nat) (p : Option (List (Int × Int) × List Int)) (j : Nat) (m : List (Int × Int)) (st : List Int) (D : DataW Unit) (v : Value) (wr : World) : Prop where
  step : stepB (ls.drop j) m st = p
  map : MapR D m
  own : wr.ownsMap Tryd.prog 3 (plainElem (H := Unit) Tryd.prog 3) (w.heap.size + 1) m.length D
  row : wr.ownsRow (w.heap.size + 2) 3 1 v st.length (st.reverse.map (.int .i64))
  box : wr.cell? ⟨w.heap.size, 0, none⟩ = some (.slice A is.length cap)
  bel : Below w.heap.size w wr
  few : m.length + (ls.length - j) + 3 * f ≤ 3 * is.length + 4
  stl : st.length ≤ m.length
  key : ∀ k v, lookB m k = some v → 0 ≤ k ∧ k < (is.length : Int) ∧ (f : Int) - (is.length + 1) ≤ v ∧ v ≤ is.length + 1 - f
  mem : ∀ a, a ∈ st → ∃ v, lookB m a = some v
  cel : ∀ (j : Nat) l, ls[j]? = some l → wr.cell? ⟨lb, lo + j * 2, none⟩ = some (.int .i64 l.1) ∧ wr.cell? ⟨lb, lo + j * 2 + 1, none⟩ = some (.int .i64 l.2)
  blk : ls ≠ [] → LA = some ⟨lb, lo, none⟩ ∧ lb < wr.heap.size ∧ lb ≠ w.heap.size + 1 ∧ v.ownBlock ≠ some lb
theorem grown_cell {w w' : World} {row : Option Nat} (h : w.grownBy w' row) {p : Addr} {u : Value} (hc : w.cell? p = some u) (hr : some p.block ≠ row) : w'.cell? p = some u := by
  rw [World.cell?_of_block (w := w) (h.block p.block (World.block_lt_of_cell? w p hc) hr)]
  exact hc
theorem alloc_cell {w : World} {o : Obj} {p : Addr} {u : Value} (hc : w.cell? p = some u) : (w.alloc o).cell? p = some u := by
  rw [World.cell?_of_block (w := w) (Below.heap_alloc w o p.block (World.block_lt_of_cell? w p hc))]
  exact hc
theorem new_cell2 (w : World) (x y : Value) (t : TypeId) : (w.alloc (.cells #[x, y] t)).cell? ⟨w.heap.size, 0, none⟩ = some x ∧ (w.alloc (.cells #[x, y] t)).cell? ⟨w.heap.size, 1, none⟩ = some y := by
  constructor <;> simp
theorem drop_cons {ls : List (Int × Int)} {j : Nat} {l : Int × Int} (h : ls[j]? = some l) : ls.drop j = l :: ls.drop (j + 1) := by
  obtain ⟨hj, h⟩ := List.getElem?_eq_some_iff.1 h
  rw [List.drop_eq_getElem_cons hj, h]
theorem stepB_some {l : Int × Int} {ls m : List (Int × Int)} {st : List Int} (h : lookB m l.1 = some l.2) : stepB (l :: ls) m st = stepB ls m st := by
  rw [stepB, h]
  exact if_pos rfl
theorem stepB_bad {l : Int × Int} {ls m : List (Int × Int)} {st : List Int} {c : Int} (h : lookB m l.1 = some c) (hc : c ≠ l.2) : stepB (l :: ls) m st = none := by
  rw [stepB, h]
  exact if_neg hc
theorem stepB_new {l : Int × Int} {ls m : List (Int × Int)} {st : List Int} (h : lookB m l.1 = none) : stepB (l :: ls) m st = stepB ls (l :: m) (l.1 :: st) := by
  rw [stepB, h]
theorem BJ.old {is : List Ins} {A : Option Addr} {cap : Nat} {w : World} {f : Nat} {ls : List (Int × Int)} {LA : Option Addr} {lb lo : Nat} {p : Option (List (Int × Int) × List Int)} {j : Nat} {m : List (Int × Int)} {st : List Int} {D : DataW Unit} {v : Value} {wr : World} {l : Int × Int}
    (H : BJ is A cap w f ls LA lb lo p j m st D v wr) (hl : ls[j]? = some l) (hk : lookB m l.1 = some l.2) (ob : Obj) : BJ is A cap w f ls LA lb lo p (j + 1) m st D v (wr.alloc ob) where
  step := by
    have := H.step
    rw [drop_cons hl, stepB_some hk] at this
    exact this
  map := H.map
  own := H.own.alloc _
  row := H.row.alloc _
  box := alloc_cell H.box
  bel := H.bel.alloc H.bel.size _
  few := by have := H.few; omega
  stl := H.stl
  key := H.key
  mem := H.mem
  cel := fun j l hl => ⟨alloc_cell (H.cel j l hl).1, alloc_cell (H.cel j l hl).2⟩
  blk := fun q => by
    obtain ⟨z1, z2, z3, z4⟩ := H.blk q
    exact ⟨z1, by rw [World.size_alloc]; omega, z3, z4⟩
theorem BJ.new {is : List Ins} {A : Option Addr} {cap : Nat} {w : World} {f : Nat} {ls : List (Int × Int)} {LA : Option Addr} {lb lo : Nat} {p : Option (List (Int × Int) × List Int)} {j : Nat} {m : List (Int × Int)} {st : List Int} {D : DataW Unit} {v : Value} {wr : World} {l : Int × Int}
    (H : BJ is A cap w f ls LA lb lo p j m st D v wr) (hl : ls[j]? = some l) (hk : lookB m l.1 = none) (hr : 0 ≤ l.1 ∧ l.1 < (is.length : Int) ∧ (f : Int) - (is.length + 1) ≤ l.2 ∧ l.2 ≤ is.length + 1 - f) {o1 o2 : Obj} {w6 w7 : World} {v7 : Value}
    (h6 : w6.ownsMap Tryd.prog 3 (plainElem (H := Unit) Tryd.prog 3) (w.heap.size + 1) (m.length + 1) (D.put (.int .i64 l.1) (.lit (.int .i64 l.2)))) (g6 : (wr.alloc o1).grownBy w6 (some (w.heap.size + 1)))
    (h7 : w7.ownsRow (w.heap.size + 2) 3 1 v7 (st.length + 1) (st.reverse.map (.int .i64) ++ [.int .i64 l.1])) (g7 : (w6.alloc o2).grownBy w7 v.ownBlock) (a7 : v7.ownBlock = v.ownBlock ∨ v7.ownBlock = some (w6.alloc o2).heap.size) :
    BJ is A cap w f ls LA lb lo p (j + 1) (l :: m) (l.1 :: st) (D.put (.int .i64 l.1) (.lit (.int .i64 l.2))) v7 w7 := by
  have hjl := (List.getElem?_eq_some_iff.1 hl).1
  have hv : ∀ k, v.ownBlock = some k → w.heap.size + 2 ≤ k := fun k q => (H.row.lt k q).1
  have hs0 : w.heap.size ≤ wr.heap.size := H.bel.size
  have hs6 : wr.heap.size + 1 ≤ w6.heap.size := by have := g6.size; rw [World.size_alloc] at this; exact this
  have hs7 : w6.heap.size + 1 ≤ w7.heap.size := by have := g7.size; rw [World.size_alloc] at this; exact this
  have cell : ∀ {q : Addr} {u : Value}, wr.cell? q = some u → q.block ≠ w.heap.size + 1 → v.ownBlock ≠ some q.block → w7.cell? q = some u := fun {q u} hc n1 n2 =>
    grown_cell g7 (alloc_cell (grown_cell g6 (alloc_cell hc) (fun e => n1 (by injection e)))) (fun e => n2 e.symm)
  refine ⟨?_, H.map.put _ _, (h6.alloc _).kept g7 (fun e => by have := hv _ e.symm; omega), ?_, cell H.box (by show w.heap.size ≠ _; omega) (fun e => by have : w.heap.size + 2 ≤ w.heap.size := hv _ e; omega), ?_, ?_, ?_, fun k u hk' => ?_, fun a ha => ?_, fun j l' hl' => ?_, fun q => ?_⟩
  · have := H.step
    rw [drop_cons hl, stepB_new hk] at this
    exact this
  · rw [List.reverse_cons, List.map_append]
    exact h7
  · exact ((((H.bel.alloc hs0 _).grown g6 (by rw [World.size_alloc]; omega) (fun k e => by injection e with e; omega)).alloc (by omega) _).grown g7 (by rw [World.size_alloc]; omega) (fun k e => by have := hv _ e; omega))
  · have := H.few
    rw [List.length_cons]
    omega
  · have := H.stl
    rw [List.length_cons, List.length_cons]
    omega
  · rw [lookB_cons] at hk'
    split at hk'
    · rename_i e
      injection hk' with e2
      rw [← e, ← e2]
      exact hr
    · exact H.key k u hk'
  · rw [lookB_cons]
    split
    · exact ⟨_, rfl⟩
    · rename_i e
      rw [List.mem_cons] at ha
      rcases ha with rfl | ha
      · exact absurd rfl e
      · exact H.mem a ha
  · have hn : ls ≠ [] := fun q => by rw [q] at hjl; simp at hjl
    obtain ⟨z1, z2, z3, z4⟩ := H.blk hn
    exact ⟨cell (H.cel j l' hl').1 z3 z4, cell (H.cel j l' hl').2 z3 z4⟩
  · obtain ⟨z1, z2, z3, z4⟩ := H.blk q
    refine ⟨z1, by omega, z3, ?_⟩
    rcases a7 with e | e
    · rw [e]; exact z4
    · rw [e, World.size_alloc]
      intro q
      injection q with q
      omega
/-- What is known behind the store of a pair. -/
theorem behind6 {wr w6 : World} {B : Nat} {x y : Value} {t e : TypeId} {v : Value} {n : Nat} {xs : List Value} {R : Value → Option (DataW Unit × List MemPlace)} {kt : TypeId} {nn : Nat} {D : DataW Unit} {P : Program} (hown : wr.ownsMap P kt R (B + 1) nn D) (hrow : wr.ownsRow (B + 2) e 1 v n xs) (hg : (wr.alloc (.cells #[x, y] t)).grownBy w6 (some (B + 1))) :
    w6.cell? ⟨wr.heap.size, 0, none⟩ = some x ∧ w6.cell? ⟨wr.heap.size, 1, none⟩ = some y ∧ w6.ownsRow (B + 2) e 1 v n xs ∧ B + 2 ≤ w6.heap.size := by
  have hm := hown.lt
  have hne : some wr.heap.size ≠ some (B + 1) := fun q => by
    have q' : wr.heap.size = B + 1 := by injection q
    omega
  refine ⟨grown_cell hg (new_cell2 _ _ _ _).1 hne, grown_cell hg (new_cell2 _ _ _ _).2 hne, (hrow.alloc _).kept hg (.inr fun q => ?_), ?_⟩
  · have := (hrow.lt _ q).1
    omega
  · have := hg.size
    rw [World.size_alloc] at this
    omega
theorem below_undrew {wr W : World} (h : Below wr.drew.heap.size wr.drew W) : Below wr.heap.size wr W := ⟨h.os, h.tape, h.output, h.size, h.block⟩
theorem leads_few (a : Int) (i : Ins) (n : Int) : (leadsL a i n).length ≤ 3 := by
  unfold leadsL
  repeat' split
  all_goals simp
theorem leads_val (a : Int) (i : Ins) (n : Int) : ∀ l, l ∈ leadsL a i n → n - 1 ≤ l.2 ∧ l.2 ≤ n + 1 := by
  unfold leadsL
  intro l hl
  repeat' split at hl
  all_goals simp only [List.mem_cons, List.not_mem_nil, or_false, or_self] at hl
  all_goals first
    | (rcases hl with rfl | rfl | rfl <;> constructor <;> (try simp only []) <;> omega)
    | (rcases hl with rfl | rfl <;> constructor <;> (try simp only []) <;> omega)
    | (rw [hl]; constructor <;> (try simp only []) <;> omega)
    | exact hl.elim
theorem balG_cons {is : List Ins} {f : Nat} {m : List (Int × Int)} {k : Nat} {st : List Int} {i : Ins} {n : Int} (hi : is[k]? = some i) (hn : lookB m (k : Int) = some n) :
    balG is (f + 1) m ((k : Int) :: st) = if Ev.barredB i n = true then (match stepB (leadsL (k : Int) i n) m st with
      | none => some false
      | some p => balG is f p.1 p.2) else some false := by
  rw [balG, if_neg (by omega), Int.toNat_natCast, hi, hn]
  rfl
theorem wf64 {n : Int} (h0 : -9223372036854775808 ≤ n) (h1 : n ≤ 9223372036854775807) : (Lit.int .i64 n).wf = true := by
  have e1 : IntKind.i64.min = -9223372036854775808 := by decide
  have e2 : IntKind.i64.max = 9223372036854775807 := by decide
  simp [Lit.wf, e1, e2]
  omega
set_option maxRecDepth 100000 in
set_option maxHeartbeats 4000000 in
theorem bal_calls (is : List Ins) (r : Bool) (A : Option Addr) (cap b o : Nat) (v1 v2 : Value) (g : Int) (w : World) (hA : is ≠ [] → A = some ⟨b, o, none⟩) (hcells : ∀ (a : Nat) i, is[a]? = some i → InsAt w b o a i) (hin : ldsIn is = true) (hlen : is.length ≤ 4294967296) (h : balB is = some r) :
    Calls Tryd.prog 17 #[.agg #[.slice A is.length cap, v1, v2, .int .i64 g]] w fun e w' => e = .returned (.bool r) ∧ Below w.heap.size w w' := by
  obtain ⟨i0, hi, hz0, hz1, hz2⟩ := info_parts intInfo
  have hmm := @run_makeMap Tryd.prog
  have hm0 : ((w.alloc (.cells #[.slice A is.length cap, v1, v2, .int .i64 g] 26)).alloc (.map #[] 0)).ownsMap Tryd.prog 3 (plainElem (H := Unit) Tryd.prog 3) (w.heap.size + 1) 0 (.map []) := by
    have := World.ownsMap_made (H := Unit) (w.alloc (.cells #[.slice A is.length cap, v1, v2, .int .i64 g] 26)) Tryd.prog 3 (plainElem (H := Unit) Tryd.prog 3)
    simpa using this
  go_enter Tryd.func17, Tryd.ntmps17
  go_wp2_with (first
    | (refine wpList_insert_own _ rfl _ _ _ 61 rfl 3 3 (Go.Maps.int_keyed Tryd.underlying3) Tryd.underlying61 _ (w.heap.size + 1) 0 _ rfl hm0 (by decide) _ _ (.int .i64 0) rfl rfl (Go.Maps.keyOf_int_mk Tryd.underlying3 (by decide)) (.lit (.int .i64 0)) [] (plainElem_int Tryd.underlying3 (by decide)) ?_; intro w1 hown1 hgrow1)
    | go_in)
  have hrow0 : (w1.alloc (.cells #[.int .i64 0] 3)).ownsRow (w.heap.size + 2) 3 1 (.slice (some ⟨w1.heap.size, 0, none⟩) 1 1) 1 [.int .i64 0] := by
    have := World.ownsRow_lit (base := w.heap.size + 2) (e := 3) (size := 1) w1 #[.int .i64 0] 1 (by have := hgrow1.size; simpa using this) (by decide) rfl
    simpa using this
  go_loopg [4] (is.length + 1) (fun f v wr => ∃ m st D, BI is r A cap v1 v2 g w f m st D v wr)
  case atStart =>
    have hbel1 : Below w.heap.size w w1 := (((Below.refl _ w).alloc (Nat.le_refl _) _).alloc (by rw [World.size_alloc]; omega) _).grown hgrow1 (by rw [World.size_alloc, World.size_alloc]; omega) (fun k e => by injection e with e; omega)
    refine ⟨[(0, 0)], [0], _, h, MapR.nil.put 0 0, hown1.alloc _, hrow0, ?_, hbel1.alloc hbel1.size _, by simp; omega, by simp, fun k v hk => ?_, fun a ha => ⟨0, ?_⟩⟩
    · refine alloc_cell (grown_cell hgrow1 (alloc_cell (by simp)) (fun e => ?_))
      have e' : w.heap.size = w.heap.size + 1 := by injection e
      omega
    · rw [lookB_cons] at hk
      split at hk
      · rename_i e
        injection hk with e2
        have e' : (0 : Int) = k := e
        have e2' : (0 : Int) = v := e2
        rw [← e', ← e2']
        have : is ≠ [] := fun q => by rw [q] at h; simp [balB, balG] at h
        have := List.length_pos_iff.2 this
        omega
      · cases hk
    · rw [List.mem_singleton] at ha
      rw [ha]
      rfl
  case round =>
    obtain ⟨m, st, D, HB⟩ := hrel
    cases gk with
    | zero => exact absurd HB.bal (by intro q; cases q)
    | succ f =>
    cases st with
    | nil =>
      have hr : r = true := by have := HB.bal; injection this with this; exact this.symm
      subst hr
      have hbel := HB.bel
      have hrow := HB.row
      clear HB
      rcases hrow.2 with ⟨rfl, _⟩ | ⟨g', cap', cur, rfl, _⟩
      · go_wp2
        go_ret
        exact ⟨rfl, hbel⟩
      · go_wp2
        go_ret
        exact ⟨rfl, hbel⟩
    | cons a st =>
      obtain ⟨n, hn⟩ := HB.mem a List.mem_cons_self
      obtain ⟨ha0, ha1, hn0, hn1⟩ := HB.key a n hn
      obtain ⟨k, rfl⟩ : ∃ k : Nat, a = (k : Int) := ⟨a.toNat, by omega⟩
      have hk : k < is.length := by omega
      obtain ⟨i, hi'⟩ : ∃ i, is[k]? = some i := ⟨is[k], List.getElem?_eq_getElem hk⟩
      have hnil : is ≠ [] := fun q => by rw [q] at hk; simp at hk
      obtain rfl := hA hnil
      obtain ⟨q0, q1, q2, q3, q4, q5⟩ := hcells k i hi'
      have hbw : b < w.heap.size := World.block_lt_of_cell? w _ q0
      rcases HB.row.2 with ⟨_, h0⟩ | ⟨g', cap', cur, hv, hg, hh, hncap, hcapm, hcsz, htake⟩
      · simp at h0
      subst hv
      have hrow := HB.row
      simp only [List.length_cons] at hncap
      have hcap2 : (st.length : Int) ≤ (cap' : Int) := by omega
      have hcap3 : st.length ≤ cap' := by omega
      simp only [List.reverse_cons, List.map_append, List.map_cons, List.map_nil, List.length_cons] at hrow
      have hpop := ownsRow_pop (by simp) hrow
      have ct0 : wr.cell? ⟨g', st.length, none⟩ = some (.int .i64 (k : Int)) := by
        rw [hrow.cellAt st.length (by omega)]
        simp
      have hlk : (Instr.lookup 61 (.map (some (w.heap.size + 1))) (.int .i64 (k : Int)) false).run Tryd.prog wr.drew = .ok (.int .i64 n) wr.drew := by
        obtain ⟨c, r1, r2, _⟩ := (HB.own.drew).lookup_int (Go.Maps.int_keyed Tryd.underlying3) Tryd.underlying61 Tryd.underlying3 (intZero _) (Go.Maps.keyOf_int_mk (a := (k : Int)) Tryd.underlying3 (wf64 (by omega) (by omega)))
        rw [HB.map.at_, hn] at r2
        have : c = n := by injection r2 with r2; injection r2 with _ r2; exact r2.symm
        rw [r1, this]
      have hboxd : wr.drew.cell? ⟨w.heap.size, 0, none⟩ = some (.slice (some ⟨b, o, none⟩) is.length cap) := HB.box
      have e0 : wr.drew.cell? ⟨b, o + k * 6, none⟩ = some (.int .i64 i.op) := (HB.bel.cell (by exact hbw)).trans q0
      have e1 : wr.drew.cell? ⟨b, o + k * 6 + 1, none⟩ = some (.int .i64 i.x) := (HB.bel.cell (by exact hbw)).trans q1
      have e2 : wr.drew.cell? ⟨b, o + k * 6 + 2, none⟩ = some (.int .i64 i.y) := (HB.bel.cell (by exact hbw)).trans q2
      have e3 : wr.drew.cell? ⟨b, o + k * 6 + 3, none⟩ = some (.int .i64 i.z) := (HB.bel.cell (by exact hbw)).trans q3
      have e4 : wr.drew.cell? ⟨b, o + k * 6 + 4, none⟩ = some (.int .i64 i.node) := (HB.bel.cell (by exact hbw)).trans q4
      have e5 : wr.drew.cell? ⟨b, o + k * 6 + 5, none⟩ = some (.int .i64 i.phase) := (HB.bel.cell (by exact hbw)).trans q5
      have hwr : IntKind.i64.wrap (st.length : Int) = (st.length : Int) := by have := HB.few; have := HB.stl; rw [List.length_cons] at this; rw [IntKind.wrap_i64]; omega
      have hix1 : (st.length : Int) < (st.length : Int) + 1 := by omega
      have hix2 : (st.length : Int) < ((st.length + 1 : Nat) : Int) := by omega
      have hix3 : st.length < st.length + 1 := by omega
      have hix0 : (0 : Int) ≤ (st.length : Int) := by omega
      have hgt : (0 : Int) < (st.length : Int) + 1 := by omega
      have AB : Aside (BI is r (some ⟨b, o, none⟩) cap v1 v2 g w (f + 1) m ((k : Int) :: st) D (.slice (some ⟨g', 0, none⟩) (st.length + 1) cap') wr ∧ lookB m (k : Int) = some n ∧ is[k]? = some i ∧ InsAt w b o k i ∧ wr.ownsRow (w.heap.size + 2) 3 1 (.slice (some ⟨g', 0, none⟩) st.length cap') st.length (st.reverse.map (.int .i64)) ∧ (((f + 1 : Nat) : Int) - (is.length + 1) ≤ n ∧ n ≤ is.length + 1 - ((f + 1 : Nat) : Int))) := ⟨HB, hn, hi', ⟨q0, q1, q2, q3, q4, q5⟩, hpop, hn0, hn1⟩
      clear HB hn hi' q0 q1 q2 q3 q4 q5 hpop hn0 hn1 hrow htake hh hm0 hgrow1 hown1 hrow0 hA
      have hmix : Tryd.prog.follows .mixedOrders = true := by kernel_rfl
      go_wp2
      refine wp_region_still_tail 8 hmix (by kernel_rfl) ?_
      simp only [List.take_succ_cons, List.take_zero, List.drop_succ_cons, List.drop_zero]
      change wpStill _ _ wr.drew (fun a' => wpList _ _ _ _ a' wr.drew) _ _
      obtain ⟨W2, hW2⟩ : ∃ W2, wr.drew = W2 := ⟨_, rfl⟩
      rw [hW2] at hlk hboxd e0 e1 e2 e3 e4 e5
      have AW := Aside0.mk hW2
      rw [hW2]
      clear hW2
      repeat still_step
      refine wpStill_nil ?_
      clear hlk
      have hbc := barred_calls i n
      cases hbar : Ev.barredB i n with
      | false =>
        rw [hbar] at hbc
        have hr : r = false := by
          have := AB.out.1.bal
          rw [balG_cons AB.out.2.2.1 AB.out.2.1, hbar, if_neg (by simp)] at this
          injection this with this
          exact this.symm
        subst hr
        clear hbar
        go_wp2_with (go_at_call 27; refine (hbc _).mono ?_; rintro e W3 ⟨rfl, hb3⟩)
        go_ret
        refine ⟨rfl, ?_⟩
        have hb3' : Below wr.heap.size wr W3 := below_undrew (by have := hb3; rw [← AW.out] at this; exact this)
        exact AB.out.1.bel.trans (hb3'.mono AB.out.1.bel.size)
      | true =>
        rw [hbar] at hbc
        have AC := Aside0.mk hbar
        clear hbar
        go_wp2_with (go_at_call 27; refine (hbc _).mono ?_; rintro e W3 ⟨rfl, hb3⟩)
        clear hbc e0 e1 e2 e3 e4 e5 hboxd ct0 hwr hix1 hix2 hix3 hix0 hgt
        obtain ⟨HB, hn, hi', ⟨q0, q1, q2, q3, q4, q5⟩, hpop, hn0, hn1⟩ := AB.out
        have hb3' : Below wr.heap.size wr W3 := below_undrew (by have := hb3; rw [← AW.out] at this; exact this)
        clear AB AW hb3
        have hw3 : Below w.heap.size w W3 := HB.bel.trans (hb3'.mono HB.bel.size)
        have hown3 := ownsMap_below HB.own hb3'
        have hrow3 := ownsRow_below hpop hb3'
        have hbox3 : W3.cell? ⟨w.heap.size, 0, none⟩ = some (.slice (some ⟨b, o, none⟩) is.length cap) := (hb3'.cell (World.block_lt_of_cell? _ _ HB.box)).trans HB.box
        have hlk : (Instr.lookup 61 (.map (some (w.heap.size + 1))) (.int .i64 (k : Int)) false).run Tryd.prog W3.drew = .ok (.int .i64 n) W3.drew := by
          obtain ⟨c, r1, r2, _⟩ := (hown3.drew).lookup_int (Go.Maps.int_keyed Tryd.underlying3) Tryd.underlying61 Tryd.underlying3 (intZero _) (Go.Maps.keyOf_int_mk (a := (k : Int)) Tryd.underlying3 (wf64 (by omega) (by omega)))
          rw [HB.map.at_, hn] at r2
          have : c = n := by injection r2 with r2; injection r2 with _ r2; exact r2.symm
          rw [r1, this]
        have hboxd : W3.drew.cell? ⟨w.heap.size, 0, none⟩ = some (.slice (some ⟨b, o, none⟩) is.length cap) := hbox3
        have e0 : W3.drew.cell? ⟨b, o + k * 6, none⟩ = some (.int .i64 i.op) := (hw3.cell (by exact hbw)).trans q0
        have e1 : W3.drew.cell? ⟨b, o + k * 6 + 1, none⟩ = some (.int .i64 i.x) := (hw3.cell (by exact hbw)).trans q1
        have e2 : W3.drew.cell? ⟨b, o + k * 6 + 2, none⟩ = some (.int .i64 i.y) := (hw3.cell (by exact hbw)).trans q2
        have e3 : W3.drew.cell? ⟨b, o + k * 6 + 3, none⟩ = some (.int .i64 i.z) := (hw3.cell (by exact hbw)).trans q3
        have e4 : W3.drew.cell? ⟨b, o + k * 6 + 4, none⟩ = some (.int .i64 i.node) := (hw3.cell (by exact hbw)).trans q4
        have e5 : W3.drew.cell? ⟨b, o + k * 6 + 5, none⟩ = some (.int .i64 i.phase) := (hw3.cell (by exact hbw)).trans q5
        have AB : Aside (BI is r (some ⟨b, o, none⟩) cap v1 v2 g w (f + 1) m ((k : Int) :: st) D (.slice (some ⟨g', 0, none⟩) (st.length + 1) cap') wr ∧ lookB m (k : Int) = some n ∧ is[k]? = some i ∧ W3.ownsRow (w.heap.size + 2) 3 1 (.slice (some ⟨g', 0, none⟩) st.length cap') st.length (st.reverse.map (.int .i64)) ∧ (((f + 1 : Nat) : Int) - (is.length + 1) ≤ n ∧ n ≤ is.length + 1 - ((f + 1 : Nat) : Int)) ∧ Below w.heap.size w W3 ∧ W3.ownsMap Tryd.prog 3 (plainElem (H := Unit) Tryd.prog 3) (w.heap.size + 1) m.length D ∧ W3.cell? ⟨w.heap.size, 0, none⟩ = some (.slice (some ⟨b, o, none⟩) is.length cap)) := ⟨HB, hn, hi', hrow3, ⟨hn0, hn1⟩, hw3, hown3, hbox3⟩
        have hlc := leads_calls (fun x => x = w.heap.size + 1 ∨ x = g') (k : Int) i n ⟨by omega, by omega⟩ ⟨by omega, by omega⟩
        clear HB hn hi' q0 q1 q2 q3 q4 q5 hpop hn0 hn1 hrow3 hw3 hown3 hbox3 hb3'
        have hlk3 : ∀ W : World, W.ownsMap Tryd.prog 3 (plainElem (H := Unit) Tryd.prog 3) (w.heap.size + 1) m.length D → (Instr.lookup 61 (.map (some (w.heap.size + 1))) (.int .i64 (k : Int)) false).run Tryd.prog W = .ok (.int .i64 n) W := fun W hW => by
          obtain ⟨c, r1, r2, _⟩ := hW.lookup_int (Go.Maps.int_keyed Tryd.underlying3) Tryd.underlying61 Tryd.underlying3 (intZero _) (Go.Maps.keyOf_int_mk (a := (k : Int)) Tryd.underlying3 (wf64 (by omega) (by omega)))
          rw [AB.out.1.map.at_, AB.out.2.1] at r2
          have : c = n := by injection r2 with r2; injection r2 with _ r2; exact r2.symm
          rw [r1, this]
        have hown4 : W3.drew.ownsMap Tryd.prog 3 (plainElem (H := Unit) Tryd.prog 3) (w.heap.size + 1) m.length D := AB.out.2.2.2.2.2.2.1.drew
        have HS : (W3.drew.cell? ⟨w.heap.size, 0, none⟩ = some (.slice (some ⟨b, o, none⟩) is.length cap) ∧ W3.drew.cell? ⟨b, o + k * 6, none⟩ = some (.int .i64 i.op) ∧ W3.drew.cell? ⟨b, o + k * 6 + 1, none⟩ = some (.int .i64 i.x) ∧ W3.drew.cell? ⟨b, o + k * 6 + 2, none⟩ = some (.int .i64 i.y) ∧ W3.drew.cell? ⟨b, o + k * 6 + 3, none⟩ = some (.int .i64 i.z) ∧ W3.drew.cell? ⟨b, o + k * 6 + 4, none⟩ = some (.int .i64 i.node) ∧ W3.drew.cell? ⟨b, o + k * 6 + 5, none⟩ = some (.int .i64 i.phase) ∧ (Instr.lookup 61 (.map (some (w.heap.size + 1))) (.int .i64 (k : Int)) false).run Tryd.prog W3.drew = .ok (.int .i64 n) W3.drew ∧ W3.drew.ownsMap Tryd.prog 3 (plainElem (H := Unit) Tryd.prog 3) (w.heap.size + 1) m.length D) := ⟨hboxd, e0, e1, e2, e3, e4, e5, hlk, hown4⟩
        clear hlk hboxd e0 e1 e2 e3 e4 e5 hown4
        have L3 := Aside0.mk hlk3
        clear hlk3
        have hkk : (0 : Int) ≤ (k : Int) := by omega
        have hkl : (k : Int) < (is.length : Int) := by omega
        go_region_held3 (fun w' => w'.cell? ⟨w.heap.size, 0, none⟩ = some (.slice (some ⟨b, o, none⟩) is.length cap) ∧ w'.cell? ⟨b, o + k * 6, none⟩ = some (.int .i64 i.op) ∧ w'.cell? ⟨b, o + k * 6 + 1, none⟩ = some (.int .i64 i.x) ∧ w'.cell? ⟨b, o + k * 6 + 2, none⟩ = some (.int .i64 i.y) ∧ w'.cell? ⟨b, o + k * 6 + 3, none⟩ = some (.int .i64 i.z) ∧ w'.cell? ⟨b, o + k * 6 + 4, none⟩ = some (.int .i64 i.node) ∧ w'.cell? ⟨b, o + k * 6 + 5, none⟩ = some (.int .i64 i.phase) ∧ (Instr.lookup 61 (.map (some (w.heap.size + 1))) (.int .i64 (k : Int)) false).run Tryd.prog w' = .ok (.int .i64 n) w' ∧ w'.ownsMap Tryd.prog 3 (plainElem (H := Unit) Tryd.prog 3) (w.heap.size + 1) m.length D)
          (first | exact HS | exact ⟨cell_later hb5 HS.1, cell_later hb5 HS.2.1, cell_later hb5 HS.2.2.1, cell_later hb5 HS.2.2.2.1, cell_later hb5 HS.2.2.2.2.1, cell_later hb5 HS.2.2.2.2.2.1, cell_later hb5 HS.2.2.2.2.2.2.1, L3.out _ (ownsMap_below HS.2.2.2.2.2.2.2.2 hb5), ownsMap_below HS.2.2.2.2.2.2.2.2 hb5⟩ | go_keep)
          (first | (go_at_call 28; refine (hlc _).mono ?_; rintro e W5 ⟨LA, lc, lb, lo, rfl, hb5, hlc5, hlA, hlcells⟩))
        go_wp2
        obtain ⟨HB, hn, hi', hrow3, ⟨hn0, hn1⟩, hw3, hown3, hbox3⟩ := AB.out
        have hb5' : Below W3.heap.size W3 W5 := below_undrew hb5
        have hown5 := ownsMap_below hown3 hb5'
        have hrow5 := ownsRow_below hrow3 hb5'
        have hbox5 : W5.cell? ⟨w.heap.size, 0, none⟩ = some (.slice (some ⟨b, o, none⟩) is.length cap) := cell_later hb5' hbox3
        have hbel5 : Below w.heap.size w W5 := hw3.trans (hb5'.mono hw3.size)
        have hg3 : g' < W3.heap.size := (hrow3.lt g' rfl).2
        have hm3 : w.heap.size + 1 < W3.heap.size := hown3.lt
        have hstep := HB.bal
        rw [balG_cons hi' hn, AC.out, if_pos rfl] at hstep
        have hls3 := leads_few (k : Int) i n
        have hlsv := leads_val (k : Int) i n
        have hlsr : ∀ l, l ∈ leadsL (k : Int) i n → 0 ≤ l.1 ∧ l.1 < (is.length : Int) := by
          have := ldsIn_iff.1 hin k hk n
          rw [List.getElem?_eq_getElem hk] at hi'
          injection hi' with hi'
          rw [hi'] at this
          exact this
        have hlA' : leadsL (k : Int) i n ≠ [] → LA = some ⟨lb, lo, none⟩ ∧ lb < W5.heap.size ∧ lb ≠ w.heap.size + 1 ∧ g' ≠ lb := fun q => by
          obtain ⟨z1, z2, z3⟩ := hlA q
          refine ⟨z1, z2, ?_, ?_⟩
          · rcases z3 with z3 | z3
            · exact fun e => z3.2 (.inl e)
            · have z4 : W3.heap.size ≤ lb := z3
              omega
          · rcases z3 with z3 | z3
            · exact fun e => z3.2 (.inr e.symm)
            · have z4 : W3.heap.size ≤ lb := z3
              omega
        have hfew := HB.few
        have hstl := HB.stl
        rw [List.length_cons] at hstl
        have hkey := HB.key
        have hmem : ∀ a, a ∈ st → ∃ v, lookB m a = some v := fun a ha => HB.mem a (List.mem_cons_of_mem _ ha)
        have hmap := HB.map
        clear HB hn hi' hrow3 hw3 hown3 hbox3 hb5' hb5 hlA AC hlc L3 HS AB hg3 hm3
        generalize leadsL (k : Int) i n = ls at *
        obtain ⟨p, hp⟩ : ∃ p, stepB ls m st = p := ⟨_, rfl⟩
        rw [hp] at hstep
        have AS := Aside0.mk hstep
        have AP := Aside0.mk (And.intro hlsv hlsr)
        clear hstep hlsv hlsr hcells
        go_loopg [4, 48] ls.length (fun q v t wr => ∃ (j : Nat) (m : List (Int × Int)) (st : List Int) (D : DataW Unit), j ≤ ls.length ∧ q = ls.length - j ∧ t = .int .i64 j ∧ BJ is (some ⟨b, o, none⟩) cap w f ls LA lb lo p j m st D v wr)
        case atStart =>
          refine ⟨0, m, st, D, Nat.zero_le _, rfl, rfl, hp, hmap, hown5, hrow5, hbox5, hbel5, by omega, by omega, fun k v hk => ?_, hmem, hlcells, fun q => ?_⟩
          · have := hkey k v hk
            omega
          · obtain ⟨z1, z2, z3, z4⟩ := hlA' q
            exact ⟨z1, z2, z3, fun e => z4 (by injection e)⟩
        case round =>
          clear hown5 hrow5 hbox5 hbel5 hlcells hlA' hp hfew hstl hkey hmem hmap
          obtain ⟨j, m2, st2, D2, hj, rfl, rfl, HJ⟩ := hrel
          by_cases hjl : j < ls.length
          · have hjl' : (j : Int) < (ls.length : Int) := by omega
            have hj0 : (0 : Int) ≤ (j : Int) := by omega
            obtain ⟨l, hl⟩ : ∃ l, ls[j]? = some l := ⟨ls[j], List.getElem?_eq_getElem hjl⟩
            obtain ⟨c0, c1⟩ := HJ.cel j l hl
            obtain ⟨rfl, hlb, hlb1, hlb2⟩ := HJ.blk (fun q => by rw [q] at hjl; simp at hjl)
            obtain ⟨hl0, hl1⟩ := AP.out.2 l (List.mem_of_getElem? hl)
            have AJ := Aside0.mk (And.intro HJ hl)
            have hown := HJ.own
            have hlv := AP.out.1 l (List.mem_of_getElem? hl)
            have hfw := HJ.few
            have hsl := HJ.stl
            have AN := Aside0.mk (And.intro hlb (And.intro hlb1 hlb2))
            have AF := Aside0.mk (show m2.length < maxLen ∧ (Lit.int .i64 l.2).wf = true ∧ st2.length + 1 ≤ maxLen ∧ (st2.length + 1) * 8 ≤ 140737488355328 from ⟨by unfold maxLen; omega, wf64 (by omega) (by omega), by unfold maxLen; omega, by omega⟩)
            clear HJ hl hlb hlb1 hlb2 hlv hfw hsl
            have hkey := Go.Maps.keyOf_int_mk (a := l.1) Tryd.underlying3 (wf64 (by omega) (by omega))
            go_wp2_with (first
              | (refine wpList_lookup_own_ok_int _ rfl _ _ 61 rfl 3 3 .i64 (Go.Maps.int_keyed Tryd.underlying3) Tryd.underlying61 Tryd.underlying3 (intZero _) (w.heap.size + 1) m2.length D2 rfl (hown.alloc _) _ _ rfl hkey ?_; intro c hat hwc)
              | (at_mapUpdate
                 go_must (refine wpList_mapUpdate_own _ rfl _ _ _ 61 rfl 3 3 (Go.Maps.int_keyed Tryd.underlying3) Tryd.underlying61 _ (w.heap.size + 1) m2.length D2 rfl (hown.alloc _) AF.out.1 _ _ (.int .i64 l.1) rfl rfl hkey (.lit (.int .i64 l.2)) [] (plainElem_int Tryd.underlying3 AF.out.2.1) ?_)
                 intro w6 hown6 hgrow6
                 obtain ⟨d0, d1, hrow6, hsz6⟩ := behind6 hown AJ.out.1.row hgrow6
                 have X6 := Aside0.mk (And.intro hown6 hgrow6)
                 clear hown6 hgrow6)
              | (refine wpList_append_own_at _ rfl _ _ 62 rfl (w.heap.size + 2) 3 i0 (.int .i64 0) 1 8 Tryd.underlying62 hi hz0 hz1 hz2 rfl (by decide) u4 st2.length _ rfl (hrow6.alloc _) ⟨w6.heap.size, 0, none⟩ 1 1 [.int .i64 l.1] rfl rfl (cell_one_new _ _ _) (fun x hx => by simp at hx; rw [hx]; rfl) AF.out.2.2.1 AF.out.2.2.2 (by rw [World.size_alloc]; omega) ?_
                 intro v7 w7 hown7 hgrow7 hnil7 hat7
                 have X7 := Aside0.mk (And.intro hown7 (And.intro hgrow7 hat7))
                 clear hown7 hgrow7 hnil7 hat7)
              | go_in)
            · rename_i hh1 hh2
              obtain ⟨HJ, hl⟩ := AJ.out
              rw [HJ.map.has] at hh1
              rw [HJ.map.at_] at hat
              obtain ⟨c', hc'⟩ := Option.isSome_iff_exists.1 hh1
              rw [hc'] at hat
              have hcc : c' = c := by injection hat with hat; injection hat
              have hp2 : p = none := by
                have := HJ.step
                rw [drop_cons hl, stepB_bad hc' (by rw [hcc]; simpa using hh2)] at this
                exact this.symm
              have hr := AS.out
              rw [hp2] at hr
              injection hr with hr
              subst hr
              have hbel := HJ.bel
              clear HJ AJ AS
              go_ret
              exact ⟨rfl, hbel.alloc hbel.size _⟩
            · rename_i hh1 hh2
              obtain ⟨HJ, hl⟩ := AJ.out
              rw [HJ.map.has] at hh1
              rw [HJ.map.at_] at hat
              obtain ⟨c', hc'⟩ := Option.isSome_iff_exists.1 hh1
              rw [hc'] at hat
              have hcc : c' = c := by injection hat with hat; injection hat
              have hk2 : lookB m2 l.1 = some l.2 := by rw [hc', hcc]; simpa using hh2
              have AJ2 := Aside0.mk (HJ.old hl hk2 (Obj.cells #[Value.int IntKind.i64 l.1, Value.int IntKind.i64 l.2] 67))
              clear HJ AJ AS
              go_roundg (ls.length - (j + 1))
              case rel => exact ⟨j + 1, m2, st2, D2, by omega, rfl, by go_num, AJ2.out⟩
              case measure => omega
            · obtain ⟨HJ, hl⟩ := AJ.out
              have hh : ¬ Go.Maps.has D2 (Lit.int IntKind.i64 l.1) = true := by assumption
              rw [HJ.map.has] at hh
              have hk2 : lookB m2 l.1 = none := by
                cases q : lookB m2 l.1 with
                | none => rfl
                | some z => rw [q] at hh; exact absurd rfl hh
              have hlv := AP.out.1 l (List.mem_of_getElem? hl)
              have AJ2 := Aside0.mk (HJ.new hl hk2 ⟨hl0, hl1, by omega, by omega⟩ X6.out.1 X6.out.2 X7.out.1 X7.out.2.1 X7.out.2.2)
              clear HJ AJ AS
              go_roundg (ls.length - (j + 1))
              case rel => exact ⟨j + 1, l :: m2, l.1 :: st2, _, by omega, rfl, by go_num, AJ2.out⟩
              case measure => omega
          · have hje : j = ls.length := by omega
            subst hje
            have hp2 : p = some (m2, st2) := by have := HJ.step; rw [List.drop_length] at this; exact this.symm
            have hbal := AS.out
            rw [hp2] at hbal
            have AJ := Aside0.mk (And.intro HJ hbal)
            clear HJ hbal AS
            go_wp2
            go_roundg f
            case rel =>
              obtain ⟨HJ, hbal⟩ := AJ.out
              exact ⟨m2, st2, D2, hbal, HJ.map, HJ.own, HJ.row, HJ.box, HJ.bel, by have := HJ.few; omega, HJ.stl, HJ.key, HJ.mem⟩
            case measure => omega
end Go.Proofs.YtbhffcogeeeidaaDoor.V0
