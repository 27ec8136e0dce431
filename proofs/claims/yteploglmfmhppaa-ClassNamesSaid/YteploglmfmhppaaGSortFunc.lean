/- slices.SortFunc at ranges with rset.Make's own closure, by hand over the library's contract: for every row of the call's own, the row holds the same ranges, rising by Lo, then Hi. -/
import Derived.Test.YteploglmfmhppaaPx0
import Derived.StillTailTactics
import Derived.Shelf.SlSortCmp.NoneTotal
import Derived.Test.YteploglmfmhppaaLaySortR
namespace Go.Proofs.Yteploglmfmhppaa.P
open Go.RowKit Go.Shelf Go.Sort Go.Proofs.YteploglmfmhppaaW.PrintWords Go.Proofs.YteploglmfmhppaaW.PrintLast Go.Proofs.YteploglmfmhppaaW.PrintMore
set_option linter.unusedVariables false
set_option linter.unusedSimpArgs false

def cmpI (x y : Int) : Int := if x < y then -1 else if y < x then 1 else 0
theorem compareInt_calls (x y : Int) (w : World) : Calls Try.prog 55 #[.int .i64 x, .int .i64 y] w fun e w' => e = .returned (.int .i64 (cmpI x y)) ∧ w' = w := by
  unfold cmpI
  by_cases h1 : x < y
  · rw [if_pos h1]
    go_enter Try.func55, Try.ntmps55
    go_wp2
    go_ret
    exact ⟨rfl, rfl⟩
  · rw [if_neg h1]
    by_cases h2 : y < x
    · rw [if_pos h2]
      go_enter Try.func55, Try.ntmps55
      go_wp2
      go_ret
      exact ⟨rfl, rfl⟩
    · rw [if_neg h2]
      go_enter Try.func55, Try.ntmps55
      go_wp2
      go_ret
      exact ⟨rfl, rfl⟩

/-- cmp.Or of two numbers that lie in a new block. -/
theorem or_calls (x y : Int) (w : World) (b : Nat) (h0 : w.cell? ⟨b, 0, none⟩ = some (.int .i64 x)) (h1 : w.cell? ⟨b, 1, none⟩ = some (.int .i64 y)) :
    Calls Try.prog 54 #[.slice (some ⟨b, 0, none⟩) 2 2] w fun e w' => e = .returned (.int .i64 (if x = 0 then y else x)) ∧ w' = w := by
  by_cases hx : x = 0
  · rw [if_pos hx]
    subst hx
    by_cases hy : y = 0
    · subst hy
      go_enter Try.func54, Try.ntmps54
      go_wp2
      refine wp_loop_rounds 3 ?_
      rw [rounds_succ]
      go_wp2
      rw [rounds_succ]
      go_wp2
      rw [rounds_succ]
      go_wp2
      go_ret
      exact ⟨rfl, rfl⟩
    · have hyb : (y != 0) = true := by simpa using hy
      go_enter Try.func54, Try.ntmps54
      go_wp2
      refine wp_loop_rounds 2 ?_
      rw [rounds_succ]
      go_wp2
      rw [rounds_succ]
      go_wp2
      go_ret
      exact ⟨rfl, rfl⟩
  · rw [if_neg hx]
    have hxb : (x != 0) = true := by simpa using hx
    go_enter Try.func54, Try.ntmps54
    go_wp2
    refine wp_loop_rounds 1 ?_
    rw [rounds_succ]
    go_wp2
    go_ret
    exact ⟨rfl, rfl⟩

def cmpR (x y : S42) : Int := if cmpI x.f0 y.f0 = 0 then cmpI x.f1 y.f1 else cmpI x.f0 y.f0
def encR (x : S42) : List Value := [.int .i64 x.f0, .int .i64 x.f1]

set_option maxHeartbeats 1000000 in
set_option maxRecDepth 100000 in
theorem closureMake (x y : S42) (W : World) : Calls Try.prog 53 #[.agg #[.int .i64 x.f0, .int .i64 x.f1], .agg #[.int .i64 y.f0, .int .i64 y.f1]] W fun e w' => e = .returned (.int .i64 (cmpR x y)) ∧ ∃ q os', w' = grow (W.drewN q) os' := by
  obtain ⟨a, b⟩ := x
  obtain ⟨c, d⟩ := y
  unfold cmpR
  dsimp only
  have h1 := fun W' => compareInt_calls a c W'
  have h2 := fun W' => compareInt_calls b d W'
  generalize cmpI a c = p at h1 ⊢
  generalize cmpI b d = q at h2 ⊢
  have ho := fun W' b => or_calls p q W' b
  generalize (if p = 0 then q else p) = m at ho ⊢
  have HO := Aside0.mk ho
  clear ho
  have hm : Try.prog.follows .mixedOrders = true := by kernel_rfl
  go_enter Try.func53, Try.ntmps53
  go_wp2_with fail
  have c0 : ((W.alloc (Obj.cells #[Value.int IntKind.i64 a, Value.int IntKind.i64 b] 42)).alloc (Obj.cells #[Value.int IntKind.i64 c, Value.int IntKind.i64 d] 42)).cell? ⟨W.heap.size, 0, none⟩ = some (.int .i64 a) := by go_simp
  have c1 : ((W.alloc (Obj.cells #[Value.int IntKind.i64 a, Value.int IntKind.i64 b] 42)).alloc (Obj.cells #[Value.int IntKind.i64 c, Value.int IntKind.i64 d] 42)).cell? ⟨W.heap.size, 1, none⟩ = some (.int .i64 b) := by go_simp
  have c2 : ((W.alloc (Obj.cells #[Value.int IntKind.i64 a, Value.int IntKind.i64 b] 42)).alloc (Obj.cells #[Value.int IntKind.i64 c, Value.int IntKind.i64 d] 42)).cell? ⟨W.heap.size + 1, 0, none⟩ = some (.int .i64 c) := by go_simp
  have c3 : ((W.alloc (Obj.cells #[Value.int IntKind.i64 a, Value.int IntKind.i64 b] 42)).alloc (Obj.cells #[Value.int IntKind.i64 c, Value.int IntKind.i64 d] 42)).cell? ⟨W.heap.size + 1, 1, none⟩ = some (.int .i64 d) := by go_simp
  obtain ⟨V, hV⟩ : ∃ V, ((W.alloc (Obj.cells #[Value.int IntKind.i64 a, Value.int IntKind.i64 b] 42)).alloc (Obj.cells #[Value.int IntKind.i64 c, Value.int IntKind.i64 d] 42)) = V := ⟨_, rfl⟩
  rw [hV] at c0 c1 c2 c3 ⊢
  have HV := Aside0.mk hV
  clear hV
  refine wp_region_still_tail 10 hm (by kernel_rfl) ?_
  simp only [List.take_succ_cons, List.take_zero, List.drop_succ_cons, List.drop_zero]
  change wpStill _ _ V.drew _ _ _
  have d0 : V.drew.cell? ⟨W.heap.size, 0, none⟩ = some (.int .i64 a) := c0
  have d1 : V.drew.cell? ⟨W.heap.size, 1, none⟩ = some (.int .i64 b) := c1
  have d2 : V.drew.cell? ⟨W.heap.size + 1, 0, none⟩ = some (.int .i64 c) := c2
  have d3 : V.drew.cell? ⟨W.heap.size + 1, 1, none⟩ = some (.int .i64 d) := c3
  have HD : Aside0 (∃ q, V.drew = V.drewN q) := ⟨1, rfl⟩
  clear c0 c1 c2 c3
  generalize V.drew = V2 at d0 d1 d2 d3 HD ⊢
  repeat still_step
  still_call (h1 V2)
  repeat still_step
  still_call (h2 V2)
  refine wpStill_nil ?_
  clear h1 h2 d0 d1 d2 d3
  go_wp2_with (go_at_call 54; refine (HO.out _ _ (by go_simp) (by go_simp)).mono ?_; rintro e w' ⟨rfl, rfl⟩)
  go_ret
  exact ⟨rfl, 1, #[_, _, _], by rw [← HV.out, alloc_eq_grow, alloc_eq_grow, alloc_eq_grow, grow_grow, grow_grow]; rfl⟩

/-! ### the order -/
def keyLt (x y : S42) : Bool := decide (x.f0 < y.f0) || (decide (x.f0 = y.f0) && decide (x.f1 < y.f1))
theorem ltOf_cmpR (x y : S42) : ltOf cmpR x y = keyLt x y := by
  unfold ltOf cmpR keyLt cmpI
  by_cases h1 : x.f0 < y.f0
  · simp [h1]
  · by_cases h2 : y.f0 < x.f0
    · have h3 : ¬ x.f0 = y.f0 := by omega
      simp [h1, h2, h3]
    · have h3 : x.f0 = y.f0 := by omega
      by_cases h4 : x.f1 < y.f1
      · simp [h3, h4]
      · by_cases h5 : y.f1 < x.f1 <;> simp [h3, h4, h5]
theorem swoR : SWO (ltOf cmpR) where
  irrefl x := by rw [ltOf_cmpR]; simp [keyLt]
  trans x y z h1 h2 := by rw [ltOf_cmpR] at *; simp [keyLt] at *; omega
  ntrans x y z h1 h2 := by rw [ltOf_cmpR] at *; simp [keyLt] at *; omega
theorem totR (x y : S42) (h1 : ltOf cmpR x y = false) (h2 : ltOf cmpR y x = false) : x = y := by
  rw [ltOf_cmpR] at *
  obtain ⟨a, b⟩ := x
  obtain ⟨c, d⟩ := y
  simp [keyLt] at h1 h2
  have e1 : a = c := by omega
  have e2 : b = d := by omega
  subst e1 e2
  rfl
instance : Inhabited S42 := ⟨z42⟩
/-- Rising by Lo, then Hi. -/
def sortR (l : List S42) : List S42 := l.mergeSort fun x y => !(ltOf cmpR) y x

def slices_SortFunc_rset_Range_rset_Range.f (l0 : List S42) : Option (List S42) := if l0.length < 4611686018427387904 then some (sortR l0) else none

theorem encR_flat {w : World} {x : S42} {cs : List Value} (h : k42.K w x cs) : cs = encR x := k42_open h

theorem flat_at {l : List S42} {inner : List Value} {W : World} {base : Nat} {ok : Nat → Prop} (hr : Reps (k42.M W base ok) 2 l inner) (t : Nat) (ht : t < l.length * 2) : inner[t]? = some (flatK encR 2 l.toArray)[t]! := by
  have hi : t / 2 < l.length := by omega
  have hel := hr.2 (t / 2) _ (List.getElem?_eq_getElem hi)
  have he : (inner.drop (t / 2 * 2)).take 2 = encR l[t / 2] := k42_openM hel
  have h1 : ((inner.drop (t / 2 * 2)).take 2)[t % 2]? = inner[t]? := by
    rw [List.getElem?_take_of_lt (by omega), List.getElem?_drop, show t / 2 * 2 + t % 2 = t by omega]
  rw [← h1, he, get_flatK encR 2 l.toArray t (by simpa using ht)]
  have h2 : l.toArray[t / 2]! = l[t / 2] := by
    rw [getElem!_pos l.toArray (t / 2) (by simpa using hi)]
    simp
  rw [h2]
  have h3 : t % 2 = 0 ∨ t % 2 = 1 := by omega
  rcases h3 with h3 | h3 <;> rw [h3] <;> rfl
theorem flat_mk {l : List S42} {inner : List Value} {W : World} {base : Nat} {ok : Nat → Prop} (hlen : inner.length = l.length * 2) (h : ∀ t, t < l.length * 2 → inner[t]? = some (flatK encR 2 l.toArray)[t]!) : Reps (k42.M W base ok) 2 l inner := by
  refine ⟨hlen, fun j p hj => ?_⟩
  obtain ⟨hjl, hp⟩ := List.getElem?_eq_some_iff.1 hj
  have e0 := h (j * 2) (by omega)
  have e1 := h (j * 2 + 1) (by omega)
  rw [get_flatK encR 2 l.toArray _ (by simp; omega)] at e0 e1
  have h2 : l.toArray[j]! = p := by
    rw [getElem!_pos l.toArray j (by simpa using hjl)]
    simpa using hp
  rw [show j * 2 / 2 = j by omega, show j * 2 % 2 = 0 by omega, h2] at e0
  rw [show (j * 2 + 1) / 2 = j by omega, show (j * 2 + 1) % 2 = 1 by omega, h2] at e1
  have hcs : (inner.drop (j * 2)).take 2 = encR p := by
    apply List.ext_getElem?
    intro i
    match i with
    | 0 => rw [List.getElem?_take_of_lt (by omega), List.getElem?_drop]; exact e0
    | 1 => rw [List.getElem?_take_of_lt (by omega), List.getElem?_drop]; exact e1
    | i + 2 => rw [List.getElem?_eq_none (by simp; omega), List.getElem?_eq_none (by simp [encR])]
  rw [hcs]
  exact ⟨_, _, rfl, rfl, rfl⟩

/-- A row of the call's own, as the sort has it. -/
theorem holds_of_R {w : World} {base : Nat} {ok : Nat → Prop} {g cap : Nat} {l : List S42} (h : Kd.R k42 42 w base ok (.slice (some ⟨g, 0, none⟩) l.length cap) l) : HoldsK encR 2 w g 0 l.toArray := by
  obtain ⟨_, inner, ho, hr⟩ := h
  rcases ho.2 with ⟨h0, h1⟩ | ⟨g', cap', cur, hv, hb, hh, hc, hm, hs, ht⟩
  · cases h0
  · injection hv with e1 e2 e3
    injection e1 with e1
    injection e1 with e1
    subst e1 e3
    intro t ht'
    have ht2 : t < l.length * 2 := by simpa using ht'
    have hf := flat_at hr t ht2
    have hcur : cur.toList[t]? = inner[t]? := by rw [← ht]; exact (List.getElem?_take_of_lt ht2).symm
    refine ⟨?_, blk_frozen hh _⟩
    rw [Nat.zero_add, blk_cell hh t]
    rw [← Array.getElem?_toList, hcur, hf]
    rfl

theorem R_of_sorted {w : World} {base : Nat} {ok ok' : Nat → Prop} {g cap n : Nat} {l l' : List S42} {os : Array Obj} (h : Kd.R k42 42 w base ok (.slice (some ⟨g, 0, none⟩) l.length cap) l) (hl : l'.length = l.length) (hok : ∀ k, ok k → ok' k) :
    Kd.R k42 42 (sortWorldK encR 2 w g 0 n l'.toArray os) base ok' (.slice (some ⟨g, 0, none⟩) l.length cap) l' ∧ (∀ i, i < w.heap.size → i ≠ g → (sortWorldK encR 2 w g 0 n l'.toArray os).heap[i]? = w.heap[i]?) ∧ w.heap.size ≤ (sortWorldK encR 2 w g 0 n l'.toArray os).heap.size := by
  obtain ⟨h0, inner, ho, hr⟩ := h
  rcases ho.2 with ⟨h1, _⟩ | ⟨g', cap', cur, hv, hb, hh, hc, hm, hs, ht⟩
  · cases h1
  · injection hv with e1 e2 e3
    injection e1 with e1
    injection e1 with e1
    subst e1 e3
    have hg : g < w.heap.size := (Array.getElem?_eq_some_iff.1 hh).1
    have hheap : ∀ i, i < w.heap.size → (sortWorldK encR 2 w g 0 n l'.toArray os).heap[i]? = (w.heap.modify g (onCells (putCells id 0 (flatK encR 2 l'.toArray))))[i]? := by
      intro i hi
      show ((w.heap.modify g (onCells (putCells id 0 (flatK encR 2 l'.toArray)))) ++ os)[i]? = _
      rw [Array.getElem?_append_left (by simpa using hi)]
    have hgg : (sortWorldK encR 2 w g 0 n l'.toArray os).heap[g]? = some (.cells (putCells id 0 (flatK encR 2 l'.toArray) cur) 42 (0, 0)) := by
      rw [hheap g hg, Array.getElem?_modify, if_pos rfl, hh]
      rfl
    have hcs : cur.size = cap * 2 := hs
    have hle : l'.length * 2 ≤ cur.size := by omega
    have hat : ∀ t, t < l'.length * 2 → ((putCells id 0 (flatK encR 2 l'.toArray) cur).toList.take (l'.length * 2))[t]? = some (flatK encR 2 l'.toArray)[t]! := by
      intro t ht'
      rw [List.getElem?_take_of_lt ht', Array.getElem?_toList]
      unfold putCells
      rw [Array.getElem?_mapIdx, Array.getElem?_eq_getElem (by omega)]
      simp only [Option.map_some]
      rw [if_pos ⟨Nat.zero_le _, by simp; omega⟩]
      rfl
    have hlen : ((putCells id 0 (flatK encR 2 l'.toArray) cur).toList.take (l'.length * 2)).length = l'.length * 2 := by
      rw [List.length_take]
      have : (putCells id 0 (flatK encR 2 l'.toArray) cur).toList.length = cur.size := by simp [putCells]
      omega
    have hown : (sortWorldK encR 2 w g 0 n l'.toArray os).ownsRow base 42 2 (.slice (some ⟨g, 0, none⟩) l'.length cap) l'.length ((putCells id 0 (flatK encR 2 l'.toArray) cur).toList.take (l'.length * 2)) :=
      ⟨hlen, .inr ⟨g, cap, _, rfl, hb, hgg, by omega, hm, by simp [putCells, hcs], rfl⟩⟩
    rw [← hl]
    refine ⟨⟨fun k hk => hok k (h0 k hk), _, hown, flat_mk hlen hat⟩, ?_, ?_⟩
    · intro i hi hne
      rw [hheap i hi, Array.getElem?_modify, if_neg (Ne.symm hne)]
    · show w.heap.size ≤ ((w.heap.modify g _) ++ os).size
      simp

theorem sortR_length (l : List S42) : (sortR l).length = l.length := List.length_mergeSort _

set_option maxHeartbeats 1000000 in
theorem slices_SortFunc_rset_Range_rset_Range.calls (P0_ : Nat → Prop) (u9000_ : Value) (l0 : List S42) (r : List S42) (w0 w : World) (hB : Below w0.heap.size w0 w) (ho0 : Kd.R k42 42 w w0.heap.size P0_ u9000_ l0) (h : slices_SortFunc_rset_Range_rset_Range.f l0 = some r) :
    Calls Try.prog 52 #[u9000_, .func (.func 53) #[] #[]] w fun e w' => e = .returned (.tuple #[]) ∧ Kd.R k42 42 w' w0.heap.size (fun k_ => (P0_ k_ ∨ w.heap.size ≤ k_)) u9000_ r ∧ Below w0.heap.size w0 w' ∧ Kept w w' (fun k_ => P0_ k_) := by
  unfold slices_SortFunc_rset_Range_rset_Range.f at h
  split at h
  case isFalse => exact absurd h (by simp)
  case isTrue hbig =>
  obtain rfl : sortR l0 = r := Option.some.inj h
  clear h
  rcases Nat.eq_zero_or_pos l0.length with hl | hl
  · obtain rfl : l0 = [] := List.eq_nil_of_length_eq_zero hl
    obtain ⟨A, c, rfl⟩ := Kd.R_slice ho0
    refine (AnyF.slices_SortFunc_none Try.laySortR A c _ w).mono ?_
    rintro e w' ⟨rfl, rfl⟩
    refine ⟨rfl, ?_, hB, Kept.refl _ _⟩
    have hs : sortR ([] : List S42) = [] := by simp [sortR]
    rw [hs]
    exact Kd.R_mono ho0 (fun _ hk => .inl hk)
  · obtain ⟨g, cap, rfl, hgb, hgl, cells, hgc⟩ := Kd.R_form ho0 hl
    have eg : ∀ args w, (callFunc 53 args).run Try.prog w = .ok (.enter 53 args) w := enters_of Try.func53 (by kernel_rfl) rfl
    have hcon := AnyQ.slices_SortFunc_total Try.laySortR 2 Try.isAgg42 Try.sizeOf42 encR (fun _ => rfl) (fun x v hv => by simp [encR] at hv; rcases hv with rfl | rfl <;> rfl) cmpR swoR 53 #[] g 0 cap l0.toArray w eg
      (fun _ _ _ _ x y => closureMake x y _) (holds_of_R ho0) hgl (by simpa using hbig) totR
    change Calls Try.prog 52 _ _ _ at hcon
    rw [List.size_toArray] at hcon
    refine hcon.mono ?_
    rintro e w' ⟨rfl, n, os, hw⟩
    have hw' : w' = sortWorldK encR 2 w g 0 n (sortR l0).toArray os := hw
    obtain ⟨h1, h2, h3⟩ := R_of_sorted (n := n) (os := os) (ok' := fun k_ => (P0_ k_ ∨ w.heap.size ≤ k_)) ho0 (sortR_length l0) (fun _ hk => .inl hk)
    rw [← hw'] at h1 h2 h3
    refine ⟨rfl, h1, ⟨?_, ?_, ?_, Nat.le_trans hB.size h3, fun i hi => ?_⟩, h3, fun i hi hn => ?_⟩
    · rw [hw']; exact hB.os
    · rw [hw']; exact hB.tape
    · rw [hw']; exact hB.output
    · rw [h2 i (Nat.lt_of_lt_of_le hi hB.size) (by omega)]; exact hB.block i hi
    · exact h2 i hi (fun e => hn (by rw [e]; exact ho0.1 g rfl))
end Go.Proofs.Yteploglmfmhppaa.P
