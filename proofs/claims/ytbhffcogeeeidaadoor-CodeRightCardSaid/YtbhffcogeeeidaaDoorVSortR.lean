/- slices.SortFunc at ranges with rset.Make's own closure, as a function that is given: over the library's contract. -/
import Derived.Test.YtbhffcogeeeidaaDoorVCa
import Derived.StillTailTactics
import Derived.Shelf.SlSortCmp.NoneTotal
import Derived.Test.YtbhffcogeeeidaaDoorLaySortR
import Derived.Test.YtbhffcogeeeidaaDoorEc
namespace Go.Proofs.YtbhffcogeeeidaaDoor.V
open Go Go.Ev Go.RowKit Go.Shelf Go.Sort
set_option linter.unusedVariables false
set_option linter.unusedSimpArgs false
set_option maxRecDepth 100000

def cmpI (x y : Int) : Int := if x < y then -1 else if y < x then 1 else 0
theorem compareInt_calls (x y : Int) (w : World) : Calls Tryd.prog 40 #[.int .i64 x, .int .i64 y] w fun e w' => e = .returned (.int .i64 (cmpI x y)) ∧ w' = w := by
  unfold cmpI
  by_cases h1 : x < y
  · rw [if_pos h1]
    go_enter Tryd.func40, Tryd.ntmps40
    go_wp2
    go_ret
    exact ⟨rfl, rfl⟩
  · rw [if_neg h1]
    by_cases h2 : y < x
    · rw [if_pos h2]
      go_enter Tryd.func40, Tryd.ntmps40
      go_wp2
      go_ret
      exact ⟨rfl, rfl⟩
    · rw [if_neg h2]
      go_enter Tryd.func40, Tryd.ntmps40
      go_wp2
      go_ret
      exact ⟨rfl, rfl⟩

/-- cmp.Or of two numbers that lie in a new block. -/
theorem or_calls (x y : Int) (w : World) (b : Nat) (h0 : w.cell? ⟨b, 0, none⟩ = some (.int .i64 x)) (h1 : w.cell? ⟨b, 1, none⟩ = some (.int .i64 y)) :
    Calls Tryd.prog 39 #[.slice (some ⟨b, 0, none⟩) 2 2] w fun e w' => e = .returned (.int .i64 (if x = 0 then y else x)) ∧ w' = w := by
  by_cases hx : x = 0
  · rw [if_pos hx]
    subst hx
    by_cases hy : y = 0
    · subst hy
      go_enter Tryd.func39, Tryd.ntmps39
      go_wp2
      refine wp_loop_rounds 3 ?_
      rw [rounds_succ]
      go_wp2
      rw [rounds_succ]
      go_wp2
      rw [rounds_succ]
      go_wp2
      go_ret
      exact ⟨rfl, rfl⟩
    · have hyb : (y != 0) = true := by simpa using hy
      go_enter Tryd.func39, Tryd.ntmps39
      go_wp2
      refine wp_loop_rounds 2 ?_
      rw [rounds_succ]
      go_wp2
      rw [rounds_succ]
      go_wp2
      go_ret
      exact ⟨rfl, rfl⟩
  · rw [if_neg hx]
    have hxb : (x != 0) = true := by simpa using hx
    go_enter Tryd.func39, Tryd.ntmps39
    go_wp2
    refine wp_loop_rounds 1 ?_
    rw [rounds_succ]
    go_wp2
    go_ret
    exact ⟨rfl, rfl⟩

def cmpR (x y : (Int × Int)) : Int := if cmpI x.1 y.1 = 0 then cmpI x.2 y.2 else cmpI x.1 y.1
def encR (x : (Int × Int)) : List Value := [.int .i64 x.1, .int .i64 x.2]

set_option maxHeartbeats 1000000 in
set_option maxRecDepth 100000 in
theorem closureMake (x y : (Int × Int)) (W : World) : Calls Tryd.prog 38 #[.agg #[.int .i64 x.1, .int .i64 x.2], .agg #[.int .i64 y.1, .int .i64 y.2]] W fun e w' => e = .returned (.int .i64 (cmpR x y)) ∧ ∃ q os', w' = grow (W.drewN q) os' := by
  obtain ⟨a, b⟩ := x
  obtain ⟨c, d⟩ := y
  unfold cmpR
  dsimp only
  have h1 := fun W' => compareInt_calls a c W'
  have h2 := fun W' => compareInt_calls b d W'
  generalize cmpI a c = p at h1 ⊢
  generalize cmpI b d = q at h2 ⊢
  have ho := fun W' b => or_calls p q W' b
  generalize (if p = 0 then q else p) = m at ho ⊢
  have HO := Aside0.mk ho
  clear ho
  have hm : Tryd.prog.follows .mixedOrders = true := by kernel_rfl
  go_enter Tryd.func38, Tryd.ntmps38
  go_wp2_with fail
  have c0 : ((W.alloc (Obj.cells #[Value.int IntKind.i64 a, Value.int IntKind.i64 b] 55)).alloc (Obj.cells #[Value.int IntKind.i64 c, Value.int IntKind.i64 d] 55)).cell? ⟨W.heap.size, 0, none⟩ = some (.int .i64 a) := by go_simp
  have c1 : ((W.alloc (Obj.cells #[Value.int IntKind.i64 a, Value.int IntKind.i64 b] 55)).alloc (Obj.cells #[Value.int IntKind.i64 c, Value.int IntKind.i64 d] 55)).cell? ⟨W.heap.size, 1, none⟩ = some (.int .i64 b) := by go_simp
  have c2 : ((W.alloc (Obj.cells #[Value.int IntKind.i64 a, Value.int IntKind.i64 b] 55)).alloc (Obj.cells #[Value.int IntKind.i64 c, Value.int IntKind.i64 d] 55)).cell? ⟨W.heap.size + 1, 0, none⟩ = some (.int .i64 c) := by go_simp
  have c3 : ((W.alloc (Obj.cells #[Value.int IntKind.i64 a, Value.int IntKind.i64 b] 55)).alloc (Obj.cells #[Value.int IntKind.i64 c, Value.int IntKind.i64 d] 55)).cell? ⟨W.heap.size + 1, 1, none⟩ = some (.int .i64 d) := by go_simp
  obtain ⟨V, hV⟩ : ∃ V, ((W.alloc (Obj.cells #[Value.int IntKind.i64 a, Value.int IntKind.i64 b] 55)).alloc (Obj.cells #[Value.int IntKind.i64 c, Value.int IntKind.i64 d] 55)) = V := ⟨_, rfl⟩
  rw [hV] at c0 c1 c2 c3 ⊢
  have HV := Aside0.mk hV
  clear hV
  refine wp_region_still_tail 10 hm (by kernel_rfl) ?_
  simp only [List.take_succ_cons, List.take_zero, List.drop_succ_cons, List.drop_zero]
  change wpStill _ _ V.drew _ _ _
  have d0 : V.drew.cell? ⟨W.heap.size, 0, none⟩ = some (.int .i64 a) := c0
  have d1 : V.drew.cell? ⟨W.heap.size, 1, none⟩ = some (.int .i64 b) := c1
  have d2 : V.drew.cell? ⟨W.heap.size + 1, 0, none⟩ = some (.int .i64 c) := c2
  have d3 : V.drew.cell? ⟨W.heap.size + 1, 1, none⟩ = some (.int .i64 d) := c3
  have HD : Aside0 (∃ q, V.drew = V.drewN q) := ⟨1, rfl⟩
  clear c0 c1 c2 c3
  generalize V.drew = V2 at d0 d1 d2 d3 HD ⊢
  repeat still_step
  still_call (h1 V2)
  repeat still_step
  still_call (h2 V2)
  refine wpStill_nil ?_
  clear h1 h2 d0 d1 d2 d3
  go_wp2_with (go_at_call 39; refine (HO.out _ _ (by go_simp) (by go_simp)).mono ?_; rintro e w' ⟨rfl, rfl⟩)
  go_ret
  exact ⟨rfl, 1, #[_, _, _], by rw [← HV.out, alloc_eq_grow, alloc_eq_grow, alloc_eq_grow, grow_grow, grow_grow]; rfl⟩

/-! ### the order -/
theorem ltOf_cmpR (x y : (Int × Int)) : ltOf cmpR x y = keyLt x y := by
  unfold ltOf cmpR keyLt cmpI
  by_cases h1 : x.1 < y.1
  · simp [h1]
  · by_cases h2 : y.1 < x.1
    · have h3 : ¬ x.1 = y.1 := by omega
      simp [h1, h2, h3]
    · have h3 : x.1 = y.1 := by omega
      by_cases h4 : x.2 < y.2
      · simp [h3, h4]
      · by_cases h5 : y.2 < x.2 <;> simp [h3, h4, h5]
theorem swoR : SWO (ltOf cmpR) where
  irrefl x := by rw [ltOf_cmpR]; simp [keyLt]
  trans x y z h1 h2 := by rw [ltOf_cmpR] at *; simp [keyLt] at *; omega
  ntrans x y z h1 h2 := by rw [ltOf_cmpR] at *; simp [keyLt] at *; omega
theorem totR (x y : (Int × Int)) (h1 : ltOf cmpR x y = false) (h2 : ltOf cmpR y x = false) : x = y := by
  rw [ltOf_cmpR] at *
  obtain ⟨a, b⟩ := x
  obtain ⟨c, d⟩ := y
  simp [keyLt] at h1 h2
  have e1 : a = c := by omega
  have e2 : b = d := by omega
  subst e1 e2
  rfl

theorem ty_rng : C.T 55 = some ⟨2, 16, [.int .i64, .int .i64], true, .struct [(0, 3), (1, 3)]⟩ := rfl
theorem sortM (l : List (Int × Int)) : (l.mergeSort fun x y => !(ltOf cmpR) y x) = sortP l := by
  rw [sortP_merge]
  congr 1
  funext x y
  rw [ltOf_cmpR]
theorem sortr_ok {args : List AV} {ds : List Dat} (h : gSortR 55 38 args = some ds) : FnR Tryd.prog C 37 args ds := by
  have hio : C.io 37 = true := rfl
  unfold FnR
  rw [hio]
  unfold gSortR at h
  split at h
  case h_2 => cases h
  rename_i e' l g'
  cases hb : Nat.beq e' 55 && (Nat.beq g' 38 && decide (l.length < 4611686018427387904)) with
  | false => rw [hb] at h; cases h
  | true =>
    rw [hb] at h
    obtain rfl := Option.some.inj h
    simp only [Bool.and_eq_true, decide_eq_true_eq] at hb
    obtain ⟨he, hg, hbig⟩ := hb
    obtain rfl := Nat.eq_of_beq_eq_true he
    obtain rfl := Nat.eq_of_beq_eq_true hg
    have hil : (unprs l).length = l.length := by simp [unprs]
    intro e l2 cl hargs
    simp only [List.cons.injEq, AV.shr.injEq] at hargs
    obtain ⟨⟨rfl, rfl⟩, rfl⟩ := hargs
    refine ⟨_, rfl, by simp [prs, sortP_length, hil], fun te w St ad cap hte hcap hmem => ?_⟩
    rcases Nat.eq_zero_or_pos l.length with h0 | hpos
    · obtain rfl : l = [] := List.eq_nil_of_length_eq_zero h0
      refine Calls.mono (AnyF.slices_SortFunc_none Tryd.laySortR ad cap _ w) ?_
      rintro x w' ⟨rfl, rfl⟩
      refine ⟨rfl, rfl, rfl, rfl, Nat.le_refl _, fun _ _ _ => rfl, fun _ b o arr et fz _ hh => ⟨arr, hh, rfl, fun i j hi => ?_⟩⟩
      simp [unprs, sortP, prs] at hi
    · have hc0 : cap ≠ 0 := by omega
      have ht := hte hc0
      rw [ty_rng, Option.some.injEq] at ht
      subst ht
      rcases hmem with h | ⟨b, o, arr, et, fz, rfl, hh, hnf, hsz, hrow⟩
      · exact absurd h hc0
      have hblk := (Array.getElem?_eq_some_iff.1 hh).1
      have hsz' : o + cap * 2 ≤ arr.size := hsz
      have hcell : ∀ t, t < l.length * 2 → arr[o + t]? = some (flatK encR 2 (unprs l).toArray)[t]! := fun t ht => by
        have hi : t / 2 < l.length := by omega
        have hiu : t / 2 < (unprs l).length := by omega
        rw [get_flatK encR 2 (unprs l).toArray t (by simp only [List.size_toArray]; omega)]
        have h2 : (unprs l).toArray[t / 2]! = (unprs l)[t / 2] := by
          rw [getElem!_pos (unprs l).toArray (t / 2) (by simpa using hiu)]
          simp
        have h4 : (unprs l)[t / 2] = (((rd l (t / 2)).C 0).I, ((rd l (t / 2)).C 1).I) := by simp [unprs, Go.Ev.rd, hi]
        rw [h2, h4]
        obtain ⟨u, k1, k2⟩ := hrow (t / 2) (t % 2) hi (by show t % 2 < 2; omega)
        simp only [List.getElem?_drop, Array.getElem?_toList] at k1
        have ei : o + (t / 2 * 2 + t % 2) = o + t := by omega
        rw [ei] at k1
        rw [k1]
        have h3 : t % 2 = 0 ∨ t % 2 = 1 := by omega
        rcases h3 with h3 | h3
        · have k3 := k2 (.int .i64) (by rw [h3]; rfl)
          rw [h3] at k3 ⊢
          cases k3 with
          | int k3 => rw [k3]; rfl
        · have k3 := k2 (.int .i64) (by rw [h3]; rfl)
          rw [h3] at k3 ⊢
          cases k3 with
          | int k3 => rw [k3]; rfl
      have hH : HoldsK encR 2 w b o (unprs l).toArray := by
        intro t ht
        have ht : t < l.length * 2 := by simpa [hil] using ht
        refine ⟨?_, ?_⟩
        · simp only [World.cell?, hh, Option.isSome_none, Bool.false_eq_true, if_false]
          exact hcell t ht
        · simp only [World.frozen?, hh]
          have := hnf.2 (o + t) (by omega)
          simpa using this
      have eg : ∀ args w, (callFunc 38 args).run Tryd.prog w = .ok (.enter 38 args) w := enters_of Tryd.func38 (by kernel_rfl) rfl
      have hcon := AnyQ.slices_SortFunc_total Tryd.laySortR 2 Tryd.isAgg55 Tryd.sizeOf55 encR (fun _ => rfl) (fun x v hv => by simp [encR] at hv; rcases hv with rfl | rfl <;> rfl) cmpR swoR 38 #[] b o cap (unprs l).toArray w eg
        (fun _ _ _ _ x y => closureMake x y _) hH hblk (by simpa [hil] using hbig) totR
      change Calls Tryd.prog 37 _ _ _ at hcon
      rw [List.size_toArray, hil] at hcon
      refine Calls.mono hcon ?_
      rintro x w' ⟨rfl, n, os, hw⟩
      have hw : w' = sortWorldK encR 2 w b o n (sortP (unprs l)).toArray os := by
        rw [← sortM]
        exact hw
      have hheap : ∀ i, i < w.heap.size → w'.heap[i]? = (w.heap.modify b (onCells (putCells id o (flatK encR 2 (sortP (unprs l)).toArray))))[i]? := fun i hi => by
        rw [hw]
        show ((w.heap.modify b _) ++ os)[i]? = _
        rw [Array.getElem?_append_left (by simpa using hi)]
      have hgg : w'.heap[b]? = some (.cells (putCells id o (flatK encR 2 (sortP (unprs l)).toArray) arr) et fz) := by
        rw [hheap b hblk, Array.getElem?_modify, if_pos rfl, hh]
        rfl
      refine ⟨rfl, by rw [hw]; rfl, by rw [hw]; rfl, by rw [hw]; rfl, ?_, fun k hk hne => ?_, fun _ b2 o2 arr2 et2 fz2 hb2 hh2 => ?_⟩
      · rw [hw]
        show w.heap.size ≤ ((w.heap.modify b _) ++ os).size
        simp
      · rw [hheap k hk, Array.getElem?_modify, if_neg (fun e => hne b o rfl hc0 e.symm)]
      · simp only [Option.some.injEq, Addr.mk.injEq, and_true] at hb2
        obtain ⟨rfl, rfl⟩ := hb2
        rw [hh] at hh2
        simp only [Option.some.injEq, Obj.cells.injEq] at hh2
        obtain ⟨rfl, rfl, rfl⟩ := hh2
        refine ⟨_, hgg, by simp [putCells], fun i j hi hj => ?_⟩
        have hil2 : (sortP (unprs l)).length = l.length := by rw [sortP_length, hil]
        have hi : i < (sortP (unprs l)).length := by simpa [prs] using hi
        have hj : j < 2 := hj
        have hcell2 : ((putCells id o (flatK encR 2 (sortP (unprs l)).toArray) arr).toList.drop o)[i * 2 + j]? = some (encR (sortP (unprs l))[i])[j]! := by
          rw [List.getElem?_drop, Array.getElem?_toList]
          unfold putCells
          rw [Array.getElem?_mapIdx, Array.getElem?_eq_getElem (by omega)]
          simp only [Option.map_some]
          rw [if_pos ⟨by omega, by simp; omega⟩, Nat.add_sub_cancel_left]
          rw [get_flatK encR 2 (sortP (unprs l)).toArray (i * 2 + j) (by simp only [List.size_toArray]; omega)]
          have d1 : (i * 2 + j) / 2 = i := by omega
          have d2 : (i * 2 + j) % 2 = j := by omega
          rw [d1, d2, getElem!_pos (sortP (unprs l)).toArray i (by simpa using hi)]
          simp
        refine ⟨_, hcell2, fun ct hct => ?_⟩
        have hrd : rd (prs (sortP (unprs l))) i = .agg [.int (sortP (unprs l))[i].1, .int (sortP (unprs l))[i].2] := by simp [Go.Ev.rd, prs, hi]
        rw [hrd]
        have hj2 : j = 0 ∨ j = 1 := by omega
        rcases hj2 with rfl | rfl
        · simp only [List.getElem?_cons_zero, Option.some.injEq] at hct
          subst hct
          exact .int rfl
        · simp only [List.getElem?_cons_succ, List.getElem?_cons_zero, Option.some.injEq] at hct
          subst hct
          exact .int rfl
end Go.Proofs.YtbhffcogeeeidaaDoor.V
