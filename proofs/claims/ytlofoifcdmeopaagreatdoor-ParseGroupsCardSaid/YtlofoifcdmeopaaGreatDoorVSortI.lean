/- slices.Sort of whole numbers as a function that is given. -/
import Derived.Test.YtlofoifcdmeopaaGreatDoorVCa
import Derived.Test.YtlofoifcdmeopaaGreatDoorLaySortI
import Derived.Shelf.Sort.Plain
import Derived.Shelf.Slices.In.SortNone
import Derived.Test.YtlofoifcdmeopaaGreatDoorEc
namespace Go.Proofs.YtlofoifcdmeopaaGreatDoor.V
open Go Go.Ev Go.RowKit Go.Shelf
set_option linter.unusedVariables false
set_option linter.unusedSimpArgs false
set_option maxRecDepth 100000
theorem ty_i64 : C.T 3 = some ⟨1, 8, [.int .i64], false, .scal⟩ := rfl
theorem sort_ok {args : List AV} {ds : List Dat} (h : gSortI 3 args = some ds) : FnR Tryz.prog C 273 args ds := by
  have hio : C.io 273 = true := by kernel_rfl
  unfold FnR
  rw [hio]
  unfold gSortI at h
  split at h
  case h_2 => cases h
  rename_i e' l
  cases hb : Nat.beq e' 3 && decide (l.length < 4611686018427387904) with
  | false => rw [hb] at h; cases h
  | true =>
    rw [hb] at h
    obtain rfl := Option.some.inj h
    simp only [Bool.and_eq_true, decide_eq_true_eq] at hb
    obtain ⟨he, hbig⟩ := hb
    obtain rfl := Nat.eq_of_beq_eq_true he
    have hil : (ints l).length = l.length := by simp [ints]
    intro e l2 cl hargs
    simp only [List.cons.injEq, AV.shr.injEq] at hargs
    obtain ⟨⟨rfl, rfl⟩, rfl⟩ := hargs
    refine ⟨_, rfl, by rw [List.length_map, sortI_length, hil], fun te w St ad cap hte hcap hmem => ?_⟩
    rcases Nat.eq_zero_or_pos l.length with h0 | hpos
    · obtain rfl : l = [] := List.eq_nil_of_length_eq_zero h0
      refine Calls.mono (Any.slices_Sort_int_none Tryz.laySortI ad cap w) ?_
      rintro x w' ⟨rfl, rfl⟩
      refine ⟨rfl, rfl, rfl, rfl, Nat.le_refl _, fun _ _ _ => rfl, fun _ b o arr et fz _ hh => ⟨arr, hh, rfl, fun i j hi => ?_⟩⟩
      simp [ints, sortI] at hi
    · have hc0 : cap ≠ 0 := by omega
      have ht := hte hc0
      rw [ty_i64, Option.some.injEq] at ht
      subst ht
      rcases hmem with h | ⟨b, o, arr, et, fz, rfl, hh, hnf, hsz, hrow⟩
      · exact absurd h hc0
      have hcell : ∀ j, j < l.length → arr[o + j]? = some (.int .i64 ((ints l).getD j 0)) := fun j hj => by
        obtain ⟨u, k1, k2⟩ := hrow j 0 hj (by simp)
        have k3 := k2 (.int .i64) rfl
        cases k3 with
        | int k3 =>
          simp only [Nat.mul_one, Nat.add_zero, List.getElem?_drop, Array.getElem?_toList] at k1
          rw [k1, k3]
          have : (cellOf ⟨1, 8, [.int .i64], false, .scal⟩ (rd l j) 0).I = (ints l).getD j 0 := by simp [cellOf, ints, rd, List.getD_eq_getElem?_getD, hj]
          rw [this]
      have hblk := (Array.getElem?_eq_some_iff.1 hh).1
      have hsz' : o + cap ≤ arr.size := by simpa using hsz
      have hH : Go.Sort.Holds (Value.int .i64) w b o (ints l).toArray := by
        intro j hj
        have hj : j < l.length := by simpa [hil] using hj
        refine ⟨?_, ?_⟩
        · simp only [World.cell?, hh, Option.isSome_none, Bool.false_eq_true, if_false]
          rw [hcell j hj, getElem!_pos (ints l).toArray j (by simpa [hil] using hj)]
          simp [List.getD_eq_getElem?_getD, hil, hj]
        · simp only [World.frozen?, hh]
          have := hnf.2 (o + j) (by omega)
          simpa using this
      have hcon := Any.slices_Sort_int Tryz.laySortI b o cap (ints l) w hH hblk (by rw [hil]; exact hbig)
      rw [hil] at hcon
      refine Calls.mono hcon ?_
      rintro x w' ⟨rfl, n, os, hw⟩
      rw [← sortI_merge] at hw
      have hheap : ∀ i, i < w.heap.size → w'.heap[i]? = (w.heap.modify b (Go.Sort.onCells (Go.Sort.putCells (Value.int .i64) o (sortI (ints l)).toArray)))[i]? := fun i hi => by
        rw [hw]
        show ((w.heap.modify b _) ++ os)[i]? = _
        rw [Array.getElem?_append_left (by simpa using hi)]
      have hgg : w'.heap[b]? = some (.cells (Go.Sort.putCells (Value.int .i64) o (sortI (ints l)).toArray arr) et fz) := by
        rw [hheap b hblk, Array.getElem?_modify, if_pos rfl, hh]
        rfl
      refine ⟨rfl, by rw [hw]; rfl, by rw [hw]; rfl, by rw [hw]; rfl, ?_, fun k hk hne => ?_, fun _ b2 o2 arr2 et2 fz2 hb2 hh2 => ?_⟩
      · rw [hw]
        show w.heap.size ≤ ((w.heap.modify b _) ++ os).size
        simp
      · rw [hheap k hk, Array.getElem?_modify, if_neg (fun e => hne b o rfl hc0 e.symm)]
      · simp only [Option.some.injEq, Addr.mk.injEq, and_true] at hb2
        obtain ⟨rfl, rfl⟩ := hb2
        rw [hh] at hh2
        simp only [Option.some.injEq, Obj.cells.injEq] at hh2
        obtain ⟨rfl, rfl, rfl⟩ := hh2
        refine ⟨_, hgg, by simp [Go.Sort.putCells], fun i j hi hj => ?_⟩
        have hj0 : j = 0 := by simp at hj; omega
        subst hj0
        have hi : i < (sortI (ints l)).length := by simpa using hi
        have hil2 : (sortI (ints l)).length = l.length := by rw [sortI_length, hil]
        refine ⟨.int .i64 (sortI (ints l))[i], ?_, fun ct hct => ?_⟩
        · simp only [Nat.mul_one, Nat.add_zero, List.getElem?_drop, Array.getElem?_toList]
          unfold Go.Sort.putCells
          rw [Array.getElem?_mapIdx, Array.getElem?_eq_getElem (by omega)]
          simp only [Option.map_some]
          rw [if_pos ⟨by omega, by simp; omega⟩, Nat.add_sub_cancel_left, getElem!_pos (sortI (ints l)).toArray i (by simpa using hi)]
          simp
        · simp only [List.getElem?_cons_zero, Option.some.injEq] at hct
          subst hct
          refine .int ?_
          have : (cellOf ⟨1, 8, [.int .i64], false, .scal⟩ (rd ((sortI (ints l)).map Dat.int) i) 0).I = (sortI (ints l))[i] := by simp [cellOf, rdI, List.getD_eq_getElem?_getD, hi]
          rw [this]
end Go.Proofs.YtlofoifcdmeopaaGreatDoor.V
