/- slices.Sort at whole numbers, by hand over the library's contract: for every row of the call's own, the row holds the same numbers, rising. -/
import Derived.Test.YteploglmfmhppaaPx0
import Derived.Test.YteploglmfmhppaaLaySortI
namespace Go.Proofs.Yteploglmfmhppaa.P
open Go.RowKit Go.Shelf Go.Sort Go.Proofs.YteploglmfmhppaaW.PrintWords Go.Proofs.YteploglmfmhppaaW.PrintLast Go.Proofs.YteploglmfmhppaaW.PrintMore
set_option linter.unusedVariables false
set_option linter.unusedSimpArgs false

/-- Rising. -/
def sortI (l : List Int) : List Int := l.mergeSort fun x y => decide (x ≤ y)
def slices_Sort_int_int.f (l0 : List Int) : Option (List Int) := if l0.length < 4611686018427387904 then some (sortI l0) else none

theorem ints_at {l : List Int} {inner : List Value} {W : World} {base : Nat} {ok : Nat → Prop} (hr : Reps ((Kd.int .i64).M W base ok) 1 l inner) (t : Nat) (ht : t < l.length) : inner[t]? = some (.int .i64 l[t]) := by
  have hel := hr.2 t _ (List.getElem?_eq_getElem ht)
  have he : (inner.drop (t * 1)).take 1 = [.int .i64 l[t]] := hel
  have h1 : ((inner.drop (t * 1)).take 1)[0]? = inner[t]? := by
    rw [List.getElem?_take_of_lt (by omega), List.getElem?_drop, Nat.mul_one, Nat.add_zero]
  rw [← h1, he]
  rfl
theorem ints_mk {l : List Int} {inner : List Value} {W : World} {base : Nat} {ok : Nat → Prop} (hlen : inner.length = l.length) (h : ∀ t (ht : t < l.length), inner[t]? = some (.int .i64 l[t])) : Reps ((Kd.int .i64).M W base ok) 1 l inner := by
  refine ⟨by rw [hlen, Nat.mul_one], fun j p hj => ?_⟩
  obtain ⟨hjl, hp⟩ := List.getElem?_eq_some_iff.1 hj
  have e0 := h j hjl
  have hcs : (inner.drop (j * 1)).take 1 = [.int .i64 p] := by
    apply List.ext_getElem?
    intro i
    match i with
    | 0 => rw [List.getElem?_take_of_lt (by omega), List.getElem?_drop, Nat.mul_one, Nat.add_zero, e0, hp]; rfl
    | i + 1 => rw [List.getElem?_eq_none (by simp; omega), List.getElem?_eq_none (by simp)]
  show (inner.drop (j * 1)).take 1 = [.int .i64 p]
  exact hcs

theorem holds_of_RI {w : World} {base : Nat} {ok : Nat → Prop} {g cap : Nat} {l : List Int} (h : Kd.R (Kd.int .i64) 3 w base ok (.slice (some ⟨g, 0, none⟩) l.length cap) l) : Holds (Value.int .i64) w g 0 l.toArray := by
  obtain ⟨_, inner, ho, hr⟩ := h
  rcases ho.2 with ⟨h0, h1⟩ | ⟨g', cap', cur, hv, hb, hh, hc, hm, hs, ht⟩
  · cases h0
  · injection hv with e1 e2 e3
    injection e1 with e1
    injection e1 with e1
    subst e1 e3
    intro t ht'
    have ht2 : t < l.length := by simpa using ht'
    have hf := ints_at hr t ht2
    have hcur : cur.toList[t]? = inner[t]? := by rw [← ht]; exact (List.getElem?_take_of_lt (by rw [show (Kd.int .i64).sz = 1 from rfl]; omega)).symm
    refine ⟨?_, blk_frozen hh _⟩
    rw [Nat.zero_add, blk_cell hh t, ← Array.getElem?_toList, hcur, hf, getElem!_pos l.toArray t ht']
    simp

theorem R_of_sortedI {w : World} {base : Nat} {ok ok' : Nat → Prop} {g cap n : Nat} {l l' : List Int} {os : Array Obj} {W : World} (hW : W = grow (putRow (Value.int .i64) (Sort.ahead w n) g 0 l'.toArray) os) (h : Kd.R (Kd.int .i64) 3 w base ok (.slice (some ⟨g, 0, none⟩) l.length cap) l) (hl : l'.length = l.length) (hok : ∀ k, ok k → ok' k) :
    Kd.R (Kd.int .i64) 3 W base ok' (.slice (some ⟨g, 0, none⟩) l.length cap) l' ∧ (∀ i, i < w.heap.size → i ≠ g → W.heap[i]? = w.heap[i]?) ∧ w.heap.size ≤ W.heap.size := by
  obtain ⟨h0, inner, ho, hr⟩ := h
  rcases ho.2 with ⟨h1, _⟩ | ⟨g', cap', cur, hv, hb, hh, hc, hm, hs, ht⟩
  · cases h1
  · injection hv with e1 e2 e3
    injection e1 with e1
    injection e1 with e1
    subst e1 e3
    have hg : g < w.heap.size := (Array.getElem?_eq_some_iff.1 hh).1
    have hheap : ∀ i, i < w.heap.size → W.heap[i]? = (w.heap.modify g (onCells (putCells (Value.int .i64) 0 l'.toArray)))[i]? := by
      intro i hi
      rw [hW]
      show ((w.heap.modify g (onCells (putCells (Value.int .i64) 0 l'.toArray))) ++ os)[i]? = _
      rw [Array.getElem?_append_left (by simpa using hi)]
    have hgg : W.heap[g]? = some (.cells (putCells (Value.int .i64) 0 l'.toArray cur) 3 (0, 0)) := by
      rw [hheap g hg, Array.getElem?_modify, if_pos rfl, hh]
      rfl
    have hcs : cur.size = cap := by rw [hs]; exact Nat.mul_one cap
    have hat : ∀ t (ht : t < l'.length), ((putCells (Value.int .i64) 0 l'.toArray cur).toList.take l'.length)[t]? = some (.int .i64 l'[t]) := by
      intro t ht'
      rw [List.getElem?_take_of_lt ht', Array.getElem?_toList]
      unfold putCells
      rw [Array.getElem?_mapIdx, Array.getElem?_eq_getElem (by omega)]
      simp only [Option.map_some]
      rw [if_pos ⟨Nat.zero_le _, by simp; omega⟩, Nat.sub_zero, getElem!_pos l'.toArray t (by simpa using ht')]
      simp
    have hlen : ((putCells (Value.int .i64) 0 l'.toArray cur).toList.take l'.length).length = l'.length := by
      rw [List.length_take]
      have : (putCells (Value.int .i64) 0 l'.toArray cur).toList.length = cur.size := by simp [putCells]
      omega
    have hown : W.ownsRow base 3 1 (.slice (some ⟨g, 0, none⟩) l'.length cap) l'.length ((putCells (Value.int .i64) 0 l'.toArray cur).toList.take l'.length) :=
      ⟨by rw [hlen, Nat.mul_one], .inr ⟨g, cap, _, rfl, hb, hgg, by omega, hm, by simp [putCells, hcs], by rw [Nat.mul_one]⟩⟩
    rw [← hl]
    refine ⟨⟨fun k hk => hok k (h0 k hk), _, hown, ints_mk hlen hat⟩, ?_, ?_⟩
    · intro i hi hne
      rw [hheap i hi, Array.getElem?_modify, if_neg (Ne.symm hne)]
    · rw [hW]
      show w.heap.size ≤ ((w.heap.modify g _) ++ os).size
      simp

theorem sortI_length (l : List Int) : (sortI l).length = l.length := List.length_mergeSort _

set_option maxHeartbeats 1000000 in
theorem slices_Sort_int_int.calls (P0_ : Nat → Prop) (u9000_ : Value) (l0 : List Int) (r : List Int) (w0 w : World) (hB : Below w0.heap.size w0 w) (ho0 : Kd.R (Kd.int .i64) 3 w w0.heap.size P0_ u9000_ l0) (h : slices_Sort_int_int.f l0 = some r) :
    Calls Try.prog 49 #[u9000_] w fun e w' => e = .returned (.tuple #[]) ∧ Kd.R (Kd.int .i64) 3 w' w0.heap.size (fun k_ => (P0_ k_ ∨ w.heap.size ≤ k_)) u9000_ r ∧ Below w0.heap.size w0 w' ∧ Kept w w' (fun k_ => P0_ k_) := by
  unfold slices_Sort_int_int.f at h
  split at h
  case isFalse => exact absurd h (by simp)
  case isTrue hbig =>
  obtain rfl : sortI l0 = r := Option.some.inj h
  clear h
  rcases Nat.eq_zero_or_pos l0.length with hl | hl
  · obtain rfl : l0 = [] := List.eq_nil_of_length_eq_zero hl
    obtain ⟨A, c, rfl⟩ := Kd.R_slice ho0
    refine (Any.slices_Sort_int_none Try.laySortI A c w).mono ?_
    rintro e w' ⟨rfl, rfl⟩
    refine ⟨rfl, ?_, hB, Kept.refl _ _⟩
    have hs : sortI ([] : List Int) = [] := by simp [sortI]
    rw [hs]
    exact Kd.R_mono ho0 (fun _ hk => .inl hk)
  · obtain ⟨g, cap, rfl, hgb, hgl, cells, hgc⟩ := Kd.R_form ho0 hl
    have hcon := Any.slices_Sort_int Try.laySortI g 0 cap l0 w (holds_of_RI ho0) hgl hbig
    change Calls Try.prog 49 _ _ _ at hcon
    refine hcon.mono ?_
    rintro e w' ⟨rfl, n, os, hw⟩
    have hw' : w' = grow (putRow (Value.int .i64) (Sort.ahead w n) g 0 (sortI l0).toArray) os := hw
    obtain ⟨h1, h2, h3⟩ := R_of_sortedI (ok' := fun k_ => (P0_ k_ ∨ w.heap.size ≤ k_)) hw' ho0 (sortI_length l0) (fun _ hk => .inl hk)
    refine ⟨rfl, h1, ⟨?_, ?_, ?_, Nat.le_trans hB.size h3, fun i hi => ?_⟩, h3, fun i hi hn => ?_⟩
    · rw [hw']; exact hB.os
    · rw [hw']; exact hB.tape
    · rw [hw']; exact hB.output
    · rw [h2 i (Nat.lt_of_lt_of_le hi hB.size) (by omega)]; exact hB.block i hi
    · exact h2 i hi (fun e => hn (by rw [e]; exact ho0.1 g rfl))
end Go.Proofs.Yteploglmfmhppaa.P
