/- strings.Join as a function that is given. -/
import Derived.Test.YtbhffcogeeeidaaDoorVCa
import Derived.Test.YtbhffcogeeeidaaDoorLayJoin
namespace Go.Proofs.YtbhffcogeeeidaaDoor.V
open Go Go.Ev Go.RowKit Go.Shelf
set_option linter.unusedVariables false
set_option linter.unusedSimpArgs false
set_option maxRecDepth 100000
theorem strs_of {w : World} {St : Nat → Prop} {H : Gh} {l : List Dat} {v : Value} {f : List Nat} (h : RelS C.T w St H v f (.shr 9 l)) : ∃ A c bk o, v = .slice A l.length c ∧ l.length ≤ c ∧ (l ≠ [] → A = some ⟨bk, o, none⟩ ∧ bk < w.heap.size) ∧ ∀ (j : Nat) x, (l.map Dat.S)[j]? = some x → w.cell? ⟨bk, o + j, none⟩ = some (.string x) := by
  obtain ⟨ti, a, cap, b, o, h1, h2, h3, h4, h5⟩ := (show RelD C.T w St (.slice 9) v (.list l) from h.2).row
  have cells : ∀ (j : Nat) x, (l.map Dat.S)[j]? = some x → w.cell? ⟨b, o + j, none⟩ = some (.string x) := fun j x hx => by
    have hj : j < l.length := by
      have := (List.getElem?_eq_some_iff.1 hx).1
      simpa using this
    have hl : (Dat.list l).L ≠ [] := fun e => by have e' : l = [] := e; rw [e'] at hj; simp at hj
    have ht := (h1 hl).1
    rw [show C.T 9 = some ⟨1, 16, [.str], false, .scal⟩ from rfl, Option.some.injEq] at ht
    subst ht
    obtain ⟨u, k1, k2⟩ := h5 j 0 hj (by simp)
    have k3 := k2 .str rfl
    have hx2 : x = (rd l j).S := by
      rw [List.getElem?_map, List.getElem?_eq_getElem hj] at hx
      obtain rfl := Option.some.inj hx
      simp [rd, List.getD_eq_getElem?_getD, hj]
    cases k3 with
    | str k3 =>
      simp only [Nat.mul_one, Nat.add_zero] at k1
      rw [k1, hx2, k3]
      rfl
  refine ⟨a, cap, b, o, h2, h3, fun hn => ?_, cells⟩
  have hl : (Dat.list l).L ≠ [] := fun e => hn e
  refine ⟨(h4 hl).1, ?_⟩
  have hj : 0 < l.length := List.length_pos_iff.2 hn
  exact World.block_lt_of_cell? w _ (cells 0 _ (List.getElem?_eq_getElem (by simpa using hj)))
theorem join_ok {args : List AV} {ds : List Dat} (h : gJoin 9 args = some ds) : FnR Tryd.prog C 23 args ds := by
  refine FnOk.r ?_ (by kernel_rfl)
  unfold gJoin at h
  split at h
  case h_2 => cases h
  rename_i e l sep
  cases hb : Nat.beq e 9 && (decide (l.length ≤ 1000) && decide ((Go.Lib.join (l.map fun d => d.S.data.toList) sep.data.toList).length ≤ 4294967296)) with
  | false => rw [hb] at h; cases h
  | true =>
    rw [hb] at h
    obtain rfl := Option.some.inj h
    simp only [Bool.and_eq_true, decide_eq_true_eq] at hb
    obtain ⟨he, h1, h2⟩ := hb
    obtain rfl := Nat.eq_of_beq_eq_true he
    refine fnOk_of pok (by kernel_rfl) (fun j cs => by match j with | 0 => simp [geti] | 1 => simp [geti] | j + 2 => simp [geti]) fun S us H F hS hi => ?_
    have hlen : us.size = 2 := by have := hi.len; simpa using this.symm
    obtain ⟨u0, u1, rfl⟩ : ∃ u0 u1, us = #[u0, u1] := by
      obtain ⟨us⟩ := us
      match us, hlen with
      | [a, b], _ => exact ⟨a, b, rfl⟩
    obtain ⟨A, c, bk, o, e0, hc, hA, hcells⟩ := strs_of (hi.rel 0 (by simp))
    have e1 : u1 = .string sep := rel_str (hi.rel 1 (by simp))
    have e0' : u0 = .slice A l.length c := e0
    subst e0' e1
    have hm : (l.map Dat.S).map (·.data.toList) = l.map fun d => d.S.data.toList := by rw [List.map_map]; rfl
    cases l with
    | nil =>
      refine Calls.mono (Any.strings_Join_none Tryd.laysJoin Tryd.joinExtra A c sep S.w0) ?_
      rintro e w' ⟨rfl, rfl⟩
      exact ⟨_, rfl, Below.refl _ _, [], fun _ => (none, 0, 0), List.nodup_nil, fun b hb => by (cases hb), fun Hc d _ => ⟨rfl, rfl⟩⟩
    | cons d l =>
      obtain ⟨rfl, hbk⟩ := hA (by simp)
      have := Any.strings_Join Tryd.laysJoin Tryd.joinExtra bk o c ((d :: l).map Dat.S) sep S.w0 hcells hbk (by rw [List.length_map]; omega) (by rw [List.length_map]; exact hc) (by rw [hm]; omega)
      rw [hm, List.length_map] at this
      refine Calls.mono this ?_
      rintro e w' ⟨rfl, hb⟩
      exact ⟨_, rfl, hb, [], fun _ => (none, 0, 0), List.nodup_nil, fun b hb => by (cases hb), fun Hc d _ => ⟨rfl, rfl⟩⟩
end Go.Proofs.YtbhffcogeeeidaaDoor.V
