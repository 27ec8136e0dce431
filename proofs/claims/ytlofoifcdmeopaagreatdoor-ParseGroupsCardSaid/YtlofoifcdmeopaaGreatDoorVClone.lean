/- slices.Clone of ranges as a function that is given. -/
import Derived.Test.YtlofoifcdmeopaaGreatDoorVCa
import Derived.WalkKit
import Derived.OwnWalk
import Derived.Laws.AppendOwn
import Derived.Lib.SliceRun
namespace Go.Proofs.YtlofoifcdmeopaaGreatDoor.V
open Go Go.Ev Go.RowKit Go.Shelf
set_option linter.unusedVariables false
set_option linter.unusedSimpArgs false
set_option maxRecDepth 100000
theorem infoClone : (Tryz.prog.info? 82).map (fun i => (i.zero, i.size, i.bytes)) = some (some (.agg #[.int .i64 0, .int .i64 0]), 2, 16) := by kernel_rfl
theorem infoC : ∃ i, Tryz.prog.info? 82 = some i ∧ i.zero = some (.agg #[.int .i64 0, .int .i64 0]) ∧ i.size = 2 ∧ i.bytes = 16 := by
  have h := infoClone
  cases hi : Tryz.prog.info? 82 with
  | none => rw [hi] at h; cases h
  | some i =>
    rw [hi] at h
    simp only [Option.map_some, Option.some.injEq, Prod.mk.injEq] at h
    exact ⟨i, rfl, h.1, h.2.1, h.2.2⟩
theorem clone_ok {args : List AV} {ds : List Dat} (h : gClone 82 args = some ds) : FnR Tryz.prog C 250 args ds := by
  refine FnOk.r ?_ (by kernel_rfl)
  have tyR : C.T 82 = some ⟨2, 16, [.int .i64, .int .i64], true, .struct [(0, 3), (1, 3)]⟩ := by kernel_rfl
  unfold gClone at h
  split at h
  case h_2 => cases h
  rename_i e' l
  cases hb : Nat.beq e' 82 && decide (l.length < 8796093022208) with
  | false => rw [hb] at h; cases h
  | true =>
    rw [hb] at h
    obtain rfl := Option.some.inj h
    simp only [Bool.and_eq_true, decide_eq_true_eq] at hb
    obtain ⟨he, hlim⟩ := hb
    obtain rfl := Nat.eq_of_beq_eq_true he
    refine fnOk_of pok (by kernel_rfl) (fun j cs => by cases j <;> simp [geti]) fun S us H F hS hi => ?_
    have hlen : us.size = 1 := by have := hi.len; simpa using this.symm
    obtain ⟨u, rfl⟩ : ∃ u, us = #[u] := by
      obtain ⟨us⟩ := us
      match us, hlen with
      | [u], _ => exact ⟨u, rfl⟩
    have hr := hi.rel 0 (by simp)
    obtain ⟨ti, a, cap, b, o, h1, h2, h3, h4, h5⟩ := (show RelD C.T S.w0 S.St0 (.slice 82) u (.list l) from hr.2).row
    have h2 : u = .slice a l.length cap := h2
    have h3 : l.length ≤ cap := h3
    subst h2
    have hkr : C.rk 250 = [.own 82] := by kernel_rfl
    rw [hkr]
    have hun := Tryz.underlying35
    have fin : ∀ v w', w'.ownsRow S.w0.heap.size 82 2 v l.length (flat2 l) → Below S.w0.heap.size S.w0 w' → ∃ v', Ending.returned v = Ending.returned v' ∧ Below S.w0.heap.size S.w0 w' ∧
        ∃ (fR : List Nat) (G : Nat → Option Addr × Nat × Nat), fR.Nodup ∧ (∀ b, b ∈ fR → S.w0.heap.size ≤ b ∧ b < w'.heap.size) ∧ ∀ (Hc : Gh) (d : Nat), (∀ i, Hc.hd0 d i = G i) → RelS C.T w' S.St0 Hc v' fR (resV d [.own 82] [.list l]) := fun v w' hown hbel => by
      obtain ⟨fR, G, k1, k2, k3⟩ := own_row2 tyR rfl rfl rfl hown
      exact ⟨v, rfl, hbel, fR, G, k1, k2, fun Hc d hG => k3 _ Hc d hG⟩
    cases a with
    | none =>
      have h0 : l = [] := Classical.byContradiction fun hn => by
        have := (h4 hn).1
        cases this
      subst h0
      have heq := fun (W : World) => Lib.run_eql_slice_nil (P := Tryz.prog) W 35 82 none 0 cap 0 0 hun
      generalize S.w0 = w at *
      clear hr h1 h3 h4 h5 hS hi
      go_enter Tryz.func250, Tryz.ntmps250
      go_wp2
      go_ret
      exact fin _ _ ⟨rfl, .inl ⟨rfl, rfl⟩⟩ (Below.refl _ _)
    | some ad =>
      have heq := fun (W : World) => Lib.run_eql_slice_nil (P := Tryz.prog) W 35 82 (some ad) l.length cap 0 0 hun
      have hcell : ∀ j u, (flat2 l)[j]? = some u → S.w0.cell? (ad.add j) = some u := fun j u hj => by
        obtain ⟨hj1, rfl⟩ := flat2_cell hj
        have hn : l ≠ [] := fun e => by rw [e] at hj1; simp at hj1
        have hh := (h4 hn).1
        have ht := (h1 hn).1
        rw [tyR, Option.some.injEq] at ht
        subst ht
        obtain rfl : ad = ⟨b, o, none⟩ := Option.some.inj hh
        obtain ⟨v, k1, k2⟩ := h5 (j / 2) (j % 2) (by show j / 2 < l.length; omega) (by show j % 2 < 2; omega)
        have k3 : v = .int .i64 ((rd l (j / 2)).C (j % 2)).I := by
          have h3 : j % 2 = 0 ∨ j % 2 = 1 := by omega
          rcases h3 with h3 | h3
          · have k3 := k2 (.int .i64) (by rw [h3]; rfl)
            rw [h3] at k3 ⊢
            cases k3 with
            | int k3 => rw [k3]; rfl
          · have k3 := k2 (.int .i64) (by rw [h3]; rfl)
            rw [h3] at k3 ⊢
            cases k3 with
            | int k3 => rw [k3]; rfl
        rw [k3] at k1
        have e : o + j / 2 * 2 + j % 2 = o + j := by omega
        have e2 : (⟨b, o, none⟩ : Addr).add j = ⟨b, o + j, none⟩ := by simp [Addr.add]
        rw [e2, ← e]
        exact k1
      have one : ∀ u ∈ flat2 l, u.oneCell' = true := fun u hu => by
        obtain ⟨j, hj⟩ := List.getElem?_of_mem hu
        obtain ⟨_, rfl⟩ := flat2_cell hj
        rfl
      have HF := Aside0.mk fin
      have HC := Aside0.mk hcell
      have HO := Aside0.mk one
      have HL := Aside0.mk hlim
      have HU := Aside0.mk hun
      generalize S.w0 = w at *
      clear hr h1 h3 h4 h5 hS hi fin hcell one hlim hun
      have HCA : Aside0 (∀ j u, (flat2 l)[j]? = some u → (w.alloc (Obj.cells #[] 82)).cell? (ad.add j) = some u) := ⟨fun j u hj => by
        have h0 := HC.out j u hj
        rw [((Below.refl w.heap.size w).alloc (Nat.le_refl _) _).cell (World.block_lt_of_cell? w _ h0)]
        exact h0⟩
      have HB := Aside0.mk ((Below.refl w.heap.size w).alloc (Nat.le_refl _) (Obj.cells #[] 82))
      have HN : Aside0 ((w.alloc (.cells #[] 82)).ownsRow w.heap.size 82 2 (.slice (some ⟨w.heap.size, 0, none⟩) 0 0) 0 []) := ⟨World.ownsRow_lit (base := w.heap.size) (e := 82) (size := 2) w #[] 0 (Nat.le_refl _) (by simp [maxLen]) (by simp)⟩
      go_enter Tryz.func250, Tryz.ntmps250
      obtain ⟨ti, i1, i2, i3, i4⟩ := infoC
      have HI := Aside0.mk i1
      clear i1
      go_wp2_with (at_builtin; refine wpList_append_own _ rfl _ _ 35 rfl w.heap.size 82 ti (.agg #[.int .i64 0, .int .i64 0]) 2 16 HU.out HI.out i2 i3 i4 rfl (by decide) _ 0 [] rfl ?hown ad l.length cap (flat2 l) rfl (flat2_len l) ?hnews HO.out ?h63 ?hbytes ?hbase ?_; (case hown => exact HN.out); (case hnews => exact HCA.out); (case h63 => have := HL.out; simp only [maxLen]; omega); (case hbytes => have := HL.out; omega); (case hbase => simp); intro v1 w1 ho hg hat; have HO1 := Aside0.mk ho; have HG1 := Aside0.mk hg; clear ho hg hat)
      go_ret
      exact HF.out _ _ (by have := HO1.out; rwa [Nat.zero_add, List.nil_append] at this) (HB.out.grown HG1.out (by simp) (fun k hk => by
        have hk2 : some w.heap.size = some k := hk
        have := Option.some.inj hk2
        omega))
end Go.Proofs.YtlofoifcdmeopaaGreatDoor.V
