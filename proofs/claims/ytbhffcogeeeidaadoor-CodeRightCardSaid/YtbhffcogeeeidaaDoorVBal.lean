/- (clew/code.Program).balanced as a function that is given. -/
import Derived.Test.YtbhffcogeeeidaaDoorVBb
import Derived.Test.YtbhffcogeeeidaaDoorVCa
namespace Go.Proofs.YtbhffcogeeeidaaDoor.V
open Go Go.Ev Go.RowKit Go.Shelf
set_option linter.unusedVariables false
set_option linter.unusedSimpArgs false
set_option maxRecDepth 100000
theorem insAt_of {w : World} {St : Nat → Prop} {H : Gh} {l : List Dat} {v : Value} {f : List Nat} (h : RelC C.T w St H v f (.shr 37 l)) : ∃ A c bk o, v = .slice A l.length c ∧ (l ≠ [] → A = some ⟨bk, o, none⟩) ∧ ∀ (a : Nat) i, (l.map insOf)[a]? = some i → V0.InsAt w bk o a i := by
  obtain ⟨ti, a, cap, b, o, h1, h2, h3, h4, h5⟩ := (show RelD C.T w St (.slice 37) v (.list l) from h.2).row
  refine ⟨a, cap, b, o, h2, fun hn => (h4 hn).1, fun j i hx => ?_⟩
  have hj : j < l.length := by
    have := (List.getElem?_eq_some_iff.1 hx).1
    simpa using this
  have hl : (Dat.list l).L ≠ [] := fun e => by have e' : l = [] := e; rw [e'] at hj; simp at hj
  have ht := (h1 hl).1
  rw [show C.T 37 = some ⟨6, 48, [.int .i64, .int .i64, .int .i64, .int .i64, .int .i64, .int .i64], true, .struct [(0, 3), (1, 3), (2, 3), (3, 3), (4, 3), (5, 3)]⟩ from rfl, Option.some.injEq] at ht
  subst ht
  have hi : i = insOf (rd l j) := by
    rw [List.getElem?_map, List.getElem?_eq_getElem hj] at hx
    obtain rfl := Option.some.inj hx
    simp [rd, List.getD_eq_getElem?_getD, hj]
  subst hi
  have cell : ∀ q, q < 6 → w.cell? ⟨b, o + j * 6 + q, none⟩ = some (.int .i64 ((rd l j).C q).I) := fun q hq => by
    obtain ⟨u, k1, k2⟩ := h5 j q hj hq
    have k3 := k2 (.int .i64) (by match q, hq with | 0, _ => rfl | 1, _ => rfl | 2, _ => rfl | 3, _ => rfl | 4, _ => rfl | 5, _ => rfl)
    cases k3 with
    | int k3 => rw [k3] at k1; exact k1
  exact ⟨cell 0 (by decide), cell 1 (by decide), cell 2 (by decide), cell 3 (by decide), cell 4 (by decide), cell 5 (by decide)⟩
theorem bal_ok {args : List AV} {ds : List Dat} (h : gBal 37 44 47 args = some ds) : FnR Tryd.prog C 17 args ds := by
  refine FnOk.r ?_ (by kernel_rfl)
  unfold gBal at h
  split at h
  case h_2 => cases h
  rename_i a is b ss c lo g
  cases hb : Nat.beq a 37 && (Nat.beq b 44 && (Nat.beq c 47 && (decide (is.length ≤ 4294967296) && ldsIn (is.map insOf)))) with
  | false => rw [hb] at h; cases h
  | true =>
    rw [hb] at h
    simp only [Bool.and_eq_true, decide_eq_true_eq] at hb
    obtain ⟨h1, h2, h3, h4, h5⟩ := hb
    obtain rfl := Nat.eq_of_beq_eq_true h1
    obtain rfl := Nat.eq_of_beq_eq_true h2
    obtain rfl := Nat.eq_of_beq_eq_true h3
    have h : (balB (is.map insOf)).map (fun r => [Dat.bool r]) = some ds := h
    cases hr : balB (is.map insOf) with
    | none => rw [hr] at h; cases h
    | some r =>
    rw [hr] at h
    obtain rfl := Option.some.inj h
    refine fnOk_of pok (by kernel_rfl) (fun j cs => by match j with | 0 => simp [geti] | j + 1 => simp [geti]) fun S us H F hS hi => ?_
    have hlen : us.size = 1 := by have := hi.len; simpa using this.symm
    obtain ⟨u0, rfl⟩ : ∃ u0, us = #[u0] := by
      obtain ⟨us⟩ := us
      match us, hlen with
      | [a], _ => exact ⟨a, rfl⟩
    obtain ⟨⟨vs⟩, hv, hc⟩ := (show RelS C.T S.w0 S.St0 H u0 (F 0) (.agg _) from hi.rel 0 (by simp))
    have hv : u0 = .agg ⟨vs⟩ := hv
    subst hv
    match vs, hc with
    | [v0, v1, v2, v3], hc =>
    obtain ⟨f1, f2, _, r0, f3, f4, _, r1, f5, f6, _, r2, f7, f8, _, r3, _⟩ := hc
    have e3 : v3 = .int .i64 g := r3.2
    subst e3
    obtain ⟨A, cap, bk, o, e0, hA, hcells⟩ := insAt_of r0
    subst e0
    have := V0.bal_calls (is.map insOf) r A cap bk o v1 v2 g S.w0 (fun q => hA (fun e => q (by rw [e]; rfl))) hcells h5 (by rw [List.length_map]; exact h4) hr
    rw [List.length_map] at this
    refine Calls.mono this ?_
    rintro e w' ⟨rfl, hb⟩
    exact ⟨_, rfl, hb, [], fun _ => (none, 0, 0), List.nodup_nil, fun b hb => by (cases hb), fun Hc d _ => ⟨rfl, rfl⟩⟩
end Go.Proofs.YtbhffcogeeeidaaDoor.V
