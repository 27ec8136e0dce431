/- strings.Cut as a function that is given. -/
import Derived.Test.YtlofoifcdmeopaaGreatDoorVCa
import Derived.Test.YtlofoifcdmeopaaGreatDoorLayCut
namespace Go.Proofs.YtlofoifcdmeopaaGreatDoor.V
open Go Go.Ev Go.RowKit Go.Shelf
set_option linter.unusedVariables false
set_option linter.unusedSimpArgs false
set_option maxRecDepth 100000
theorem cut_ok {args : List AV} {ds : List Dat} (h : gCut args = some ds) : FnR Tryz.prog C 280 args ds := by
  refine FnOk.r ?_ (by kernel_rfl)
  unfold gCut at h
  split at h
  case h_2 => cases h
  rename_i s p
  cases hb : decide (s.size < 4294967281) with
  | false => rw [hb] at h; cases h
  | true =>
    rw [hb] at h
    obtain rfl := Option.some.inj h
    have hsz := of_decide_eq_true hb
    refine fnOk_of pok (by kernel_rfl) (fun j cs => by match j with | 0 => simp [geti] | 1 => simp [geti] | j + 2 => simp [geti]) fun S us H F hS hi => ?_
    obtain ⟨_, o, ho, cs, et, fz, m, rfl, hc⟩ := hS.gi (4, intO .i64) (by exact List.mem_cons_self)
    have hm : S.w0.cell? ⟨4, 0, none⟩ = some (.int .i64 m) := by simp [World.cell?, ho, hc]
    have hlen : us.size = 2 := by have := hi.len; simpa using this.symm
    obtain ⟨u0, u1, rfl⟩ : ∃ u0 u1, us = #[u0, u1] := by
      obtain ⟨us⟩ := us
      match us, hlen with
      | [a, b], _ => exact ⟨a, b, rfl⟩
    have e0 : u0 = .string s := rel_str (hi.rel 0 (by simp))
    have e1 : u1 = .string p := rel_str (hi.rel 1 (by simp))
    subst e0 e1
    refine Calls.mono (Any.strings_Cut Tryz.laysCut s p m S.w0 hsz hm) ?_
    rintro e w' ⟨rfl, n, rfl⟩
    exact ⟨_, rfl, (⟨rfl, rfl, rfl, Nat.le_refl _, fun _ _ => rfl⟩ : Below S.w0.heap.size S.w0 (S.w0.drewN n)), [], fun _ => (none, 0, 0), List.nodup_nil, fun b hb => by (cases hb), fun Hc d _ => ⟨_, rfl, [], [], rfl, ⟨rfl, rfl⟩, [], [], rfl, ⟨rfl, rfl⟩, [], [], rfl, ⟨rfl, rfl⟩, rfl⟩⟩
end Go.Proofs.YtlofoifcdmeopaaGreatDoor.V
