/- strconv.Itoa as a function that is given. -/
import Derived.Test.YtbhffcogeeeidaaDoorVCa
import Derived.Test.YtbhffcogeeeidaaDoorLayItoa
namespace Go.Proofs.YtbhffcogeeeidaaDoor.V
open Go Go.Ev Go.RowKit Go.Shelf
set_option linter.unusedVariables false
set_option linter.unusedSimpArgs false
set_option maxRecDepth 100000
theorem below_grow {w : World} (k : Nat) (os : Array Obj) : Below w.heap.size w (Go.Sort.grow (w.drewN k) os) := by
  refine ⟨rfl, rfl, rfl, ?_, fun b hb => ?_⟩
  · show w.heap.size ≤ (w.heap ++ os).size
    simp
  · show (w.heap ++ os)[b]? = w.heap[b]?
    rw [Array.getElem?_append, if_pos hb]
theorem itoa_ok {args : List AV} {ds : List Dat} (h : gItoa args = some ds) : FnR Tryd.prog C 22 args ds := by
  refine FnOk.r ?_ (by kernel_rfl)
  unfold gItoa at h
  split at h
  case h_2 => cases h
  rename_i n
  cases hb : decide (-9223372036854775808 ≤ n) && decide (n ≤ 9223372036854775807) with
  | false => rw [hb] at h; cases h
  | true =>
    rw [hb] at h
    obtain rfl := Option.some.inj h
    rw [Bool.and_eq_true, decide_eq_true_eq, decide_eq_true_eq] at hb
    refine fnOk_of pok (by kernel_rfl) (fun j cs => by match j with | 0 => simp [geti] | j + 1 => simp [geti]) fun S us H F hS hi => ?_
    obtain ⟨_, o, ho, t, f, rfl⟩ := hS.gi (0, tabO pow10A) (by exact List.mem_cons_self)
    have htab : Lib.TabIs Tryd.prog S.w0 "internal/strconv.uint64pow10" .u64 Lib.pow10Tab := by
      unfold Lib.TabIs World.var?
      rw [show Tryd.prog.globalNamed "internal/strconv.uint64pow10" = some 0 by kernel_rfl]
      simp only [Option.bind_some, ho]
      rfl
    have hlen : us.size = 1 := by have := hi.len; simpa using this.symm
    obtain ⟨u0, rfl⟩ : ∃ u0, us = #[u0] := by
      obtain ⟨us⟩ := us
      match us, hlen with
      | [a], _ => exact ⟨a, rfl⟩
    have e0 : u0 = .int .i64 n := rel_int (hi.rel 0 (by simp))
    subst e0
    refine Calls.mono (Any.strconv_Itoa Tryd.laysItoa n hb.1 hb.2 S.w0 htab) ?_
    rintro e w' ⟨rfl, k, os, rfl⟩
    exact ⟨_, rfl, below_grow k os, [], fun _ => (none, 0, 0), List.nodup_nil, fun b hb => by (cases hb), fun Hc d _ => ⟨rfl, rfl⟩⟩
end Go.Proofs.YtbhffcogeeeidaaDoor.V
