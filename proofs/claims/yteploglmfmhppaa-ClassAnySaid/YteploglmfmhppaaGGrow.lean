/- slices.Grow of the nil list of ranges, by hand: for every number that is not below zero and not too large, the call hands back a row of its own, of no element; nothing that was there is turned. -/
import Derived.Test.YteploglmfmhppaaPx0
namespace Go.Proofs.Yteploglmfmhppaa.P
open Go.RowKit Go.Proofs.YteploglmfmhppaaW.PrintWords Go.Proofs.YteploglmfmhppaaW.PrintLast Go.Proofs.YteploglmfmhppaaW.PrintMore
set_option linter.unusedVariables false
set_option linter.unusedSimpArgs false

def slices_Grow_rset_Range_rset_Range.f (a1 : Int) : Option (List S42) := if 0 ≤ a1 ∧ a1 < 8796093022208 then some [] else none
theorem infoGrow : (Try.prog.info? 42).map (fun i => (i.zero, i.size, i.bytes)) = some (some (.agg #[.int .i64 0, .int .i64 0]), 2, 16) := by kernel_rfl

theorem own_cut0 {w : World} {base : Nat} {v : Value} {n cap : Nat} {A : Option Addr} {l : List S42} {e : TypeId} (h : Kd.R k42 e w base (fun _ => True) v l) (hv : v = .slice A n cap) (hn : 0 < l.length) : Kd.R k42 e w base (fun _ => True) (.slice A 0 cap) [] := by
  subst hv
  obtain ⟨_, inner, ⟨hl, ho⟩, hr⟩ := h
  refine ⟨fun _ _ => trivial, [], ⟨by simp, ?_⟩, ⟨by simp, fun j p hj => by simp at hj⟩⟩
  rcases ho with ⟨_, h0⟩ | ⟨g, cap', cur, hv, hb, hh, hc, hm, hs, _⟩
  · omega
  · injection hv with h1 h2 h3
    subst h1 h3
    exact .inr ⟨g, cap, cur, rfl, hb, hh, Nat.zero_le _, hm, hs, by simp⟩

set_option maxHeartbeats 2000000 in
theorem slices_Grow_rset_Range_rset_Range.calls (a1 : Int) (r : List S42) (w : World) (h : slices_Grow_rset_Range_rset_Range.f a1 = some r) :
    Calls Try.prog 73 #[.slice none 0 0, .int .i64 a1] w fun e w' => ∃ v0_ : Value, e = .returned (v0_) ∧ Kd.R k42 42 w' w.heap.size (fun _ => True) v0_ r ∧ Below w.heap.size w w' := by
  unfold slices_Grow_rset_Range_rset_Range.f at h
  split at h
  case isFalse => exact absurd h (by simp)
  case isTrue hlim =>
  obtain rfl : [] = r := Option.some.inj h
  clear h
  obtain ⟨h0, h1⟩ := hlim
  have hun := Try.underlying29
  have HU := Aside0.mk hun
  have HB := Aside0.mk (Below.refl w.heap.size w)
  clear hun
  by_cases hz : 0 < a1
  · go_enter Try.func73, Try.ntmps73
    go_wp2_with (at_builtin; refine Kd.R_append_zeros (w0 := w) k42 w.heap.size rfl _ _ 29 3 42 (.agg #[.int .i64 0, .int .i64 0]) 16 rfl HU.out Try.underlying3 infoGrow rfl (by decide) (by decide) _ [] z42 a1 (fun _ => True) rfl rfl ?hzero (fun _ _ => trivial) (Kd.R_nil _ _ _ _ _) h0 HB.out (Nat.le_refl _) ?hl ?_; (case hzero => exact ⟨_, _, rfl, rfl, rfl⟩); (case hl => simp; omega); intro v1 w1 ho hb hg hat; have HO1 := Aside0.mk ho; have HB1 := Aside0.mk hb; clear ho hb hg hat; obtain ⟨A1, c1, hv, hc, _⟩ := Kd.R_reads HO1.out; subst hv)
    go_ret
    refine ⟨_, rfl, ?_, HB1.out⟩
    exact own_cut0 HO1.out rfl (by simp; omega)
  · obtain rfl : a1 = 0 := by omega
    go_enter Try.func73, Try.ntmps73
    go_wp2
    go_ret
    exact ⟨_, rfl, Kd.R_nil _ _ _ _ _, Below.refl _ _⟩
end Go.Proofs.Yteploglmfmhppaa.P
