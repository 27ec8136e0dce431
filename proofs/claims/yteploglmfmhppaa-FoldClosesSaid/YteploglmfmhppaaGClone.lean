/- slices.Clone at ranges, by hand: for every list that is read, the call hands back a row of its own with the same ranges; nothing that was there is turned. -/
import Derived.Test.YteploglmfmhppaaPx0
import Derived.WalkSpells
namespace Go.Proofs.Yteploglmfmhppaa.P
open Go.RowKit Go.Proofs.YteploglmfmhppaaW.PrintWords Go.Proofs.YteploglmfmhppaaW.PrintLast Go.Proofs.YteploglmfmhppaaW.PrintMore
set_option linter.unusedVariables false
set_option linter.unusedSimpArgs false

def slices_Clone_rset_Range_rset_Range.f (l0 : List S42) : Option (List S42) := if l0.length < 8796093022208 then some l0 else none
theorem infoClone : (Try.prog.info? 42).map (fun i => (i.zero, i.size, i.bytes)) = some (some (.agg #[.int .i64 0, .int .i64 0]), 2, 16) := by kernel_rfl

theorem own_empty (W : World) (e : TypeId) (h : ∀ k, W.heap.size ≤ k → True) : Kd.R k42 e (W.alloc (.cells #[] e)) W.heap.size (fun _ => True) (.slice (some ⟨W.heap.size, 0, none⟩) 0 0) [] := by
  refine ⟨fun _ _ => trivial, [], ?_, ?_⟩
  · exact World.ownsRow_lit (base := W.heap.size) (e := e) (size := 2) W #[] 0 (Nat.le_refl _) (by simp [maxLen]) (by simp)
  · exact ⟨by simp, fun j p hj => by simp at hj⟩

set_option maxHeartbeats 2000000 in
theorem slices_Clone_rset_Range_rset_Range.calls (A0 : Option Addr) (c0 : Nat) (l0 : List S42) (r : List S42) (w : World) (hr0 : Kd.C k42 w A0 l0.length l0) (hc0 : l0.length ≤ c0) (h : slices_Clone_rset_Range_rset_Range.f l0 = some r) :
    Calls Try.prog 66 #[.slice A0 l0.length c0] w fun e w' => ∃ v0_ : Value, e = .returned (v0_) ∧ Kd.R k42 42 w' w.heap.size (fun _ => True) v0_ r ∧ Below w.heap.size w w' := by
  unfold slices_Clone_rset_Range_rset_Range.f at h
  split at h
  case isFalse => exact absurd h (by simp)
  case isTrue hlim =>
  obtain rfl : l0 = r := Option.some.inj h
  clear h
  have hun := Try.underlying29
  cases A0 with
  | none =>
    have h0 : l0 = [] := by
      rcases Nat.eq_zero_or_pos l0.length with h0 | h0
      · exact List.eq_nil_of_length_eq_zero h0
      · obtain ⟨ad, e, _⟩ := hr0.2.2 h0
        cases e
    subst h0
    have heq := fun (W : World) => Lib.run_eql_slice_nil (P := Try.prog) W 29 42 none 0 c0 0 0 hun
    clear hr0 hc0 hlim hun
    go_enter Try.func66, Try.ntmps66
    go_wp2
    go_ret
    exact ⟨_, rfl, Kd.R_nil _ _ _ _ _, Below.refl _ _⟩
  | some ad =>
    have heq := fun (W : World) => Lib.run_eql_slice_nil (P := Try.prog) W 29 42 (some ad) l0.length c0 0 0 hun
    have HR := Aside0.mk (Kd.C_alloc hr0 (.cells #[] 42))
    have HO := Aside0.mk (own_empty w 42 (fun _ _ => trivial))
    have HL := Aside0.mk hlim
    have HU := Aside0.mk hun
    have HB := Aside0.mk (Below.refl w.heap.size w)
    clear hr0 hc0 hlim hun
    go_enter Try.func66, Try.ntmps66
    go_wp2_with (at_builtin; refine Kd.R_append_rows (w0 := w) k42 w.heap.size rfl _ _ 29 42 (.agg #[.int .i64 0, .int .i64 0]) 16 rfl HU.out infoClone rfl (by decide) (by decide) _ [] l0 (some ad) l0.length c0 (fun _ => True) (fun _ => False) rfl rfl HO.out HR.out (fun _ _ h => h) (fun _ h => h.elim) (fun _ _ => trivial) ?hb ?hbase ?hl ?_; (case hb => exact HB.out.alloc (Nat.le_refl _) _); (case hbase => simp); (case hl => have := HL.out; simp; omega); intro v1 w1 ho hb hg hat; have HO1 := Aside0.mk ho; have HB1 := Aside0.mk hb; clear ho hb hg hat)
    go_ret
    exact ⟨_, rfl, HO1.out, HB1.out⟩
end Go.Proofs.Yteploglmfmhppaa.P
