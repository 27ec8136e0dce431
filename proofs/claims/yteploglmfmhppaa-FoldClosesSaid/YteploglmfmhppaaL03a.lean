/- Chapter 03 in plain Lean: the document's examples of orbits. -/
import Derived.Test.YteploglmfmhppaaL03b
import Derived.Test.YteploglmfmhppaaPx11
namespace Go.Proofs.Yteploglmfmhppaa.P
open Go.RowKit Go.Proofs.YteploglmfmhppaaW.PrintWords Go.Proofs.YteploglmfmhppaaW.PrintLast Go.Proofs.YteploglmfmhppaaW.PrintMore
set_option linter.unusedVariables false
set_option linter.unusedSimpArgs false

theorem orb_107 : orb 107 = [75, 107, 8490] := by
  have e : orbF (refWith 107) = [107, 75, 8490] := by decide +kernel
  unfold orb
  rw [if_pos (by omega), e]
  exact (sortI_of_sorted (by decide) (by decide)).symm
theorem fold_962 : foldI 962 = 931 := by
  have e : orbF (refWith 962) = [963, 931, 962] := by decide +kernel
  have h : orb 962 = [931, 962, 963] := by
    unfold orb
    rw [if_pos (by omega), e]
    exact (sortI_of_sorted (by decide) (by decide)).symm
  unfold foldI
  rw [h]
theorem anchor03_ev : Ev (fun k => clewlaw03_anchor.f k) true := by
  unfold clewlaw03_anchor.f
  refine Ev.bind (orbit_ev 107) ?_
  rw [orb_107]
  refine Ev.pos rfl (Ev.pos (by simp) (Ev.pos rfl (Ev.pos (by simp) (Ev.pos rfl (Ev.pos (by simp) (Ev.pos rfl (Ev.bind (fold_ev 962) ?_)))))))
  rw [fold_962]
  exact Ev.const _

theorem orb_small (x : Int) : (orb x).length ≤ 25 := by
  unfold orb
  split
  · rw [sortI_length]
    unfold orbF
    rw [List.length_cons, List.length_append]
    have h1 : (upL (refWith x)).length ≤ 18 := by
      unfold upL
      rw [List.length_map]
      exact List.length_filter_le _ _
    have h2 : (siL (refWith x)).length ≤ 6 := by
      unfold siL
      rw [List.length_map]
      exact List.length_filter_le _ _
    omega
  · simp

end Go.Proofs.Yteploglmfmhppaa.P
