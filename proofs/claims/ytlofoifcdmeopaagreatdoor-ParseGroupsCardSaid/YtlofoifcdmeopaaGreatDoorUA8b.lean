/- The law's own examples: the second pattern. -/
import Derived.Test.YtlofoifcdmeopaaGreatDoorUPg
import Derived.KernelRfl
namespace Go.Proofs.YtlofoifcdmeopaaGreatDoor.V
open Go Go.Ev Go.RowKit
set_option linter.unusedVariables false
set_option linter.unusedSimpArgs false
def pat82 : List Int := [40, 63, 105, 41, 75]
theorem close82 : closeR (mk [(75, 75)]) = [(75, 75), (107, 107), (8490, 8490)] := by kernel_rfl
def s820 : PS := ⟨0, false, false, false, false, 0, [ByteArray.empty], 0, 0⟩
def s821 : PS := ⟨4, true, false, false, false, 0, [ByteArray.empty], 0, 0⟩
def s822 : PS := ⟨5, true, false, false, false, 0, [ByteArray.empty], 0, 0⟩
def n82 : Nd := ⟨2, 4, 5, 0, 0, 0, 0, ByteArray.empty, [(75, 75), (107, 107), (8490, 8490)], []⟩
def tree82 : Dat := .agg [.list [nodeD n82], .int 0, .list [.str ByteArray.empty]]
theorem group82 : E C 206 [pv pat82 s820, .int .i64 (0 + 1)] = some [ptD nd0P [], .bool false, pd pat82 s821] := E_from 60 fun n => by kernel_rfl
theorem piece_none (b : List Int) (hb : b.length ≤ 140737488351232) (s : PS) (d : Int) (he : s.e = 0) (h1 : cntQ b s.k = none) {n : Nd} {ks : List Dat} {may : Bool} {s1 : PS} (hat : E C 179 [pv b s, .int .i64 d] = some [ptD n ks, .bool may, pd b s1]) (e1 : s1.e = 0) (hk1 : i64P s1.k) (h2 : cntQ b (skipS b s1).k = none) (hk : n.kind = 0) : E C 148 [pv b s, .int .i64 d] = some [.list [], pd b (skipS b s1)] := by
  apply o148
  rw [bT (count_no b hb s h1)]
  simp only [rd0, rd1, rd2, rd3, pd0, pd1, pd2, pd3, pd4, pd5, pd6, pd7, pd8, pd9, pt0, pt1, pt2, pt3, pt4, pt5, pt6, pt7, pt8, pt9, pt10, aggC0, aggC1, aggC2, aggC3, aggC4, aggC5, datL, datI, datB, datS]
  rw [cond_false, neF he, bT hat]
  simp only [rd0, rd1, rd2, rd3, pd0, pd1, pd2, pd3, pd4, pd5, pd6, pd7, pd8, pd9, pt0, pt1, pt2, pt3, pt4, pt5, pt6, pt7, pt8, pt9, pt10, aggC0, aggC1, aggC2, aggC3, aggC4, aggC5, datL, datI, datB, datS]
  rw [neF e1, bT (skip_E b hb s1 hk1)]
  simp only [rd0, rd1, rd2, rd3, pd0, pd1, pd2, pd3, pd4, pd5, pd6, pd7, pd8, pd9, pt0, pt1, pt2, pt3, pt4, pt5, pt6, pt7, pt8, pt9, pt10, aggC0, aggC1, aggC2, aggC3, aggC4, aggC5, datL, datI, datB, datS]
  rw [bT (count_no b hb (skipS b s1) h2)]
  simp only [rd0, rd1, rd2, rd3, pd0, pd1, pd2, pd3, pd4, pd5, pd6, pd7, pd8, pd9, pt0, pt1, pt2, pt3, pt4, pt5, pt6, pt7, pt8, pt9, pt10, aggC0, aggC1, aggC2, aggC3, aggC4, aggC5, datL, datI, datB, datS]
  rw [cond_false, eT hk]
  rfl
theorem piece82a : E C 148 [pv pat82 s820, .int .i64 0] = some [.list [], pd pat82 s821] :=
  piece_none pat82 (by decide) s820 0 rfl (by decide) (atom_par pat82 s820 0 (by decide) (by decide) (by decide) group82) rfl (by unfold i64P s821; decide) (by decide) rfl
theorem sym82 : symR pat82 s821.k = (75, 1) := by kernel_rfl
theorem piece82b : E C 148 [pv pat82 s821, .int .i64 0] = some [.list [ptD n82 []], pd pat82 s822] := by
  have h := atom_lit pat82 (by decide) (by decide) s821 0 (by decide) (by decide) (by rw [sym82]; decide)
  rw [sym82] at h
  rw [show (bif s821.fo then closeR (mk [(((75, 1) : Int × Int).1, ((75, 1) : Int × Int).1)]) else mk [(((75, 1) : Int × Int).1, ((75, 1) : Int × Int).1)]) = [(75, 75), (107, 107), (8490, 8490)] by kernel_rfl] at h
  exact piece_ok pat82 (by decide) s821 0 rfl (by decide) h rfl (by unfold i64P s821; decide) (by decide) (by decide)
theorem row82 : E C 108 [pv pat82 s820, .int .i64 0] = some [ptD n82 [], pd pat82 s822] := by
  apply o108
  apply M108_1_of
  refine (bT (ends_E pat82 (by decide) s820 (by unfold i64P s820; decide) (by decide))).trans ?_
  rw [show skipS pat82 s820 = s820 from rfl, show endsB pat82 s820 = false by decide]
  simp only [rd0, rd1, rd2, rd3, pd0, pd1, pd2, pd3, pd4, pd5, pd6, pd7, pd8, pd9, pt0, pt1, pt2, pt3, pt4, pt5, pt6, pt7, pt8, pt9, pt10, aggC0, aggC1, aggC2, aggC3, aggC4, aggC5, datL, datI, datB, datS]
  refine (nT rfl).trans ?_
  refine (bT piece82a).trans ?_
  simp only [rd0, rd1, rd2, rd3, pd0, pd1, pd2, pd3, pd4, pd5, pd6, pd7, pd8, pd9, pt0, pt1, pt2, pt3, pt4, pt5, pt6, pt7, pt8, pt9, pt10, aggC0, aggC1, aggC2, aggC3, aggC4, aggC5, datL, datI, datB, datS]
  rw [cap144, dT (by decide)]
  apply M108_1_of
  refine (bT (ends_E pat82 (by decide) s821 (by unfold i64P s821; decide) (by decide))).trans ?_
  rw [show skipS pat82 s821 = s821 from rfl, show endsB pat82 s821 = false by decide]
  simp only [rd0, rd1, rd2, rd3, pd0, pd1, pd2, pd3, pd4, pd5, pd6, pd7, pd8, pd9, pt0, pt1, pt2, pt3, pt4, pt5, pt6, pt7, pt8, pt9, pt10, aggC0, aggC1, aggC2, aggC3, aggC4, aggC5, datL, datI, datB, datS]
  refine (nT rfl).trans ?_
  refine (bT piece82b).trans ?_
  simp only [rd0, rd1, rd2, rd3, pd0, pd1, pd2, pd3, pd4, pd5, pd6, pd7, pd8, pd9, pt0, pt1, pt2, pt3, pt4, pt5, pt6, pt7, pt8, pt9, pt10, aggC0, aggC1, aggC2, aggC3, aggC4, aggC5, datL, datI, datB, datS]
  rw [cap144, dT (by decide)]
  apply M108_1_of
  refine (bT (ends_E pat82 (by decide) s822 (by unfold i64P s822; decide) (by decide))).trans ?_
  rw [show skipS pat82 s822 = s822 from rfl, show endsB pat82 s822 = true by decide]
  simp only [rd0, rd1, rd2, rd3, pd0, pd1, pd2, pd3, pd4, pd5, pd6, pd7, pd8, pd9, pt0, pt1, pt2, pt3, pt4, pt5, pt6, pt7, pt8, pt9, pt10, aggC0, aggC1, aggC2, aggC3, aggC4, aggC5, datL, datI, datB, datS]
  rfl
theorem number82 : E C 69 [ptV n82 [], .own 1 0 38 []] = some [.list [nodeD n82]] := E_from 60 fun n => by kernel_rfl
theorem parse82 : E C 26 [.shr 5 ([.int 40, .int 63, .int 105, .int 41, .int 75] : List Dat)] = some [tree82, .int 0, .int 0] := by
  have h := alt_one pat82 s820 0 row82 (by decide) (.inl (by decide))
  apply o26
  rw [dF (by decide)]
  refine (bT h).trans ?_
  simp only [rd0, rd1, rd2, rd3, pd0, pd1, pd2, pd3, pd4, pd5, pd6, pd7, pd8, pd9, pt0, pt1, pt2, pt3, pt4, pt5, pt6, pt7, pt8, pt9, pt10, aggC0, aggC1, aggC2, aggC3, aggC4, aggC5, datL, datI, datB, datS]
  refine (bT (over_E pat82 s822)).trans ?_
  simp only [rd0, rd1, rd2, rd3, pd0, pd1, pd2, pd3, pd4, pd5, pd6, pd7, pd8, pd9, pt0, pt1, pt2, pt3, pt4, pt5, pt6, pt7, pt8, pt9, pt10, aggC0, aggC1, aggC2, aggC3, aggC4, aggC5, datL, datI, datB, datS]
  rw [show overB pat82 s822 = true by decide, nF rfl, neF (show s822.e = 0 from rfl)]
  refine (bT number82).trans ?_
  simp only [rd0, rd1, rd2, rd3, pd0, pd1, pd2, pd3, pd4, pd5, pd6, pd7, pd8, pd9, pt0, pt1, pt2, pt3, pt4, pt5, pt6, pt7, pt8, pt9, pt10, aggC0, aggC1, aggC2, aggC3, aggC4, aggC5, datL, datI, datB, datS]
  apply M26_1_of
  rw [dT (by decide), ixT ⟨by decide, by decide⟩]
  rw [show rd [nodeD n82] (0 : Int).toNat = nodeD n82 from rfl]
  simp only [nd0, datI]
  rw [eF (by decide), show IntKind.i64.wrap (0 + 1) = 1 by decide]
  apply M26_1_of
  rw [dF (by decide)]
  rfl
end Go.Proofs.YtlofoifcdmeopaaGreatDoor.V
