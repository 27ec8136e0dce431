-- written by a program of this session (row4.py): the row and the tied card of the law clewlaw06_AstParts
import Derived.Test.YtpfnmjpccmobpaaDoorRows
import Derived.Test.YtpfnmjpccmobpaaDoorCards
import Derived.Test.YtpfnmjpccmobpaaDoorTie
import Derived.Test.YtpfnmjpccmobpaaDoorVL06
import Derived.Test.YtpfnmjpccmobpaaDoorU06a
import Derived.WalkKit
import Derived.ProofKit
import Derived.OpenShut
import Derived.ShutString
import Derived.ChangeOld
import Derived.Below
import Derived.SizedLaws
import Derived.Lay
import Derived.SevenTiedAt
import Derived.Stop.Joined
namespace Go.Proofs.YtpfnmjpccmobpaaDoor.astParts
open Go Go.ChangeShapes Go.WideShapes Go.ChangeAt Go.RowKit Go.Ev Go.Proofs.YtpfnmjpccmobpaaDoor.V
set_option linter.unusedVariables false
theorem own : ownKnob Tryd.prog.godebug = none := by kernel_rfl
theorem laidOut : laidOutB Tryd.prog = true := by kernel_rfl
set_option maxRecDepth 100000 in
theorem lifted (os : Os) (started : os.Started) (H : Type) (enc : TypeId × Value → H) :
    ReturnsInHanded {} Tryd.checked os 6 .any (fun w args => (Rows.astPartsSpec.pre enc Tryd.prog Tryd.f6 [] false w args ∧ laidMetH Tryd.prog laidT w) ∧ sizedMet enc Tryd.prog Tryd.f6 (OpenSpec.ofChange Rows.astPartsSpec) false w args) (Rows.astPartsSpec.post enc Tryd.prog Tryd.f6 false true false false) := by
  refine returnsInHanded_of_change_and (C := Tryd.checked) (X := fun w _ => laidMetH Tryd.prog laidT w) (fun _ _ _ hh h => h.of_heap hh) own started (by kernel_rfl) Tryd.func6
    (ChangeSpec.witness_shaped (enc := enc) (C := Tryd.checked) (os := os) (X := fun w _ => laidMetH Tryd.prog laidT w) false (World.laidAll Tryd.prog os laidT) #[.agg #[.slice none 0 0, .int .i64 0, .slice none 0 0], .int .i64 0, .int .i64 0] 8 (World.laidAll_os _ _ _)
      (World.shaped_of_ZipB (by kernel_rfl) (by kernel_rfl)) (by kernel_rfl) (by kernel_rfl) (by kernel_rfl)
      (by rw [MakeChecks.laidMetH_plain _ _ _ (by kernel_rfl)]; exact laidMet_laidAll _ (by kernel_rfl) (by kernel_rfl))) ?_
  intro W base args ds gs before hval0 hW hcnd hsz0 hL _
  have hsz : (DataW.weightsEach Tryd.prog (Tryd.f6.params.toList ++ Rows.astPartsSpec.plain.varTypes Tryd.prog) (ds ++ gs)).all (· ≤ reachBytes) = true := hsz0
  have hval : ∀ (j : Nat) t v, Tryd.f6.params[j]? = some t → args[j]? = some v → Value.okWide Tryd.prog W .any base t v := hval0
  have hW' := hW
  have hT := tabs_of_laid hL
  obtain ⟨p, q, hA0, hV, rfl, hfz, hnd⟩ := hW
  have hA : DataW.TrodAll enc Tryd.prog W 0 (fun _ => true) true Tryd.f6.params.toList args.toList ds p := hA0
  rw [Tryd.params6] at hA hval hsz
  obtain ⟨v0, vs0, d0, ds0, p0, q0, hargs, rfl, rfl, h0, r0⟩ := trodAll_cons hA
  obtain ⟨v1, vs1, d1, ds1, p1, q1, rfl, rfl, rfl, h1, r1⟩ := trodAll_cons r0
  obtain ⟨v2, vs2, d2, ds2, p2, q2, rfl, rfl, rfl, h2, r2⟩ := trodAll_cons r1
  obtain ⟨rfl, rfl, rfl⟩ := trodAll_nil r2
  obtain rfl : args = #[v0, v1, v2] := by cases args; simp_all
  obtain ⟨rfl, rfl⟩ := trodVars_none hV
  have lt0 : ∀ x ∈ p0, x.block < W.heap.size := by obtain ⟨m, hm⟩ := h0; exact DataW.trod_lt m _ _ _ hm
  have hz0 : ∀ n ∈ d0.weights Tryd.prog 33, n ≤ reachBytes := fun n hn => of_decide_eq_true (List.all_eq_true.1 hsz n (DataW.weights_mem_each (j := 0) (t := 33) rfl rfl n hn))
  obtain ⟨ti0, e0, hti0, fit0, hd0⟩ := arg_ok pok (k := 9) (t := 33) (by kernel_rfl) (hval 0 33 v0 rfl rfl) h0 hz0
  have eti0 := Option.some.inj (hti0.symm.trans (show C.T 33 = some _ from rfl))
  subst eti0
  have hh0 : Go.Ev.Handed C W v0 (.agg [.shr 57 (e0.C 0).L, .int .i64 (e0.C 1).I, .shr 9 (e0.C 2).L]) := hd0
  have lt1 : ∀ x ∈ p1, x.block < W.heap.size := by obtain ⟨m, hm⟩ := h1; exact DataW.trod_lt m _ _ _ hm
  have hz1 : ∀ n ∈ d1.weights Tryd.prog 3, n ≤ reachBytes := fun n hn => of_decide_eq_true (List.all_eq_true.1 hsz n (DataW.weights_mem_each (j := 1) (t := 3) rfl rfl n hn))
  obtain ⟨ti1, e1, hti1, fit1, hd1⟩ := arg_ok pok (k := 9) (t := 3) (by kernel_rfl) (hval 1 3 v1 rfl rfl) h1 hz1
  have eti1 := Option.some.inj (hti1.symm.trans (show C.T 3 = some _ from rfl))
  subst eti1
  have hh1 : Go.Ev.Handed C W v1 (.int .i64 e1.I) := hd1
  have lt2 : ∀ x ∈ p2, x.block < W.heap.size := by obtain ⟨m, hm⟩ := h2; exact DataW.trod_lt m _ _ _ hm
  have hz2 : ∀ n ∈ d2.weights Tryd.prog 3, n ≤ reachBytes := fun n hn => of_decide_eq_true (List.all_eq_true.1 hsz n (DataW.weights_mem_each (j := 2) (t := 3) rfl rfl n hn))
  obtain ⟨ti2, e2, hti2, fit2, hd2⟩ := arg_ok pok (k := 9) (t := 3) (by kernel_rfl) (hval 2 3 v2 rfl rfl) h2 hz2
  have eti2 := Option.some.inj (hti2.symm.trans (show C.T 3 = some _ from rfl))
  subst eti2
  have hh2 : Go.Ev.Handed C W v2 (.int .i64 e2.I) := hd2
  clear hA0 hval0 hsz0 hsz
  obtain ⟨m_, hm_⟩ := E_ev (AstParts_pure e0 e1 e2 fit0 fit1 fit2)
  refine (law_ok (us := #[v0, v1, v2]) (args := [.agg [.shr 57 (e0.C 0).L, .int .i64 (e0.C 1).I, .shr 9 (e0.C 2).L], .int .i64 e1.I, .int .i64 e2.I]) pok givenC (globOk hT) ⟨hh0, hh1, hh2, trivial⟩ (by kernel_rfl) (by kernel_rfl) (by kernel_rfl) hm_).mono fun e W' ⟨he, bel⟩ => ?_
  subst he
  exact ⟨_, rfl, _, _, _, [], _, [], hW', trodAll_mk1 (shut_bool Tryd.underlying4 _), (trodAll_cons_mk (Below.trod laidOut (by kernel_rfl) (of_decide_eq_true (by kernel_rfl)) h0 bel lt0) (trodAll_cons_mk (Below.trod laidOut (by kernel_rfl) (of_decide_eq_true (by kernel_rfl)) h1 bel lt1) (trodAll_cons_mk (Below.trod laidOut (by kernel_rfl) (of_decide_eq_true (by kernel_rfl)) h2 bel lt2) trodAll_mk0))), rfl, bel.frame _, fun h => by cases h⟩
theorem over : Rows.astPartsRow.holds Tryd.pinned (OpenSpec.ofChange Rows.astPartsSpec) :=
  OpenClaim.holds_of_wide 6 Tryd.f6 rfl rfl rfl rfl rfl rfl rfl ⟨rfl, rfl, rfl, rfl, rfl⟩ rfl rfl rfl rfl rfl (by kernel_rfl) Tryd.func6 (by kernel_rfl)
    (of_decide_eq_true (by kernel_rfl)) (by unfold Func.isWrapper; first | (rw [if_pos (by decide +kernel)]; kernel_rfl) | (rw [if_neg (by decide +kernel)]; exact ⟨rfl, rfl⟩))
    (fun os started H enc _ => lifted os started H enc)
theorem proved : Rows.AstPartsCardSaid :=
  Claim7.holds_tied_plain_at .later [] [.data] true (true, "27ef8aff38bdce17bfd6e2055c6125615bf3224bd2f039a884aa449991aa9023") true over (fun _ h => by cases h) (by kernel_rfl) (fun _ h => by cases h) astParts_row_tie rfl ⟨rfl, rfl⟩ (by kernel_rfl) rfl
    (fun f fn hf hfn => by
      obtain rfl : f = 6 := Option.some.inj ((show Tryd.prog.funcNamed "clew/clewlaw06.AstParts" = some 6 by kernel_rfl).symm.trans hf) |>.symm
      obtain rfl : fn = Tryd.f6 := (Option.some.inj (Tryd.func6.symm.trans hfn)).symm
      exact ⟨by kernel_rfl, fun j t ht => by
        rw [Tryd.params6] at ht
        have hm : t ∈ [33, 3, 3] := by simpa using Array.mem_of_getElem? ht
        have hall : ([33, 3, 3].all fun u => !Tryd.prog.wantsStandIn u) = true := by kernel_rfl
        exact (show Tryd.prog.wantsStandIn t = false by simpa using List.all_eq_true.1 hall t hm)⟩)
    (by kernel_rfl)
#print axioms proved
end Go.Proofs.YtpfnmjpccmobpaaDoor.astParts
namespace Go.Proofs.YtpfnmjpccmobpaaDoor
/-- The card, under a short name, for the claim. -/
theorem astParts_holds : Rows.AstPartsCardSaid := astParts.proved
end Go.Proofs.YtpfnmjpccmobpaaDoor
