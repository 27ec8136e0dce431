-- written by a program of this session (row4.py): the row and the tied card of the law clewlaw08_ParseRight
import Derived.Test.YtlofoifcdmeopaaGreatDoorRows
import Derived.Test.YtlofoifcdmeopaaGreatDoorCards
import Derived.Test.YtlofoifcdmeopaaGreatDoorTie
import Derived.Test.YtlofoifcdmeopaaGreatDoorMPRC
import Derived.Test.YtlofoifcdmeopaaGreatDoorMPRF
import Derived.WalkKit
import Derived.ProofKit
import Derived.OpenShut
import Derived.ShutString
import Derived.ChangeOld
import Derived.Below
import Derived.SizedLaws
import Derived.Lay
import Derived.SevenTiedAt
import Derived.Stop.Joined
namespace Go.Proofs.YtlofoifcdmeopaaGreatDoor.parseRight
open Go Go.ChangeShapes Go.WideShapes Go.ChangeAt Go.RowKit Go.Ev Go.Proofs.YtlofoifcdmeopaaGreatDoor.V
set_option linter.unusedVariables false
theorem own : ownKnob Tryz.prog.godebug = none := by kernel_rfl
theorem laidOut : laidOutB Tryz.prog = true := by kernel_rfl
set_option maxRecDepth 100000 in
theorem lifted (os : Os) (started : os.Started) (H : Type) (enc : TypeId × Value → H) :
    ReturnsInHanded {} Tryz.checked os 8 .any (fun w args => (Rows.parseRightSpec.pre enc Tryz.prog Tryz.f8 [] false w args ∧ laidMetH Tryz.prog laidT w) ∧ sizedMet enc Tryz.prog Tryz.f8 (OpenSpec.ofChange Rows.parseRightSpec) false w args) (Rows.parseRightSpec.post enc Tryz.prog Tryz.f8 false true false false) := by
  refine Go.Ev.handed_both (C := Tryz.checked) (X := fun w _ => laidMetH Tryz.prog laidT w) (fun _ _ _ hh h => h.of_heap hh) own started (by kernel_rfl) Tryz.func8
    (ChangeSpec.witness_shaped (enc := enc) (C := Tryz.checked) (os := os) (X := fun w _ => laidMetH Tryz.prog laidT w) false (World.laidAll Tryz.prog os laidT) #[.slice none 0 0] 8 (World.laidAll_os _ _ _)
      (World.shaped_of_ZipB (by kernel_rfl) (by kernel_rfl)) (by kernel_rfl) (by kernel_rfl) (by kernel_rfl)
      (by rw [MakeChecks.laidMetH_plain _ _ _ (by kernel_rfl)]; exact laidMet_laidAll _ (by kernel_rfl) (by kernel_rfl))) ?_
  intro W base args ds gs before hval0 hW hcnd hsz0 hL hsh _
  have hsz : (DataW.weightsEach Tryz.prog (Tryz.f8.params.toList ++ Rows.parseRightSpec.plain.varTypes Tryz.prog) (ds ++ gs)).all (· ≤ reachBytes) = true := hsz0
  have hval : ∀ (j : Nat) t v, Tryz.f8.params[j]? = some t → args[j]? = some v → Value.okWide Tryz.prog W .any base t v := hval0
  have hW' := hW
  have hT := tabs_of_laid hL
  obtain ⟨p, q, hA0, hV, rfl, hfz, hnd⟩ := hW
  have hA : DataW.TrodAll enc Tryz.prog W 0 (fun _ => true) true Tryz.f8.params.toList args.toList ds p := hA0
  rw [Tryz.params8] at hA hval hsz
  obtain ⟨v0, vs0, d0, ds0, p0, q0, hargs, rfl, rfl, h0, r0⟩ := trodAll_cons hA
  obtain ⟨rfl, rfl, rfl⟩ := trodAll_nil r0
  obtain rfl : args = #[v0] := by cases args; simp_all
  obtain ⟨rfl, rfl⟩ := trodVars_none hV
  have lt0 : ∀ x ∈ p0, x.block < W.heap.size := by obtain ⟨m, hm⟩ := h0; exact DataW.trod_lt m _ _ _ hm
  have hz0 : ∀ n ∈ d0.weights Tryz.prog 44, n ≤ reachBytes := fun n hn => of_decide_eq_true (List.all_eq_true.1 hsz n (DataW.weights_mem_each (j := 0) (t := 44) rfl rfl n hn))
  obtain ⟨ti0, e0, hti0, fit0, hd0⟩ := arg_ok pok (k := 9) (t := 44) (by kernel_rfl) (hval 0 44 v0 rfl rfl) h0 hz0
  have eti0 := Option.some.inj (hti0.symm.trans (show C.T 44 = some _ from rfl))
  subst eti0
  have hh0 : Go.Ev.Handed C W v0 (.shr 5 e0.L) := hd0
  clear hA0 hval0 hsz0 hsz
  obtain ⟨m_, hm_⟩ := E_ev (ParseRight_pure e0 fit0)
  refine (law_ok (us := #[v0]) (args := [.shr 5 e0.L]) pok givenC (globOk hT) ⟨hh0, trivial⟩ (by kernel_rfl) (by kernel_rfl) (by kernel_rfl) hm_ (intsOk hsh)).mono fun e W' ⟨he, bel⟩ => ?_
  subst he
  exact ⟨_, rfl, _, _, _, [], _, [], hW', trodAll_mk1 (shut_bool Tryz.underlying4 _), (trodAll_cons_mk (Below.trod laidOut (by kernel_rfl) (of_decide_eq_true (by kernel_rfl)) h0 bel lt0) trodAll_mk0), rfl, bel.frame _, fun h => by cases h⟩
theorem joined_of {P : Program} {f : FuncId} {fn : Func} {s : ChangeSpec} {c : OpenClaim} (hA : (c.wf (OpenSpec.ofChange s) && mapsRowed P && fn.params.all (P.readableRec ·) && namedTie P c.named s.vars && (c.stops == []) && (P.stops == []) && (c.knobs == []) && (P.stopKnobs == [])) = true) (hB : (c.inPlace == P.inPlace f) = true) (hC : (c.unfollowed == P.unfollowed f) = true) (hD : (c.recurses == P.recurses f) = true) (hE : (c.named == P.varsNamed f) = true) (hF : ((c.maps == (fn.params.toList ++ s.plain.varTypes P).any (P.mapsRec ·)) && (c.ifaces == (fn.params.toList ++ s.plain.varTypes P).any (P.ifacesRec ·)) && (c.mapsOut == P.mapsAmong fn.resultTypes.toList) && (c.loops == (fn.params.toList ++ s.plain.varTypes P).any (P.loopsFrom ·)) && (c.wideKeys == (fn.params.toList ++ s.plain.varTypes P ++ fn.resultTypes.toList).any (P.wideKeysFrom ·))) = true) (hG : (c.plainKeys == P.plainKeys) = true) (hH : (P.stopsHeard) = true) (hI : (P.mayEnter) = true) (hM : (c.lifted == P.liftsFinal) = true) (hO : (P.make == some c.make) = true) (hQ : (c.pinned == c.pinnedBy) = true) (hL : (laidOutB P) = true) (hK : (c.kinds == (if c.domain.isEmpty then [] else fn.params.toList.map fun t => match P.underlying t with | some (.int k) => some k | _ => none)) = true) (hR : (s.vars.all (P.varReadable ·) && fn.resultTypes.all (fun t => P.readableRec t && decide (t < P.types.size)) && (c.ifacesOut == fn.resultTypes.toList.any (P.ifacesRec ·)) && (c.loopsOut == fn.resultTypes.toList.any (P.loopsFrom ·)) && c.shortTexts.isNone && (c.veiled == (fn.params.toList ++ s.plain.varTypes P ++ fn.resultTypes.toList).any (P.veiledRec ·)) && c.veiledFits P fn.params.toList (fn.params.toList ++ s.plain.varTypes P ++ fn.resultTypes.toList)) = true) : joinedFacts P f fn s c = true := by
  unfold joinedFacts
  simp only [Bool.and_eq_true] at *
  simp only [*, and_self, and_true, true_and]
  exact hK
theorem jA : (Rows.parseRightRow.wf (OpenSpec.ofChange Rows.parseRightSpec) && mapsRowed Tryz.pinned.checked.prog && Tryz.f8.params.all (Tryz.pinned.checked.prog.readableRec ·) && namedTie Tryz.pinned.checked.prog Rows.parseRightRow.named Rows.parseRightSpec.vars && (Rows.parseRightRow.stops == []) && (Tryz.pinned.checked.prog.stops == []) && (Rows.parseRightRow.knobs == []) && (Tryz.pinned.checked.prog.stopKnobs == [])) = true := by kernel_rfl
theorem jB : (Rows.parseRightRow.inPlace == Tryz.pinned.checked.prog.inPlace 8) = true := by kernel_rfl
theorem jC : (Rows.parseRightRow.unfollowed == Tryz.pinned.checked.prog.unfollowed 8) = true := by kernel_rfl
theorem jD : (Rows.parseRightRow.recurses == Tryz.pinned.checked.prog.recurses 8) = true := by kernel_rfl
theorem jE : (Rows.parseRightRow.named == Tryz.pinned.checked.prog.varsNamed 8) = true := by kernel_rfl
theorem jF : ((Rows.parseRightRow.maps == (Tryz.f8.params.toList ++ Rows.parseRightSpec.plain.varTypes Tryz.pinned.checked.prog).any (Tryz.pinned.checked.prog.mapsRec ·)) && (Rows.parseRightRow.ifaces == (Tryz.f8.params.toList ++ Rows.parseRightSpec.plain.varTypes Tryz.pinned.checked.prog).any (Tryz.pinned.checked.prog.ifacesRec ·)) && (Rows.parseRightRow.mapsOut == Tryz.pinned.checked.prog.mapsAmong Tryz.f8.resultTypes.toList) && (Rows.parseRightRow.loops == (Tryz.f8.params.toList ++ Rows.parseRightSpec.plain.varTypes Tryz.pinned.checked.prog).any (Tryz.pinned.checked.prog.loopsFrom ·)) && (Rows.parseRightRow.wideKeys == (Tryz.f8.params.toList ++ Rows.parseRightSpec.plain.varTypes Tryz.pinned.checked.prog ++ Tryz.f8.resultTypes.toList).any (Tryz.pinned.checked.prog.wideKeysFrom ·))) = true := by kernel_rfl
theorem jG : (Rows.parseRightRow.plainKeys == Tryz.pinned.checked.prog.plainKeys) = true := by kernel_rfl
theorem jH : (Tryz.pinned.checked.prog.stopsHeard) = true := by kernel_rfl
theorem jI : (Tryz.pinned.checked.prog.mayEnter) = true := by kernel_rfl
theorem jM : (Rows.parseRightRow.lifted == Tryz.pinned.checked.prog.liftsFinal) = true := by kernel_rfl
theorem jO : (Tryz.pinned.checked.prog.make == some Rows.parseRightRow.make) = true := by kernel_rfl
theorem jQ : (Rows.parseRightRow.pinned == Rows.parseRightRow.pinnedBy) = true := by kernel_rfl
theorem jL : (laidOutB Tryz.pinned.checked.prog) = true := by kernel_rfl
theorem jK : (Rows.parseRightRow.kinds == (if Rows.parseRightRow.domain.isEmpty then [] else Tryz.f8.params.toList.map fun t => match Tryz.pinned.checked.prog.underlying t with | some (.int k) => some k | _ => none)) = true := by kernel_rfl
theorem jR : (Rows.parseRightSpec.vars.all (Tryz.pinned.checked.prog.varReadable ·) && Tryz.f8.resultTypes.all (fun t => Tryz.pinned.checked.prog.readableRec t && decide (t < Tryz.pinned.checked.prog.types.size)) && (Rows.parseRightRow.ifacesOut == Tryz.f8.resultTypes.toList.any (Tryz.pinned.checked.prog.ifacesRec ·)) && (Rows.parseRightRow.loopsOut == Tryz.f8.resultTypes.toList.any (Tryz.pinned.checked.prog.loopsFrom ·)) && Rows.parseRightRow.shortTexts.isNone && (Rows.parseRightRow.veiled == (Tryz.f8.params.toList ++ Rows.parseRightSpec.plain.varTypes Tryz.pinned.checked.prog ++ Tryz.f8.resultTypes.toList).any (Tryz.pinned.checked.prog.veiledRec ·)) && Rows.parseRightRow.veiledFits Tryz.pinned.checked.prog Tryz.f8.params.toList (Tryz.f8.params.toList ++ Rows.parseRightSpec.plain.varTypes Tryz.pinned.checked.prog ++ Tryz.f8.resultTypes.toList)) = true := by kernel_rfl
theorem over : Rows.parseRightRow.holds Tryz.pinned (OpenSpec.ofChange Rows.parseRightSpec) :=
  OpenClaim.holds_of_wide 8 Tryz.f8 rfl rfl rfl rfl rfl rfl rfl ⟨rfl, rfl, rfl, rfl, rfl⟩ rfl rfl rfl rfl rfl (by kernel_rfl) Tryz.func8 (joined_of jA jB jC jD jE jF jG jH jI jM jO jQ jL jK jR)
    (of_decide_eq_true (by kernel_rfl)) (by unfold Func.isWrapper; first | (rw [if_pos (by decide +kernel)]; kernel_rfl) | (rw [if_neg (by decide +kernel)]; exact ⟨rfl, rfl⟩))
    (fun os started H enc _ => lifted os started H enc)
theorem pW : Rows.parseRightRow.wfByText (OpenSpec.ofChange Rows.parseRightSpec) = true := by kernel_rfl
theorem pM : Tryz.pinned.checked.prog.mainIs = some (((true, "dab8aa7fcc337567dda3c4eee4e5e8bb10d8b9b5978496af5b8a05860e0594e0") : Bool × String).1, ((true, "dab8aa7fcc337567dda3c4eee4e5e8bb10d8b9b5978496af5b8a05860e0594e0") : Bool × String).2.toList) := by kernel_rfl
theorem pL : false = Tryz.pinned.checked.prog.looks [] := by kernel_rfl
theorem pF : Tryz.prog.funcNamed "clew/clewlaw08.ParseRight" = some 8 := by kernel_rfl
theorem pS : ([44].all fun u => !Tryz.prog.wantsStandIn u) = true := by kernel_rfl
theorem pG : false = Rows.parseRightRow.goesBy Tryz.pinned.checked.prog := by kernel_rfl
theorem proved : Rows.ParseRightCardSaid :=
  Claim7.holds_tied_plain_at .later [] [.data, .data, .pinned] true (true, "dab8aa7fcc337567dda3c4eee4e5e8bb10d8b9b5978496af5b8a05860e0594e0") false over (fun _ h => by cases h) pW (fun _ h => by cases h) parseRight_row_tie rfl ⟨rfl, rfl⟩ pM rfl
    (fun f fn hf hfn => by
      obtain rfl : f = 8 := Option.some.inj (pF.symm.trans hf) |>.symm
      obtain rfl : fn = Tryz.f8 := (Option.some.inj (Tryz.func8.symm.trans hfn)).symm
      exact ⟨pL, fun j t ht => by
        rw [Tryz.params8] at ht
        have hm : t ∈ [44] := by simpa using Array.mem_of_getElem? ht
        have hall : ([44].all fun u => !Tryz.prog.wantsStandIn u) = true := pS
        exact (show Tryz.prog.wantsStandIn t = false by simpa using List.all_eq_true.1 hall t hm)⟩)
    pG
#print axioms proved
end Go.Proofs.YtlofoifcdmeopaaGreatDoor.parseRight
namespace Go.Proofs.YtlofoifcdmeopaaGreatDoor
/-- The card, under a short name, for the claim. -/
theorem parseRight_holds : Rows.ParseRightCardSaid := parseRight.proved
end Go.Proofs.YtlofoifcdmeopaaGreatDoor
