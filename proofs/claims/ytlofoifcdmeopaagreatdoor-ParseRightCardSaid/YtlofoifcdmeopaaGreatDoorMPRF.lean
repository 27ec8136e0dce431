/- The law's own examples: the second pattern. Told functions: what each answers, as plain trees; written by a program of this session (tell.py). The law's own examples. Told functions: what each answers, as plain trees; written by a program of this session (tell.py). ParseRight. DERIVED: THE SHELF's CONTRACTS AT THIS DUMP, IN PLAIN WORDS (tools/lay-plain.mjs out of 'YtlofoifcdmeopaaGreatDoorLaySortIScr.lean', which tools/lay-shelf.mjs wrote): THE SAME DECLARATIONS UNDER THE SAME NAMES: 'import', 'namespace', 'open', 'def', 'theorem' AND NOTHING ELSE: no command of the shelf's: FOR A HAND-IN. Each laying: the table of numbers ('.._ren') and one theorem, a field a fact of the dump's own or the kernel's comparison; each contract: ONE APPLICATION. slices.Sort of whole numbers as a function that is given. DERIVED: THE SHELF's CONTRACTS AT THIS DUMP, IN PLAIN WORDS (tools/lay-plain.mjs out of 'YtlofoifcdmeopaaGreatDoorLaySortRScr.lean', which tools/lay-shelf.mjs wrote): THE SAME DECLARATIONS UNDER THE SAME NAMES: 'import', 'namespace', 'open', 'def', 'theorem' AND NOTHING ELSE: no command of the shelf's: FOR A HAND-IN. Each laying: the table of numbers ('.._ren') and one theorem, a field a fact of the dump's own or the kernel's comparison; each contract: ONE APPLICATION. slices.SortFunc at ranges with rset.Make's own closure, as a function that is given: over the library's contract. slices.Clone of ranges as a function that is given. DERIVED: THE SHELF's CONTRACTS AT THIS DUMP, IN PLAIN WORDS (tools/lay-plain.mjs out of 'YtlofoifcdmeopaaGreatDoorLayCutScr.lean', which tools/lay-shelf.mjs wrote): THE SAME DECLARATIONS UNDER THE SAME NAMES: 'import', 'namespace', 'open', 'def', 'theorem' AND NOTHING ELSE: no command of the shelf's: FOR A HAND-IN. Each laying: the table of numbers ('.._ren') and one theorem, a field a fact of the dump's own or the kernel's comparison; each contract: ONE APPLICATION. strings.Cut as a function that is given. All functions that are given, as the reader has them. -/
import Derived.Test.YtlofoifcdmeopaaGreatDoorMPRD
import Derived.KernelRfl
import Derived.Test.YtlofoifcdmeopaaGreatDoorMPRC
import Derived.Test.YtlofoifcdmeopaaGreatDoorMPRE
import Derived.Shelf.Slices.In.SortNone
import Derived.Shelf.Sort.Plain
import Derived.Ground.NamesProg
import Derived.Test.YtlofoifcdmeopaaGreatDoorProg
import Derived.Shelf.SlSortCmp.NoneTotal
import Derived.Ground.SlsfProg
import Derived.StillTailTactics
import Derived.WalkKit
import Derived.OwnWalk
import Derived.Laws.AppendOwn
import Derived.Lib.SliceRun
import Derived.Shelf.Strings.Cut
namespace Go.Proofs.YtlofoifcdmeopaaGreatDoor.V
open Go Go.Ev Go.RowKit
set_option linter.unusedVariables false
set_option linter.unusedSimpArgs false
def pat82 : List Int := [40, 63, 105, 41, 75]
def s820 : PS := ⟨0, false, false, false, false, 0, [ByteArray.empty], 0, 0⟩
def s821 : PS := ⟨4, true, false, false, false, 0, [ByteArray.empty], 0, 0⟩
def s822 : PS := ⟨5, true, false, false, false, 0, [ByteArray.empty], 0, 0⟩
def n82 : Nd := ⟨2, 4, 5, 0, 0, 0, 0, ByteArray.empty, [(75, 75), (107, 107), (8490, 8490)], []⟩
def tree82 : Dat := .agg [.list [nodeD n82], .int 0, .list [.str ByteArray.empty]]
theorem group82 : E C 206 [pv pat82 s820, .int .i64 (0 + 1)] = some [ptD nd0P [], .bool false, pd pat82 s821] := E_from 60 fun n => by kernel_rfl
theorem piece_none (b : List Int) (hb : b.length ≤ 140737488351232) (s : PS) (d : Int) (he : s.e = 0) (h1 : cntQ b s.k = none) {n : Nd} {ks : List Dat} {may : Bool} {s1 : PS} (hat : E C 179 [pv b s, .int .i64 d] = some [ptD n ks, .bool may, pd b s1]) (e1 : s1.e = 0) (hk1 : i64P s1.k) (h2 : cntQ b (skipS b s1).k = none) (hk : n.kind = 0) : E C 148 [pv b s, .int .i64 d] = some [.list [], pd b (skipS b s1)] := by
  apply o148
  rw [bT (count_no b hb s h1)]
  simp only [stP, agA]
  rw [cond_false, neF he, bT hat]
  simp only [stP, agA]
  rw [neF e1, bT (skip_E b hb s1 hk1)]
  simp only [stP, agA]
  rw [bT (count_no b hb (skipS b s1) h2)]
  simp only [stP, agA]
  rw [cond_false, eT hk]
  rfl
theorem piece82a : E C 148 [pv pat82 s820, .int .i64 0] = some [.list [], pd pat82 s821] :=
  piece_none pat82 (by decide) s820 0 rfl (by decide) (atom_par pat82 s820 0 (by decide) (by decide) (by decide) group82) rfl (by unfold i64P s821; decide) (by decide) rfl
theorem sym82 : symR pat82 s821.k = (75, 1) := by kernel_rfl
theorem piece82b : E C 148 [pv pat82 s821, .int .i64 0] = some [.list [ptD n82 []], pd pat82 s822] := by
  have h := atom_lit pat82 (by decide) (by decide) s821 0 (by decide) (by decide) (by rw [sym82]; decide)
  rw [sym82] at h
  rw [show (bif s821.fo then closeR (mk [(((75, 1) : Int × Int).1, ((75, 1) : Int × Int).1)]) else mk [(((75, 1) : Int × Int).1, ((75, 1) : Int × Int).1)]) = [(75, 75), (107, 107), (8490, 8490)] by kernel_rfl] at h
  exact pc_ok pat82 (by decide) s821 0 rfl (by decide) h rfl (by unfold i64P s821; decide) (by decide) (by decide)
theorem row82 : E C 108 [pv pat82 s820, .int .i64 0] = some [ptD n82 [], pd pat82 s822] := by
  apply o108
  apply M108_1_of
  refine (bT (ends_E pat82 (by decide) s820 (by unfold i64P s820; decide) (by decide))).trans ?_
  rw [show skipS pat82 s820 = s820 from rfl, show endsB pat82 s820 = false by decide]
  simp only [stP, agA]
  refine (nT rfl).trans ?_
  refine (bT piece82a).trans ?_
  simp only [stP, agA]
  rw [cap144, dT (by decide)]
  apply M108_1_of
  refine (bT (ends_E pat82 (by decide) s821 (by unfold i64P s821; decide) (by decide))).trans ?_
  rw [show skipS pat82 s821 = s821 from rfl, show endsB pat82 s821 = false by decide]
  simp only [stP, agA]
  refine (nT rfl).trans ?_
  refine (bT piece82b).trans ?_
  simp only [stP, agA]
  rw [cap144, dT (by decide)]
  apply M108_1_of
  refine (bT (ends_E pat82 (by decide) s822 (by unfold i64P s822; decide) (by decide))).trans ?_
  rw [show skipS pat82 s822 = s822 from rfl, show endsB pat82 s822 = true by decide]
  simp only [stP, agA]
  rfl
theorem number82 : E C 69 [ptV n82 [], .own 1 0 38 []] = some [.list [nodeD n82]] := E_from 60 fun n => by kernel_rfl
theorem parse82 : E C 26 [.shr 5 ([.int 40, .int 63, .int 105, .int 41, .int 75] : List Dat)] = some [tree82, .int 0, .int 0] := by
  have h := alt_one pat82 s820 0 row82 (by decide) (.inl (by decide))
  apply o26
  rw [dF (by decide)]
  refine (bT h).trans ?_
  simp only [stP, agA]
  refine (bT (over_E pat82 s822)).trans ?_
  simp only [stP, agA]
  rw [show overB pat82 s822 = true by decide, nF rfl, neF (show s822.e = 0 from rfl)]
  refine (bT number82).trans ?_
  simp only [stP, agA]
  apply M26_1_of
  rw [dT (by decide), ixT ⟨by decide, by decide⟩]
  rw [show rd [nodeD n82] (0 : Int).toNat = nodeD n82 from rfl]
  simp only [nd0, datI]
  rw [eF (by decide), show IntKind.i64.wrap (0 + 1) = 1 by decide]
  apply M26_1_of
  rw [dF (by decide)]
  rfl
end Go.Proofs.YtlofoifcdmeopaaGreatDoor.V
namespace Go.Proofs.YtlofoifcdmeopaaGreatDoor.V
open Go Go.Ev
set_option maxRecDepth 100000
set_option linter.unusedVariables false
/-- clew/clewlaw08.anchor -/
noncomputable def f28 : Func := Tryz.f28
def kp28 : List Nat := [0, 1, 2, 4, 5]
noncomputable def c28 (p : List Nat) : Code := pick f28 p
noncomputable def J28_7 (n : Nat)  (v0 : Bool) (v1_0 : List Dat) (v1_1 : Int) (v1_2 : List Dat) (v2 : Int) (v3 : AV) (v4_0 : List Dat) (v4_1 : Int) (v4_2 : List Dat) (v5 : Int) (v6 v7 v8 v9 v10 v11 v12 v13 v14 v15 v16 v17 v18 v19 v20 v21 v22 v23 v24 v25 v26 v27 v28 v29 v30 v31 v32 v33 v34 v35 v36 v37 v38 v39 v40 v41 v42 v43 v44 v45 v46 v47 v48 v49 v50 v51 v52 v53 v54 v55 v56 v57 v58 v59 v60 v61 : AV) (v62 : Bool) : R := jn fun _ => evOps C (ev C n) (ropsOf (c28 [1, 1, 1, 0])) ((ropsOf (c28 [1, 1, 1, 0])).drop 42) (cn [.bool v0, .box 25 [.shr 38 v1_0, .int .i64 v1_1, .shr 9 v1_2], .int .i64 v2, v3, .box 25 [.shr 38 v4_0, .int .i64 v4_1, .shr 9 v4_2], .int .i64 v5, v6, v7, v8, v9, v10, v11, v12, v13, v14, v15, v16, v17, v18, v19, v20, v21, v22, v23, v24, v25, v26, v27, v28, v29, v30, v31, v32, v33, v34, v35, v36, v37, v38, v39, v40, v41, v42, v43, v44, v45, v46, v47, v48, v49, v50, v51, v52, v53, v54, v55, v56, v57, v58, v59, v60, v61, .bool v62] (un 9 [])) ((Kseq C (ev C n) n kp28 (c28 [1, 1, 1, 1]) (Ktop C 28 f28 [])) .normal)
noncomputable def J28_6 (n : Nat)  (v0 : Bool) (v1_0 : List Dat) (v1_1 : Int) (v1_2 : List Dat) (v2 : Int) (v3 : AV) (v4_0 : List Dat) (v4_1 : Int) (v4_2 : List Dat) (v5 : Int) (v6 v7 v8 v9 v10 v11 v12 v13 v14 v15 v16 v17 v18 v19 v20 v21 v22 v23 v24 v25 v26 v27 v28 v29 v30 v31 v32 v33 v34 v35 v36 v37 v38 v39 v40 v41 v42 v43 v44 v45 v46 v47 v48 v49 v50 v51 v52 v53 v54 v55 : AV) (v56 : Bool) : R := jn fun _ => evOps C (ev C n) (ropsOf (c28 [1, 1, 1, 0])) ((ropsOf (c28 [1, 1, 1, 0])).drop 36) (cn [.bool v0, .box 25 [.shr 38 v1_0, .int .i64 v1_1, .shr 9 v1_2], .int .i64 v2, v3, .box 25 [.shr 38 v4_0, .int .i64 v4_1, .shr 9 v4_2], .int .i64 v5, v6, v7, v8, v9, v10, v11, v12, v13, v14, v15, v16, v17, v18, v19, v20, v21, v22, v23, v24, v25, v26, v27, v28, v29, v30, v31, v32, v33, v34, v35, v36, v37, v38, v39, v40, v41, v42, v43, v44, v45, v46, v47, v48, v49, v50, v51, v52, v53, v54, v55, .bool v56] (un 15 [])) ((Kseq C (ev C n) n kp28 (c28 [1, 1, 1, 1]) (Ktop C 28 f28 [])) .normal)
noncomputable def J28_5 (n : Nat)  (v0 : Bool) (v1_0 : List Dat) (v1_1 : Int) (v1_2 : List Dat) (v2 : Int) (v3 : AV) (v4_0 : List Dat) (v4_1 : Int) (v4_2 : List Dat) (v5 : Int) (v6 v7 v8 v9 v10 v11 v12 v13 v14 v15 v16 v17 v18 v19 v20 v21 v22 v23 v24 v25 v26 v27 v28 v29 v30 v31 v32 v33 v34 v35 v36 v37 v38 v39 v40 v41 v42 v43 v44 v45 v46 v47 : AV) (v48 : Bool) : R := jn fun _ => evOps C (ev C n) (ropsOf (c28 [1, 1, 1, 0])) ((ropsOf (c28 [1, 1, 1, 0])).drop 28) (cn [.bool v0, .box 25 [.shr 38 v1_0, .int .i64 v1_1, .shr 9 v1_2], .int .i64 v2, v3, .box 25 [.shr 38 v4_0, .int .i64 v4_1, .shr 9 v4_2], .int .i64 v5, v6, v7, v8, v9, v10, v11, v12, v13, v14, v15, v16, v17, v18, v19, v20, v21, v22, v23, v24, v25, v26, v27, v28, v29, v30, v31, v32, v33, v34, v35, v36, v37, v38, v39, v40, v41, v42, v43, v44, v45, v46, v47, .bool v48] (un 23 [])) ((Kseq C (ev C n) n kp28 (c28 [1, 1, 1, 1]) (Ktop C 28 f28 [])) .normal)
noncomputable def J28_4 (n : Nat)  (v0 : Bool) (v1_0 : List Dat) (v1_1 : Int) (v1_2 : List Dat) (v2 : Int) (v3 : AV) (v4_0 : List Dat) (v4_1 : Int) (v4_2 : List Dat) (v5 : Int) (v6 v7 v8 v9 v10 v11 v12 v13 v14 v15 v16 v17 v18 v19 v20 v21 v22 v23 v24 v25 v26 v27 v28 v29 v30 v31 v32 v33 v34 v35 v36 v37 v38 v39 : AV) (v40 : Bool) : R := jn fun _ => evOps C (ev C n) (ropsOf (c28 [1, 1, 1, 0])) ((ropsOf (c28 [1, 1, 1, 0])).drop 20) (cn [.bool v0, .box 25 [.shr 38 v1_0, .int .i64 v1_1, .shr 9 v1_2], .int .i64 v2, v3, .box 25 [.shr 38 v4_0, .int .i64 v4_1, .shr 9 v4_2], .int .i64 v5, v6, v7, v8, v9, v10, v11, v12, v13, v14, v15, v16, v17, v18, v19, v20, v21, v22, v23, v24, v25, v26, v27, v28, v29, v30, v31, v32, v33, v34, v35, v36, v37, v38, v39, .bool v40] (un 31 [])) ((Kseq C (ev C n) n kp28 (c28 [1, 1, 1, 1]) (Ktop C 28 f28 [])) .normal)
noncomputable def J28_3 (n : Nat)  (v0 : Bool) (v1_0 : List Dat) (v1_1 : Int) (v1_2 : List Dat) (v2 : Int) (v3 : AV) (v4_0 : List Dat) (v4_1 : Int) (v4_2 : List Dat) (v5 : Int) (v6 v7 v8 v9 v10 v11 v12 v13 v14 v15 v16 v17 v18 v19 v20 v21 v22 v23 v24 v25 v26 v27 v28 v29 v30 v31 : AV) (v32 : Bool) : R := jn fun _ => evOps C (ev C n) (ropsOf (c28 [1, 1, 1, 0])) ((ropsOf (c28 [1, 1, 1, 0])).drop 12) (cn [.bool v0, .box 25 [.shr 38 v1_0, .int .i64 v1_1, .shr 9 v1_2], .int .i64 v2, v3, .box 25 [.shr 38 v4_0, .int .i64 v4_1, .shr 9 v4_2], .int .i64 v5, v6, v7, v8, v9, v10, v11, v12, v13, v14, v15, v16, v17, v18, v19, v20, v21, v22, v23, v24, v25, v26, v27, v28, v29, v30, v31, .bool v32] (un 39 [])) ((Kseq C (ev C n) n kp28 (c28 [1, 1, 1, 1]) (Ktop C 28 f28 [])) .normal)
noncomputable def J28_2 (n : Nat)  (v0 : Bool) (v1_0 : List Dat) (v1_1 : Int) (v1_2 : List Dat) (v2 : Int) (v3 : AV) (v4_0 : List Dat) (v4_1 : Int) (v4_2 : List Dat) (v5 : Int) (v6 v7 v8 v9 v10 v11 v12 v13 v14 v15 v16 v17 v18 v19 v20 v21 v22 v23 v24 v25 : AV) (v26 : Bool) : R := jn fun _ => evOps C (ev C n) (ropsOf (c28 [1, 1, 1, 0])) ((ropsOf (c28 [1, 1, 1, 0])).drop 6) (cn [.bool v0, .box 25 [.shr 38 v1_0, .int .i64 v1_1, .shr 9 v1_2], .int .i64 v2, v3, .box 25 [.shr 38 v4_0, .int .i64 v4_1, .shr 9 v4_2], .int .i64 v5, v6, v7, v8, v9, v10, v11, v12, v13, v14, v15, v16, v17, v18, v19, v20, v21, v22, v23, v24, v25, .bool v26] (un 45 [])) ((Kseq C (ev C n) n kp28 (c28 [1, 1, 1, 1]) (Ktop C 28 f28 [])) .normal)
noncomputable def J28_1 (n : Nat)  (v0 : Bool) (v1_0 : List Dat) (v1_1 : Int) (v1_2 : List Dat) (v2 : Int) (v3 : AV) (v4_0 : List Dat) (v4_1 : Int) (v4_2 : List Dat) (v5 : Int) (v6 v7 v8 v9 v10 v11 v12 v13 v14 v15 v16 v17 v18 v19 v20 : AV) : R := jn fun _ => evOps C (ev C n) (ropsOf (c28 [1, 1, 1, 0])) ((ropsOf (c28 [1, 1, 1, 0])).drop 0) (cn [.bool v0, .box 25 [.shr 38 v1_0, .int .i64 v1_1, .shr 9 v1_2], .int .i64 v2, v3, .box 25 [.shr 38 v4_0, .int .i64 v4_1, .shr 9 v4_2], .int .i64 v5, v6, v7, v8, v9, v10, v11, v12, v13, v14, v15, v16, v17, v18, v19, v20] (un 51 [])) ((Kseq C (ev C n) n kp28 (c28 [1, 1, 1, 1]) (Ktop C 28 f28 [])) .normal)
noncomputable def N28_7 (v4_0 : List Dat) (v62 : Bool) : R := bif v62 then (bif decide (0 < (v4_0.length : Int)) then (bif decide (0 < v4_0.length) then (some [.bool (((((rd v4_0 0).C 8).L).length : Int) == 3)]) else none) else none) else (some [.bool false])
theorem N28_7_c (v0 : Bool) (v1_0 : List Dat) (v1_1 : Int) (v1_2 : List Dat) (v2 : Int) (v3 : AV) (v4_0 : List Dat) (v4_1 : Int) (v4_2 : List Dat) (v5 : Int) (v6 v7 v8 v9 v10 v11 v12 v13 v14 v15 v16 v17 v18 v19 v20 v21 v22 v23 v24 v25 v26 v27 v28 v29 v30 v31 v32 v33 v34 v35 v36 v37 v38 v39 v40 v41 v42 v43 v44 v45 v46 v47 v48 v49 v50 v51 v52 v53 v54 v55 v56 v57 v58 v59 v60 v61 : AV) (v62 : Bool) : Cont (fun φ => J28_7 (φ 0)  v0 v1_0 v1_1 v1_2 v2 v3 v4_0 v4_1 v4_2 v5 v6 v7 v8 v9 v10 v11 v12 v13 v14 v15 v16 v17 v18 v19 v20 v21 v22 v23 v24 v25 v26 v27 v28 v29 v30 v31 v32 v33 v34 v35 v36 v37 v38 v39 v40 v41 v42 v43 v44 v45 v46 v47 v48 v49 v50 v51 v52 v53 v54 v55 v56 v57 v58 v59 v60 v61 v62) (N28_7 v4_0 v62) := Cont.eq2 (Cont.bif (Cont.bif (Cont.bif (Cont.const _) Cont.nn) Cont.nn) (Cont.const _)) fun φ => by kernel_rfl
theorem J28_6_g (n : Nat)  (v0 : Bool) (v1_0 : List Dat) (v1_1 : Int) (v1_2 : List Dat) (v2 : Int) (v3 : AV) (v4_0 : List Dat) (v4_1 : Int) (v4_2 : List Dat) (v5 : Int) (v6 v7 v8 v9 v10 v11 v12 v13 v14 v15 v16 v17 v18 v19 v20 v21 v22 v23 v24 v25 v26 v27 v28 v29 v30 v31 v32 v33 v34 v35 v36 v37 v38 v39 v40 v41 v42 v43 v44 v45 v46 v47 v48 v49 v50 v51 v52 v53 v54 v55 : AV) (v56 : Bool) (G : Env → R) : evOps C (ev C n) (ropsOf (c28 [1, 1, 1, 0])) (((ropsOf (c28 [1, 1, 1, 0])).drop 36).take 6) (cn [.bool v0, .box 25 [.shr 38 v1_0, .int .i64 v1_1, .shr 9 v1_2], .int .i64 v2, v3, .box 25 [.shr 38 v4_0, .int .i64 v4_1, .shr 9 v4_2], .int .i64 v5, v6, v7, v8, v9, v10, v11, v12, v13, v14, v15, v16, v17, v18, v19, v20, v21, v22, v23, v24, v25, v26, v27, v28, v29, v30, v31, v32, v33, v34, v35, v36, v37, v38, v39, v40, v41, v42, v43, v44, v45, v46, v47, v48, v49, v50, v51, v52, v53, v54, v55, .bool v56] (un 15 [])) G = bif v56 then (G (cn [.bool v0, .box 25 [.shr 38 v1_0, .int .i64 v1_1, .shr 9 v1_2], .int .i64 v2, v3, .box 25 [.shr 38 v4_0, .int .i64 v4_1, .shr 9 v4_2], .int .i64 v5, v6, v7, v8, v9, v10, v11, v12, v13, v14, v15, v16, v17, v18, v19, v20, v21, v22, v23, v24, v25, v26, v27, v28, v29, v30, v31, v32, v33, v34, v35, v36, v37, v38, v39, v40, v41, v42, v43, v44, v45, v46, v47, v48, v49, v50, v51, v52, v53, v54, v55, .bool v56, .bool true, .ref 4 0, .shr 38 v4_0, .int .i64 (v4_0.length : Int), .dead, .bool ((v4_0.length : Int) == 1)] (un 9 []))) else (G (cn [.bool v0, .box 25 [.shr 38 v1_0, .int .i64 v1_1, .shr 9 v1_2], .int .i64 v2, v3, .box 25 [.shr 38 v4_0, .int .i64 v4_1, .shr 9 v4_2], .int .i64 v5, v6, v7, v8, v9, v10, v11, v12, v13, v14, v15, v16, v17, v18, v19, v20, v21, v22, v23, v24, v25, v26, v27, v28, v29, v30, v31, v32, v33, v34, v35, v36, v37, v38, v39, v40, v41, v42, v43, v44, v45, v46, v47, v48, v49, v50, v51, v52, v53, v54, v55, .bool v56, .bool false, .skp, .skp, .skp, .dead, .bool false] (un 9 []))) := by kernel_rfl
noncomputable def N28_6 (v4_0 : List Dat) (v56 : Bool) : R := bif v56 then (N28_7 v4_0 ((v4_0.length : Int) == 1)) else (N28_7 v4_0 false)
theorem N28_6_c (v0 : Bool) (v1_0 : List Dat) (v1_1 : Int) (v1_2 : List Dat) (v2 : Int) (v3 : AV) (v4_0 : List Dat) (v4_1 : Int) (v4_2 : List Dat) (v5 : Int) (v6 v7 v8 v9 v10 v11 v12 v13 v14 v15 v16 v17 v18 v19 v20 v21 v22 v23 v24 v25 v26 v27 v28 v29 v30 v31 v32 v33 v34 v35 v36 v37 v38 v39 v40 v41 v42 v43 v44 v45 v46 v47 v48 v49 v50 v51 v52 v53 v54 v55 : AV) (v56 : Bool) : Cont (fun φ => J28_6 (φ 0)  v0 v1_0 v1_1 v1_2 v2 v3 v4_0 v4_1 v4_2 v5 v6 v7 v8 v9 v10 v11 v12 v13 v14 v15 v16 v17 v18 v19 v20 v21 v22 v23 v24 v25 v26 v27 v28 v29 v30 v31 v32 v33 v34 v35 v36 v37 v38 v39 v40 v41 v42 v43 v44 v45 v46 v47 v48 v49 v50 v51 v52 v53 v54 v55 v56) (N28_6 v4_0 v56) := Cont.eq2 (Cont.bif (N28_7_c v0 v1_0 v1_1 v1_2 v2 v3 _ v4_1 v4_2 v5 v6 v7 v8 v9 v10 v11 v12 v13 v14 v15 v16 v17 v18 v19 v20 v21 v22 v23 v24 v25 v26 v27 v28 v29 v30 v31 v32 v33 v34 v35 v36 v37 v38 v39 v40 v41 v42 v43 v44 v45 v46 v47 v48 v49 v50 v51 v52 v53 v54 v55 (.bool v56) (.bool true) (.ref 4 0) (.shr 38 v4_0) (.int .i64 (v4_0.length : Int)) .dead _) (N28_7_c v0 v1_0 v1_1 v1_2 v2 v3 _ v4_1 v4_2 v5 v6 v7 v8 v9 v10 v11 v12 v13 v14 v15 v16 v17 v18 v19 v20 v21 v22 v23 v24 v25 v26 v27 v28 v29 v30 v31 v32 v33 v34 v35 v36 v37 v38 v39 v40 v41 v42 v43 v44 v45 v46 v47 v48 v49 v50 v51 v52 v53 v54 v55 (.bool v56) (.bool false) .skp .skp .skp .dead _)) fun φ => by
  delta J28_6 J28_7
  exact (evOps_cut 36 6 42 rfl).trans (J28_6_g (φ 0)  v0 v1_0 v1_1 v1_2 v2 v3 v4_0 v4_1 v4_2 v5 v6 v7 v8 v9 v10 v11 v12 v13 v14 v15 v16 v17 v18 v19 v20 v21 v22 v23 v24 v25 v26 v27 v28 v29 v30 v31 v32 v33 v34 v35 v36 v37 v38 v39 v40 v41 v42 v43 v44 v45 v46 v47 v48 v49 v50 v51 v52 v53 v54 v55 v56 (fun E => jn fun _ => evOps C (ev C (φ 0)) (ropsOf (c28 [1, 1, 1, 0])) ((ropsOf (c28 [1, 1, 1, 0])).drop 42) E ((Kseq C (ev C (φ 0)) (φ 0) kp28 (c28 [1, 1, 1, 1]) (Ktop C 28 f28 [])) .normal)))
theorem J28_5_g (n : Nat)  (v0 : Bool) (v1_0 : List Dat) (v1_1 : Int) (v1_2 : List Dat) (v2 : Int) (v3 : AV) (v4_0 : List Dat) (v4_1 : Int) (v4_2 : List Dat) (v5 : Int) (v6 v7 v8 v9 v10 v11 v12 v13 v14 v15 v16 v17 v18 v19 v20 v21 v22 v23 v24 v25 v26 v27 v28 v29 v30 v31 v32 v33 v34 v35 v36 v37 v38 v39 v40 v41 v42 v43 v44 v45 v46 v47 : AV) (v48 : Bool) (G : Env → R) : evOps C (ev C n) (ropsOf (c28 [1, 1, 1, 0])) (((ropsOf (c28 [1, 1, 1, 0])).drop 28).take 8) (cn [.bool v0, .box 25 [.shr 38 v1_0, .int .i64 v1_1, .shr 9 v1_2], .int .i64 v2, v3, .box 25 [.shr 38 v4_0, .int .i64 v4_1, .shr 9 v4_2], .int .i64 v5, v6, v7, v8, v9, v10, v11, v12, v13, v14, v15, v16, v17, v18, v19, v20, v21, v22, v23, v24, v25, v26, v27, v28, v29, v30, v31, v32, v33, v34, v35, v36, v37, v38, v39, v40, v41, v42, v43, v44, v45, v46, v47, .bool v48] (un 23 [])) G = bif v48 then (bif decide (4 < (v1_0.length : Int)) then (bif decide (4 < v1_0.length) then (G (cn [.bool v0, .box 25 [.shr 38 v1_0, .int .i64 v1_1, .shr 9 v1_2], .int .i64 v2, v3, .box 25 [.shr 38 v4_0, .int .i64 v4_1, .shr 9 v4_2], .int .i64 v5, v6, v7, v8, v9, v10, v11, v12, v13, v14, v15, v16, v17, v18, v19, v20, v21, v22, v23, v24, v25, v26, v27, v28, v29, v30, v31, v32, v33, v34, v35, v36, v37, v38, v39, v40, v41, v42, v43, v44, v45, v46, v47, .bool v48, .bool true, .ref 1 0, .shr 38 v1_0, .sref 38 v1_0 4 0, .sref 38 v1_0 4 0, .int .i64 (((rd v1_0 4).C 0).I), .dead, .bool ((((rd v1_0 4).C 0).I) == 7)] (un 15 []))) else none) else none) else (G (cn [.bool v0, .box 25 [.shr 38 v1_0, .int .i64 v1_1, .shr 9 v1_2], .int .i64 v2, v3, .box 25 [.shr 38 v4_0, .int .i64 v4_1, .shr 9 v4_2], .int .i64 v5, v6, v7, v8, v9, v10, v11, v12, v13, v14, v15, v16, v17, v18, v19, v20, v21, v22, v23, v24, v25, v26, v27, v28, v29, v30, v31, v32, v33, v34, v35, v36, v37, v38, v39, v40, v41, v42, v43, v44, v45, v46, v47, .bool v48, .bool false, .skp, .skp, .skp, .skp, .skp, .dead, .bool false] (un 15 []))) := by kernel_rfl
noncomputable def N28_5 (v1_0 v4_0 : List Dat) (v48 : Bool) : R := bif v48 then (bif decide (4 < (v1_0.length : Int)) then (bif decide (4 < v1_0.length) then (N28_6 v4_0 ((((rd v1_0 4).C 0).I) == 7)) else none) else none) else (N28_6 v4_0 false)
theorem N28_5_c (v0 : Bool) (v1_0 : List Dat) (v1_1 : Int) (v1_2 : List Dat) (v2 : Int) (v3 : AV) (v4_0 : List Dat) (v4_1 : Int) (v4_2 : List Dat) (v5 : Int) (v6 v7 v8 v9 v10 v11 v12 v13 v14 v15 v16 v17 v18 v19 v20 v21 v22 v23 v24 v25 v26 v27 v28 v29 v30 v31 v32 v33 v34 v35 v36 v37 v38 v39 v40 v41 v42 v43 v44 v45 v46 v47 : AV) (v48 : Bool) : Cont (fun φ => J28_5 (φ 0)  v0 v1_0 v1_1 v1_2 v2 v3 v4_0 v4_1 v4_2 v5 v6 v7 v8 v9 v10 v11 v12 v13 v14 v15 v16 v17 v18 v19 v20 v21 v22 v23 v24 v25 v26 v27 v28 v29 v30 v31 v32 v33 v34 v35 v36 v37 v38 v39 v40 v41 v42 v43 v44 v45 v46 v47 v48) (N28_5 v1_0 v4_0 v48) := Cont.eq2 (Cont.bif (Cont.bif (Cont.bif (N28_6_c v0 v1_0 v1_1 v1_2 v2 v3 _ v4_1 v4_2 v5 v6 v7 v8 v9 v10 v11 v12 v13 v14 v15 v16 v17 v18 v19 v20 v21 v22 v23 v24 v25 v26 v27 v28 v29 v30 v31 v32 v33 v34 v35 v36 v37 v38 v39 v40 v41 v42 v43 v44 v45 v46 v47 (.bool v48) (.bool true) (.ref 1 0) (.shr 38 v1_0) (.sref 38 v1_0 4 0) (.sref 38 v1_0 4 0) (.int .i64 (((rd v1_0 4).C 0).I)) .dead _) Cont.nn) Cont.nn) (N28_6_c v0 v1_0 v1_1 v1_2 v2 v3 _ v4_1 v4_2 v5 v6 v7 v8 v9 v10 v11 v12 v13 v14 v15 v16 v17 v18 v19 v20 v21 v22 v23 v24 v25 v26 v27 v28 v29 v30 v31 v32 v33 v34 v35 v36 v37 v38 v39 v40 v41 v42 v43 v44 v45 v46 v47 (.bool v48) (.bool false) .skp .skp .skp .skp .skp .dead _)) fun φ => by
  delta J28_5 J28_6
  exact (evOps_cut 28 8 36 rfl).trans (J28_5_g (φ 0)  v0 v1_0 v1_1 v1_2 v2 v3 v4_0 v4_1 v4_2 v5 v6 v7 v8 v9 v10 v11 v12 v13 v14 v15 v16 v17 v18 v19 v20 v21 v22 v23 v24 v25 v26 v27 v28 v29 v30 v31 v32 v33 v34 v35 v36 v37 v38 v39 v40 v41 v42 v43 v44 v45 v46 v47 v48 (fun E => jn fun _ => evOps C (ev C (φ 0)) (ropsOf (c28 [1, 1, 1, 0])) ((ropsOf (c28 [1, 1, 1, 0])).drop 36) E ((Kseq C (ev C (φ 0)) (φ 0) kp28 (c28 [1, 1, 1, 1]) (Ktop C 28 f28 [])) .normal)))
theorem J28_4_g (n : Nat)  (v0 : Bool) (v1_0 : List Dat) (v1_1 : Int) (v1_2 : List Dat) (v2 : Int) (v3 : AV) (v4_0 : List Dat) (v4_1 : Int) (v4_2 : List Dat) (v5 : Int) (v6 v7 v8 v9 v10 v11 v12 v13 v14 v15 v16 v17 v18 v19 v20 v21 v22 v23 v24 v25 v26 v27 v28 v29 v30 v31 v32 v33 v34 v35 v36 v37 v38 v39 : AV) (v40 : Bool) (G : Env → R) : evOps C (ev C n) (ropsOf (c28 [1, 1, 1, 0])) (((ropsOf (c28 [1, 1, 1, 0])).drop 20).take 8) (cn [.bool v0, .box 25 [.shr 38 v1_0, .int .i64 v1_1, .shr 9 v1_2], .int .i64 v2, v3, .box 25 [.shr 38 v4_0, .int .i64 v4_1, .shr 9 v4_2], .int .i64 v5, v6, v7, v8, v9, v10, v11, v12, v13, v14, v15, v16, v17, v18, v19, v20, v21, v22, v23, v24, v25, v26, v27, v28, v29, v30, v31, v32, v33, v34, v35, v36, v37, v38, v39, .bool v40] (un 31 [])) G = bif v40 then (bif decide (3 < (v1_0.length : Int)) then (bif decide (3 < v1_0.length) then (G (cn [.bool v0, .box 25 [.shr 38 v1_0, .int .i64 v1_1, .shr 9 v1_2], .int .i64 v2, v3, .box 25 [.shr 38 v4_0, .int .i64 v4_1, .shr 9 v4_2], .int .i64 v5, v6, v7, v8, v9, v10, v11, v12, v13, v14, v15, v16, v17, v18, v19, v20, v21, v22, v23, v24, v25, v26, v27, v28, v29, v30, v31, v32, v33, v34, v35, v36, v37, v38, v39, .bool v40, .bool true, .ref 1 0, .shr 38 v1_0, .sref 38 v1_0 3 0, .sref 38 v1_0 3 0, .int .i64 (((rd v1_0 3).C 0).I), .dead, .bool ((((rd v1_0 3).C 0).I) == 8)] (un 23 []))) else none) else none) else (G (cn [.bool v0, .box 25 [.shr 38 v1_0, .int .i64 v1_1, .shr 9 v1_2], .int .i64 v2, v3, .box 25 [.shr 38 v4_0, .int .i64 v4_1, .shr 9 v4_2], .int .i64 v5, v6, v7, v8, v9, v10, v11, v12, v13, v14, v15, v16, v17, v18, v19, v20, v21, v22, v23, v24, v25, v26, v27, v28, v29, v30, v31, v32, v33, v34, v35, v36, v37, v38, v39, .bool v40, .bool false, .skp, .skp, .skp, .skp, .skp, .dead, .bool false] (un 23 []))) := by kernel_rfl
noncomputable def N28_4 (v1_0 v4_0 : List Dat) (v40 : Bool) : R := bif v40 then (bif decide (3 < (v1_0.length : Int)) then (bif decide (3 < v1_0.length) then (N28_5 v1_0 v4_0 ((((rd v1_0 3).C 0).I) == 8)) else none) else none) else (N28_5 v1_0 v4_0 false)
theorem N28_4_c (v0 : Bool) (v1_0 : List Dat) (v1_1 : Int) (v1_2 : List Dat) (v2 : Int) (v3 : AV) (v4_0 : List Dat) (v4_1 : Int) (v4_2 : List Dat) (v5 : Int) (v6 v7 v8 v9 v10 v11 v12 v13 v14 v15 v16 v17 v18 v19 v20 v21 v22 v23 v24 v25 v26 v27 v28 v29 v30 v31 v32 v33 v34 v35 v36 v37 v38 v39 : AV) (v40 : Bool) : Cont (fun φ => J28_4 (φ 0)  v0 v1_0 v1_1 v1_2 v2 v3 v4_0 v4_1 v4_2 v5 v6 v7 v8 v9 v10 v11 v12 v13 v14 v15 v16 v17 v18 v19 v20 v21 v22 v23 v24 v25 v26 v27 v28 v29 v30 v31 v32 v33 v34 v35 v36 v37 v38 v39 v40) (N28_4 v1_0 v4_0 v40) := Cont.eq2 (Cont.bif (Cont.bif (Cont.bif (N28_5_c v0 _ v1_1 v1_2 v2 v3 _ v4_1 v4_2 v5 v6 v7 v8 v9 v10 v11 v12 v13 v14 v15 v16 v17 v18 v19 v20 v21 v22 v23 v24 v25 v26 v27 v28 v29 v30 v31 v32 v33 v34 v35 v36 v37 v38 v39 (.bool v40) (.bool true) (.ref 1 0) (.shr 38 v1_0) (.sref 38 v1_0 3 0) (.sref 38 v1_0 3 0) (.int .i64 (((rd v1_0 3).C 0).I)) .dead _) Cont.nn) Cont.nn) (N28_5_c v0 _ v1_1 v1_2 v2 v3 _ v4_1 v4_2 v5 v6 v7 v8 v9 v10 v11 v12 v13 v14 v15 v16 v17 v18 v19 v20 v21 v22 v23 v24 v25 v26 v27 v28 v29 v30 v31 v32 v33 v34 v35 v36 v37 v38 v39 (.bool v40) (.bool false) .skp .skp .skp .skp .skp .dead _)) fun φ => by
  delta J28_4 J28_5
  exact (evOps_cut 20 8 28 rfl).trans (J28_4_g (φ 0)  v0 v1_0 v1_1 v1_2 v2 v3 v4_0 v4_1 v4_2 v5 v6 v7 v8 v9 v10 v11 v12 v13 v14 v15 v16 v17 v18 v19 v20 v21 v22 v23 v24 v25 v26 v27 v28 v29 v30 v31 v32 v33 v34 v35 v36 v37 v38 v39 v40 (fun E => jn fun _ => evOps C (ev C (φ 0)) (ropsOf (c28 [1, 1, 1, 0])) ((ropsOf (c28 [1, 1, 1, 0])).drop 28) E ((Kseq C (ev C (φ 0)) (φ 0) kp28 (c28 [1, 1, 1, 1]) (Ktop C 28 f28 [])) .normal)))
theorem J28_3_g (n : Nat)  (v0 : Bool) (v1_0 : List Dat) (v1_1 : Int) (v1_2 : List Dat) (v2 : Int) (v3 : AV) (v4_0 : List Dat) (v4_1 : Int) (v4_2 : List Dat) (v5 : Int) (v6 v7 v8 v9 v10 v11 v12 v13 v14 v15 v16 v17 v18 v19 v20 v21 v22 v23 v24 v25 v26 v27 v28 v29 v30 v31 : AV) (v32 : Bool) (G : Env → R) : evOps C (ev C n) (ropsOf (c28 [1, 1, 1, 0])) (((ropsOf (c28 [1, 1, 1, 0])).drop 12).take 8) (cn [.bool v0, .box 25 [.shr 38 v1_0, .int .i64 v1_1, .shr 9 v1_2], .int .i64 v2, v3, .box 25 [.shr 38 v4_0, .int .i64 v4_1, .shr 9 v4_2], .int .i64 v5, v6, v7, v8, v9, v10, v11, v12, v13, v14, v15, v16, v17, v18, v19, v20, v21, v22, v23, v24, v25, v26, v27, v28, v29, v30, v31, .bool v32] (un 39 [])) G = bif v32 then (bif decide (2 < (v1_0.length : Int)) then (bif decide (2 < v1_0.length) then (G (cn [.bool v0, .box 25 [.shr 38 v1_0, .int .i64 v1_1, .shr 9 v1_2], .int .i64 v2, v3, .box 25 [.shr 38 v4_0, .int .i64 v4_1, .shr 9 v4_2], .int .i64 v5, v6, v7, v8, v9, v10, v11, v12, v13, v14, v15, v16, v17, v18, v19, v20, v21, v22, v23, v24, v25, v26, v27, v28, v29, v30, v31, .bool v32, .bool true, .ref 1 0, .shr 38 v1_0, .sref 38 v1_0 2 0, .sref 38 v1_0 2 0, .int .i64 (((rd v1_0 2).C 0).I), .dead, .bool ((((rd v1_0 2).C 0).I) == 9)] (un 31 []))) else none) else none) else (G (cn [.bool v0, .box 25 [.shr 38 v1_0, .int .i64 v1_1, .shr 9 v1_2], .int .i64 v2, v3, .box 25 [.shr 38 v4_0, .int .i64 v4_1, .shr 9 v4_2], .int .i64 v5, v6, v7, v8, v9, v10, v11, v12, v13, v14, v15, v16, v17, v18, v19, v20, v21, v22, v23, v24, v25, v26, v27, v28, v29, v30, v31, .bool v32, .bool false, .skp, .skp, .skp, .skp, .skp, .dead, .bool false] (un 31 []))) := by kernel_rfl
noncomputable def N28_3 (v1_0 v4_0 : List Dat) (v32 : Bool) : R := bif v32 then (bif decide (2 < (v1_0.length : Int)) then (bif decide (2 < v1_0.length) then (N28_4 v1_0 v4_0 ((((rd v1_0 2).C 0).I) == 9)) else none) else none) else (N28_4 v1_0 v4_0 false)
theorem N28_3_c (v0 : Bool) (v1_0 : List Dat) (v1_1 : Int) (v1_2 : List Dat) (v2 : Int) (v3 : AV) (v4_0 : List Dat) (v4_1 : Int) (v4_2 : List Dat) (v5 : Int) (v6 v7 v8 v9 v10 v11 v12 v13 v14 v15 v16 v17 v18 v19 v20 v21 v22 v23 v24 v25 v26 v27 v28 v29 v30 v31 : AV) (v32 : Bool) : Cont (fun φ => J28_3 (φ 0)  v0 v1_0 v1_1 v1_2 v2 v3 v4_0 v4_1 v4_2 v5 v6 v7 v8 v9 v10 v11 v12 v13 v14 v15 v16 v17 v18 v19 v20 v21 v22 v23 v24 v25 v26 v27 v28 v29 v30 v31 v32) (N28_3 v1_0 v4_0 v32) := Cont.eq2 (Cont.bif (Cont.bif (Cont.bif (N28_4_c v0 _ v1_1 v1_2 v2 v3 _ v4_1 v4_2 v5 v6 v7 v8 v9 v10 v11 v12 v13 v14 v15 v16 v17 v18 v19 v20 v21 v22 v23 v24 v25 v26 v27 v28 v29 v30 v31 (.bool v32) (.bool true) (.ref 1 0) (.shr 38 v1_0) (.sref 38 v1_0 2 0) (.sref 38 v1_0 2 0) (.int .i64 (((rd v1_0 2).C 0).I)) .dead _) Cont.nn) Cont.nn) (N28_4_c v0 _ v1_1 v1_2 v2 v3 _ v4_1 v4_2 v5 v6 v7 v8 v9 v10 v11 v12 v13 v14 v15 v16 v17 v18 v19 v20 v21 v22 v23 v24 v25 v26 v27 v28 v29 v30 v31 (.bool v32) (.bool false) .skp .skp .skp .skp .skp .dead _)) fun φ => by
  delta J28_3 J28_4
  exact (evOps_cut 12 8 20 rfl).trans (J28_3_g (φ 0)  v0 v1_0 v1_1 v1_2 v2 v3 v4_0 v4_1 v4_2 v5 v6 v7 v8 v9 v10 v11 v12 v13 v14 v15 v16 v17 v18 v19 v20 v21 v22 v23 v24 v25 v26 v27 v28 v29 v30 v31 v32 (fun E => jn fun _ => evOps C (ev C (φ 0)) (ropsOf (c28 [1, 1, 1, 0])) ((ropsOf (c28 [1, 1, 1, 0])).drop 20) E ((Kseq C (ev C (φ 0)) (φ 0) kp28 (c28 [1, 1, 1, 1]) (Ktop C 28 f28 [])) .normal)))
theorem J28_2_g (n : Nat)  (v0 : Bool) (v1_0 : List Dat) (v1_1 : Int) (v1_2 : List Dat) (v2 : Int) (v3 : AV) (v4_0 : List Dat) (v4_1 : Int) (v4_2 : List Dat) (v5 : Int) (v6 v7 v8 v9 v10 v11 v12 v13 v14 v15 v16 v17 v18 v19 v20 v21 v22 v23 v24 v25 : AV) (v26 : Bool) (G : Env → R) : evOps C (ev C n) (ropsOf (c28 [1, 1, 1, 0])) (((ropsOf (c28 [1, 1, 1, 0])).drop 6).take 6) (cn [.bool v0, .box 25 [.shr 38 v1_0, .int .i64 v1_1, .shr 9 v1_2], .int .i64 v2, v3, .box 25 [.shr 38 v4_0, .int .i64 v4_1, .shr 9 v4_2], .int .i64 v5, v6, v7, v8, v9, v10, v11, v12, v13, v14, v15, v16, v17, v18, v19, v20, v21, v22, v23, v24, v25, .bool v26] (un 45 [])) G = bif v26 then (G (cn [.bool v0, .box 25 [.shr 38 v1_0, .int .i64 v1_1, .shr 9 v1_2], .int .i64 v2, v3, .box 25 [.shr 38 v4_0, .int .i64 v4_1, .shr 9 v4_2], .int .i64 v5, v6, v7, v8, v9, v10, v11, v12, v13, v14, v15, v16, v17, v18, v19, v20, v21, v22, v23, v24, v25, .bool v26, .bool true, .ref 1 0, .shr 38 v1_0, .int .i64 (v1_0.length : Int), .dead, .bool ((v1_0.length : Int) == 6)] (un 39 []))) else (G (cn [.bool v0, .box 25 [.shr 38 v1_0, .int .i64 v1_1, .shr 9 v1_2], .int .i64 v2, v3, .box 25 [.shr 38 v4_0, .int .i64 v4_1, .shr 9 v4_2], .int .i64 v5, v6, v7, v8, v9, v10, v11, v12, v13, v14, v15, v16, v17, v18, v19, v20, v21, v22, v23, v24, v25, .bool v26, .bool false, .skp, .skp, .skp, .dead, .bool false] (un 39 []))) := by kernel_rfl
noncomputable def N28_2 (v1_0 v4_0 : List Dat) (v26 : Bool) : R := bif v26 then (N28_3 v1_0 v4_0 ((v1_0.length : Int) == 6)) else (N28_3 v1_0 v4_0 false)
theorem N28_2_c (v0 : Bool) (v1_0 : List Dat) (v1_1 : Int) (v1_2 : List Dat) (v2 : Int) (v3 : AV) (v4_0 : List Dat) (v4_1 : Int) (v4_2 : List Dat) (v5 : Int) (v6 v7 v8 v9 v10 v11 v12 v13 v14 v15 v16 v17 v18 v19 v20 v21 v22 v23 v24 v25 : AV) (v26 : Bool) : Cont (fun φ => J28_2 (φ 0)  v0 v1_0 v1_1 v1_2 v2 v3 v4_0 v4_1 v4_2 v5 v6 v7 v8 v9 v10 v11 v12 v13 v14 v15 v16 v17 v18 v19 v20 v21 v22 v23 v24 v25 v26) (N28_2 v1_0 v4_0 v26) := Cont.eq2 (Cont.bif (N28_3_c v0 _ v1_1 v1_2 v2 v3 _ v4_1 v4_2 v5 v6 v7 v8 v9 v10 v11 v12 v13 v14 v15 v16 v17 v18 v19 v20 v21 v22 v23 v24 v25 (.bool v26) (.bool true) (.ref 1 0) (.shr 38 v1_0) (.int .i64 (v1_0.length : Int)) .dead _) (N28_3_c v0 _ v1_1 v1_2 v2 v3 _ v4_1 v4_2 v5 v6 v7 v8 v9 v10 v11 v12 v13 v14 v15 v16 v17 v18 v19 v20 v21 v22 v23 v24 v25 (.bool v26) (.bool false) .skp .skp .skp .dead _)) fun φ => by
  delta J28_2 J28_3
  exact (evOps_cut 6 6 12 rfl).trans (J28_2_g (φ 0)  v0 v1_0 v1_1 v1_2 v2 v3 v4_0 v4_1 v4_2 v5 v6 v7 v8 v9 v10 v11 v12 v13 v14 v15 v16 v17 v18 v19 v20 v21 v22 v23 v24 v25 v26 (fun E => jn fun _ => evOps C (ev C (φ 0)) (ropsOf (c28 [1, 1, 1, 0])) ((ropsOf (c28 [1, 1, 1, 0])).drop 12) E ((Kseq C (ev C (φ 0)) (φ 0) kp28 (c28 [1, 1, 1, 1]) (Ktop C 28 f28 [])) .normal)))
theorem J28_1_g (n : Nat)  (v0 : Bool) (v1_0 : List Dat) (v1_1 : Int) (v1_2 : List Dat) (v2 : Int) (v3 : AV) (v4_0 : List Dat) (v4_1 : Int) (v4_2 : List Dat) (v5 : Int) (v6 v7 v8 v9 v10 v11 v12 v13 v14 v15 v16 v17 v18 v19 v20 : AV) (G : Env → R) : evOps C (ev C n) (ropsOf (c28 [1, 1, 1, 0])) (((ropsOf (c28 [1, 1, 1, 0])).drop 0).take 6) (cn [.bool v0, .box 25 [.shr 38 v1_0, .int .i64 v1_1, .shr 9 v1_2], .int .i64 v2, v3, .box 25 [.shr 38 v4_0, .int .i64 v4_1, .shr 9 v4_2], .int .i64 v5, v6, v7, v8, v9, v10, v11, v12, v13, v14, v15, v16, v17, v18, v19, v20] (un 51 [])) G = bif v2 == 0 then (G (cn [.bool v0, .box 25 [.shr 38 v1_0, .int .i64 v1_1, .shr 9 v1_2], .int .i64 v2, v3, .box 25 [.shr 38 v4_0, .int .i64 v4_1, .shr 9 v4_2], .int .i64 v5, v6, v7, v8, v9, v10, v11, v12, v13, v14, v15, v16, v17, v18, v19, v20, .int .i64 v2, .bool (v2 == 0), .bool true, .int .i64 v5, .dead, .bool (v5 == 0)] (un 45 []))) else (G (cn [.bool v0, .box 25 [.shr 38 v1_0, .int .i64 v1_1, .shr 9 v1_2], .int .i64 v2, v3, .box 25 [.shr 38 v4_0, .int .i64 v4_1, .shr 9 v4_2], .int .i64 v5, v6, v7, v8, v9, v10, v11, v12, v13, v14, v15, v16, v17, v18, v19, v20, .int .i64 v2, .bool (v2 == 0), .bool false, .skp, .dead, .bool false] (un 45 []))) := by kernel_rfl
noncomputable def N28_1 (v1_0 : List Dat) (v2 : Int) (v4_0 : List Dat) (v5 : Int) : R := bif v2 == 0 then (N28_2 v1_0 v4_0 (v5 == 0)) else (N28_2 v1_0 v4_0 false)
theorem N28_1_c (v0 : Bool) (v1_0 : List Dat) (v1_1 : Int) (v1_2 : List Dat) (v2 : Int) (v3 : AV) (v4_0 : List Dat) (v4_1 : Int) (v4_2 : List Dat) (v5 : Int) (v6 v7 v8 v9 v10 v11 v12 v13 v14 v15 v16 v17 v18 v19 v20 : AV) : Cont (fun φ => J28_1 (φ 0)  v0 v1_0 v1_1 v1_2 v2 v3 v4_0 v4_1 v4_2 v5 v6 v7 v8 v9 v10 v11 v12 v13 v14 v15 v16 v17 v18 v19 v20) (N28_1 v1_0 v2 v4_0 v5) := Cont.eq2 (Cont.bif (N28_2_c v0 _ v1_1 v1_2 v2 v3 _ v4_1 v4_2 v5 v6 v7 v8 v9 v10 v11 v12 v13 v14 v15 v16 v17 v18 v19 v20 (.int .i64 v2) (.bool (v2 == 0)) (.bool true) (.int .i64 v5) .dead _) (N28_2_c v0 _ v1_1 v1_2 v2 v3 _ v4_1 v4_2 v5 v6 v7 v8 v9 v10 v11 v12 v13 v14 v15 v16 v17 v18 v19 v20 (.int .i64 v2) (.bool (v2 == 0)) (.bool false) .skp .dead _)) fun φ => by
  delta J28_1 J28_2
  exact (evOps_cut 0 6 6 rfl).trans (J28_1_g (φ 0)  v0 v1_0 v1_1 v1_2 v2 v3 v4_0 v4_1 v4_2 v5 v6 v7 v8 v9 v10 v11 v12 v13 v14 v15 v16 v17 v18 v19 v20 (fun E => jn fun _ => evOps C (ev C (φ 0)) (ropsOf (c28 [1, 1, 1, 0])) ((ropsOf (c28 [1, 1, 1, 0])).drop 6) E ((Kseq C (ev C (φ 0)) (φ 0) kp28 (c28 [1, 1, 1, 1]) (Ktop C 28 f28 [])) .normal)))
theorem o28 {r : List Dat} (h : (bif decide (0 < ([.int 97, .int 124, .int 40, .int 98, .int 41, .int 42, .int 43] : List Dat).length) then ((E C 26 [.shr 5 ([.int 97, .int 124, .int 40, .int 98, .int 41, .int 42, .int 43] : List Dat)]).bind fun d1 => (bif decide (0 < ([.int 40, .int 63, .int 105, .int 41, .int 75] : List Dat).length) then ((E C 26 [.shr 5 ([.int 40, .int 63, .int 105, .int 41, .int 75] : List Dat)]).bind fun d2 => (N28_1 (((rd d1 0).C 0).L) ((rd d1 1).I) (((rd d2 0).C 0).L) ((rd d2 1).I))) else none)) else none : R) = some r) : E C 28 [] = some r := E_st h (Cont.bif (Cont.bind (Cont.call C 26 _) fun d1 => (Cont.bif (Cont.bind (Cont.call C 26 _) fun d2 => (N28_1_c false _ (((rd d1 0).C 1).I) (((rd d1 0).C 2).L) _ (.int .i64 ((rd d1 2).I)) _ (((rd d2 0).C 1).I) (((rd d2 0).C 2).L) _ (.int .i64 ((rd d2 2).I)) (.tup [.agg [.shr 38 (((rd d1 0).C 0).L), .int .i64 (((rd d1 0).C 1).I), .shr 9 (((rd d1 0).C 2).L)], .int .i64 ((rd d1 1).I), .int .i64 ((rd d1 2).I)]) (.shr 5 ([.int 97, .int 124, .int 40, .int 98, .int 41, .int 42, .int 43] : List Dat)) (.view 8 0 8 0) .dead (.agg [.shr 38 (((rd d1 0).C 0).L), .int .i64 (((rd d1 0).C 1).I), .shr 9 (((rd d1 0).C 2).L)]) (.int .i64 ((rd d1 1).I)) (.int .i64 ((rd d1 2).I)) (.tup [.agg [.shr 38 (((rd d2 0).C 0).L), .int .i64 (((rd d2 0).C 1).I), .shr 9 (((rd d2 0).C 2).L)], .int .i64 ((rd d2 1).I), .int .i64 ((rd d2 2).I)]) (.shr 5 ([.int 40, .int 63, .int 105, .int 41, .int 75] : List Dat)) (.view 15 0 15 0) .dead (.agg [.shr 38 (((rd d2 0).C 0).L), .int .i64 (((rd d2 0).C 1).I), .shr 9 (((rd d2 0).C 2).L)]) (.int .i64 ((rd d2 1).I)) (.int .i64 ((rd d2 2).I)))) Cont.nn)) Cont.nn) fun φ => by kernel_rfl
end Go.Proofs.YtlofoifcdmeopaaGreatDoor.V
namespace Go.Proofs.YtlofoifcdmeopaaGreatDoor.V
open Go Go.Ev Go.RowKit
theorem anchor08_E : E C 28 [] = some [.bool true] := by
  apply o28
  rw [dT (by decide), bT parse81, dT (by decide), bT parse82]
  kernel_rfl
end Go.Proofs.YtlofoifcdmeopaaGreatDoor.V
namespace Go.Proofs.YtlofoifcdmeopaaGreatDoor.V
open Go Go.Ev
set_option maxRecDepth 100000
set_option linter.unusedVariables false
/-- clew/clewlaw08.ParseRight -/
noncomputable def f8 : Func := Tryz.f8
noncomputable def c8 (p : List Nat) : Code := pick f8 p
theorem o8 (a0 : List Dat) {r : List Dat} (h : ((E C 28 []).bind fun d1 => (bif !((rd d1 0).B) then (some [.bool false]) else ((E C 26 [.shr 5 a0]).bind fun d2 => (bif ((rd d2 1).I) != 0 then (bif ((((rd d2 0).C 0).L).length : Int) == 0 then (bif decide (((rd d2 2).I) ≥ 0) then (some [.bool (decide (((rd d2 2).I) ≤ (a0.length : Int)))]) else (some [.bool false])) else (some [.bool false])) else ((E C 35 [.agg [.shr 38 (((rd d2 0).C 0).L), .int .i64 (((rd d2 0).C 1).I), .shr 9 (((rd d2 0).C 2).L)]]).bind fun d3 => (bif (rd d3 0).B then (bif ((rd d2 2).I) == 0 then (bif decide (0 < ((((rd d2 0).C 0).L).length : Int)) then (bif decide (0 < (((rd d2 0).C 0).L).length) then (some [.bool (decide ((((rd (((rd d2 0).C 0).L) 0).C 2).I) ≤ (a0.length : Int)))]) else none) else none) else (some [.bool false])) else (some [.bool false])))))) : R) = some r) : E C 8 [.shr 5 a0] = some r := E_st h (Cont.bind (Cont.call C 28 _) fun _ => (Cont.bif (Cont.const _) (Cont.bind (Cont.call C 26 _) fun _ => (Cont.bif (Cont.bif (Cont.bif (Cont.const _) (Cont.const _)) (Cont.const _)) (Cont.bind (Cont.call C 35 _) fun _ => (Cont.bif (Cont.bif (Cont.bif (Cont.bif (Cont.const _) Cont.nn) Cont.nn) (Cont.const _)) (Cont.const _))))))) fun φ => by kernel_rfl
end Go.Proofs.YtlofoifcdmeopaaGreatDoor.V
namespace Go.Proofs.YtlofoifcdmeopaaGreatDoor.V
open Go Go.Ev Go.RowKit
set_option linter.unusedVariables false
set_option linter.unusedSimpArgs false
theorem ParseRight_pure (e0 : Dat) (h0 : fitT C.T 9 44 e0) : E C 8 [.shr 5 e0.L] = some [.bool true] := by
  obtain ⟨b, rfl, hb, hbl⟩ := fit_bytes h0
  obtain ⟨t, e, w, pE, p⟩ := Parse_T hb
  apply o8
  rw [bT anchor08_E]
  simp only [rd0, datB, datL]
  rw [nF rfl, bT pE]
  simp only [treeD, rd0, rd1, rd2, aggC0, aggC1, aggC2, datI, datL]
  rcases p with ⟨h1, rfl, h3, h4⟩ | ⟨h1, h2, h3, h4, h5, n, l, h6, h7⟩
  · rw [neT h1, eT (show (((nsD ([] : List Nd)).length : Nat) : Int) = 0 from rfl), dT h3, List.length_map, decide_eq_true h4]
  · have hR := Right_T h3 h4 h5 (fun h => by
      have ha := right_alone h5 _ (List.getElem_mem h)
      unfold aloneB at ha
      simp only [Bool.and_eq_true, Bool.not_eq_true', decide_eq_false_iff_not, wi_iff] at ha
      omega)
    rw [neF h1, bT hR]
    simp only [rd0, datB]
    rw [cond_true, eT h2, nsD_len, dT (by rw [h6, List.length_cons]; omega), dT (by rw [h6, List.length_cons]; omega), h6, List.length_map, show rd (nsD (n :: l)) 0 = nodeD n from rfl, nd2, datI, decide_eq_true h7]
end Go.Proofs.YtlofoifcdmeopaaGreatDoor.V
namespace Go.Proofs
open Go.Shelf
def Tryz.laySortI_ren : Go.Shelf.Ren := ⟨fun | 189 => 273 | 125 => 151 | 257 => 283 | 128 => 190 | 129 => 191 | 294 => 293 | 295 => 294 | 296 => 295 | 297 => 296 | 298 => 297 | 299 => 298 | 216 => 299 | 300 => 300 | 301 => 301 | 328 => 304 | 329 => 219 | 330 => 220 | 331 => 305 | 332 => 306 | 215 => 152 | 343 => 311 | n => n, fun | 28 => 36 | 3 => 3 | 46 => 188 | 0 => 0 | 51 => 206 | 53 => 209 | 4 => 4 | 183 => 229 | 182 => 228 | 131 => 233 | 5 => 5 | 9 => 9 | 218 => 260 | 222 => 264 | 228 => 278 | 229 => 63 | n => n, fun | n => n⟩
theorem Tryz.laySortI : Go.Proofs.Lays.n189 Tryz.prog Tryz.laySortI_ren := {
  mixed := by kernel_rfl
  f125 := Tryz.func151.trans (congrArg some (by kernel_rfl))
  f128 := Tryz.func190.trans (congrArg some (by kernel_rfl))
  f129 := Tryz.func191.trans (congrArg some (by kernel_rfl))
  f189 := Tryz.func273.trans (congrArg some (by kernel_rfl))
  f215 := Tryz.func152.trans (congrArg some (by kernel_rfl))
  f216 := Tryz.func299.trans (congrArg some (by kernel_rfl))
  f257 := Tryz.func283.trans (congrArg some (by kernel_rfl))
  f294 := Tryz.func293.trans (congrArg some (by kernel_rfl))
  f295 := Tryz.func294.trans (congrArg some (by kernel_rfl))
  f296 := Tryz.func295.trans (congrArg some (by kernel_rfl))
  f297 := Tryz.func296.trans (congrArg some (by kernel_rfl))
  f298 := Tryz.func297.trans (congrArg some (by kernel_rfl))
  f299 := Tryz.func298.trans (congrArg some (by kernel_rfl))
  f300 := Tryz.func300.trans (congrArg some (by kernel_rfl))
  f301 := Tryz.func301.trans (congrArg some (by kernel_rfl))
  f328 := Tryz.func304.trans (congrArg some (by kernel_rfl))
  f329 := Tryz.func219.trans (congrArg some (by kernel_rfl))
  f330 := Tryz.func220.trans (congrArg some (by kernel_rfl))
  f331 := Tryz.func305.trans (congrArg some (by kernel_rfl))
  f332 := Tryz.func306.trans (congrArg some (by kernel_rfl))
  f343 := Tryz.func311.trans (congrArg some (by kernel_rfl))
  t0 := Tryz.underlying0
  a0 := Tryz.isAgg0
  z0 := Tryz.sizeOf0
  v0 := Tryz.zeroValue0
  t3 := Tryz.underlying3
  a3 := Tryz.isAgg3
  z3 := Tryz.sizeOf3
  v3 := Tryz.zeroValue3
  t4 := Tryz.underlying4
  a4 := Tryz.isAgg4
  z4 := Tryz.sizeOf4
  v4 := Tryz.zeroValue4
  t5 := Tryz.underlying5
  a5 := Tryz.isAgg5
  z5 := Tryz.sizeOf5
  v5 := Tryz.zeroValue5
  t9 := Tryz.underlying9
  a9 := Tryz.isAgg9
  z9 := Tryz.sizeOf9
  v9 := Tryz.zeroValue9
  t28 := Tryz.underlying36
  a28 := Tryz.isAgg36
  z28 := Tryz.sizeOf36
  v28 := Tryz.zeroValue36
  t46 := Tryz.underlying188
  a46 := Tryz.isAgg188
  z46 := Tryz.sizeOf188
  v46 := Tryz.zeroValue188
  t51 := Tryz.underlying206
  a51 := Tryz.isAgg206
  z51 := Tryz.sizeOf206
  v51 := Tryz.zeroValue206
  t53 := Tryz.underlying209
  a53 := Tryz.isAgg209
  z53 := Tryz.sizeOf209
  v53 := Tryz.zeroValue209
  t131 := Tryz.underlying233
  a131 := Tryz.isAgg233
  z131 := Tryz.sizeOf233
  v131 := Tryz.zeroValue233
  t182 := Tryz.underlying228
  a182 := Tryz.isAgg228
  z182 := Tryz.sizeOf228
  v182 := Tryz.zeroValue228
  t183 := Tryz.underlying229
  a183 := Tryz.isAgg229
  z183 := Tryz.sizeOf229
  v183 := Tryz.zeroValue229
  t218 := Tryz.underlying260
  a218 := Tryz.isAgg260
  z218 := Tryz.sizeOf260
  v218 := Tryz.zeroValue260
  t222 := Tryz.underlying264
  a222 := Tryz.isAgg264
  z222 := Tryz.sizeOf264
  v222 := Tryz.zeroValue264
  t228 := Tryz.underlying278
  a228 := Tryz.isAgg278
  z228 := Tryz.sizeOf278
  v228 := Tryz.zeroValue278
  t229 := Tryz.underlying63
  a229 := Tryz.isAgg63
  z229 := Tryz.sizeOf63
  v229 := Tryz.zeroValue63 }
end Go.Proofs
namespace Go.Proofs.YtlofoifcdmeopaaGreatDoor.V
open Go Go.Ev Go.RowKit Go.Shelf
set_option linter.unusedVariables false
set_option linter.unusedSimpArgs false
set_option maxRecDepth 100000
theorem ty_i64 : C.T 3 = some ⟨1, 8, [.int .i64], false, .scal⟩ := rfl
theorem sort_ok {args : List AV} {ds : List Dat} (h : gSortI 3 args = some ds) : FnR Tryz.prog C 273 args ds := by
  have hio : C.io 273 = true := by kernel_rfl
  unfold FnR
  rw [hio]
  unfold gSortI at h
  split at h
  case h_2 => cases h
  rename_i e' l
  cases hb : Nat.beq e' 3 && decide (l.length < 4611686018427387904) with
  | false => rw [hb] at h; cases h
  | true =>
    rw [hb] at h
    obtain rfl := Option.some.inj h
    simp only [Bool.and_eq_true, decide_eq_true_eq] at hb
    obtain ⟨he, hbig⟩ := hb
    obtain rfl := Nat.eq_of_beq_eq_true he
    have hil : (ints l).length = l.length := by simp [ints]
    intro e l2 cl hargs
    simp only [List.cons.injEq, AV.shr.injEq] at hargs
    obtain ⟨⟨rfl, rfl⟩, rfl⟩ := hargs
    refine ⟨_, rfl, by rw [List.length_map, sortI_length, hil], fun te w St ad cap hte hcap hmem => ?_⟩
    rcases Nat.eq_zero_or_pos l.length with h0 | hpos
    · obtain rfl : l = [] := List.eq_nil_of_length_eq_zero h0
      refine Calls.mono (Any.slices_Sort_int_none Tryz.laySortI ad cap w) ?_
      rintro x w' ⟨rfl, rfl⟩
      refine ⟨rfl, rfl, rfl, rfl, Nat.le_refl _, fun _ _ _ => rfl, fun _ b o arr et fz _ hh => ⟨arr, hh, rfl, fun i j hi => ?_⟩⟩
      simp [ints, sortI] at hi
    · have hc0 : cap ≠ 0 := by omega
      have ht := hte hc0
      rw [ty_i64, Option.some.injEq] at ht
      subst ht
      rcases hmem with h | ⟨b, o, arr, et, fz, rfl, hh, hnf, hsz, hrow⟩
      · exact absurd h hc0
      have hcell : ∀ j, j < l.length → arr[o + j]? = some (.int .i64 ((ints l).getD j 0)) := fun j hj => by
        obtain ⟨u, k1, k2⟩ := hrow j 0 hj (by simp)
        have k3 := k2 (.int .i64) rfl
        cases k3 with
        | int k3 =>
          simp only [Nat.mul_one, Nat.add_zero, List.getElem?_drop, Array.getElem?_toList] at k1
          rw [k1, k3]
          have : (cellOf ⟨1, 8, [.int .i64], false, .scal⟩ (rd l j) 0).I = (ints l).getD j 0 := by simp [cellOf, ints, rd, List.getD_eq_getElem?_getD, hj]
          rw [this]
      have hblk := (Array.getElem?_eq_some_iff.1 hh).1
      have hsz' : o + cap ≤ arr.size := by simpa using hsz
      have hH : Go.Sort.Holds (Value.int .i64) w b o (ints l).toArray := by
        intro j hj
        have hj : j < l.length := by simpa [hil] using hj
        refine ⟨?_, ?_⟩
        · simp only [World.cell?, hh, Option.isSome_none, Bool.false_eq_true, if_false]
          rw [hcell j hj, getElem!_pos (ints l).toArray j (by simpa [hil] using hj)]
          simp [List.getD_eq_getElem?_getD, hil, hj]
        · simp only [World.frozen?, hh]
          have := hnf.2 (o + j) (by omega)
          simpa using this
      have hcon := Any.slices_Sort_int Tryz.laySortI b o cap (ints l) w hH hblk (by rw [hil]; exact hbig)
      rw [hil] at hcon
      refine Calls.mono hcon ?_
      rintro x w' ⟨rfl, n, os, hw⟩
      rw [← sortI_merge] at hw
      have hheap : ∀ i, i < w.heap.size → w'.heap[i]? = (w.heap.modify b (Go.Sort.onCells (Go.Sort.putCells (Value.int .i64) o (sortI (ints l)).toArray)))[i]? := fun i hi => by
        rw [hw]
        show ((w.heap.modify b _) ++ os)[i]? = _
        rw [Array.getElem?_append_left (by simpa using hi)]
      have hgg : w'.heap[b]? = some (.cells (Go.Sort.putCells (Value.int .i64) o (sortI (ints l)).toArray arr) et fz) := by
        rw [hheap b hblk, Array.getElem?_modify, if_pos rfl, hh]
        rfl
      refine ⟨rfl, by rw [hw]; rfl, by rw [hw]; rfl, by rw [hw]; rfl, ?_, fun k hk hne => ?_, fun _ b2 o2 arr2 et2 fz2 hb2 hh2 => ?_⟩
      · rw [hw]
        show w.heap.size ≤ ((w.heap.modify b _) ++ os).size
        simp
      · rw [hheap k hk, Array.getElem?_modify, if_neg (fun e => hne b o rfl hc0 e.symm)]
      · simp only [Option.some.injEq, Addr.mk.injEq, and_true] at hb2
        obtain ⟨rfl, rfl⟩ := hb2
        rw [hh] at hh2
        simp only [Option.some.injEq, Obj.cells.injEq] at hh2
        obtain ⟨rfl, rfl, rfl⟩ := hh2
        refine ⟨_, hgg, by simp [Go.Sort.putCells], fun i j hi hj => ?_⟩
        have hj0 : j = 0 := by simp at hj; omega
        subst hj0
        have hi : i < (sortI (ints l)).length := by simpa using hi
        have hil2 : (sortI (ints l)).length = l.length := by rw [sortI_length, hil]
        refine ⟨.int .i64 (sortI (ints l))[i], ?_, fun ct hct => ?_⟩
        · simp only [Nat.mul_one, Nat.add_zero, List.getElem?_drop, Array.getElem?_toList]
          unfold Go.Sort.putCells
          rw [Array.getElem?_mapIdx, Array.getElem?_eq_getElem (by omega)]
          simp only [Option.map_some]
          rw [if_pos ⟨by omega, by simp; omega⟩, Nat.add_sub_cancel_left, getElem!_pos (sortI (ints l)).toArray i (by simpa using hi)]
          simp
        · simp only [List.getElem?_cons_zero, Option.some.injEq] at hct
          subst hct
          refine .int ?_
          have : (cellOf ⟨1, 8, [.int .i64], false, .scal⟩ (rd ((sortI (ints l)).map Dat.int) i) 0).I = (sortI (ints l))[i] := by simp [cellOf, rdI, List.getD_eq_getElem?_getD, hi]
          rw [this]
end Go.Proofs.YtlofoifcdmeopaaGreatDoor.V
namespace Go.Proofs
open Go.Shelf
def Tryz.laySortR_ren : Go.Shelf.Ren := ⟨fun | 6 => 114 | 15 => 151 | 14 => 150 | 28 => 190 | 29 => 191 | 20 => 182 | 21 => 183 | 22 => 184 | 23 => 185 | 24 => 186 | 25 => 187 | 26 => 188 | 27 => 189 | 46 => 218 | 47 => 219 | 48 => 220 | 49 => 221 | 50 => 222 | 57 => 235 | n => n, fun | 22 => 35 | 24 => 82 | 25 => 169 | 3 => 3 | 39 => 188 | 0 => 0 | 53 => 206 | 55 => 209 | 4 => 4 | 46 => 229 | 45 => 228 | 50 => 233 | 5 => 5 | 9 => 9 | 66 => 260 | 70 => 264 | 76 => 278 | 77 => 63 | n => n, fun | n => n⟩
theorem Tryz.laySortR : Go.Proofs.SlLaysF0.n6 Tryz.prog Tryz.laySortR_ren := {
  mixed := by kernel_rfl
  f6 := ⟨Tryz.f114.name, by decide, Tryz.func114.trans (congrArg some (by kernel_rfl))⟩
  f14 := ⟨Tryz.f150.name, by decide, Tryz.func150.trans (congrArg some (by kernel_rfl))⟩
  f15 := Tryz.func151.trans (congrArg some (by kernel_rfl))
  f20 := ⟨Tryz.f182.name, by decide, Tryz.func182.trans (congrArg some (by kernel_rfl))⟩
  f21 := ⟨Tryz.f183.name, by decide, Tryz.func183.trans (congrArg some (by kernel_rfl))⟩
  f22 := ⟨Tryz.f184.name, by decide, Tryz.func184.trans (congrArg some (by kernel_rfl))⟩
  f23 := ⟨Tryz.f185.name, by decide, Tryz.func185.trans (congrArg some (by kernel_rfl))⟩
  f24 := ⟨Tryz.f186.name, by decide, Tryz.func186.trans (congrArg some (by kernel_rfl))⟩
  f25 := ⟨Tryz.f187.name, by decide, Tryz.func187.trans (congrArg some (by kernel_rfl))⟩
  f26 := ⟨Tryz.f188.name, by decide, Tryz.func188.trans (congrArg some (by kernel_rfl))⟩
  f27 := ⟨Tryz.f189.name, by decide, Tryz.func189.trans (congrArg some (by kernel_rfl))⟩
  f28 := Tryz.func190.trans (congrArg some (by kernel_rfl))
  f29 := Tryz.func191.trans (congrArg some (by kernel_rfl))
  f46 := ⟨Tryz.f218.name, by decide, Tryz.func218.trans (congrArg some (by kernel_rfl))⟩
  f47 := Tryz.func219.trans (congrArg some (by kernel_rfl))
  f48 := Tryz.func220.trans (congrArg some (by kernel_rfl))
  f49 := ⟨Tryz.f221.name, by decide, Tryz.func221.trans (congrArg some (by kernel_rfl))⟩
  f50 := ⟨Tryz.f222.name, by decide, Tryz.func222.trans (congrArg some (by kernel_rfl))⟩
  f57 := ⟨Tryz.f235.name, by decide, Tryz.func235.trans (congrArg some (by kernel_rfl))⟩
  t0 := Tryz.underlying0
  a0 := Tryz.isAgg0
  z0 := Tryz.sizeOf0
  v0 := Tryz.zeroValue0
  t3 := Tryz.underlying3
  a3 := Tryz.isAgg3
  z3 := Tryz.sizeOf3
  v3 := Tryz.zeroValue3
  t4 := Tryz.underlying4
  a4 := Tryz.isAgg4
  z4 := Tryz.sizeOf4
  v4 := Tryz.zeroValue4
  t5 := Tryz.underlying5
  a5 := Tryz.isAgg5
  z5 := Tryz.sizeOf5
  v5 := Tryz.zeroValue5
  t9 := Tryz.underlying9
  a9 := Tryz.isAgg9
  z9 := Tryz.sizeOf9
  v9 := Tryz.zeroValue9
  t22 := Tryz.underlying35
  a22 := Tryz.isAgg35
  z22 := Tryz.sizeOf35
  v22 := Tryz.zeroValue35
  t25 := Tryz.underlying169
  a25 := Tryz.isAgg169
  z25 := Tryz.sizeOf169
  v25 := Tryz.zeroValue169
  t39 := Tryz.underlying188
  a39 := Tryz.isAgg188
  z39 := Tryz.sizeOf188
  v39 := Tryz.zeroValue188
  t45 := Tryz.underlying228
  a45 := Tryz.isAgg228
  z45 := Tryz.sizeOf228
  v45 := Tryz.zeroValue228
  t46 := Tryz.underlying229
  a46 := Tryz.isAgg229
  z46 := Tryz.sizeOf229
  v46 := Tryz.zeroValue229
  t50 := Tryz.underlying233
  a50 := Tryz.isAgg233
  z50 := Tryz.sizeOf233
  v50 := Tryz.zeroValue233
  t53 := Tryz.underlying206
  a53 := Tryz.isAgg206
  z53 := Tryz.sizeOf206
  v53 := Tryz.zeroValue206
  t55 := Tryz.underlying209
  a55 := Tryz.isAgg209
  z55 := Tryz.sizeOf209
  v55 := Tryz.zeroValue209
  t66 := Tryz.underlying260
  a66 := Tryz.isAgg260
  z66 := Tryz.sizeOf260
  v66 := Tryz.zeroValue260
  t70 := Tryz.underlying264
  a70 := Tryz.isAgg264
  z70 := Tryz.sizeOf264
  v70 := Tryz.zeroValue264
  t76 := Tryz.underlying278
  a76 := Tryz.isAgg278
  z76 := Tryz.sizeOf278
  v76 := Tryz.zeroValue278
  t77 := Tryz.underlying63
  a77 := Tryz.isAgg63
  z77 := Tryz.sizeOf63
  v77 := Tryz.zeroValue63 }
end Go.Proofs
namespace Go.Proofs.YtlofoifcdmeopaaGreatDoor.V
open Go Go.Ev Go.RowKit Go.Shelf Go.Sort
set_option linter.unusedVariables false
set_option linter.unusedSimpArgs false
set_option maxRecDepth 100000
def cmpI (x y : Int) : Int := if x < y then -1 else if y < x then 1 else 0
theorem compareInt_calls (x y : Int) (w : World) : Calls Tryz.prog 117 #[.int .i64 x, .int .i64 y] w fun e w' => e = .returned (.int .i64 (cmpI x y)) ∧ w' = w := by
  unfold cmpI
  by_cases h1 : x < y
  · rw [if_pos h1]
    go_enter Tryz.func117, Tryz.ntmps117
    go_wp2
    go_ret
    exact ⟨rfl, rfl⟩
  · rw [if_neg h1]
    by_cases h2 : y < x
    · rw [if_pos h2]
      go_enter Tryz.func117, Tryz.ntmps117
      go_wp2
      go_ret
      exact ⟨rfl, rfl⟩
    · rw [if_neg h2]
      go_enter Tryz.func117, Tryz.ntmps117
      go_wp2
      go_ret
      exact ⟨rfl, rfl⟩
/-- cmp.Or of two numbers that lie in a new block. -/
theorem or_calls (x y : Int) (w : World) (b : Nat) (h0 : w.cell? ⟨b, 0, none⟩ = some (.int .i64 x)) (h1 : w.cell? ⟨b, 1, none⟩ = some (.int .i64 y)) :
    Calls Tryz.prog 116 #[.slice (some ⟨b, 0, none⟩) 2 2] w fun e w' => e = .returned (.int .i64 (if x = 0 then y else x)) ∧ w' = w := by
  by_cases hx : x = 0
  · rw [if_pos hx]
    subst hx
    by_cases hy : y = 0
    · subst hy
      go_enter Tryz.func116, Tryz.ntmps116
      go_wp2
      refine wp_loop_rounds 3 ?_
      rw [rounds_succ]
      go_wp2
      rw [rounds_succ]
      go_wp2
      rw [rounds_succ]
      go_wp2
      go_ret
      exact ⟨rfl, rfl⟩
    · have hyb : (y != 0) = true := by simpa using hy
      go_enter Tryz.func116, Tryz.ntmps116
      go_wp2
      refine wp_loop_rounds 2 ?_
      rw [rounds_succ]
      go_wp2
      rw [rounds_succ]
      go_wp2
      go_ret
      exact ⟨rfl, rfl⟩
  · rw [if_neg hx]
    have hxb : (x != 0) = true := by simpa using hx
    go_enter Tryz.func116, Tryz.ntmps116
    go_wp2
    refine wp_loop_rounds 1 ?_
    rw [rounds_succ]
    go_wp2
    go_ret
    exact ⟨rfl, rfl⟩
def cmpR (x y : (Int × Int)) : Int := if cmpI x.1 y.1 = 0 then cmpI x.2 y.2 else cmpI x.1 y.1
def encR (x : (Int × Int)) : List Value := [.int .i64 x.1, .int .i64 x.2]
set_option maxHeartbeats 1000000 in
set_option maxRecDepth 100000 in
theorem closureMake (x y : (Int × Int)) (W : World) : Calls Tryz.prog 115 #[.agg #[.int .i64 x.1, .int .i64 x.2], .agg #[.int .i64 y.1, .int .i64 y.2]] W fun e w' => e = .returned (.int .i64 (cmpR x y)) ∧ ∃ q os', w' = grow (W.drewN q) os' := by
  obtain ⟨a, b⟩ := x
  obtain ⟨c, d⟩ := y
  unfold cmpR
  dsimp only
  have h1 := fun W' => compareInt_calls a c W'
  have h2 := fun W' => compareInt_calls b d W'
  generalize cmpI a c = p at h1 ⊢
  generalize cmpI b d = q at h2 ⊢
  have ho := fun W' b => or_calls p q W' b
  generalize (if p = 0 then q else p) = m at ho ⊢
  have HO := Aside0.mk ho
  clear ho
  have hm : Tryz.prog.follows .mixedOrders = true := by kernel_rfl
  go_enter Tryz.func115, Tryz.ntmps115
  go_wp2_with fail
  have c0 : ((W.alloc (Obj.cells #[Value.int IntKind.i64 a, Value.int IntKind.i64 b] 82)).alloc (Obj.cells #[Value.int IntKind.i64 c, Value.int IntKind.i64 d] 82)).cell? ⟨W.heap.size, 0, none⟩ = some (.int .i64 a) := by go_simp
  have c1 : ((W.alloc (Obj.cells #[Value.int IntKind.i64 a, Value.int IntKind.i64 b] 82)).alloc (Obj.cells #[Value.int IntKind.i64 c, Value.int IntKind.i64 d] 82)).cell? ⟨W.heap.size, 1, none⟩ = some (.int .i64 b) := by go_simp
  have c2 : ((W.alloc (Obj.cells #[Value.int IntKind.i64 a, Value.int IntKind.i64 b] 82)).alloc (Obj.cells #[Value.int IntKind.i64 c, Value.int IntKind.i64 d] 82)).cell? ⟨W.heap.size + 1, 0, none⟩ = some (.int .i64 c) := by go_simp
  have c3 : ((W.alloc (Obj.cells #[Value.int IntKind.i64 a, Value.int IntKind.i64 b] 82)).alloc (Obj.cells #[Value.int IntKind.i64 c, Value.int IntKind.i64 d] 82)).cell? ⟨W.heap.size + 1, 1, none⟩ = some (.int .i64 d) := by go_simp
  obtain ⟨V, hV⟩ : ∃ V, ((W.alloc (Obj.cells #[Value.int IntKind.i64 a, Value.int IntKind.i64 b] 82)).alloc (Obj.cells #[Value.int IntKind.i64 c, Value.int IntKind.i64 d] 82)) = V := ⟨_, rfl⟩
  rw [hV] at c0 c1 c2 c3 ⊢
  have HV := Aside0.mk hV
  clear hV
  refine wp_region_still_tail 10 hm (by kernel_rfl) ?_
  simp only [List.take_succ_cons, List.take_zero, List.drop_succ_cons, List.drop_zero]
  change wpStill _ _ V.drew _ _ _
  have d0 : V.drew.cell? ⟨W.heap.size, 0, none⟩ = some (.int .i64 a) := c0
  have d1 : V.drew.cell? ⟨W.heap.size, 1, none⟩ = some (.int .i64 b) := c1
  have d2 : V.drew.cell? ⟨W.heap.size + 1, 0, none⟩ = some (.int .i64 c) := c2
  have d3 : V.drew.cell? ⟨W.heap.size + 1, 1, none⟩ = some (.int .i64 d) := c3
  have HD : Aside0 (∃ q, V.drew = V.drewN q) := ⟨1, rfl⟩
  clear c0 c1 c2 c3
  generalize V.drew = V2 at d0 d1 d2 d3 HD ⊢
  repeat still_step
  still_call (h1 V2)
  repeat still_step
  still_call (h2 V2)
  refine wpStill_nil ?_
  clear h1 h2 d0 d1 d2 d3
  go_wp2_with (go_at_call 116; refine (HO.out _ _ (by go_simp) (by go_simp)).mono ?_; rintro e w' ⟨rfl, rfl⟩)
  go_ret
  exact ⟨rfl, 1, #[_, _, _], by rw [← HV.out, alloc_eq_grow, alloc_eq_grow, alloc_eq_grow, grow_grow, grow_grow]; rfl⟩
/-! ### the order -/
theorem ltOf_cmpR (x y : (Int × Int)) : ltOf cmpR x y = keyLt x y := by
  unfold ltOf cmpR keyLt cmpI
  by_cases h1 : x.1 < y.1
  · simp [h1]
  · by_cases h2 : y.1 < x.1
    · have h3 : ¬ x.1 = y.1 := by omega
      simp [h1, h2, h3]
    · have h3 : x.1 = y.1 := by omega
      by_cases h4 : x.2 < y.2
      · simp [h3, h4]
      · by_cases h5 : y.2 < x.2 <;> simp [h3, h4, h5]
theorem swoR : SWO (ltOf cmpR) where
  irrefl x := by rw [ltOf_cmpR]; simp [keyLt]
  trans x y z h1 h2 := by rw [ltOf_cmpR] at *; simp [keyLt] at *; omega
  ntrans x y z h1 h2 := by rw [ltOf_cmpR] at *; simp [keyLt] at *; omega
theorem totR (x y : (Int × Int)) (h1 : ltOf cmpR x y = false) (h2 : ltOf cmpR y x = false) : x = y := by
  rw [ltOf_cmpR] at *
  obtain ⟨a, b⟩ := x
  obtain ⟨c, d⟩ := y
  simp [keyLt] at h1 h2
  have e1 : a = c := by omega
  have e2 : b = d := by omega
  subst e1 e2
  rfl
theorem ty_rng : C.T 82 = some ⟨2, 16, [.int .i64, .int .i64], true, .struct [(0, 3), (1, 3)]⟩ := rfl
theorem sortM (l : List (Int × Int)) : (l.mergeSort fun x y => !(ltOf cmpR) y x) = sortP l := by
  rw [sortP_merge]
  congr 1
  funext x y
  rw [ltOf_cmpR]
theorem sortr_ok {args : List AV} {ds : List Dat} (h : gSortR 82 115 args = some ds) : FnR Tryz.prog C 114 args ds := by
  have hio : C.io 114 = true := rfl
  unfold FnR
  rw [hio]
  unfold gSortR at h
  split at h
  case h_2 => cases h
  rename_i e' l g'
  cases hb : Nat.beq e' 82 && (Nat.beq g' 115 && decide (l.length < 4611686018427387904)) with
  | false => rw [hb] at h; cases h
  | true =>
    rw [hb] at h
    obtain rfl := Option.some.inj h
    simp only [Bool.and_eq_true, decide_eq_true_eq] at hb
    obtain ⟨he, hg, hbig⟩ := hb
    obtain rfl := Nat.eq_of_beq_eq_true he
    obtain rfl := Nat.eq_of_beq_eq_true hg
    have hil : (unprs l).length = l.length := by simp [unprs]
    intro e l2 cl hargs
    simp only [List.cons.injEq, AV.shr.injEq] at hargs
    obtain ⟨⟨rfl, rfl⟩, rfl⟩ := hargs
    refine ⟨_, rfl, by simp [prs, sortP_length, hil], fun te w St ad cap hte hcap hmem => ?_⟩
    rcases Nat.eq_zero_or_pos l.length with h0 | hpos
    · obtain rfl : l = [] := List.eq_nil_of_length_eq_zero h0
      refine Calls.mono (AnyF.slices_SortFunc_none Tryz.laySortR ad cap _ w) ?_
      rintro x w' ⟨rfl, rfl⟩
      refine ⟨rfl, rfl, rfl, rfl, Nat.le_refl _, fun _ _ _ => rfl, fun _ b o arr et fz _ hh => ⟨arr, hh, rfl, fun i j hi => ?_⟩⟩
      simp [unprs, sortP, prs] at hi
    · have hc0 : cap ≠ 0 := by omega
      have ht := hte hc0
      rw [ty_rng, Option.some.injEq] at ht
      subst ht
      rcases hmem with h | ⟨b, o, arr, et, fz, rfl, hh, hnf, hsz, hrow⟩
      · exact absurd h hc0
      have hblk := (Array.getElem?_eq_some_iff.1 hh).1
      have hsz' : o + cap * 2 ≤ arr.size := hsz
      have hcell : ∀ t, t < l.length * 2 → arr[o + t]? = some (flatK encR 2 (unprs l).toArray)[t]! := fun t ht => by
        have hi : t / 2 < l.length := by omega
        have hiu : t / 2 < (unprs l).length := by omega
        rw [get_flatK encR 2 (unprs l).toArray t (by simp only [List.size_toArray]; omega)]
        have h2 : (unprs l).toArray[t / 2]! = (unprs l)[t / 2] := by
          rw [getElem!_pos (unprs l).toArray (t / 2) (by simpa using hiu)]
          simp
        have h4 : (unprs l)[t / 2] = (((rd l (t / 2)).C 0).I, ((rd l (t / 2)).C 1).I) := by simp [unprs, Go.Ev.rd, hi]
        rw [h2, h4]
        obtain ⟨u, k1, k2⟩ := hrow (t / 2) (t % 2) hi (by show t % 2 < 2; omega)
        simp only [List.getElem?_drop, Array.getElem?_toList] at k1
        have ei : o + (t / 2 * 2 + t % 2) = o + t := by omega
        rw [ei] at k1
        rw [k1]
        have h3 : t % 2 = 0 ∨ t % 2 = 1 := by omega
        rcases h3 with h3 | h3
        · have k3 := k2 (.int .i64) (by rw [h3]; rfl)
          rw [h3] at k3 ⊢
          cases k3 with
          | int k3 => rw [k3]; rfl
        · have k3 := k2 (.int .i64) (by rw [h3]; rfl)
          rw [h3] at k3 ⊢
          cases k3 with
          | int k3 => rw [k3]; rfl
      have hH : HoldsK encR 2 w b o (unprs l).toArray := by
        intro t ht
        have ht : t < l.length * 2 := by simpa [hil] using ht
        refine ⟨?_, ?_⟩
        · simp only [World.cell?, hh, Option.isSome_none, Bool.false_eq_true, if_false]
          exact hcell t ht
        · simp only [World.frozen?, hh]
          have := hnf.2 (o + t) (by omega)
          simpa using this
      have eg : ∀ args w, (callFunc 115 args).run Tryz.prog w = .ok (.enter 115 args) w := enters_of Tryz.func115 (by kernel_rfl) rfl
      have hcon := AnyQ.slices_SortFunc_total Tryz.laySortR 2 Tryz.isAgg82 Tryz.sizeOf82 encR (fun _ => rfl) (fun x v hv => by simp [encR] at hv; rcases hv with rfl | rfl <;> rfl) cmpR swoR 115 #[] b o cap (unprs l).toArray w eg
        (fun _ _ _ _ x y => closureMake x y _) hH hblk (by simpa [hil] using hbig) totR
      change Calls Tryz.prog 114 _ _ _ at hcon
      rw [List.size_toArray, hil] at hcon
      refine Calls.mono hcon ?_
      rintro x w' ⟨rfl, n, os, hw⟩
      have hw : w' = sortWorldK encR 2 w b o n (sortP (unprs l)).toArray os := by
        rw [← sortM]
        exact hw
      have hheap : ∀ i, i < w.heap.size → w'.heap[i]? = (w.heap.modify b (onCells (putCells id o (flatK encR 2 (sortP (unprs l)).toArray))))[i]? := fun i hi => by
        rw [hw]
        show ((w.heap.modify b _) ++ os)[i]? = _
        rw [Array.getElem?_append_left (by simpa using hi)]
      have hgg : w'.heap[b]? = some (.cells (putCells id o (flatK encR 2 (sortP (unprs l)).toArray) arr) et fz) := by
        rw [hheap b hblk, Array.getElem?_modify, if_pos rfl, hh]
        rfl
      refine ⟨rfl, by rw [hw]; rfl, by rw [hw]; rfl, by rw [hw]; rfl, ?_, fun k hk hne => ?_, fun _ b2 o2 arr2 et2 fz2 hb2 hh2 => ?_⟩
      · rw [hw]
        show w.heap.size ≤ ((w.heap.modify b _) ++ os).size
        simp
      · rw [hheap k hk, Array.getElem?_modify, if_neg (fun e => hne b o rfl hc0 e.symm)]
      · simp only [Option.some.injEq, Addr.mk.injEq, and_true] at hb2
        obtain ⟨rfl, rfl⟩ := hb2
        rw [hh] at hh2
        simp only [Option.some.injEq, Obj.cells.injEq] at hh2
        obtain ⟨rfl, rfl, rfl⟩ := hh2
        refine ⟨_, hgg, by simp [putCells], fun i j hi hj => ?_⟩
        have hil2 : (sortP (unprs l)).length = l.length := by rw [sortP_length, hil]
        have hi : i < (sortP (unprs l)).length := by simpa [prs] using hi
        have hj : j < 2 := hj
        have hcell2 : ((putCells id o (flatK encR 2 (sortP (unprs l)).toArray) arr).toList.drop o)[i * 2 + j]? = some (encR (sortP (unprs l))[i])[j]! := by
          rw [List.getElem?_drop, Array.getElem?_toList]
          unfold putCells
          rw [Array.getElem?_mapIdx, Array.getElem?_eq_getElem (by omega)]
          simp only [Option.map_some]
          rw [if_pos ⟨by omega, by simp; omega⟩, Nat.add_sub_cancel_left]
          rw [get_flatK encR 2 (sortP (unprs l)).toArray (i * 2 + j) (by simp only [List.size_toArray]; omega)]
          have d1 : (i * 2 + j) / 2 = i := by omega
          have d2 : (i * 2 + j) % 2 = j := by omega
          rw [d1, d2, getElem!_pos (sortP (unprs l)).toArray i (by simpa using hi)]
          simp
        refine ⟨_, hcell2, fun ct hct => ?_⟩
        have hrd : rd (prs (sortP (unprs l))) i = .agg [.int (sortP (unprs l))[i].1, .int (sortP (unprs l))[i].2] := by simp [Go.Ev.rd, prs, hi]
        rw [hrd]
        have hj2 : j = 0 ∨ j = 1 := by omega
        rcases hj2 with rfl | rfl
        · simp only [List.getElem?_cons_zero, Option.some.injEq] at hct
          subst hct
          exact .int rfl
        · simp only [List.getElem?_cons_succ, List.getElem?_cons_zero, Option.some.injEq] at hct
          subst hct
          exact .int rfl
end Go.Proofs.YtlofoifcdmeopaaGreatDoor.V
namespace Go.Proofs.YtlofoifcdmeopaaGreatDoor.V
open Go Go.Ev Go.RowKit Go.Shelf
set_option linter.unusedVariables false
set_option linter.unusedSimpArgs false
set_option maxRecDepth 100000
theorem infoClone : (Tryz.prog.info? 82).map (fun i => (i.zero, i.size, i.bytes)) = some (some (.agg #[.int .i64 0, .int .i64 0]), 2, 16) := by kernel_rfl
theorem infoC : ∃ i, Tryz.prog.info? 82 = some i ∧ i.zero = some (.agg #[.int .i64 0, .int .i64 0]) ∧ i.size = 2 ∧ i.bytes = 16 := by
  have h := infoClone
  cases hi : Tryz.prog.info? 82 with
  | none => rw [hi] at h; cases h
  | some i =>
    rw [hi] at h
    simp only [Option.map_some, Option.some.injEq, Prod.mk.injEq] at h
    exact ⟨i, rfl, h.1, h.2.1, h.2.2⟩
theorem clone_ok {args : List AV} {ds : List Dat} (h : gClone 82 args = some ds) : FnR Tryz.prog C 250 args ds := by
  refine FnOk.r ?_ (by kernel_rfl)
  have tyR : C.T 82 = some ⟨2, 16, [.int .i64, .int .i64], true, .struct [(0, 3), (1, 3)]⟩ := by kernel_rfl
  unfold gClone at h
  split at h
  case h_2 => cases h
  rename_i e' l
  cases hb : Nat.beq e' 82 && decide (l.length < 8796093022208) with
  | false => rw [hb] at h; cases h
  | true =>
    rw [hb] at h
    obtain rfl := Option.some.inj h
    simp only [Bool.and_eq_true, decide_eq_true_eq] at hb
    obtain ⟨he, hlim⟩ := hb
    obtain rfl := Nat.eq_of_beq_eq_true he
    refine fnOk_of pok (by kernel_rfl) (fun j cs => by cases j <;> simp [geti]) fun S us H F hS hi => ?_
    have hlen : us.size = 1 := by have := hi.len; simpa using this.symm
    obtain ⟨u, rfl⟩ : ∃ u, us = #[u] := by
      obtain ⟨us⟩ := us
      match us, hlen with
      | [u], _ => exact ⟨u, rfl⟩
    have hr := hi.rel 0 (by simp)
    obtain ⟨ti, a, cap, b, o, h1, h2, h3, h4, h5⟩ := (show RelD C.T S.w0 S.St0 (.slice 82) u (.list l) from hr.2).row
    have h2 : u = .slice a l.length cap := h2
    have h3 : l.length ≤ cap := h3
    subst h2
    have hkr : C.rk 250 = [.own 82] := by kernel_rfl
    rw [hkr]
    have hun := Tryz.underlying35
    have fin : ∀ v w', w'.ownsRow S.w0.heap.size 82 2 v l.length (flat2 l) → Below S.w0.heap.size S.w0 w' → ∃ v', Ending.returned v = Ending.returned v' ∧ Below S.w0.heap.size S.w0 w' ∧
        ∃ (fR : List Nat) (G : Nat → Option Addr × Nat × Nat), fR.Nodup ∧ (∀ b, b ∈ fR → S.w0.heap.size ≤ b ∧ b < w'.heap.size) ∧ ∀ (Hc : Gh) (d : Nat), (∀ i, Hc.hd0 d i = G i) → RelS C.T w' S.St0 Hc v' fR (resV d [.own 82] [.list l]) := fun v w' hown hbel => by
      obtain ⟨fR, G, k1, k2, k3⟩ := own_row2 tyR rfl rfl rfl hown
      exact ⟨v, rfl, hbel, fR, G, k1, k2, fun Hc d hG => k3 _ Hc d hG⟩
    cases a with
    | none =>
      have h0 : l = [] := Classical.byContradiction fun hn => by
        have := (h4 hn).1
        cases this
      subst h0
      have heq := fun (W : World) => Lib.run_eql_slice_nil (P := Tryz.prog) W 35 82 none 0 cap 0 0 hun
      generalize S.w0 = w at *
      clear hr h1 h3 h4 h5 hS hi
      go_enter Tryz.func250, Tryz.ntmps250
      go_wp2
      go_ret
      exact fin _ _ ⟨rfl, .inl ⟨rfl, rfl⟩⟩ (Below.refl _ _)
    | some ad =>
      have heq := fun (W : World) => Lib.run_eql_slice_nil (P := Tryz.prog) W 35 82 (some ad) l.length cap 0 0 hun
      have hcell : ∀ j u, (flat2 l)[j]? = some u → S.w0.cell? (ad.add j) = some u := fun j u hj => by
        obtain ⟨hj1, rfl⟩ := flat2_cell hj
        have hn : l ≠ [] := fun e => by rw [e] at hj1; simp at hj1
        have hh := (h4 hn).1
        have ht := (h1 hn).1
        rw [tyR, Option.some.injEq] at ht
        subst ht
        obtain rfl : ad = ⟨b, o, none⟩ := Option.some.inj hh
        obtain ⟨v, k1, k2⟩ := h5 (j / 2) (j % 2) (by show j / 2 < l.length; omega) (by show j % 2 < 2; omega)
        have k3 : v = .int .i64 ((rd l (j / 2)).C (j % 2)).I := by
          have h3 : j % 2 = 0 ∨ j % 2 = 1 := by omega
          rcases h3 with h3 | h3
          · have k3 := k2 (.int .i64) (by rw [h3]; rfl)
            rw [h3] at k3 ⊢
            cases k3 with
            | int k3 => rw [k3]; rfl
          · have k3 := k2 (.int .i64) (by rw [h3]; rfl)
            rw [h3] at k3 ⊢
            cases k3 with
            | int k3 => rw [k3]; rfl
        rw [k3] at k1
        have e : o + j / 2 * 2 + j % 2 = o + j := by omega
        have e2 : (⟨b, o, none⟩ : Addr).add j = ⟨b, o + j, none⟩ := by simp [Addr.add]
        rw [e2, ← e]
        exact k1
      have one : ∀ u ∈ flat2 l, u.oneCell' = true := fun u hu => by
        obtain ⟨j, hj⟩ := List.getElem?_of_mem hu
        obtain ⟨_, rfl⟩ := flat2_cell hj
        rfl
      have HF := Aside0.mk fin
      have HC := Aside0.mk hcell
      have HO := Aside0.mk one
      have HL := Aside0.mk hlim
      have HU := Aside0.mk hun
      generalize S.w0 = w at *
      clear hr h1 h3 h4 h5 hS hi fin hcell one hlim hun
      have HCA : Aside0 (∀ j u, (flat2 l)[j]? = some u → (w.alloc (Obj.cells #[] 82)).cell? (ad.add j) = some u) := ⟨fun j u hj => by
        have h0 := HC.out j u hj
        rw [((Below.refl w.heap.size w).alloc (Nat.le_refl _) _).cell (World.block_lt_of_cell? w _ h0)]
        exact h0⟩
      have HB := Aside0.mk ((Below.refl w.heap.size w).alloc (Nat.le_refl _) (Obj.cells #[] 82))
      have HN : Aside0 ((w.alloc (.cells #[] 82)).ownsRow w.heap.size 82 2 (.slice (some ⟨w.heap.size, 0, none⟩) 0 0) 0 []) := ⟨World.ownsRow_lit (base := w.heap.size) (e := 82) (size := 2) w #[] 0 (Nat.le_refl _) (by simp [maxLen]) (by simp)⟩
      go_enter Tryz.func250, Tryz.ntmps250
      obtain ⟨ti, i1, i2, i3, i4⟩ := infoC
      have HI := Aside0.mk i1
      clear i1
      go_wp2_with (at_builtin; refine wpList_append_own _ rfl _ _ 35 rfl w.heap.size 82 ti (.agg #[.int .i64 0, .int .i64 0]) 2 16 HU.out HI.out i2 i3 i4 rfl (by decide) _ 0 [] rfl ?hown ad l.length cap (flat2 l) rfl (flat2_len l) ?hnews HO.out ?h63 ?hbytes ?hbase ?_; (case hown => exact HN.out); (case hnews => exact HCA.out); (case h63 => have := HL.out; simp only [maxLen]; omega); (case hbytes => have := HL.out; omega); (case hbase => simp); intro v1 w1 ho hg hat; have HO1 := Aside0.mk ho; have HG1 := Aside0.mk hg; clear ho hg hat)
      go_ret
      exact HF.out _ _ (by have := HO1.out; rwa [Nat.zero_add, List.nil_append] at this) (HB.out.grown HG1.out (by simp) (fun k hk => by
        have hk2 : some w.heap.size = some k := hk
        have := Option.some.inj hk2
        omega))
end Go.Proofs.YtlofoifcdmeopaaGreatDoor.V
namespace Go.Proofs
open Go.Shelf
def Tryz.laysCut_ren : Go.Shelf.Ren := ⟨fun | 145 => 280 | 220 => 288 | 219 => 303 | 217 => 307 | 225 => 308 | 224 => 309 | 267 => 310 | 266 => 312 | 314 => 313 | n => n, fun | 9 => 9 | 4 => 4 | 59 => 327 | 3 => 3 | 5 => 5 | 46 => 188 | 146 => 207 | 51 => 206 | n => n, fun | 1 => 4 | n => n⟩
theorem Tryz.laysCut : Go.Proofs.Lays.n145 Tryz.prog Tryz.laysCut_ren := {
  mixed := by kernel_rfl
  f145 := Tryz.func280.trans (congrArg some (by kernel_rfl))
  f217 := Tryz.func307.trans (congrArg some (by kernel_rfl))
  f219 := Tryz.func303.trans (congrArg some (by kernel_rfl))
  f220 := Tryz.func288.trans (congrArg some (by kernel_rfl))
  f224 := Tryz.func309.trans (congrArg some (by kernel_rfl))
  f225 := Tryz.func308.trans (congrArg some (by kernel_rfl))
  f266 := Tryz.func312.trans (congrArg some (by kernel_rfl))
  f267 := Tryz.func310.trans (congrArg some (by kernel_rfl))
  f314 := Tryz.func313.trans (congrArg some (by kernel_rfl))
  t3 := Tryz.underlying3
  a3 := Tryz.isAgg3
  z3 := Tryz.sizeOf3
  v3 := Tryz.zeroValue3
  t4 := Tryz.underlying4
  a4 := Tryz.isAgg4
  z4 := Tryz.sizeOf4
  v4 := Tryz.zeroValue4
  t5 := Tryz.underlying5
  a5 := Tryz.isAgg5
  z5 := Tryz.sizeOf5
  v5 := Tryz.zeroValue5
  t9 := Tryz.underlying9
  a9 := Tryz.isAgg9
  z9 := Tryz.sizeOf9
  v9 := Tryz.zeroValue9
  t46 := Tryz.underlying188
  a46 := Tryz.isAgg188
  z46 := Tryz.sizeOf188
  v46 := Tryz.zeroValue188
  t51 := Tryz.underlying206
  a51 := Tryz.isAgg206
  z51 := Tryz.sizeOf206
  v51 := Tryz.zeroValue206
  t59 := Tryz.underlying327
  a59 := Tryz.isAgg327
  z59 := Tryz.sizeOf327
  v59 := Tryz.zeroValue327
  t146 := Tryz.underlying207
  a146 := Tryz.isAgg207
  z146 := Tryz.sizeOf207
  v146 := Tryz.zeroValue207
  g1 := by kernel_rfl }
end Go.Proofs
namespace Go.Proofs.YtlofoifcdmeopaaGreatDoor.V
open Go Go.Ev Go.RowKit Go.Shelf
set_option linter.unusedVariables false
set_option linter.unusedSimpArgs false
set_option maxRecDepth 100000
theorem cut_ok {args : List AV} {ds : List Dat} (h : gCut args = some ds) : FnR Tryz.prog C 280 args ds := by
  refine FnOk.r ?_ (by kernel_rfl)
  unfold gCut at h
  split at h
  case h_2 => cases h
  rename_i s p
  cases hb : decide (s.size < 4294967281) with
  | false => rw [hb] at h; cases h
  | true =>
    rw [hb] at h
    obtain rfl := Option.some.inj h
    have hsz := of_decide_eq_true hb
    refine fnOk_of pok (by kernel_rfl) (fun j cs => by match j with | 0 => simp [geti] | 1 => simp [geti] | j + 2 => simp [geti]) fun S us H F hS hi => ?_
    obtain ⟨_, o, ho, cs, et, fz, m, rfl, hc⟩ := hS.gi (4, intO .i64) (by exact List.mem_cons_self)
    have hm : S.w0.cell? ⟨4, 0, none⟩ = some (.int .i64 m) := by simp [World.cell?, ho, hc]
    have hlen : us.size = 2 := by have := hi.len; simpa using this.symm
    obtain ⟨u0, u1, rfl⟩ : ∃ u0 u1, us = #[u0, u1] := by
      obtain ⟨us⟩ := us
      match us, hlen with
      | [a, b], _ => exact ⟨a, b, rfl⟩
    have e0 : u0 = .string s := rel_str (hi.rel 0 (by simp))
    have e1 : u1 = .string p := rel_str (hi.rel 1 (by simp))
    subst e0 e1
    refine Calls.mono (Any.strings_Cut Tryz.laysCut s p m S.w0 hsz hm) ?_
    rintro e w' ⟨rfl, n, rfl⟩
    exact ⟨_, rfl, (⟨rfl, rfl, rfl, Nat.le_refl _, fun _ _ => rfl⟩ : Below S.w0.heap.size S.w0 (S.w0.drewN n)), [], fun _ => (none, 0, 0), List.nodup_nil, fun b hb => by (cases hb), fun Hc d _ => ⟨_, rfl, [], [], rfl, ⟨rfl, rfl⟩, [], [], rfl, ⟨rfl, rfl⟩, [], [], rfl, ⟨rfl, rfl⟩, rfl⟩⟩
end Go.Proofs.YtlofoifcdmeopaaGreatDoor.V
namespace Go.Proofs.YtlofoifcdmeopaaGreatDoor.V
open Go Go.Ev Go.RowKit
set_option linter.unusedVariables false
set_option maxRecDepth 100000
theorem givenC : ∀ g h args ds, C.given g = some h → h args = some ds → FnR Tryz.prog C g args ds := by
  intro g h args ds hg hd
  have hg' : pickUp g givens = some h := hg
  unfold givens at hg'
  rcases pickUp_cases hg' with ⟨rfl, rfl⟩ | hg'
  · exact dec_ok hd
  rcases pickUp_cases hg' with ⟨rfl, rfl⟩ | hg'
  · exact sort_ok hd
  rcases pickUp_cases hg' with ⟨rfl, rfl⟩ | hg'
  · exact sortr_ok hd
  rcases pickUp_cases hg' with ⟨rfl, rfl⟩ | hg'
  · exact clone_ok hd
  rcases pickUp_cases hg' with ⟨rfl, rfl⟩ | hg'
  · exact cut_ok hd
  cases hg'
theorem intsOk {W : World} (h : W.ShapedOpen Tryz.prog) : IntsOk C W := by
  intro p hp
  obtain rfl : p = (4, intO .i64) := List.mem_singleton.1 (show p ∈ [(4, intO IntKind.i64)] from hp)
  obtain ⟨m, hm⟩ := Go.Proofs.cell_of_shapedOpen_int (t := 3) (zero := #[.int .i64 0]) h (of_decide_eq_true (by kernel_rfl)) (by kernel_rfl) rfl (by kernel_rfl) (by kernel_rfl) Tryz.underlying3
  unfold World.cell? at hm
  split at hm
  · rename_i c e f ho
    exact ⟨_, ho, c, e, f, m, rfl, by simpa using hm⟩
  · cases hm
end Go.Proofs.YtlofoifcdmeopaaGreatDoor.V
