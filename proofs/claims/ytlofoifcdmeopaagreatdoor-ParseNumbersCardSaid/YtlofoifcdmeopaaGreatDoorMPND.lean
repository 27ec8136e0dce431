/- Told functions: what each answers, as plain trees; written by a program of this session (tell.py). Package rset: what its functions answer. Lists of ranges: what they haven't, and what they have. Told functions: what each answers, as plain trees; written by a program of this session (tell.py). Letters that are the same but for their case: the document's fold and the program's. Orbits: the document's and the program's; the least of each. The document's orbit, sorted; its least is the program's. Closed lists: a list with all that is the same but for its case. Trees as plain data. -/
import Derived.Test.YtlofoifcdmeopaaGreatDoorMPNC
import Derived.KernelRfl
namespace Go.Proofs.YtlofoifcdmeopaaGreatDoor.V
open Go Go.Ev
set_option maxRecDepth 100000
set_option linter.unusedVariables false
/-- clew/rset.Has -/
noncomputable def f32 : Func := Tryz.f32
theorem o32 (a0 : List Dat) (a1 : Int) {r : List Dat} (h : (bif decide (a1 < 0) then (some [.bool false]) else (bif decide (a1 > 1114367) then (some [.bool false]) else ((E C 75 [.shr 82 a0, .clo 76 [] [.sref 3 ([.int a1] : List Dat) 0 0]]).bind fun d1 => (some [.bool ((rd d1 0).B)]))) : R) = some r) : E C 32 [.shr 82 a0, .int .i64 a1] = some r := E_st h (Cont.bif (Cont.const _) (Cont.bif (Cont.const _) (Cont.bind (Cont.call C 75 _) fun _ => (Cont.const _)))) fun φ => by kernel_rfl
/-- clew/rset.Count -/
noncomputable def f33 : Func := Tryz.f33
def kp33 : List Nat := [0, 2, 3, 5, 7, 8, 9]
noncomputable def c33 (p : List Nat) : Code := pick f33 p
noncomputable def L33_1 (n : Nat) (m1 : Nat) (v0 : List Dat) (v2 v3 : Int) (v7 : List Dat) (v8 v9 : Int) : R := loopIter (fun E K => evCode C (ev C n) n kp33 (c33 [1, 1, 0, 1, 0, 0]) E K) [0, 2, 3, 7, 8, 9] (Kblk 0 (Kseq C (ev C n) n kp33 (c33 [1, 1, 1]) (Ktop C 33 f33 [.und]))) m1 [.shr 82 v0, .und, .int .i64 v2, .int .i64 v3, .und, .und, .und, .own 7 0 82 v7, .int .i64 v8, .int .i64 v9, .und, .und, .und, .und, .und, .und, .und, .und, .und, .und, .und, .und, .und]
noncomputable def M33_1 (v0 : List Dat) (v2 v3 : Int) (v7 : List Dat) (v8 v9 : Int) : R := lim fun φ => L33_1 (φ 0) (φ 1) v0 v2 v3 v7 v8 v9
theorem M33_1_c (v0 : List Dat) (v2 v3 : Int) (v7 : List Dat) (v8 v9 : Int) : Cont (fun φ => L33_1 (φ 0) (φ 1) v0 v2 v3 v7 v8 v9) (M33_1 v0 v2 v3 v7 v8 v9) := Cont.re id _
theorem M33_1_e (v0 : List Dat) (v2 v3 : Int) (v7 : List Dat) (v8 v9 : Int) : Cont (fun φ => L33_1 (φ 0) (φ 0) v0 v2 v3 v7 v8 v9) (M33_1 v0 v2 v3 v7 v8 v9) := Cont.re (toZ 1) fun φ => L33_1 (φ 0) (φ 1) v0 v2 v3 v7 v8 v9
theorem M33_1_of (v0 : List Dat) (v2 v3 : Int) (v7 : List Dat) (v8 v9 : Int) {r : List Dat} (h : (bif decide (v9 < v8) then (bif decide (0 ≤ v9) then (bif decide (v9 < (v7.length : Int)) then (bif decide (v9.toNat < v7.length) then (M33_1 v0 v2 (IntKind.i64.wrap (v3 + (IntKind.i64.wrap ((IntKind.i64.wrap ((((rd v7 v9.toNat).C 1).I) - (((rd v7 v9.toNat).C 0).I))) + 1)))) v7 v8 (IntKind.i64.wrap (v9 + 1))) else none) else none) else none) else (some [.int v3]) : R) = some r) : M33_1 v0 v2 v3 v7 v8 v9 = some r := lim_st (g := fun φ => L33_1 (φ 0) (φ 1) v0 v2 v3 v7 v8 v9) 1 h (Cont.bif (Cont.bif (Cont.bif (Cont.bif (M33_1_c _ _ _ _ _ _) Cont.nn) Cont.nn) Cont.nn) (Cont.const _)) fun φ m hm => (congrArg (fun q => L33_1 (φ 0) q v0 v2 v3 v7 v8 v9) hm).trans (by kernel_rfl)
theorem o33 (a0 : List Dat) {r : List Dat} (h : ((E C 77 [.shr 82 a0]).bind fun d1 => (M33_1 a0 0 0 ((rd d1 0).L) (((rd d1 0).L).length : Int) 0) : R) = some r) : E C 33 [.shr 82 a0] = some r := E_st h (Cont.bind (Cont.call C 77 _) fun _ => (M33_1_e _ _ _ _ _ _)) fun φ => by kernel_rfl
theorem o75_a (a0 : List Dat) (a1c0d0 : Int) {r : List Dat} (h : ((E C 112 [.shr 82 a0, .clo 76 [] [.sref 3 ([.int a1c0d0] : List Dat) 0 0]]).bind fun d1 => (some [.bool (decide (((rd d1 0).I) ≥ 0))]) : R) = some r) : E C 75 [.shr 82 a0, .clo 76 [] [.sref 3 ([.int a1c0d0] : List Dat) 0 0]] = some r := E_st h (Cont.bind (Cont.call C 112 _) fun _ => (Cont.const _)) fun φ => by kernel_rfl
/-- clew/rset.Make -/
noncomputable def f77 : Func := Tryz.f77
def kp77 : List Nat := [0, 2, 3, 5, 6, 7, 8, 10, 11, 12, 13, 14, 31, 32, 33]
noncomputable def c77 (p : List Nat) : Code := pick f77 p
noncomputable def L77_2 (n : Nat) (m1 : Nat) (v0 v2 v3 v8 v12 : List Dat) (v13 v14 v32 v33 : Int) : R := loopIter (fun E K => evCode C (ev C n) n kp77 (c77 [1, 1, 1, 1, 1, 0, 1, 0, 0]) E K) [0, 2, 3, 8, 12, 13, 14, 31, 32, 33] (Kblk 2 (Kseq C (ev C n) n kp77 (c77 [1, 1, 1, 1, 1, 1]) (Ktop C 77 f77 [.und]))) m1 [.shr 82 v0, .und, .own 2 0 82 v2, .own 3 0 82 v3, .und, .und, .und, .und, .own 8 0 82 v8, .und, .und, .und, .shr 82 v12, .int .i64 v13, .int .i64 v14, .und, .und, .und, .und, .und, .und, .und, .und, .und, .und, .und, .und, .und, .und, .und, .und, .view 3 0 3 0, .int .i64 v32, .int .i64 v33, .und, .und, .und, .und, .und, .und, .und, .und, .und, .und, .und, .und, .und, .und, .und, .und, .und, .und, .und, .und, .und, .und, .und, .und, .und, .und, .und, .und, .und, .und, .und, .und, .und, .und, .und, .und, .und, .und, .und]
noncomputable def M77_2 (v0 v2 v3 v8 v12 : List Dat) (v13 v14 v32 v33 : Int) : R := lim fun φ => L77_2 (φ 0) (φ 1) v0 v2 v3 v8 v12 v13 v14 v32 v33
theorem M77_2_c (v0 v2 v3 v8 v12 : List Dat) (v13 v14 v32 v33 : Int) : Cont (fun φ => L77_2 (φ 0) (φ 1) v0 v2 v3 v8 v12 v13 v14 v32 v33) (M77_2 v0 v2 v3 v8 v12 v13 v14 v32 v33) := Cont.re id _
theorem M77_2_e (v0 v2 v3 v8 v12 : List Dat) (v13 v14 v32 v33 : Int) : Cont (fun φ => L77_2 (φ 0) (φ 0) v0 v2 v3 v8 v12 v13 v14 v32 v33) (M77_2 v0 v2 v3 v8 v12 v13 v14 v32 v33) := Cont.re (toZ 1) fun φ => L77_2 (φ 0) (φ 1) v0 v2 v3 v8 v12 v13 v14 v32 v33
noncomputable def L77_1 (n : Nat) (m1 : Nat) (v0 v2 v3 v12 : List Dat) (v13 v14 : Int) : R := loopIter (fun E K => evCode C (ev C n) n kp77 (c77 [1, 1, 0, 1, 0, 0]) E K) [0, 2, 3, 12, 13, 14] (Kblk 0 (Kseq C (ev C n) n kp77 (c77 [1, 1, 1]) (Ktop C 77 f77 [.und]))) m1 [.shr 82 v0, .und, .own 2 0 82 v2, .own 3 0 82 v3, .und, .und, .und, .und, .und, .und, .und, .und, .shr 82 v12, .int .i64 v13, .int .i64 v14, .und, .und, .und, .und, .und, .und, .und, .und, .und, .und, .und, .und, .und, .und, .und, .und, .und, .und, .und, .und, .und, .und, .und, .und, .und, .und, .und, .und, .und, .und, .und, .und, .und, .und, .und, .und, .und, .und, .und, .und, .und, .und, .und, .und, .und, .und, .und, .und, .und, .und, .und, .und, .und, .und, .und, .und, .und, .und]
noncomputable def M77_1 (v0 v2 v3 v12 : List Dat) (v13 v14 : Int) : R := lim fun φ => L77_1 (φ 0) (φ 1) v0 v2 v3 v12 v13 v14
theorem M77_1_c (v0 v2 v3 v12 : List Dat) (v13 v14 : Int) : Cont (fun φ => L77_1 (φ 0) (φ 1) v0 v2 v3 v12 v13 v14) (M77_1 v0 v2 v3 v12 v13 v14) := Cont.re id _
theorem M77_1_e (v0 v2 v3 v12 : List Dat) (v13 v14 : Int) : Cont (fun φ => L77_1 (φ 0) (φ 0) v0 v2 v3 v12 v13 v14) (M77_1 v0 v2 v3 v12 v13 v14) := Cont.re (toZ 1) fun φ => L77_1 (φ 0) (φ 1) v0 v2 v3 v12 v13 v14
theorem M77_2_of (v0 v2 v3 v8 v12 : List Dat) (v13 v14 v32 v33 : Int) {r : List Dat} (h : (bif decide (v33 < v32) then (bif decide (0 ≤ v33) then (bif decide (v33 < (v3.length : Int)) then (bif decide (v33.toNat < v3.length) then (bif decide ((v8.length : Int) > 0) then (bif decide (0 ≤ (IntKind.i64.wrap ((v8.length : Int) - 1))) then (bif decide ((IntKind.i64.wrap ((v8.length : Int) - 1)) < (v8.length : Int)) then (bif decide ((IntKind.i64.wrap ((v8.length : Int) - 1)).toNat < v8.length) then (bif decide ((((rd v3 v33.toNat).C 0).I) ≤ (IntKind.i64.wrap ((((rd v8 ((IntKind.i64.wrap ((v8.length : Int) - 1)).toNat)).C 1).I) + 1))) then (bif decide (0 ≤ (IntKind.i64.wrap ((v8.length : Int) - 1))) then (bif decide ((IntKind.i64.wrap ((v8.length : Int) - 1)) < (v8.length : Int)) then (bif decide ((IntKind.i64.wrap ((v8.length : Int) - 1)).toNat < v8.length) then (bif decide (0 ≤ (IntKind.i64.wrap ((v8.length : Int) - 1))) then (bif decide ((IntKind.i64.wrap ((v8.length : Int) - 1)) < (v8.length : Int)) then (bif decide ((IntKind.i64.wrap ((v8.length : Int) - 1)).toNat < v8.length) then (M77_2 v0 v2 v3 (v8.set ((IntKind.i64.wrap ((v8.length : Int) - 1)).toNat) (.agg [(rd v8 ((IntKind.i64.wrap ((v8.length : Int) - 1)).toNat)).C 0, .int (if (((rd v3 v33.toNat).C 1).I) > (((rd v8 ((IntKind.i64.wrap ((v8.length : Int) - 1)).toNat)).C 1).I) then (((rd v3 v33.toNat).C 1).I) else (((rd v8 ((IntKind.i64.wrap ((v8.length : Int) - 1)).toNat)).C 1).I))])) v12 v13 v14 v32 (IntKind.i64.wrap (v33 + 1))) else none) else none) else none) else none) else none) else none) else (bif decide (v8.length + ([.agg [.int (((rd v3 v33.toNat).C 0).I), .int (((rd v3 v33.toNat).C 1).I)]] : List Dat).length ≤ capB 16) then (M77_2 v0 v2 v3 (v8 ++ ([.agg [.int (((rd v3 v33.toNat).C 0).I), .int (((rd v3 v33.toNat).C 1).I)]] : List Dat)) v12 v13 v14 v32 (IntKind.i64.wrap (v33 + 1))) else none)) else none) else none) else none) else (bif decide (v8.length + ([.agg [.int (((rd v3 v33.toNat).C 0).I), .int (((rd v3 v33.toNat).C 1).I)]] : List Dat).length ≤ capB 16) then (M77_2 v0 v2 v3 (v8 ++ ([.agg [.int (((rd v3 v33.toNat).C 0).I), .int (((rd v3 v33.toNat).C 1).I)]] : List Dat)) v12 v13 v14 v32 (IntKind.i64.wrap (v33 + 1))) else none)) else none) else none) else none) else (some [.list v8]) : R) = some r) : M77_2 v0 v2 v3 v8 v12 v13 v14 v32 v33 = some r := lim_st (g := fun φ => L77_2 (φ 0) (φ 1) v0 v2 v3 v8 v12 v13 v14 v32 v33) 1 h (Cont.bif (Cont.bif (Cont.bif (Cont.bif (Cont.bif (Cont.bif (Cont.bif (Cont.bif (Cont.bif (Cont.bif (Cont.bif (Cont.bif (Cont.bif (Cont.bif (Cont.bif (M77_2_c _ _ _ _ _ _ _ _ _) Cont.nn) Cont.nn) Cont.nn) Cont.nn) Cont.nn) Cont.nn) (Cont.bif (M77_2_c _ _ _ _ _ _ _ _ _) Cont.nn)) Cont.nn) Cont.nn) Cont.nn) (Cont.bif (M77_2_c _ _ _ _ _ _ _ _ _) Cont.nn)) Cont.nn) Cont.nn) Cont.nn) (Cont.const _)) fun φ m hm => (congrArg (fun q => L77_2 (φ 0) q v0 v2 v3 v8 v12 v13 v14 v32 v33) hm).trans (by kernel_rfl)
theorem M77_1_of (v0 v2 v3 v12 : List Dat) (v13 v14 : Int) {r : List Dat} (h : (bif decide (v14 < v13) then (bif decide (0 ≤ v14) then (bif decide (v14 < (v12.length : Int)) then (bif decide (v14.toNat < v12.length) then ((E C 113 [.agg [.int .i64 (((rd v12 v14.toNat).C 0).I), .int .i64 (((rd v12 v14.toNat).C 1).I)]]).bind fun d1 => (bif (rd d1 1).B then (bif decide (v3.length + ([.agg [.int (((rd d1 0).C 0).I), .int (((rd d1 0).C 1).I)]] : List Dat).length ≤ capB 16) then (M77_1 v0 v2 (v3 ++ ([.agg [.int (((rd d1 0).C 0).I), .int (((rd d1 0).C 1).I)]] : List Dat)) v12 v13 (IntKind.i64.wrap (v14 + 1))) else none) else (M77_1 v0 v2 v3 v12 v13 (IntKind.i64.wrap (v14 + 1))))) else none) else none) else none) else ((E C 114 [.shr 82 v3, .clo 115 [] []]).bind fun d2 => (M77_2 v0 v2 ((rd d2 0).L) ([] : List Dat) v12 v13 v14 (((rd d2 0).L).length : Int) 0)) : R) = some r) : M77_1 v0 v2 v3 v12 v13 v14 = some r := lim_st (g := fun φ => L77_1 (φ 0) (φ 1) v0 v2 v3 v12 v13 v14) 1 h (Cont.bif (Cont.bif (Cont.bif (Cont.bif (Cont.bind (Cont.call C 113 _) fun _ => (Cont.bif (Cont.bif (M77_1_c _ _ _ _ _ _) Cont.nn) (M77_1_c _ _ _ _ _ _))) Cont.nn) Cont.nn) Cont.nn) (Cont.bind (Cont.call C 114 _) fun _ => (M77_2_e _ _ _ _ _ _ _ _ _))) fun φ m hm => (congrArg (fun q => L77_1 (φ 0) q v0 v2 v3 v12 v13 v14) hm).trans (by kernel_rfl)
theorem o77 (a0 : List Dat) {r : List Dat} (h : (M77_1 a0 ([] : List Dat) ([] : List Dat) a0 (a0.length : Int) 0 : R) = some r) : E C 77 [.shr 82 a0] = some r := E_st h (M77_1_e _ _ _ _ _ _) fun φ => by kernel_rfl
/-- slices.IndexFunc[[]clew/rset.Range,clew/rset.Range] -/
noncomputable def f112 : Func := Tryz.f112
def kp112 : List Nat := [0, 1, 4, 5, 7, 8]
noncomputable def c112 (p : List Nat) : Code := pick f112 p
noncomputable def L112_a_1 (n : Nat) (m1 : Nat) (v0 : List Dat) (v1c0d0 v4 v7 v8 : Int) : R := loopIter (fun E K => evCode C (ev C n) n kp112 (c112 [1, 0, 1, 0, 0]) E K) [0, 1, 4, 7, 8] (Kblk 0 (Kseq C (ev C n) n kp112 (c112 [1, 1]) (Ktop C 112 f112 [.und, .und]))) m1 [.shr 82 v0, .clo 76 [] [.sref 3 ([.int v1c0d0] : List Dat) 0 0], .und, .und, .int .i64 v4, .und, .und, .int .i64 v7, .int .i64 v8, .und, .und, .und, .und, .und, .und, .und, .und, .und, .und]
noncomputable def M112_a_1 (v0 : List Dat) (v1c0d0 v4 v7 v8 : Int) : R := lim fun φ => L112_a_1 (φ 0) (φ 1) v0 v1c0d0 v4 v7 v8
theorem M112_a_1_c (v0 : List Dat) (v1c0d0 v4 v7 v8 : Int) : Cont (fun φ => L112_a_1 (φ 0) (φ 1) v0 v1c0d0 v4 v7 v8) (M112_a_1 v0 v1c0d0 v4 v7 v8) := Cont.re id _
theorem M112_a_1_e (v0 : List Dat) (v1c0d0 v4 v7 v8 : Int) : Cont (fun φ => L112_a_1 (φ 0) (φ 0) v0 v1c0d0 v4 v7 v8) (M112_a_1 v0 v1c0d0 v4 v7 v8) := Cont.re (toZ 1) fun φ => L112_a_1 (φ 0) (φ 1) v0 v1c0d0 v4 v7 v8
theorem M112_a_1_of (v0 : List Dat) (v1c0d0 v4 v7 v8 : Int) {r : List Dat} (h : (bif decide (v8 < v7) then (bif decide (0 ≤ v8) then (bif decide (v8 < (v0.length : Int)) then (bif decide (v8.toNat < v0.length) then ((E C 76 [.agg [.int .i64 (((rd v0 v8.toNat).C 0).I), .int .i64 (((rd v0 v8.toNat).C 1).I)], .sref 3 ([.int v1c0d0] : List Dat) 0 0]).bind fun d1 => (bif (rd d1 0).B then (some [.int v8]) else (M112_a_1 v0 v1c0d0 v4 v7 (IntKind.i64.wrap (v8 + 1))))) else none) else none) else none) else (some [.int (-1)]) : R) = some r) : M112_a_1 v0 v1c0d0 v4 v7 v8 = some r := lim_st (g := fun φ => L112_a_1 (φ 0) (φ 1) v0 v1c0d0 v4 v7 v8) 1 h (Cont.bif (Cont.bif (Cont.bif (Cont.bif (Cont.bind (Cont.call C 76 _) fun _ => (Cont.bif (Cont.const _) (M112_a_1_c _ _ _ _ _))) Cont.nn) Cont.nn) Cont.nn) (Cont.const _)) fun φ m hm => (congrArg (fun q => L112_a_1 (φ 0) q v0 v1c0d0 v4 v7 v8) hm).trans (by kernel_rfl)
theorem o112_a (a0 : List Dat) (a1c0d0 : Int) {r : List Dat} (h : (M112_a_1 a0 a1c0d0 0 (a0.length : Int) 0 : R) = some r) : E C 112 [.shr 82 a0, .clo 76 [] [.sref 3 ([.int a1c0d0] : List Dat) 0 0]] = some r := E_st h (M112_a_1_e _ _ _ _ _) fun φ => by kernel_rfl
theorem o113 (a0_0 a0_1 : Int) {r : List Dat} (h : (some [.agg [.int (if 0 > a0_0 then 0 else a0_0), .int (if 1114367 < a0_1 then 1114367 else a0_1)], .bool (decide ((if 0 > a0_0 then 0 else a0_0) ≤ (if 1114367 < a0_1 then 1114367 else a0_1)))] : R) = some r) : E C 113 [.agg [.int .i64 a0_0, .int .i64 a0_1]] = some r := E_st h (Cont.const _) fun φ => by kernel_rfl
theorem o76_a (a0_0 a0_1 a1d0 : Int) {r : List Dat} (h : (bif decide (0 < ([.int a1d0] : List Dat).length) then (bif decide (a0_0 ≤ ((rd ([.int a1d0] : List Dat) 0).I)) then (bif decide (0 < ([.int a1d0] : List Dat).length) then (some [.bool (decide (((rd ([.int a1d0] : List Dat) 0).I) ≤ a0_1))]) else none) else (some [.bool false])) else none : R) = some r) : E C 76 [.agg [.int .i64 a0_0, .int .i64 a0_1], .sref 3 ([.int a1d0] : List Dat) 0 0] = some r := E_st h (Cont.bif (Cont.bif (Cont.bif (Cont.const _) Cont.nn) (Cont.const _)) Cont.nn) fun φ => by kernel_rfl
/-- clew/rset.Of -/
noncomputable def f215 : Func := Tryz.f215
theorem o215 (a0 : Int) {r : List Dat} (h : ((E C 77 [.shr 82 ([.agg [.int a0, .int a0]] : List Dat)]).bind fun d1 => (some [.list ((rd d1 0).L)]) : R) = some r) : E C 215 [.int .i64 a0] = some r := E_st h (Cont.bind (Cont.call C 77 _) fun _ => (Cont.const _)) fun φ => by kernel_rfl
/-- clew/rset.Not -/
noncomputable def f167 : Func := Tryz.f167
def kp167 : List Nat := [0, 2, 3, 4, 6, 8, 9, 10]
noncomputable def c167 (p : List Nat) : Code := pick f167 p
noncomputable def L167_1 (n : Nat) (m1 : Nat) (v0 v2 v3 : List Dat) (v4 : Int) (v8 : List Dat) (v9 v10 : Int) : R := loopIter (fun E K => evCode C (ev C n) n kp167 (c167 [1, 1, 1, 0, 1, 0, 0]) E K) [0, 2, 3, 4, 8, 9, 10] (Kblk 0 (Kseq C (ev C n) n kp167 (c167 [1, 1, 1, 1]) (Ktop C 167 f167 [.und]))) m1 [.shr 82 v0, .und, .own 2 0 82 v2, .own 3 0 82 v3, .int .i64 v4, .und, .und, .und, .own 8 0 82 v8, .int .i64 v9, .int .i64 v10, .und, .und, .und, .und, .und, .und, .und, .und, .und, .und, .und, .und, .und, .und, .und, .und, .und, .und, .und, .und, .und, .und, .und, .und, .und, .und, .und]
noncomputable def M167_1 (v0 v2 v3 : List Dat) (v4 : Int) (v8 : List Dat) (v9 v10 : Int) : R := lim fun φ => L167_1 (φ 0) (φ 1) v0 v2 v3 v4 v8 v9 v10
theorem M167_1_c (v0 v2 v3 : List Dat) (v4 : Int) (v8 : List Dat) (v9 v10 : Int) : Cont (fun φ => L167_1 (φ 0) (φ 1) v0 v2 v3 v4 v8 v9 v10) (M167_1 v0 v2 v3 v4 v8 v9 v10) := Cont.re id _
theorem M167_1_e (v0 v2 v3 : List Dat) (v4 : Int) (v8 : List Dat) (v9 v10 : Int) : Cont (fun φ => L167_1 (φ 0) (φ 0) v0 v2 v3 v4 v8 v9 v10) (M167_1 v0 v2 v3 v4 v8 v9 v10) := Cont.re (toZ 1) fun φ => L167_1 (φ 0) (φ 1) v0 v2 v3 v4 v8 v9 v10
theorem M167_1_of (v0 v2 v3 : List Dat) (v4 : Int) (v8 : List Dat) (v9 v10 : Int) {r : List Dat} (h : (bif decide (v10 < v9) then (bif decide (0 ≤ v10) then (bif decide (v10 < (v8.length : Int)) then (bif decide (v10.toNat < v8.length) then (bif decide ((((rd v8 v10.toNat).C 0).I) > v4) then (bif decide (v3.length + ([.agg [.int v4, .int (IntKind.i64.wrap ((((rd v8 v10.toNat).C 0).I) - 1))]] : List Dat).length ≤ capB 16) then (M167_1 v0 v2 (v3 ++ ([.agg [.int v4, .int (IntKind.i64.wrap ((((rd v8 v10.toNat).C 0).I) - 1))]] : List Dat)) (IntKind.i64.wrap ((((rd v8 v10.toNat).C 1).I) + 1)) v8 v9 (IntKind.i64.wrap (v10 + 1))) else none) else (M167_1 v0 v2 v3 (IntKind.i64.wrap ((((rd v8 v10.toNat).C 1).I) + 1)) v8 v9 (IntKind.i64.wrap (v10 + 1)))) else none) else none) else none) else (bif decide (v4 ≤ 1114367) then (bif decide (v3.length + ([.agg [.int v4, .int 1114367]] : List Dat).length ≤ capB 16) then (some [.list (v3 ++ ([.agg [.int v4, .int 1114367]] : List Dat))]) else none) else (some [.list v3])) : R) = some r) : M167_1 v0 v2 v3 v4 v8 v9 v10 = some r := lim_st (g := fun φ => L167_1 (φ 0) (φ 1) v0 v2 v3 v4 v8 v9 v10) 1 h (Cont.bif (Cont.bif (Cont.bif (Cont.bif (Cont.bif (Cont.bif (M167_1_c _ _ _ _ _ _ _) Cont.nn) (M167_1_c _ _ _ _ _ _ _)) Cont.nn) Cont.nn) Cont.nn) (Cont.bif (Cont.bif (Cont.const _) Cont.nn) (Cont.const _))) fun φ m hm => (congrArg (fun q => L167_1 (φ 0) q v0 v2 v3 v4 v8 v9 v10) hm).trans (by kernel_rfl)
theorem o167 (a0 : List Dat) {r : List Dat} (h : ((E C 77 [.shr 82 a0]).bind fun d1 => (M167_1 a0 ([] : List Dat) ([] : List Dat) 0 ((rd d1 0).L) (((rd d1 0).L).length : Int) 0) : R) = some r) : E C 167 [.shr 82 a0] = some r := E_st h (Cont.bind (Cont.call C 77 _) fun _ => (M167_1_e _ _ _ _ _ _ _)) fun φ => by kernel_rfl
end Go.Proofs.YtlofoifcdmeopaaGreatDoor.V
namespace Go.Proofs.YtlofoifcdmeopaaGreatDoor.V
open Go Go.Ev Go.RowKit
set_option linter.unusedVariables false
set_option linter.unusedSimpArgs false
theorem rsA (a b : List (Int × Int)) : rs (a ++ b) = rs a ++ rs b := List.map_append
theorem rs1 (p : Int × Int) : ([.agg [.int p.1, .int p.2]] : List Dat) = rs [p] := rfl
theorem rs_at (pre : List (Int × Int)) (r : Int × Int) (rest : List (Int × Int)) : rd (rs (pre ++ r :: rest)) pre.length = .agg [.int r.1, .int r.2] := by
  rw [rs_rd _ _ (by simp)]
  simp
theorem rs_set (done : List (Int × Int)) (c d : Int × Int) : (rs (done ++ [c])).set done.length (.agg [.int d.1, .int d.2]) = rs (done ++ [d]) := by
  unfold rs prs
  simp
theorem clip_E (a b : Int) : E C 113 [.agg [.int .i64 a, .int .i64 b]] = some [.agg [.int (mx a 0), .int (mn b 1114367)], .bool (decide (mx a 0 ≤ mn b 1114367))] := by
  apply o113
  rfl
theorem Sort_rs (l : List (Int × Int)) (h : l.length < 4611686018427387904) : E C 114 [.shr 82 (rs l), .clo 115 [] []] = some [.list (rs (sortP l))] := by
  refine E_given (h := gSortR 82 115) (by kernel_rfl) ?_
  simp only [gSortR]
  rw [rs_len, decide_eq_true h]
  show some [Dat.list (prs (sortP (unprs (prs l))))] = _
  rw [unprs_prs]
theorem Make_l2 (v0 v2 v12 : List Dat) (v13 v14 : Int) (xs : List (Int × Int)) (hx : ∀ r ∈ xs, okR r) (hlen : xs.length < 8796093022208) : ∀ (rest pre done : List (Int × Int)) (c : Int × Int), xs = pre ++ rest → done.length + 1 ≤ pre.length → 0 ≤ c.2 ∧ c.2 ≤ 1114367 →
    M77_2 v0 v2 (rs xs) (rs (done ++ [c])) v12 v13 v14 (xs.length : Int) (pre.length : Int) = some [.list (rs (done ++ mg c rest))] := by
  have hc16 : capB 16 = 8796093022208 := by decide
  intro rest
  induction rest with
  | nil =>
    intro pre done c hxs hd hc
    rw [List.append_nil] at hxs
    subst hxs
    apply M77_2_of
    rw [dF (by omega)]
    rfl
  | cons r rest ih =>
    intro pre done c hxs hd hc
    have hl : xs.length = pre.length + (rest.length + 1) := by rw [hxs]; simp
    have hrx : okR r := hx r (by rw [hxs]; simp)
    unfold okR at hrx
    have hat : rd (rs xs) pre.length = .agg [.int r.1, .int r.2] := by rw [hxs]; exact rs_at _ _ _
    have hdl : (rs (done ++ [c])).length = done.length + 1 := by rw [rs_len]; simp
    have hdc : rd (rs (done ++ [c])) done.length = .agg [.int c.1, .int c.2] := rs_at done c []
    have ew : IntKind.i64.wrap (((done.length + 1 : Nat) : Int) - 1) = ((done.length : Nat) : Int) := by rw [w64 (by omega) (by omega)]; omega
    have ek : IntKind.i64.wrap ((pre.length : Int) + 1) = (((pre ++ [r]).length : Nat) : Int) := by rw [w64 (by omega) (by omega)]; simp
    apply M77_2_of
    rw [rs_len, dT (by omega), ixT ⟨by omega, by omega⟩, hdl, dT (by omega), ew, Int.toNat_natCast, Int.toNat_natCast]
    rw [dT (by omega), dT (by omega), dT (by omega), hat, hdc]
    simp only [aggC0, aggC1, datI]
    rw [w64 (n := c.2 + 1) (by omega) (by omega), ek]
    by_cases h : r.1 ≤ c.2 + 1
    · rw [dT h, dT (by omega), dT (by omega), dT (by omega), dT (by omega), dT (by omega), dT (by omega)]
      have e1 := rs_set done c (c.1, mx c.2 r.2)
      have e2 : (if r.2 > c.2 then r.2 else c.2) = mx c.2 r.2 := rfl
      rw [e2]
      dsimp only at e1
      rw [e1]
      refine (ih (pre ++ [r]) done (c.1, mx c.2 r.2) (by rw [hxs]; simp) (by simp; omega) (by unfold mx; dsimp only; split <;> omega)).trans ?_
      have : mg c (r :: rest) = mg (c.1, mx c.2 r.2) rest := by rw [mg, if_pos h]
      rw [this]
    · rw [dF h, dT (by rw [List.length_singleton]; omega), rs1 r, ← rsA]
      refine (ih (pre ++ [r]) (done ++ [c]) r (by rw [hxs]; simp) (by simp; omega) ⟨by omega, by omega⟩).trans ?_
      have : mg c (r :: rest) = c :: mg r rest := by rw [mg, if_neg h]
      rw [this]
      simp
theorem Make_l2_top (v0 v2 v12 : List Dat) (v13 v14 : Int) (xs : List (Int × Int)) (hx : ∀ r ∈ xs, okR r) (hlen : xs.length < 8796093022208) : M77_2 v0 v2 (rs xs) [] v12 v13 v14 (xs.length : Int) 0 = some [.list (rs (mgT xs))] := by
  have hc16 : capB 16 = 8796093022208 := by decide
  cases xs with
  | nil =>
    apply M77_2_of
    rw [dF (by simp)]
    rfl
  | cons r rest =>
    have hrx := hx r (by simp)
    unfold okR at hrx
    have hl : (r :: rest).length = rest.length + 1 := rfl
    apply M77_2_of
    rw [rs_len, dT (by omega), dT (by omega), dT (by omega), dT (by omega), dF (by simp)]
    have hat : rd (rs (r :: rest)) (0 : Int).toNat = .agg [.int r.1, .int r.2] := rs_at [] r rest
    rw [hat]
    simp only [aggC0, aggC1, datI]
    rw [dT (by rw [List.length_singleton, List.length_nil]; omega), List.nil_append, rs1 r, show IntKind.i64.wrap (0 + 1) = ((([r] : List (Int × Int)).length : Nat) : Int) from by rw [w64 (by omega) (by omega)]; rfl]
    exact Make_l2 v0 v2 v12 v13 v14 (r :: rest) hx hlen rest [r] [] r rfl (by simp) ⟨by omega, by omega⟩
theorem Make_l1 (v0 v2 : List Dat) (xs : List (Int × Int)) (hlen : xs.length < 8796093022208) : ∀ (rest pre acc : List (Int × Int)), xs = pre ++ rest → acc.length ≤ pre.length → (∀ r ∈ acc, okR r) →
    M77_1 v0 v2 (rs acc) (rs xs) (xs.length : Int) (pre.length : Int) = some [.list (rs (mgT (sortP (acc ++ rest.filterMap clipR))))] := by
  have hc16 : capB 16 = 8796093022208 := by decide
  intro rest
  induction rest with
  | nil =>
    intro pre acc hxs ha hok
    rw [List.append_nil] at hxs
    subst hxs
    apply M77_1_of
    rw [dF (by omega), bT (Sort_rs acc (by omega))]
    simp only [rd0, datL, rs_len]
    refine (Make_l2_top _ _ _ _ _ (sortP acc) (fun r hr => hok r (mem_sortP.1 hr)) (by rw [sortP_length]; omega)).trans ?_
    simp
  | cons r rest ih =>
    intro pre acc hxs ha hok
    have hl : xs.length = pre.length + (rest.length + 1) := by rw [hxs]; simp
    have hat : rd (rs xs) pre.length = .agg [.int r.1, .int r.2] := by rw [hxs]; exact rs_at _ _ _
    have ek : IntKind.i64.wrap ((pre.length : Int) + 1) = (((pre ++ [r]).length : Nat) : Int) := by rw [w64 (by omega) (by omega)]; simp
    apply M77_1_of
    rw [rs_len, dT (by omega), ixT ⟨by omega, by omega⟩, Int.toNat_natCast, hat]
    simp only [aggC0, aggC1, datI]
    rw [bT (clip_E r.1 r.2), ek]
    simp only [rd0, rd1, datB, aggC0, aggC1, datI]
    by_cases h : mx r.1 0 ≤ mn r.2 1114367
    · have hcl : clipR r = some (mx r.1 0, mn r.2 1114367) := if_pos h
      rw [dT h, rs_len, dT (by rw [List.length_singleton]; omega), rs1 (mx r.1 0, mn r.2 1114367), ← rsA]
      refine (ih (pre ++ [r]) (acc ++ [(mx r.1 0, mn r.2 1114367)]) (by rw [hxs]; simp) (by simp; omega) (fun q hq => ?_)).trans ?_
      · rcases List.mem_append.1 hq with hq | hq
        · exact hok q hq
        · rw [List.mem_singleton.1 hq]
          exact okR_clip hcl
      · rw [List.filterMap_cons, hcl]
        simp
    · have hcl : clipR r = none := if_neg h
      rw [dF h]
      refine (ih (pre ++ [r]) acc (by rw [hxs]; simp) (by simp; omega) hok).trans ?_
      rw [List.filterMap_cons, hcl]
theorem Make_E (l : List (Int × Int)) (hlen : l.length < 8796093022208) : E C 77 [.shr 82 (rs l)] = some [.list (rs (mk l))] := by
  apply o77
  rw [rs_len]
  refine (Make_l1 _ _ l hlen l [] [] rfl (Nat.le_refl _) (fun r hr => by cases hr)).trans ?_
  rfl
end Go.Proofs.YtlofoifcdmeopaaGreatDoor.V
namespace Go.Proofs.YtlofoifcdmeopaaGreatDoor.V
open Go Go.Ev Go.RowKit
set_option linter.unusedVariables false
set_option linter.unusedSimpArgs false
theorem Not_l1 (v0 v2 : List Dat) (xs : List (Int × Int)) (hx : ∀ r ∈ xs, okR r) (hlen : xs.length + 1 < 8796093022208) : ∀ (rest pre acc : List (Int × Int)) (n : Int), xs = pre ++ rest → acc.length ≤ pre.length → 0 ≤ n ∧ n ≤ 1114368 →
    M167_1 v0 v2 (rs acc) n (rs xs) (xs.length : Int) (pre.length : Int) = some [.list (rs (acc ++ notL n rest))] := by
  have hc16 : capB 16 = 8796093022208 := by decide
  intro rest
  induction rest with
  | nil =>
    intro pre acc n hxs ha hn
    rw [List.append_nil] at hxs
    subst hxs
    apply M167_1_of
    rw [dF (by omega)]
    unfold notL
    by_cases h : n ≤ 1114367
    · rw [dT h, if_pos h, rs_len, dT (by rw [List.length_singleton]; omega), rs1 (n, 1114367), ← rsA]
    · rw [dF h, if_neg h, List.append_nil]
  | cons r rest ih =>
    intro pre acc n hxs ha hn
    have hl : xs.length = pre.length + (rest.length + 1) := by rw [hxs]; simp
    have hrx : okR r := hx r (by rw [hxs]; simp)
    unfold okR at hrx
    have hat : rd (rs xs) pre.length = .agg [.int r.1, .int r.2] := by rw [hxs]; exact rs_at _ _ _
    have ek : IntKind.i64.wrap ((pre.length : Int) + 1) = (((pre ++ [r]).length : Nat) : Int) := by rw [w64 (by omega) (by omega)]; simp
    apply M167_1_of
    rw [rs_len, dT (by omega), ixT ⟨by omega, by omega⟩, Int.toNat_natCast, hat]
    simp only [aggC0, aggC1, datI]
    rw [ek, w64 (n := r.1 - 1) (by omega) (by omega), w64 (n := r.2 + 1) (by omega) (by omega)]
    unfold notL
    by_cases h : r.1 > n
    · rw [dT h, if_pos h, rs_len, dT (by rw [List.length_singleton]; omega), rs1 (n, r.1 - 1), ← rsA]
      refine (ih (pre ++ [r]) (acc ++ [(n, r.1 - 1)]) (r.2 + 1) (by rw [hxs]; simp) (by simp; omega) ⟨by omega, by omega⟩).trans ?_
      simp
    · rw [dF h, if_neg h]
      exact ih (pre ++ [r]) acc (r.2 + 1) (by rw [hxs]; simp) (by simp; omega) ⟨by omega, by omega⟩
theorem Not_E (l : List (Int × Int)) (hlen : l.length + 1 < 8796093022208) : E C 167 [.shr 82 (rs l)] = some [.list (rs (notR l))] := by
  have h := mk_length l
  apply o167
  rw [bT (Make_E l (by omega))]
  simp only [rd0, datL, rs_len]
  exact Not_l1 _ _ (mk l) (mk_least l).1 (by omega) (mk l) [] [] 0 rfl (Nat.le_refl _) (by omega)
theorem Has1_E (a b x : Int) : E C 76 [.agg [.int .i64 a, .int .i64 b], .sref 3 ([.int x] : List Dat) 0 0] = some [.bool (inR x (a, b))] := by
  apply o76_a
  rw [dT (by simp)]
  simp only [rd0, datI, inR]
  by_cases h : a ≤ x
  · rw [dT h, dT (by simp), decide_eq_true h]; rfl
  · rw [dF h, decide_eq_false h]; rfl
theorem Idx_loop (l : List (Int × Int)) (x : Int) (hl : l.length ≤ 140737488351232) (v4 : Int) : ∀ (d k : Nat), l.length - k = d → k ≤ l.length →
    ∃ r : Int, M112_a_1 (rs l) x v4 (l.length : Int) (k : Int) = some [.int r] ∧ (0 ≤ r ↔ (l.drop k).any (inR x) = true) := by
  intro d
  induction d with
  | zero =>
    intro k hd hk
    refine ⟨-1, ?_, ?_⟩
    · apply M112_a_1_of
      rw [dF (by omega)]
    · rw [List.drop_of_length_le (by omega)]
      simp
  | succ d ih =>
    intro k hd hk
    have hlt : k < l.length := by omega
    obtain ⟨r, h1, h2⟩ := ih (k + 1) (by omega) (by omega)
    have hdr : l.drop k = l[k] :: l.drop (k + 1) := List.drop_eq_getElem_cons hlt
    have e := Has1_E (l[k]).1 (l[k]).2 x
    rw [show ((l[k]).1, (l[k]).2) = l[k] from rfl] at e
    cases hb : inR x l[k] with
    | true =>
      refine ⟨k, ?_, ?_⟩
      · apply M112_a_1_of
        rw [rs_len, dT (by omega), dT (by omega), dT (by omega), dT (by omega), Int.toNat_natCast, rs_rd l k hlt]
        rw [hb] at e
        refine (bT e).trans ?_
        rfl
      · rw [hdr, List.any_cons, hb]
        simp
    | false =>
      refine ⟨r, ?_, ?_⟩
      · apply M112_a_1_of
        rw [rs_len, dT (by omega), dT (by omega), dT (by omega), dT (by omega), Int.toNat_natCast, rs_rd l k hlt]
        rw [hb] at e
        refine (bT e).trans ?_
        simp only [rd0, datB, cond_false]
        rw [w64 (by omega) (by omega)]
        exact h1
      · rw [hdr, List.any_cons, hb, h2]
        simp
theorem Has_E (l : List (Int × Int)) (x : Int) (hl : l.length ≤ 140737488351232) : E C 32 [.shr 82 (rs l), .int .i64 x] = some [.bool (hasB l x)] := by
  apply o32
  unfold hasB
  by_cases h0 : x < 0
  · rw [dT h0, decide_eq_false (show ¬ 0 ≤ x by omega)]; rfl
  rw [dF h0, decide_eq_true (show 0 ≤ x by omega)]
  by_cases h1 : x > 1114367
  · rw [dT h1, decide_eq_false (show ¬ x ≤ 1114367 by omega)]; rfl
  rw [dF h1, decide_eq_true (show x ≤ 1114367 by omega)]
  obtain ⟨r, k1, k2⟩ := Idx_loop l x hl 0 l.length 0 (by omega) (by omega)
  have e1 : E C 112 [.shr 82 (rs l), .clo 76 [] [.sref 3 ([.int x] : List Dat) 0 0]] = some [.int r] := by
    apply o112_a
    rw [rs_len]
    exact k1
  have e2 : E C 75 [.shr 82 (rs l), .clo 76 [] [.sref 3 ([.int x] : List Dat) 0 0]] = some [.bool (decide (r ≥ 0))] := by
    apply o75_a
    rw [bT e1]
    rfl
  rw [bT e2]
  simp only [rd0, datB]
  rw [List.drop_zero] at k2
  have : decide (r ≥ 0) = l.any (inR x) := by
    cases h : l.any (inR x) with
    | true => exact decide_eq_true (k2.2 h)
    | false => exact decide_eq_false (fun hr => by rw [k2.1 hr] at h; cases h)
  rw [this]
  rfl
end Go.Proofs.YtlofoifcdmeopaaGreatDoor.V
namespace Go.Proofs.YtlofoifcdmeopaaGreatDoor.V
open Go Go.Ev
set_option maxRecDepth 100000
set_option linter.unusedVariables false
/-- clew/clewref03.Orbit -/
noncomputable def f31 : Func := Tryz.f31
def kp31 : List Nat := [0, 2, 3, 4, 6, 7, 9, 10, 12, 13, 14, 15, 25, 26, 49, 50, 57, 58, 59]
noncomputable def c31 (p : List Nat) : Code := pick f31 p
noncomputable def L31_3 (n : Nat) (m1 : Nat) (m2 : Nat) (v0 : Int) (v2 v3 : List Dat) (v4 v9 : Int) (v10 : Bool) (v25_0 v25_1 v25_2 v25_3 v25_4 v25_5 v25_6 v25_7 v26 v49_0 v49_1 v49_2 v49_3 v49_4 v49_5 v50 v58 v59 : Int) : R := loopIter (fun E K => evCode C (ev C n) n kp31 (c31 [1, 1, 1, 1, 1, 0, 1, 0, 0, 1, 1, 0, 0, 1, 1, 1, 0, 1, 0, 0]) E K) [0, 2, 3, 4, 9, 10, 25, 26, 49, 50, 57, 58, 59] (Kblk 4 (Kseq C (ev C n) n kp31 (c31 [1, 1, 1, 1, 1, 0, 1, 0, 0, 1, 1, 0, 0, 1, 1, 1, 1]) (Kblk 3 (Kseq C (ev C n) n kp31 (c31 [1, 1, 1, 1, 1, 0, 1, 0, 0, 1, 1, 1]) (Klop (fun E K => evCode C (ev C n) n kp31 (c31 [1, 1, 1, 1, 1, 0, 1, 0, 0]) E K) [0, 2, 3, 4, 25, 26, 49, 50] (Kblk 2 (Kseq C (ev C n) n kp31 (c31 [1, 1, 1, 1, 1, 1]) (Ktop C 31 f31 [.und]))) m1))))) m2 [.int .i64 v0, .und, .own 2 0 3 v2, .own 3 0 3 v3, .int .i64 v4, .und, .und, .und, .und, .int .i64 v9, .bool v10, .und, .und, .und, .und, .und, .und, .und, .und, .und, .und, .und, .und, .und, .und, .agg [.int .i64 v25_0, .int .i64 v25_1, .int .i64 v25_2, .int .i64 v25_3, .int .i64 v25_4, .int .i64 v25_5, .int .i64 v25_6, .int .i64 v25_7], .int .i64 v26, .und, .und, .und, .und, .und, .und, .und, .und, .und, .und, .und, .und, .und, .und, .und, .und, .und, .und, .und, .und, .und, .und, .agg [.int .i64 v49_0, .int .i64 v49_1, .int .i64 v49_2, .int .i64 v49_3, .int .i64 v49_4, .int .i64 v49_5], .int .i64 v50, .und, .und, .und, .und, .und, .und, .view 3 0 3 0, .int .i64 v58, .int .i64 v59, .und, .und, .und, .und, .und, .und, .und, .und, .und, .und, .und, .und, .und, .und, .und, .und, .und, .und, .und, .und, .und, .und, .und, .und, .und, .und, .und, .und, .und, .und, .und, .und, .und, .und, .und, .und, .und, .und, .und, .und, .und, .und, .und, .und, .und, .und, .und, .und, .und, .und, .und, .und, .und, .und, .und, .und, .und]
noncomputable def M31_3 (v0 : Int) (v2 v3 : List Dat) (v4 v9 : Int) (v10 : Bool) (v25_0 v25_1 v25_2 v25_3 v25_4 v25_5 v25_6 v25_7 v26 v49_0 v49_1 v49_2 v49_3 v49_4 v49_5 v50 v58 v59 : Int) : R := lim fun φ => L31_3 (φ 0) (φ 1) (φ 2) v0 v2 v3 v4 v9 v10 v25_0 v25_1 v25_2 v25_3 v25_4 v25_5 v25_6 v25_7 v26 v49_0 v49_1 v49_2 v49_3 v49_4 v49_5 v50 v58 v59
theorem M31_3_c (v0 : Int) (v2 v3 : List Dat) (v4 v9 : Int) (v10 : Bool) (v25_0 v25_1 v25_2 v25_3 v25_4 v25_5 v25_6 v25_7 v26 v49_0 v49_1 v49_2 v49_3 v49_4 v49_5 v50 v58 v59 : Int) : Cont (fun φ => L31_3 (φ 0) (φ 1) (φ 2) v0 v2 v3 v4 v9 v10 v25_0 v25_1 v25_2 v25_3 v25_4 v25_5 v25_6 v25_7 v26 v49_0 v49_1 v49_2 v49_3 v49_4 v49_5 v50 v58 v59) (M31_3 v0 v2 v3 v4 v9 v10 v25_0 v25_1 v25_2 v25_3 v25_4 v25_5 v25_6 v25_7 v26 v49_0 v49_1 v49_2 v49_3 v49_4 v49_5 v50 v58 v59) := Cont.re id _
theorem M31_3_e (v0 : Int) (v2 v3 : List Dat) (v4 v9 : Int) (v10 : Bool) (v25_0 v25_1 v25_2 v25_3 v25_4 v25_5 v25_6 v25_7 v26 v49_0 v49_1 v49_2 v49_3 v49_4 v49_5 v50 v58 v59 : Int) : Cont (fun φ => L31_3 (φ 0) (φ 1) (φ 0) v0 v2 v3 v4 v9 v10 v25_0 v25_1 v25_2 v25_3 v25_4 v25_5 v25_6 v25_7 v26 v49_0 v49_1 v49_2 v49_3 v49_4 v49_5 v50 v58 v59) (M31_3 v0 v2 v3 v4 v9 v10 v25_0 v25_1 v25_2 v25_3 v25_4 v25_5 v25_6 v25_7 v26 v49_0 v49_1 v49_2 v49_3 v49_4 v49_5 v50 v58 v59) := Cont.re (toZ 2) fun φ => L31_3 (φ 0) (φ 1) (φ 2) v0 v2 v3 v4 v9 v10 v25_0 v25_1 v25_2 v25_3 v25_4 v25_5 v25_6 v25_7 v26 v49_0 v49_1 v49_2 v49_3 v49_4 v49_5 v50 v58 v59
noncomputable def L31_5 (n : Nat) (m1 : Nat) (m2 : Nat) (v0 : Int) (v2 v3 : List Dat) (v4 v13 v14 v25_0 v25_1 v25_2 v25_3 v25_4 v25_5 v25_6 v25_7 v26 v49_0 v49_1 v49_2 v49_3 v49_4 v49_5 v50 : Int) : R := loopIter (fun E K => evCode C (ev C n) n kp31 (c31 [1, 1, 1, 1, 1, 1, 0, 1, 0, 0, 1, 0, 0, 1, 0, 0]) E K) [0, 2, 3, 4, 13, 14, 25, 26, 49, 50] (Kblk 8 (Kblk 7 (Kseq C (ev C n) n kp31 (c31 [1, 1, 1, 1, 1, 1, 0, 1, 0, 0, 1, 1]) (Klop (fun E K => evCode C (ev C n) n kp31 (c31 [1, 1, 1, 1, 1, 1, 0, 1, 0, 0]) E K) [0, 2, 3, 4, 13, 25, 26, 49, 50] (Kblk 6 (Kseq C (ev C n) n kp31 (c31 [1, 1, 1, 1, 1, 1, 1]) (Ktop C 31 f31 [.und]))) m1)))) m2 [.int .i64 v0, .und, .own 2 0 3 v2, .own 3 0 3 v3, .int .i64 v4, .und, .und, .und, .und, .und, .und, .und, .und, .int .i64 v13, .int .i64 v14, .und, .und, .und, .und, .und, .und, .und, .und, .und, .und, .agg [.int .i64 v25_0, .int .i64 v25_1, .int .i64 v25_2, .int .i64 v25_3, .int .i64 v25_4, .int .i64 v25_5, .int .i64 v25_6, .int .i64 v25_7], .int .i64 v26, .und, .und, .und, .und, .und, .und, .und, .und, .und, .und, .und, .und, .und, .und, .und, .und, .und, .und, .und, .und, .und, .und, .agg [.int .i64 v49_0, .int .i64 v49_1, .int .i64 v49_2, .int .i64 v49_3, .int .i64 v49_4, .int .i64 v49_5], .int .i64 v50, .und, .und, .und, .und, .und, .und, .und, .und, .und, .und, .und, .und, .und, .und, .und, .und, .und, .und, .und, .und, .und, .und, .und, .und, .und, .und, .und, .und, .und, .und, .und, .und, .und, .und, .und, .und, .und, .und, .und, .und, .und, .und, .und, .und, .und, .und, .und, .und, .und, .und, .und, .und, .und, .und, .und, .und, .und, .und, .und, .und, .und, .und, .und, .und, .und, .und]
noncomputable def M31_5 (v0 : Int) (v2 v3 : List Dat) (v4 v13 v14 v25_0 v25_1 v25_2 v25_3 v25_4 v25_5 v25_6 v25_7 v26 v49_0 v49_1 v49_2 v49_3 v49_4 v49_5 v50 : Int) : R := lim fun φ => L31_5 (φ 0) (φ 1) (φ 2) v0 v2 v3 v4 v13 v14 v25_0 v25_1 v25_2 v25_3 v25_4 v25_5 v25_6 v25_7 v26 v49_0 v49_1 v49_2 v49_3 v49_4 v49_5 v50
theorem M31_5_c (v0 : Int) (v2 v3 : List Dat) (v4 v13 v14 v25_0 v25_1 v25_2 v25_3 v25_4 v25_5 v25_6 v25_7 v26 v49_0 v49_1 v49_2 v49_3 v49_4 v49_5 v50 : Int) : Cont (fun φ => L31_5 (φ 0) (φ 1) (φ 2) v0 v2 v3 v4 v13 v14 v25_0 v25_1 v25_2 v25_3 v25_4 v25_5 v25_6 v25_7 v26 v49_0 v49_1 v49_2 v49_3 v49_4 v49_5 v50) (M31_5 v0 v2 v3 v4 v13 v14 v25_0 v25_1 v25_2 v25_3 v25_4 v25_5 v25_6 v25_7 v26 v49_0 v49_1 v49_2 v49_3 v49_4 v49_5 v50) := Cont.re id _
theorem M31_5_e (v0 : Int) (v2 v3 : List Dat) (v4 v13 v14 v25_0 v25_1 v25_2 v25_3 v25_4 v25_5 v25_6 v25_7 v26 v49_0 v49_1 v49_2 v49_3 v49_4 v49_5 v50 : Int) : Cont (fun φ => L31_5 (φ 0) (φ 1) (φ 0) v0 v2 v3 v4 v13 v14 v25_0 v25_1 v25_2 v25_3 v25_4 v25_5 v25_6 v25_7 v26 v49_0 v49_1 v49_2 v49_3 v49_4 v49_5 v50) (M31_5 v0 v2 v3 v4 v13 v14 v25_0 v25_1 v25_2 v25_3 v25_4 v25_5 v25_6 v25_7 v26 v49_0 v49_1 v49_2 v49_3 v49_4 v49_5 v50) := Cont.re (toZ 2) fun φ => L31_5 (φ 0) (φ 1) (φ 2) v0 v2 v3 v4 v13 v14 v25_0 v25_1 v25_2 v25_3 v25_4 v25_5 v25_6 v25_7 v26 v49_0 v49_1 v49_2 v49_3 v49_4 v49_5 v50
noncomputable def L31_4 (n : Nat) (m1 : Nat) (v0 : Int) (v2 v3 : List Dat) (v4 v13 v25_0 v25_1 v25_2 v25_3 v25_4 v25_5 v25_6 v25_7 v26 v49_0 v49_1 v49_2 v49_3 v49_4 v49_5 v50 : Int) : R := loopIter (fun E K => evCode C (ev C n) n kp31 (c31 [1, 1, 1, 1, 1, 1, 0, 1, 0, 0]) E K) [0, 2, 3, 4, 13, 25, 26, 49, 50] (Kblk 6 (Kseq C (ev C n) n kp31 (c31 [1, 1, 1, 1, 1, 1, 1]) (Ktop C 31 f31 [.und]))) m1 [.int .i64 v0, .und, .own 2 0 3 v2, .own 3 0 3 v3, .int .i64 v4, .und, .und, .und, .und, .und, .und, .und, .und, .int .i64 v13, .und, .und, .und, .und, .und, .und, .und, .und, .und, .und, .und, .agg [.int .i64 v25_0, .int .i64 v25_1, .int .i64 v25_2, .int .i64 v25_3, .int .i64 v25_4, .int .i64 v25_5, .int .i64 v25_6, .int .i64 v25_7], .int .i64 v26, .und, .und, .und, .und, .und, .und, .und, .und, .und, .und, .und, .und, .und, .und, .und, .und, .und, .und, .und, .und, .und, .und, .agg [.int .i64 v49_0, .int .i64 v49_1, .int .i64 v49_2, .int .i64 v49_3, .int .i64 v49_4, .int .i64 v49_5], .int .i64 v50, .und, .und, .und, .und, .und, .und, .und, .und, .und, .und, .und, .und, .und, .und, .und, .und, .und, .und, .und, .und, .und, .und, .und, .und, .und, .und, .und, .und, .und, .und, .und, .und, .und, .und, .und, .und, .und, .und, .und, .und, .und, .und, .und, .und, .und, .und, .und, .und, .und, .und, .und, .und, .und, .und, .und, .und, .und, .und, .und, .und, .und, .und, .und, .und, .und, .und]
noncomputable def M31_4 (v0 : Int) (v2 v3 : List Dat) (v4 v13 v25_0 v25_1 v25_2 v25_3 v25_4 v25_5 v25_6 v25_7 v26 v49_0 v49_1 v49_2 v49_3 v49_4 v49_5 v50 : Int) : R := lim fun φ => L31_4 (φ 0) (φ 1) v0 v2 v3 v4 v13 v25_0 v25_1 v25_2 v25_3 v25_4 v25_5 v25_6 v25_7 v26 v49_0 v49_1 v49_2 v49_3 v49_4 v49_5 v50
theorem M31_4_c (v0 : Int) (v2 v3 : List Dat) (v4 v13 v25_0 v25_1 v25_2 v25_3 v25_4 v25_5 v25_6 v25_7 v26 v49_0 v49_1 v49_2 v49_3 v49_4 v49_5 v50 : Int) : Cont (fun φ => L31_4 (φ 0) (φ 1) v0 v2 v3 v4 v13 v25_0 v25_1 v25_2 v25_3 v25_4 v25_5 v25_6 v25_7 v26 v49_0 v49_1 v49_2 v49_3 v49_4 v49_5 v50) (M31_4 v0 v2 v3 v4 v13 v25_0 v25_1 v25_2 v25_3 v25_4 v25_5 v25_6 v25_7 v26 v49_0 v49_1 v49_2 v49_3 v49_4 v49_5 v50) := Cont.re id _
theorem M31_4_e (v0 : Int) (v2 v3 : List Dat) (v4 v13 v25_0 v25_1 v25_2 v25_3 v25_4 v25_5 v25_6 v25_7 v26 v49_0 v49_1 v49_2 v49_3 v49_4 v49_5 v50 : Int) : Cont (fun φ => L31_4 (φ 0) (φ 0) v0 v2 v3 v4 v13 v25_0 v25_1 v25_2 v25_3 v25_4 v25_5 v25_6 v25_7 v26 v49_0 v49_1 v49_2 v49_3 v49_4 v49_5 v50) (M31_4 v0 v2 v3 v4 v13 v25_0 v25_1 v25_2 v25_3 v25_4 v25_5 v25_6 v25_7 v26 v49_0 v49_1 v49_2 v49_3 v49_4 v49_5 v50) := Cont.re (toZ 1) fun φ => L31_4 (φ 0) (φ 1) v0 v2 v3 v4 v13 v25_0 v25_1 v25_2 v25_3 v25_4 v25_5 v25_6 v25_7 v26 v49_0 v49_1 v49_2 v49_3 v49_4 v49_5 v50
noncomputable def L31_2 (n : Nat) (m1 : Nat) (v0 : Int) (v2 v3 : List Dat) (v4 v25_0 v25_1 v25_2 v25_3 v25_4 v25_5 v25_6 v25_7 v26 v49_0 v49_1 v49_2 v49_3 v49_4 v49_5 v50 : Int) : R := loopIter (fun E K => evCode C (ev C n) n kp31 (c31 [1, 1, 1, 1, 1, 0, 1, 0, 0]) E K) [0, 2, 3, 4, 25, 26, 49, 50] (Kblk 2 (Kseq C (ev C n) n kp31 (c31 [1, 1, 1, 1, 1, 1]) (Ktop C 31 f31 [.und]))) m1 [.int .i64 v0, .und, .own 2 0 3 v2, .own 3 0 3 v3, .int .i64 v4, .und, .und, .und, .und, .und, .und, .und, .und, .und, .und, .und, .und, .und, .und, .und, .und, .und, .und, .und, .und, .agg [.int .i64 v25_0, .int .i64 v25_1, .int .i64 v25_2, .int .i64 v25_3, .int .i64 v25_4, .int .i64 v25_5, .int .i64 v25_6, .int .i64 v25_7], .int .i64 v26, .und, .und, .und, .und, .und, .und, .und, .und, .und, .und, .und, .und, .und, .und, .und, .und, .und, .und, .und, .und, .und, .und, .agg [.int .i64 v49_0, .int .i64 v49_1, .int .i64 v49_2, .int .i64 v49_3, .int .i64 v49_4, .int .i64 v49_5], .int .i64 v50, .und, .und, .und, .und, .und, .und, .und, .und, .und, .und, .und, .und, .und, .und, .und, .und, .und, .und, .und, .und, .und, .und, .und, .und, .und, .und, .und, .und, .und, .und, .und, .und, .und, .und, .und, .und, .und, .und, .und, .und, .und, .und, .und, .und, .und, .und, .und, .und, .und, .und, .und, .und, .und, .und, .und, .und, .und, .und, .und, .und, .und, .und, .und, .und, .und, .und]
noncomputable def M31_2 (v0 : Int) (v2 v3 : List Dat) (v4 v25_0 v25_1 v25_2 v25_3 v25_4 v25_5 v25_6 v25_7 v26 v49_0 v49_1 v49_2 v49_3 v49_4 v49_5 v50 : Int) : R := lim fun φ => L31_2 (φ 0) (φ 1) v0 v2 v3 v4 v25_0 v25_1 v25_2 v25_3 v25_4 v25_5 v25_6 v25_7 v26 v49_0 v49_1 v49_2 v49_3 v49_4 v49_5 v50
theorem M31_2_c (v0 : Int) (v2 v3 : List Dat) (v4 v25_0 v25_1 v25_2 v25_3 v25_4 v25_5 v25_6 v25_7 v26 v49_0 v49_1 v49_2 v49_3 v49_4 v49_5 v50 : Int) : Cont (fun φ => L31_2 (φ 0) (φ 1) v0 v2 v3 v4 v25_0 v25_1 v25_2 v25_3 v25_4 v25_5 v25_6 v25_7 v26 v49_0 v49_1 v49_2 v49_3 v49_4 v49_5 v50) (M31_2 v0 v2 v3 v4 v25_0 v25_1 v25_2 v25_3 v25_4 v25_5 v25_6 v25_7 v26 v49_0 v49_1 v49_2 v49_3 v49_4 v49_5 v50) := Cont.re id _
theorem M31_2_e (v0 : Int) (v2 v3 : List Dat) (v4 v25_0 v25_1 v25_2 v25_3 v25_4 v25_5 v25_6 v25_7 v26 v49_0 v49_1 v49_2 v49_3 v49_4 v49_5 v50 : Int) : Cont (fun φ => L31_2 (φ 0) (φ 0) v0 v2 v3 v4 v25_0 v25_1 v25_2 v25_3 v25_4 v25_5 v25_6 v25_7 v26 v49_0 v49_1 v49_2 v49_3 v49_4 v49_5 v50) (M31_2 v0 v2 v3 v4 v25_0 v25_1 v25_2 v25_3 v25_4 v25_5 v25_6 v25_7 v26 v49_0 v49_1 v49_2 v49_3 v49_4 v49_5 v50) := Cont.re (toZ 1) fun φ => L31_2 (φ 0) (φ 1) v0 v2 v3 v4 v25_0 v25_1 v25_2 v25_3 v25_4 v25_5 v25_6 v25_7 v26 v49_0 v49_1 v49_2 v49_3 v49_4 v49_5 v50
noncomputable def L31_1 (n : Nat) (m1 : Nat) (v0 : Int) (v2 v3 : List Dat) (v4 v25_0 v25_1 v25_2 v25_3 v25_4 v25_5 v25_6 v25_7 v26 : Int) : R := loopIter (fun E K => evCode C (ev C n) n kp31 (c31 [1, 1, 1, 1, 0, 1, 0, 0]) E K) [0, 2, 3, 4, 25, 26] (Kblk 0 (Kseq C (ev C n) n kp31 (c31 [1, 1, 1, 1, 1]) (Ktop C 31 f31 [.und]))) m1 [.int .i64 v0, .und, .own 2 0 3 v2, .own 3 0 3 v3, .int .i64 v4, .und, .und, .und, .und, .und, .und, .und, .und, .und, .und, .und, .und, .und, .und, .und, .und, .und, .und, .und, .und, .agg [.int .i64 v25_0, .int .i64 v25_1, .int .i64 v25_2, .int .i64 v25_3, .int .i64 v25_4, .int .i64 v25_5, .int .i64 v25_6, .int .i64 v25_7], .int .i64 v26, .und, .und, .und, .und, .und, .und, .und, .und, .und, .und, .und, .und, .und, .und, .und, .und, .und, .und, .und, .und, .und, .und, .und, .und, .und, .und, .und, .und, .und, .und, .und, .und, .und, .und, .und, .und, .und, .und, .und, .und, .und, .und, .und, .und, .und, .und, .und, .und, .und, .und, .und, .und, .und, .und, .und, .und, .und, .und, .und, .und, .und, .und, .und, .und, .und, .und, .und, .und, .und, .und, .und, .und, .und, .und, .und, .und, .und, .und, .und, .und, .und, .und, .und, .und, .und, .und, .und, .und, .und, .und]
noncomputable def M31_1 (v0 : Int) (v2 v3 : List Dat) (v4 v25_0 v25_1 v25_2 v25_3 v25_4 v25_5 v25_6 v25_7 v26 : Int) : R := lim fun φ => L31_1 (φ 0) (φ 1) v0 v2 v3 v4 v25_0 v25_1 v25_2 v25_3 v25_4 v25_5 v25_6 v25_7 v26
theorem M31_1_c (v0 : Int) (v2 v3 : List Dat) (v4 v25_0 v25_1 v25_2 v25_3 v25_4 v25_5 v25_6 v25_7 v26 : Int) : Cont (fun φ => L31_1 (φ 0) (φ 1) v0 v2 v3 v4 v25_0 v25_1 v25_2 v25_3 v25_4 v25_5 v25_6 v25_7 v26) (M31_1 v0 v2 v3 v4 v25_0 v25_1 v25_2 v25_3 v25_4 v25_5 v25_6 v25_7 v26) := Cont.re id _
theorem M31_1_e (v0 : Int) (v2 v3 : List Dat) (v4 v25_0 v25_1 v25_2 v25_3 v25_4 v25_5 v25_6 v25_7 v26 : Int) : Cont (fun φ => L31_1 (φ 0) (φ 0) v0 v2 v3 v4 v25_0 v25_1 v25_2 v25_3 v25_4 v25_5 v25_6 v25_7 v26) (M31_1 v0 v2 v3 v4 v25_0 v25_1 v25_2 v25_3 v25_4 v25_5 v25_6 v25_7 v26) := Cont.re (toZ 1) fun φ => L31_1 (φ 0) (φ 1) v0 v2 v3 v4 v25_0 v25_1 v25_2 v25_3 v25_4 v25_5 v25_6 v25_7 v26
theorem M31_3_of (v0 : Int) (v2 v3 : List Dat) (v4 v9 : Int) (v10 : Bool) (v25_0 v25_1 v25_2 v25_3 v25_4 v25_5 v25_6 v25_7 v26 v49_0 v49_1 v49_2 v49_3 v49_4 v49_5 v50 v58 v59 : Int) {r : List Dat} (h : (bif decide (v59 < v58) then (bif decide (0 ≤ v59) then (bif decide (v59 < (v3.length : Int)) then (bif decide (v59.toNat < v3.length) then (bif v10 then (M31_3 v0 v2 v3 v4 v9 (((rd v3 v59.toNat).I) != v9) v25_0 v25_1 v25_2 v25_3 v25_4 v25_5 v25_6 v25_7 v26 v49_0 v49_1 v49_2 v49_3 v49_4 v49_5 v50 v58 (IntKind.i64.wrap (v59 + 1))) else (M31_3 v0 v2 v3 v4 v9 false v25_0 v25_1 v25_2 v25_3 v25_4 v25_5 v25_6 v25_7 v26 v49_0 v49_1 v49_2 v49_3 v49_4 v49_5 v50 v58 (IntKind.i64.wrap (v59 + 1)))) else none) else none) else none) else (bif v10 then (bif decide (v3.length + ([.int v9] : List Dat).length ≤ capB 8) then (M31_2 v0 v2 (v3 ++ ([.int v9] : List Dat)) v4 v25_0 v25_1 v25_2 v25_3 v25_4 v25_5 v25_6 v25_7 v26 v49_0 v49_1 v49_2 v49_3 v49_4 v49_5 (IntKind.i64.wrap (v50 + 1))) else none) else (M31_2 v0 v2 v3 v4 v25_0 v25_1 v25_2 v25_3 v25_4 v25_5 v25_6 v25_7 v26 v49_0 v49_1 v49_2 v49_3 v49_4 v49_5 (IntKind.i64.wrap (v50 + 1)))) : R) = some r) : M31_3 v0 v2 v3 v4 v9 v10 v25_0 v25_1 v25_2 v25_3 v25_4 v25_5 v25_6 v25_7 v26 v49_0 v49_1 v49_2 v49_3 v49_4 v49_5 v50 v58 v59 = some r := lim_st (g := fun φ => L31_3 (φ 0) (φ 1) (φ 2) v0 v2 v3 v4 v9 v10 v25_0 v25_1 v25_2 v25_3 v25_4 v25_5 v25_6 v25_7 v26 v49_0 v49_1 v49_2 v49_3 v49_4 v49_5 v50 v58 v59) 2 h (Cont.bif (Cont.bif (Cont.bif (Cont.bif (Cont.bif (M31_3_c _ _ _ _ _ _ _ _ _ _ _ _ _ _ _ _ _ _ _ _ _ _ _ _) (M31_3_c _ _ _ _ _ _ _ _ _ _ _ _ _ _ _ _ _ _ _ _ _ _ _ _)) Cont.nn) Cont.nn) Cont.nn) (Cont.bif (Cont.bif (M31_2_c _ _ _ _ _ _ _ _ _ _ _ _ _ _ _ _ _ _ _ _) Cont.nn) (M31_2_c _ _ _ _ _ _ _ _ _ _ _ _ _ _ _ _ _ _ _ _))) fun φ m hm => (congrArg (fun q => L31_3 (φ 0) (φ 1) q v0 v2 v3 v4 v9 v10 v25_0 v25_1 v25_2 v25_3 v25_4 v25_5 v25_6 v25_7 v26 v49_0 v49_1 v49_2 v49_3 v49_4 v49_5 v50 v58 v59) hm).trans (by kernel_rfl)
theorem M31_5_of (v0 : Int) (v2 v3 : List Dat) (v4 v13 v14 v25_0 v25_1 v25_2 v25_3 v25_4 v25_5 v25_6 v25_7 v26 v49_0 v49_1 v49_2 v49_3 v49_4 v49_5 v50 : Int) {r : List Dat} (h : (bif decide (v14 > 0) then (bif decide (0 ≤ (IntKind.i64.wrap (v14 - 1))) then (bif decide ((IntKind.i64.wrap (v14 - 1)) < (v3.length : Int)) then (bif decide ((IntKind.i64.wrap (v14 - 1)).toNat < v3.length) then (bif decide (0 ≤ v14) then (bif decide (v14 < (v3.length : Int)) then (bif decide (v14.toNat < v3.length) then (bif decide (((rd v3 ((IntKind.i64.wrap (v14 - 1)).toNat)).I) > ((rd v3 v14.toNat).I)) then (bif decide (0 ≤ v14) then (bif decide (v14 < (v3.length : Int)) then (bif decide (v14.toNat < v3.length) then (bif decide (0 ≤ (IntKind.i64.wrap (v14 - 1))) then (bif decide ((IntKind.i64.wrap (v14 - 1)) < (v3.length : Int)) then (bif decide ((IntKind.i64.wrap (v14 - 1)).toNat < v3.length) then (bif decide (0 ≤ v14) then (bif decide (v14 < (v3.length : Int)) then (bif decide (v14.toNat < v3.length) then (bif decide (0 ≤ (IntKind.i64.wrap (v14 - 1))) then (bif decide ((IntKind.i64.wrap (v14 - 1)) < ((v3.set v14.toNat (.int ((rd v3 ((IntKind.i64.wrap (v14 - 1)).toNat)).I))).length : Int)) then (bif decide ((IntKind.i64.wrap (v14 - 1)).toNat < (v3.set v14.toNat (.int ((rd v3 ((IntKind.i64.wrap (v14 - 1)).toNat)).I))).length) then (M31_5 v0 v2 ((v3.set v14.toNat (.int ((rd v3 ((IntKind.i64.wrap (v14 - 1)).toNat)).I))).set ((IntKind.i64.wrap (v14 - 1)).toNat) (.int ((rd v3 v14.toNat).I))) v4 v13 (IntKind.i64.wrap (v14 - 1)) v25_0 v25_1 v25_2 v25_3 v25_4 v25_5 v25_6 v25_7 v26 v49_0 v49_1 v49_2 v49_3 v49_4 v49_5 v50) else none) else none) else none) else none) else none) else none) else none) else none) else none) else none) else none) else none) else (M31_4 v0 v2 v3 v4 (IntKind.i64.wrap (v13 + 1)) v25_0 v25_1 v25_2 v25_3 v25_4 v25_5 v25_6 v25_7 v26 v49_0 v49_1 v49_2 v49_3 v49_4 v49_5 v50)) else none) else none) else none) else none) else none) else none) else (M31_4 v0 v2 v3 v4 (IntKind.i64.wrap (v13 + 1)) v25_0 v25_1 v25_2 v25_3 v25_4 v25_5 v25_6 v25_7 v26 v49_0 v49_1 v49_2 v49_3 v49_4 v49_5 v50) : R) = some r) : M31_5 v0 v2 v3 v4 v13 v14 v25_0 v25_1 v25_2 v25_3 v25_4 v25_5 v25_6 v25_7 v26 v49_0 v49_1 v49_2 v49_3 v49_4 v49_5 v50 = some r := lim_st (g := fun φ => L31_5 (φ 0) (φ 1) (φ 2) v0 v2 v3 v4 v13 v14 v25_0 v25_1 v25_2 v25_3 v25_4 v25_5 v25_6 v25_7 v26 v49_0 v49_1 v49_2 v49_3 v49_4 v49_5 v50) 2 h (Cont.bif (Cont.bif (Cont.bif (Cont.bif (Cont.bif (Cont.bif (Cont.bif (Cont.bif (Cont.bif (Cont.bif (Cont.bif (Cont.bif (Cont.bif (Cont.bif (Cont.bif (Cont.bif (Cont.bif (Cont.bif (Cont.bif (Cont.bif (M31_5_c _ _ _ _ _ _ _ _ _ _ _ _ _ _ _ _ _ _ _ _ _ _) Cont.nn) Cont.nn) Cont.nn) Cont.nn) Cont.nn) Cont.nn) Cont.nn) Cont.nn) Cont.nn) Cont.nn) Cont.nn) Cont.nn) (M31_4_c _ _ _ _ _ _ _ _ _ _ _ _ _ _ _ _ _ _ _ _ _)) Cont.nn) Cont.nn) Cont.nn) Cont.nn) Cont.nn) Cont.nn) (M31_4_c _ _ _ _ _ _ _ _ _ _ _ _ _ _ _ _ _ _ _ _ _)) fun φ m hm => (congrArg (fun q => L31_5 (φ 0) (φ 1) q v0 v2 v3 v4 v13 v14 v25_0 v25_1 v25_2 v25_3 v25_4 v25_5 v25_6 v25_7 v26 v49_0 v49_1 v49_2 v49_3 v49_4 v49_5 v50) hm).trans (by kernel_rfl)
theorem M31_4_of (v0 : Int) (v2 v3 : List Dat) (v4 v13 v25_0 v25_1 v25_2 v25_3 v25_4 v25_5 v25_6 v25_7 v26 v49_0 v49_1 v49_2 v49_3 v49_4 v49_5 v50 : Int) {r : List Dat} (h : (bif decide (v13 < (v3.length : Int)) then (M31_5 v0 v2 v3 v4 v13 v13 v25_0 v25_1 v25_2 v25_3 v25_4 v25_5 v25_6 v25_7 v26 v49_0 v49_1 v49_2 v49_3 v49_4 v49_5 v50) else (some [.list v3]) : R) = some r) : M31_4 v0 v2 v3 v4 v13 v25_0 v25_1 v25_2 v25_3 v25_4 v25_5 v25_6 v25_7 v26 v49_0 v49_1 v49_2 v49_3 v49_4 v49_5 v50 = some r := lim_st (g := fun φ => L31_4 (φ 0) (φ 1) v0 v2 v3 v4 v13 v25_0 v25_1 v25_2 v25_3 v25_4 v25_5 v25_6 v25_7 v26 v49_0 v49_1 v49_2 v49_3 v49_4 v49_5 v50) 1 h (Cont.bif (M31_5_e _ _ _ _ _ _ _ _ _ _ _ _ _ _ _ _ _ _ _ _ _ _) (Cont.const _)) fun φ m hm => (congrArg (fun q => L31_4 (φ 0) q v0 v2 v3 v4 v13 v25_0 v25_1 v25_2 v25_3 v25_4 v25_5 v25_6 v25_7 v26 v49_0 v49_1 v49_2 v49_3 v49_4 v49_5 v50) hm).trans (by kernel_rfl)
theorem M31_2_of (v0 : Int) (v2 v3 : List Dat) (v4 v25_0 v25_1 v25_2 v25_3 v25_4 v25_5 v25_6 v25_7 v26 v49_0 v49_1 v49_2 v49_3 v49_4 v49_5 v50 : Int) {r : List Dat} (h : (bif decide (v50 < 6) then (bif decide (0 ≤ v50) then (bif decide (v50 < 6) then ((E C 74 [.int .i64 ((rd ([.int v49_0, .int v49_1, .int v49_2, .int v49_3, .int v49_4, .int v49_5] : List Dat) v50.toNat).I)]).bind fun d3 => (bif ((rd d3 0).I) != v4 then (M31_2 v0 v2 v3 v4 v25_0 v25_1 v25_2 v25_3 v25_4 v25_5 v25_6 v25_7 v26 v49_0 v49_1 v49_2 v49_3 v49_4 v49_5 (IntKind.i64.wrap (v50 + 1))) else (M31_3 v0 v2 v3 v4 ((rd ([.int v49_0, .int v49_1, .int v49_2, .int v49_3, .int v49_4, .int v49_5] : List Dat) v50.toNat).I) true v25_0 v25_1 v25_2 v25_3 v25_4 v25_5 v25_6 v25_7 v26 v49_0 v49_1 v49_2 v49_3 v49_4 v49_5 v50 (v3.length : Int) 0))) else none) else none) else (M31_4 v0 v2 v3 v4 1 v25_0 v25_1 v25_2 v25_3 v25_4 v25_5 v25_6 v25_7 v26 v49_0 v49_1 v49_2 v49_3 v49_4 v49_5 v50) : R) = some r) : M31_2 v0 v2 v3 v4 v25_0 v25_1 v25_2 v25_3 v25_4 v25_5 v25_6 v25_7 v26 v49_0 v49_1 v49_2 v49_3 v49_4 v49_5 v50 = some r := lim_st (g := fun φ => L31_2 (φ 0) (φ 1) v0 v2 v3 v4 v25_0 v25_1 v25_2 v25_3 v25_4 v25_5 v25_6 v25_7 v26 v49_0 v49_1 v49_2 v49_3 v49_4 v49_5 v50) 1 h (Cont.bif (Cont.bif (Cont.bif (Cont.bind (Cont.call C 74 _) fun _ => (Cont.bif (M31_2_c _ _ _ _ _ _ _ _ _ _ _ _ _ _ _ _ _ _ _ _) (M31_3_e _ _ _ _ _ _ _ _ _ _ _ _ _ _ _ _ _ _ _ _ _ _ _ _))) Cont.nn) Cont.nn) (M31_4_e _ _ _ _ _ _ _ _ _ _ _ _ _ _ _ _ _ _ _ _ _)) fun φ m hm => (congrArg (fun q => L31_2 (φ 0) q v0 v2 v3 v4 v25_0 v25_1 v25_2 v25_3 v25_4 v25_5 v25_6 v25_7 v26 v49_0 v49_1 v49_2 v49_3 v49_4 v49_5 v50) hm).trans (by kernel_rfl)
theorem M31_1_of (v0 : Int) (v2 v3 : List Dat) (v4 v25_0 v25_1 v25_2 v25_3 v25_4 v25_5 v25_6 v25_7 v26 : Int) {r : List Dat} (h : (bif decide (v26 < 8) then (bif decide (0 ≤ v26) then (bif decide (v26 < 8) then (bif decide (((rd ([.int v25_0, .int v25_1, .int v25_2, .int v25_3, .int v25_4, .int v25_5, .int v25_6, .int v25_7] : List Dat) v26.toNat).I) ≥ 0) then (bif decide ((IntKind.i64.wrap (v4 - ((rd ([.int v25_0, .int v25_1, .int v25_2, .int v25_3, .int v25_4, .int v25_5, .int v25_6, .int v25_7] : List Dat) v26.toNat).I))) ≥ 0) then ((E C 74 [.int .i64 (IntKind.i64.wrap (v4 - ((rd ([.int v25_0, .int v25_1, .int v25_2, .int v25_3, .int v25_4, .int v25_5, .int v25_6, .int v25_7] : List Dat) v26.toNat).I)))]).bind fun d2 => (bif ((rd d2 0).I) == v4 then (bif decide (v3.length + ([.int (IntKind.i64.wrap (v4 - ((rd ([.int v25_0, .int v25_1, .int v25_2, .int v25_3, .int v25_4, .int v25_5, .int v25_6, .int v25_7] : List Dat) v26.toNat).I)))] : List Dat).length ≤ capB 8) then (M31_1 v0 v2 (v3 ++ ([.int (IntKind.i64.wrap (v4 - ((rd ([.int v25_0, .int v25_1, .int v25_2, .int v25_3, .int v25_4, .int v25_5, .int v25_6, .int v25_7] : List Dat) v26.toNat).I)))] : List Dat)) v4 v25_0 v25_1 v25_2 v25_3 v25_4 v25_5 v25_6 v25_7 (IntKind.i64.wrap (v26 + 1))) else none) else (M31_1 v0 v2 v3 v4 v25_0 v25_1 v25_2 v25_3 v25_4 v25_5 v25_6 v25_7 (IntKind.i64.wrap (v26 + 1))))) else (M31_1 v0 v2 v3 v4 v25_0 v25_1 v25_2 v25_3 v25_4 v25_5 v25_6 v25_7 (IntKind.i64.wrap (v26 + 1)))) else (M31_1 v0 v2 v3 v4 v25_0 v25_1 v25_2 v25_3 v25_4 v25_5 v25_6 v25_7 (IntKind.i64.wrap (v26 + 1)))) else none) else none) else (M31_2 v0 v2 v3 v4 v25_0 v25_1 v25_2 v25_3 v25_4 v25_5 v25_6 v25_7 v26 181 376 383 962 8490 8491 0) : R) = some r) : M31_1 v0 v2 v3 v4 v25_0 v25_1 v25_2 v25_3 v25_4 v25_5 v25_6 v25_7 v26 = some r := lim_st (g := fun φ => L31_1 (φ 0) (φ 1) v0 v2 v3 v4 v25_0 v25_1 v25_2 v25_3 v25_4 v25_5 v25_6 v25_7 v26) 1 h (Cont.bif (Cont.bif (Cont.bif (Cont.bif (Cont.bif (Cont.bind (Cont.call C 74 _) fun _ => (Cont.bif (Cont.bif (M31_1_c _ _ _ _ _ _ _ _ _ _ _ _ _) Cont.nn) (M31_1_c _ _ _ _ _ _ _ _ _ _ _ _ _))) (M31_1_c _ _ _ _ _ _ _ _ _ _ _ _ _)) (M31_1_c _ _ _ _ _ _ _ _ _ _ _ _ _)) Cont.nn) Cont.nn) (M31_2_e _ _ _ _ _ _ _ _ _ _ _ _ _ _ _ _ _ _ _ _)) fun φ m hm => (congrArg (fun q => L31_1 (φ 0) q v0 v2 v3 v4 v25_0 v25_1 v25_2 v25_3 v25_4 v25_5 v25_6 v25_7 v26) hm).trans (by kernel_rfl)
theorem o31 (a0 : Int) {r : List Dat} (h : (bif decide (a0 < 0) then (some [.list ([] : List Dat)]) else (bif decide (a0 > 1114367) then (some [.list ([] : List Dat)]) else ((E C 74 [.int .i64 a0]).bind fun d1 => (M31_1 a0 ([] : List Dat) ([] : List Dat) ((rd d1 0).I) 80 48 40 32 26 1 0 (-1) 0))) : R) = some r) : E C 31 [.int .i64 a0] = some r := E_st h (Cont.bif (Cont.const _) (Cont.bif (Cont.const _) (Cont.bind (Cont.call C 74 _) fun _ => (M31_1_e _ _ _ _ _ _ _ _ _ _ _ _ _)))) fun φ => by kernel_rfl
/-- clew/clewref03.with -/
noncomputable def f74 : Func := Tryz.f74
def kp74 : List Nat := [0, 2, 3, 4, 5, 6]
noncomputable def c74 (p : List Nat) : Code := pick f74 p
noncomputable def L74_4 (n : Nat) (m1 : Nat) (v0 v2 v5 v6 : Int) : R := loopIter (fun E K => evCode C (ev C n) n kp74 (c74 [1, 1, 1, 1, 0, 1, 0, 0]) E K) [0, 2, 3, 4, 5, 6] (Kblk 2 (Kseq C (ev C n) n kp74 (c74 [1, 1, 1, 1, 1]) (Ktop C 74 f74 [.und]))) m1 [.int .i64 v0, .und, .int .i64 v2, .sref 159 tab542c0f 0 0, .sref 161 tabdd2fde 0 0, .int .i64 v5, .int .i64 v6, .und, .und, .und, .und, .und, .und, .und, .und, .und, .und, .und, .und, .und, .und, .und, .und, .und, .und, .und, .und, .und, .und, .und, .und, .und, .und, .und, .und, .und, .und, .und, .und, .und, .und, .und, .und, .und, .und, .und, .und, .und, .und, .und, .und, .und, .und, .und, .und, .und, .und, .und, .und, .und, .und, .und, .und, .und, .und, .und, .und, .und, .und, .und, .und, .und, .und, .und, .und, .und, .und, .und, .und, .und, .und, .und, .und, .und, .und, .und, .und, .und, .und]
noncomputable def M74_4 (v0 v2 v5 v6 : Int) : R := lim fun φ => L74_4 (φ 0) (φ 1) v0 v2 v5 v6
theorem M74_4_c (v0 v2 v5 v6 : Int) : Cont (fun φ => L74_4 (φ 0) (φ 1) v0 v2 v5 v6) (M74_4 v0 v2 v5 v6) := Cont.re id _
noncomputable def L74_3 (n : Nat) (m1 : Nat) (v0 v2 v5 v6 : Int) : R := loopIter (fun E K => evCode C (ev C n) n kp74 (c74 [1, 1, 1, 1, 0, 1, 0, 0]) E K) [0, 2, 3, 4, 5, 6] (Kblk 2 (Kseq C (ev C n) n kp74 (c74 [1, 1, 1, 1, 1]) (Ktop C 74 f74 [.und]))) m1 [.int .i64 v0, .und, .int .i64 v2, .box 160 [.int .i64 65, .int .i64 90, .int .i64 1, .int .i64 32, .int .i64 192, .int .i64 214, .int .i64 1, .int .i64 32, .int .i64 216, .int .i64 222, .int .i64 1, .int .i64 32, .int .i64 256, .int .i64 302, .int .i64 2, .int .i64 1, .int .i64 306, .int .i64 310, .int .i64 2, .int .i64 1, .int .i64 313, .int .i64 327, .int .i64 2, .int .i64 1, .int .i64 330, .int .i64 374, .int .i64 2, .int .i64 1, .int .i64 377, .int .i64 381, .int .i64 2, .int .i64 1, .int .i64 913, .int .i64 929, .int .i64 1, .int .i64 32, .int .i64 931, .int .i64 939, .int .i64 1, .int .i64 32, .int .i64 1024, .int .i64 1039, .int .i64 1, .int .i64 80, .int .i64 1040, .int .i64 1071, .int .i64 1, .int .i64 32, .int .i64 1120, .int .i64 1152, .int .i64 2, .int .i64 1, .int .i64 1329, .int .i64 1366, .int .i64 1, .int .i64 48, .int .i64 7680, .int .i64 7828, .int .i64 2, .int .i64 1, .int .i64 9398, .int .i64 9423, .int .i64 1, .int .i64 26, .int .i64 65313, .int .i64 65338, .int .i64 1, .int .i64 32, .int .i64 66560, .int .i64 66599, .int .i64 1, .int .i64 40], .sref 161 tabdd2fde 0 0, .int .i64 v5, .int .i64 v6, .und, .und, .und, .und, .und, .und, .und, .und, .und, .und, .und, .und, .und, .und, .und, .und, .und, .und, .und, .und, .und, .und, .und, .und, .und, .und, .und, .und, .und, .und, .und, .und, .und, .und, .und, .und, .und, .und, .und, .und, .und, .und, .und, .und, .und, .und, .und, .und, .und, .und, .und, .und, .und, .und, .und, .und, .und, .und, .und, .und, .und, .und, .und, .und, .und, .und, .und, .und, .und, .und, .und, .und, .und, .und, .und, .und, .und, .und, .und, .und, .und, .und]
noncomputable def M74_3 (v0 v2 v5 v6 : Int) : R := lim fun φ => L74_3 (φ 0) (φ 1) v0 v2 v5 v6
theorem M74_3_e (v0 v2 v5 v6 : Int) : Cont (fun φ => L74_3 (φ 0) (φ 0) v0 v2 v5 v6) (M74_3 v0 v2 v5 v6) := Cont.re (toZ 1) fun φ => L74_3 (φ 0) (φ 1) v0 v2 v5 v6
noncomputable def L74_2 (n : Nat) (m1 : Nat) (v0 v2 v5 : Int) : R := loopIter (fun E K => evCode C (ev C n) n kp74 (c74 [1, 1, 1, 0, 1, 0, 0]) E K) [0, 2, 3, 4, 5] (Kblk 0 (Kseq C (ev C n) n kp74 (c74 [1, 1, 1, 1]) (Ktop C 74 f74 [.und]))) m1 [.int .i64 v0, .und, .int .i64 v2, .box 160 [.int .i64 65, .int .i64 90, .int .i64 1, .int .i64 32, .int .i64 192, .int .i64 214, .int .i64 1, .int .i64 32, .int .i64 216, .int .i64 222, .int .i64 1, .int .i64 32, .int .i64 256, .int .i64 302, .int .i64 2, .int .i64 1, .int .i64 306, .int .i64 310, .int .i64 2, .int .i64 1, .int .i64 313, .int .i64 327, .int .i64 2, .int .i64 1, .int .i64 330, .int .i64 374, .int .i64 2, .int .i64 1, .int .i64 377, .int .i64 381, .int .i64 2, .int .i64 1, .int .i64 913, .int .i64 929, .int .i64 1, .int .i64 32, .int .i64 931, .int .i64 939, .int .i64 1, .int .i64 32, .int .i64 1024, .int .i64 1039, .int .i64 1, .int .i64 80, .int .i64 1040, .int .i64 1071, .int .i64 1, .int .i64 32, .int .i64 1120, .int .i64 1152, .int .i64 2, .int .i64 1, .int .i64 1329, .int .i64 1366, .int .i64 1, .int .i64 48, .int .i64 7680, .int .i64 7828, .int .i64 2, .int .i64 1, .int .i64 9398, .int .i64 9423, .int .i64 1, .int .i64 26, .int .i64 65313, .int .i64 65338, .int .i64 1, .int .i64 32, .int .i64 66560, .int .i64 66599, .int .i64 1, .int .i64 40], .sref 161 tabdd2fde 0 0, .int .i64 v5, .und, .und, .und, .und, .und, .und, .und, .und, .und, .und, .und, .und, .und, .und, .und, .und, .und, .und, .und, .und, .und, .und, .und, .und, .und, .und, .und, .und, .und, .und, .und, .und, .und, .und, .und, .und, .und, .und, .und, .und, .und, .und, .und, .und, .und, .und, .und, .und, .und, .und, .und, .und, .und, .und, .und, .und, .und, .und, .und, .und, .und, .und, .und, .und, .und, .und, .und, .und, .und, .und, .und, .und, .und, .und, .und, .und, .und, .und, .und, .und, .und, .und, .und]
noncomputable def M74_2 (v0 v2 v5 : Int) : R := lim fun φ => L74_2 (φ 0) (φ 1) v0 v2 v5
theorem M74_2_c (v0 v2 v5 : Int) : Cont (fun φ => L74_2 (φ 0) (φ 1) v0 v2 v5) (M74_2 v0 v2 v5) := Cont.re id _
noncomputable def L74_5 (n : Nat) (m1 : Nat) (v0 v2 v5 v6 : Int) : R := loopIter (fun E K => evCode C (ev C n) n kp74 (c74 [1, 1, 1, 1, 0, 1, 0, 0]) E K) [0, 2, 3, 4, 5, 6] (Kblk 2 (Kseq C (ev C n) n kp74 (c74 [1, 1, 1, 1, 1]) (Ktop C 74 f74 [.und]))) m1 [.int .i64 v0, .und, .int .i64 v2, .box 160 [.int .i64 65, .int .i64 90, .int .i64 1, .int .i64 32, .int .i64 192, .int .i64 214, .int .i64 1, .int .i64 32, .int .i64 216, .int .i64 222, .int .i64 1, .int .i64 32, .int .i64 256, .int .i64 302, .int .i64 2, .int .i64 1, .int .i64 306, .int .i64 310, .int .i64 2, .int .i64 1, .int .i64 313, .int .i64 327, .int .i64 2, .int .i64 1, .int .i64 330, .int .i64 374, .int .i64 2, .int .i64 1, .int .i64 377, .int .i64 381, .int .i64 2, .int .i64 1, .int .i64 913, .int .i64 929, .int .i64 1, .int .i64 32, .int .i64 931, .int .i64 939, .int .i64 1, .int .i64 32, .int .i64 1024, .int .i64 1039, .int .i64 1, .int .i64 80, .int .i64 1040, .int .i64 1071, .int .i64 1, .int .i64 32, .int .i64 1120, .int .i64 1152, .int .i64 2, .int .i64 1, .int .i64 1329, .int .i64 1366, .int .i64 1, .int .i64 48, .int .i64 7680, .int .i64 7828, .int .i64 2, .int .i64 1, .int .i64 9398, .int .i64 9423, .int .i64 1, .int .i64 26, .int .i64 65313, .int .i64 65338, .int .i64 1, .int .i64 32, .int .i64 66560, .int .i64 66599, .int .i64 1, .int .i64 40], .box 162 [.int .i64 181, .int .i64 956, .int .i64 376, .int .i64 255, .int .i64 383, .int .i64 115, .int .i64 962, .int .i64 963, .int .i64 8490, .int .i64 107, .int .i64 8491, .int .i64 229], .int .i64 v5, .int .i64 v6, .und, .und, .und, .und, .und, .und, .und, .und, .und, .und, .und, .und, .und, .und, .und, .und, .und, .und, .und, .und, .und, .und, .und, .und, .und, .und, .und, .und, .und, .und, .und, .und, .und, .und, .und, .und, .und, .und, .und, .und, .und, .und, .und, .und, .und, .und, .und, .und, .und, .und, .und, .und, .und, .und, .und, .und, .und, .und, .und, .und, .und, .und, .und, .und, .und, .und, .und, .und, .und, .und, .und, .und, .und, .und, .und, .und, .und, .und, .und, .und, .und, .und]
noncomputable def M74_5 (v0 v2 v5 v6 : Int) : R := lim fun φ => L74_5 (φ 0) (φ 1) v0 v2 v5 v6
theorem M74_5_e (v0 v2 v5 v6 : Int) : Cont (fun φ => L74_5 (φ 0) (φ 0) v0 v2 v5 v6) (M74_5 v0 v2 v5 v6) := Cont.re (toZ 1) fun φ => L74_5 (φ 0) (φ 1) v0 v2 v5 v6
noncomputable def L74_1 (n : Nat) (m1 : Nat) (v0 v2 v5 : Int) : R := loopIter (fun E K => evCode C (ev C n) n kp74 (c74 [1, 1, 1, 0, 1, 0, 0]) E K) [0, 2, 3, 4, 5] (Kblk 0 (Kseq C (ev C n) n kp74 (c74 [1, 1, 1, 1]) (Ktop C 74 f74 [.und]))) m1 [.int .i64 v0, .und, .int .i64 v2, .box 160 [.int .i64 65, .int .i64 90, .int .i64 1, .int .i64 32, .int .i64 192, .int .i64 214, .int .i64 1, .int .i64 32, .int .i64 216, .int .i64 222, .int .i64 1, .int .i64 32, .int .i64 256, .int .i64 302, .int .i64 2, .int .i64 1, .int .i64 306, .int .i64 310, .int .i64 2, .int .i64 1, .int .i64 313, .int .i64 327, .int .i64 2, .int .i64 1, .int .i64 330, .int .i64 374, .int .i64 2, .int .i64 1, .int .i64 377, .int .i64 381, .int .i64 2, .int .i64 1, .int .i64 913, .int .i64 929, .int .i64 1, .int .i64 32, .int .i64 931, .int .i64 939, .int .i64 1, .int .i64 32, .int .i64 1024, .int .i64 1039, .int .i64 1, .int .i64 80, .int .i64 1040, .int .i64 1071, .int .i64 1, .int .i64 32, .int .i64 1120, .int .i64 1152, .int .i64 2, .int .i64 1, .int .i64 1329, .int .i64 1366, .int .i64 1, .int .i64 48, .int .i64 7680, .int .i64 7828, .int .i64 2, .int .i64 1, .int .i64 9398, .int .i64 9423, .int .i64 1, .int .i64 26, .int .i64 65313, .int .i64 65338, .int .i64 1, .int .i64 32, .int .i64 66560, .int .i64 66599, .int .i64 1, .int .i64 40], .box 162 [.int .i64 181, .int .i64 956, .int .i64 376, .int .i64 255, .int .i64 383, .int .i64 115, .int .i64 962, .int .i64 963, .int .i64 8490, .int .i64 107, .int .i64 8491, .int .i64 229], .int .i64 v5, .und, .und, .und, .und, .und, .und, .und, .und, .und, .und, .und, .und, .und, .und, .und, .und, .und, .und, .und, .und, .und, .und, .und, .und, .und, .und, .und, .und, .und, .und, .und, .und, .und, .und, .und, .und, .und, .und, .und, .und, .und, .und, .und, .und, .und, .und, .und, .und, .und, .und, .und, .und, .und, .und, .und, .und, .und, .und, .und, .und, .und, .und, .und, .und, .und, .und, .und, .und, .und, .und, .und, .und, .und, .und, .und, .und, .und, .und, .und, .und, .und, .und, .und]
noncomputable def M74_1 (v0 v2 v5 : Int) : R := lim fun φ => L74_1 (φ 0) (φ 1) v0 v2 v5
theorem M74_1_e (v0 v2 v5 : Int) : Cont (fun φ => L74_1 (φ 0) (φ 0) v0 v2 v5) (M74_1 v0 v2 v5) := Cont.re (toZ 1) fun φ => L74_1 (φ 0) (φ 1) v0 v2 v5
theorem M74_4_of (v0 v2 v5 v6 : Int) {r : List Dat} (h : (bif decide (v6 < 18) then (bif decide (0 ≤ v6) then (bif decide (v6 < 18) then (bif decide (v6.toNat < tab542c0f.length) then (bif decide (v0 ≥ (((rd tab542c0f v6.toNat).C 0).I)) then (bif decide (0 ≤ v6) then (bif decide (v6 < 18) then (bif decide (v6.toNat < tab542c0f.length) then (bif decide (v0 ≤ (((rd tab542c0f v6.toNat).C 1).I)) then (bif decide (0 ≤ v6) then (bif decide (v6 < 18) then (bif decide (v6.toNat < tab542c0f.length) then (bif (((rd tab542c0f v6.toNat).C 2).I) == 1 then (bif decide (0 ≤ v6) then (bif decide (v6 < 18) then (bif decide (v6.toNat < tab542c0f.length) then (some [.int (IntKind.i64.wrap (v0 + (((rd tab542c0f v6.toNat).C 3).I)))]) else none) else none) else none) else (bif decide (0 ≤ v6) then (bif decide (v6 < 18) then (bif decide (v6.toNat < tab542c0f.length) then (bif (v0.tmod 2) == ((((rd tab542c0f v6.toNat).C 0).I).tmod 2) then (bif decide (0 ≤ v6) then (bif decide (v6 < 18) then (bif decide (v6.toNat < tab542c0f.length) then (some [.int (IntKind.i64.wrap (v0 + (((rd tab542c0f v6.toNat).C 3).I)))]) else none) else none) else none) else (M74_4 v0 v2 v5 (IntKind.i64.wrap (v6 + 1)))) else none) else none) else none)) else none) else none) else none) else (M74_4 v0 v2 v5 (IntKind.i64.wrap (v6 + 1)))) else none) else none) else none) else (M74_4 v0 v2 v5 (IntKind.i64.wrap (v6 + 1)))) else none) else none) else none) else (some [.int v0]) : R) = some r) : M74_4 v0 v2 v5 v6 = some r := lim_st (g := fun φ => L74_4 (φ 0) (φ 1) v0 v2 v5 v6) 1 h (Cont.bif (Cont.bif (Cont.bif (Cont.bif (Cont.bif (Cont.bif (Cont.bif (Cont.bif (Cont.bif (Cont.bif (Cont.bif (Cont.bif (Cont.bif (Cont.bif (Cont.bif (Cont.bif (Cont.const _) Cont.nn) Cont.nn) Cont.nn) (Cont.bif (Cont.bif (Cont.bif (Cont.bif (Cont.bif (Cont.bif (Cont.bif (Cont.const _) Cont.nn) Cont.nn) Cont.nn) (M74_4_c _ _ _ _)) Cont.nn) Cont.nn) Cont.nn)) Cont.nn) Cont.nn) Cont.nn) (M74_4_c _ _ _ _)) Cont.nn) Cont.nn) Cont.nn) (M74_4_c _ _ _ _)) Cont.nn) Cont.nn) Cont.nn) (Cont.const _)) fun φ m hm => (congrArg (fun q => L74_4 (φ 0) q v0 v2 v5 v6) hm).trans (by kernel_rfl)
theorem M74_3_of (v0 v2 v5 v6 : Int) {r : List Dat} (h : (bif decide (v6 < 18) then (bif decide (0 ≤ v6) then (bif decide (v6 < 18) then (bif decide (v6.toNat < tab542c0f.length) then (bif decide (v0 ≥ (((rd tab542c0f v6.toNat).C 0).I)) then (bif decide (0 ≤ v6) then (bif decide (v6 < 18) then (bif decide (v6.toNat < tab542c0f.length) then (bif decide (v0 ≤ (((rd tab542c0f v6.toNat).C 1).I)) then (bif decide (0 ≤ v6) then (bif decide (v6 < 18) then (bif decide (v6.toNat < tab542c0f.length) then (bif (((rd tab542c0f v6.toNat).C 2).I) == 1 then (bif decide (0 ≤ v6) then (bif decide (v6 < 18) then (bif decide (v6.toNat < tab542c0f.length) then (some [.int (IntKind.i64.wrap (v0 + (((rd tab542c0f v6.toNat).C 3).I)))]) else none) else none) else none) else (bif decide (0 ≤ v6) then (bif decide (v6 < 18) then (bif decide (v6.toNat < tab542c0f.length) then (bif (v0.tmod 2) == ((((rd tab542c0f v6.toNat).C 0).I).tmod 2) then (bif decide (0 ≤ v6) then (bif decide (v6 < 18) then (bif decide (v6.toNat < tab542c0f.length) then (some [.int (IntKind.i64.wrap (v0 + (((rd tab542c0f v6.toNat).C 3).I)))]) else none) else none) else none) else (M74_4 v0 v2 v5 (IntKind.i64.wrap (v6 + 1)))) else none) else none) else none)) else none) else none) else none) else (M74_4 v0 v2 v5 (IntKind.i64.wrap (v6 + 1)))) else none) else none) else none) else (M74_4 v0 v2 v5 (IntKind.i64.wrap (v6 + 1)))) else none) else none) else none) else (some [.int v0]) : R) = some r) : M74_3 v0 v2 v5 v6 = some r := lim_st (g := fun φ => L74_3 (φ 0) (φ 1) v0 v2 v5 v6) 1 h (Cont.bif (Cont.bif (Cont.bif (Cont.bif (Cont.bif (Cont.bif (Cont.bif (Cont.bif (Cont.bif (Cont.bif (Cont.bif (Cont.bif (Cont.bif (Cont.bif (Cont.bif (Cont.bif (Cont.const _) Cont.nn) Cont.nn) Cont.nn) (Cont.bif (Cont.bif (Cont.bif (Cont.bif (Cont.bif (Cont.bif (Cont.bif (Cont.const _) Cont.nn) Cont.nn) Cont.nn) (M74_4_c _ _ _ _)) Cont.nn) Cont.nn) Cont.nn)) Cont.nn) Cont.nn) Cont.nn) (M74_4_c _ _ _ _)) Cont.nn) Cont.nn) Cont.nn) (M74_4_c _ _ _ _)) Cont.nn) Cont.nn) Cont.nn) (Cont.const _)) fun φ m hm => (congrArg (fun q => L74_3 (φ 0) q v0 v2 v5 v6) hm).trans (by kernel_rfl)
theorem M74_2_of (v0 v2 v5 : Int) {r : List Dat} (h : (bif decide (v5 < 6) then (bif decide (0 ≤ v5) then (bif decide (v5 < 6) then (bif decide (v5.toNat < tabdd2fde.length) then (bif (((rd tabdd2fde v5.toNat).C 0).I) == v0 then (bif decide (0 ≤ v5) then (bif decide (v5 < 6) then (bif decide (v5.toNat < tabdd2fde.length) then (some [.int (((rd tabdd2fde v5.toNat).C 1).I)]) else none) else none) else none) else (M74_2 v0 v2 (IntKind.i64.wrap (v5 + 1)))) else none) else none) else none) else (M74_3 v0 v2 v5 0) : R) = some r) : M74_2 v0 v2 v5 = some r := lim_st (g := fun φ => L74_2 (φ 0) (φ 1) v0 v2 v5) 1 h (Cont.bif (Cont.bif (Cont.bif (Cont.bif (Cont.bif (Cont.bif (Cont.bif (Cont.bif (Cont.const _) Cont.nn) Cont.nn) Cont.nn) (M74_2_c _ _ _)) Cont.nn) Cont.nn) Cont.nn) (M74_3_e _ _ _ _)) fun φ m hm => (congrArg (fun q => L74_2 (φ 0) q v0 v2 v5) hm).trans (by kernel_rfl)
theorem M74_1_of (v0 v2 v5 : Int) {r : List Dat} (h : (bif decide (v5 < 6) then (bif decide (0 ≤ v5) then (bif decide (v5 < 6) then (bif decide (v5.toNat < tabdd2fde.length) then (bif (((rd tabdd2fde v5.toNat).C 0).I) == v0 then (bif decide (0 ≤ v5) then (bif decide (v5 < 6) then (bif decide (v5.toNat < tabdd2fde.length) then (some [.int (((rd tabdd2fde v5.toNat).C 1).I)]) else none) else none) else none) else (M74_2 v0 v2 (IntKind.i64.wrap (v5 + 1)))) else none) else none) else none) else (M74_5 v0 v2 v5 0) : R) = some r) : M74_1 v0 v2 v5 = some r := lim_st (g := fun φ => L74_1 (φ 0) (φ 1) v0 v2 v5) 1 h (Cont.bif (Cont.bif (Cont.bif (Cont.bif (Cont.bif (Cont.bif (Cont.bif (Cont.bif (Cont.const _) Cont.nn) Cont.nn) Cont.nn) (M74_2_c _ _ _)) Cont.nn) Cont.nn) Cont.nn) (M74_5_e _ _ _ _)) fun φ m hm => (congrArg (fun q => L74_1 (φ 0) q v0 v2 v5) hm).trans (by kernel_rfl)
theorem o74 (a0 : Int) {r : List Dat} (h : (M74_1 a0 0 0 : R) = some r) : E C 74 [.int .i64 a0] = some r := E_st h (M74_1_e _ _ _) fun φ => by kernel_rfl
/-- clew/fold.Close -/
noncomputable def f231 : Func := Tryz.f231
def kp231 : List Nat := [0, 2, 3, 5, 7, 10, 11, 12, 21, 22, 23]
noncomputable def c231 (p : List Nat) : Code := pick f231 p
noncomputable def L231_2 (n : Nat) (m1 : Nat) (m2 : Nat) (v0 v2 v3 : List Dat) (v5 : Int) (v10 : List Dat) (v11 v12 : Int) (v21 : List Dat) (v22 v23 : Int) : R := loopIter (fun E K => evCode C (ev C n) n kp231 (c231 [1, 1, 0, 1, 0, 0, 1, 1, 0, 0, 1, 1, 1, 0, 0]) E K) [0, 2, 3, 5, 10, 11, 12, 21, 22, 23] (Kblk 2 (Kblk 1 (Kseq C (ev C n) n kp231 (c231 [1, 1, 0, 1, 0, 0, 1, 1, 1]) (Klop (fun E K => evCode C (ev C n) n kp231 (c231 [1, 1, 0, 1, 0, 0]) E K) [0, 2, 3, 10, 11, 12] (Kblk 0 (Kseq C (ev C n) n kp231 (c231 [1, 1, 1]) (Ktop C 231 f231 [.und]))) m1)))) m2 [.shr 82 v0, .und, .own 2 0 82 v2, .own 3 0 82 v3, .und, .int .i64 v5, .und, .und, .und, .und, .shr 3 v10, .int .i64 v11, .int .i64 v12, .und, .und, .und, .und, .und, .und, .und, .und, .own 21 0 3 v21, .int .i64 v22, .int .i64 v23, .und, .und, .und, .und, .und, .und, .und, .und, .und, .und, .und, .und, .und]
noncomputable def M231_2 (v0 v2 v3 : List Dat) (v5 : Int) (v10 : List Dat) (v11 v12 : Int) (v21 : List Dat) (v22 v23 : Int) : R := lim fun φ => L231_2 (φ 0) (φ 1) (φ 2) v0 v2 v3 v5 v10 v11 v12 v21 v22 v23
theorem M231_2_c (v0 v2 v3 : List Dat) (v5 : Int) (v10 : List Dat) (v11 v12 : Int) (v21 : List Dat) (v22 v23 : Int) : Cont (fun φ => L231_2 (φ 0) (φ 1) (φ 2) v0 v2 v3 v5 v10 v11 v12 v21 v22 v23) (M231_2 v0 v2 v3 v5 v10 v11 v12 v21 v22 v23) := Cont.re id _
theorem M231_2_e (v0 v2 v3 : List Dat) (v5 : Int) (v10 : List Dat) (v11 v12 : Int) (v21 : List Dat) (v22 v23 : Int) : Cont (fun φ => L231_2 (φ 0) (φ 1) (φ 0) v0 v2 v3 v5 v10 v11 v12 v21 v22 v23) (M231_2 v0 v2 v3 v5 v10 v11 v12 v21 v22 v23) := Cont.re (toZ 2) fun φ => L231_2 (φ 0) (φ 1) (φ 2) v0 v2 v3 v5 v10 v11 v12 v21 v22 v23
noncomputable def L231_1 (n : Nat) (m1 : Nat) (v0 v2 v3 v10 : List Dat) (v11 v12 : Int) : R := loopIter (fun E K => evCode C (ev C n) n kp231 (c231 [1, 1, 0, 1, 0, 0]) E K) [0, 2, 3, 10, 11, 12] (Kblk 0 (Kseq C (ev C n) n kp231 (c231 [1, 1, 1]) (Ktop C 231 f231 [.und]))) m1 [.shr 82 v0, .und, .own 2 0 82 v2, .own 3 0 82 v3, .und, .und, .und, .und, .und, .und, .shr 3 v10, .int .i64 v11, .int .i64 v12, .und, .und, .und, .und, .und, .und, .und, .und, .und, .und, .und, .und, .und, .und, .und, .und, .und, .und, .und, .und, .und, .und, .und, .und]
noncomputable def M231_1 (v0 v2 v3 v10 : List Dat) (v11 v12 : Int) : R := lim fun φ => L231_1 (φ 0) (φ 1) v0 v2 v3 v10 v11 v12
theorem M231_1_c (v0 v2 v3 v10 : List Dat) (v11 v12 : Int) : Cont (fun φ => L231_1 (φ 0) (φ 1) v0 v2 v3 v10 v11 v12) (M231_1 v0 v2 v3 v10 v11 v12) := Cont.re id _
theorem M231_1_e (v0 v2 v3 v10 : List Dat) (v11 v12 : Int) : Cont (fun φ => L231_1 (φ 0) (φ 0) v0 v2 v3 v10 v11 v12) (M231_1 v0 v2 v3 v10 v11 v12) := Cont.re (toZ 1) fun φ => L231_1 (φ 0) (φ 1) v0 v2 v3 v10 v11 v12
theorem M231_2_of (v0 v2 v3 : List Dat) (v5 : Int) (v10 : List Dat) (v11 v12 : Int) (v21 : List Dat) (v22 v23 : Int) {r : List Dat} (h : (bif decide (v23 < v22) then (bif decide (0 ≤ v23) then (bif decide (v23 < (v21.length : Int)) then (bif decide (v23.toNat < v21.length) then (bif decide (v3.length + ([.agg [.int ((rd v21 v23.toNat).I), .int ((rd v21 v23.toNat).I)]] : List Dat).length ≤ capB 16) then (M231_2 v0 v2 (v3 ++ ([.agg [.int ((rd v21 v23.toNat).I), .int ((rd v21 v23.toNat).I)]] : List Dat)) v5 v10 v11 v12 v21 v22 (IntKind.i64.wrap (v23 + 1))) else none) else none) else none) else none) else (M231_1 v0 v2 v3 v10 v11 (IntKind.i64.wrap (v12 + 1))) : R) = some r) : M231_2 v0 v2 v3 v5 v10 v11 v12 v21 v22 v23 = some r := lim_st (g := fun φ => L231_2 (φ 0) (φ 1) (φ 2) v0 v2 v3 v5 v10 v11 v12 v21 v22 v23) 2 h (Cont.bif (Cont.bif (Cont.bif (Cont.bif (Cont.bif (M231_2_c _ _ _ _ _ _ _ _ _ _) Cont.nn) Cont.nn) Cont.nn) Cont.nn) (M231_1_c _ _ _ _ _ _)) fun φ m hm => (congrArg (fun q => L231_2 (φ 0) (φ 1) q v0 v2 v3 v5 v10 v11 v12 v21 v22 v23) hm).trans (by kernel_rfl)
theorem M231_1_of (v0 v2 v3 v10 : List Dat) (v11 v12 : Int) {r : List Dat} (h : (bif decide (v12 < v11) then (bif decide (0 ≤ v12) then (bif decide (v12 < (v10.length : Int)) then (bif decide (v12.toNat < v10.length) then ((E C 32 [.shr 82 v0, .int .i64 ((rd v10 v12.toNat).I)]).bind fun d3 => (bif !((rd d3 0).B) then (M231_1 v0 v2 v3 v10 v11 (IntKind.i64.wrap (v12 + 1))) else ((E C 252 [.int .i64 ((rd v10 v12.toNat).I)]).bind fun d4 => (M231_2 v0 v2 v3 ((rd v10 v12.toNat).I) v10 v11 v12 ((rd d4 0).L) (((rd d4 0).L).length : Int) 0)))) else none) else none) else none) else ((E C 77 [.shr 82 v3]).bind fun d5 => (some [.list ((rd d5 0).L)])) : R) = some r) : M231_1 v0 v2 v3 v10 v11 v12 = some r := lim_st (g := fun φ => L231_1 (φ 0) (φ 1) v0 v2 v3 v10 v11 v12) 1 h (Cont.bif (Cont.bif (Cont.bif (Cont.bif (Cont.bind (Cont.call C 32 _) fun _ => (Cont.bif (M231_1_c _ _ _ _ _ _) (Cont.bind (Cont.call C 252 _) fun _ => (M231_2_e _ _ _ _ _ _ _ _ _ _)))) Cont.nn) Cont.nn) Cont.nn) (Cont.bind (Cont.call C 77 _) fun _ => (Cont.const _))) fun φ m hm => (congrArg (fun q => L231_1 (φ 0) q v0 v2 v3 v10 v11 v12) hm).trans (by kernel_rfl)
theorem o231 (a0 : List Dat) {r : List Dat} (h : ((E C 250 [.shr 82 a0]).bind fun d1 => ((E C 251 []).bind fun d2 => (M231_1 a0 ([] : List Dat) ((rd d1 0).L) ((rd d2 0).L) (((rd d2 0).L).length : Int) 0)) : R) = some r) : E C 231 [.shr 82 a0] = some r := E_st h (Cont.bind (Cont.call C 250 _) fun _ => (Cont.bind (Cont.call C 251 _) fun _ => (M231_1_e _ _ _ _ _ _))) fun φ => by kernel_rfl
/-- clew/fold.cased -/
noncomputable def f251 : Func := Tryz.f251
def kp251 : List Nat := [0, 1, 3, 4, 6, 7, 8, 9, 32, 33, 34]
noncomputable def c251 (p : List Nat) : Code := pick f251 p
noncomputable def L251_2 (n : Nat) (m1 : Nat) (m2 : Nat) (v0 v1 : List Dat) (v3_0 v3_1 v3_2 v3_3 v4 : Int) (v7 : List Dat) (v8 v9 : Int) : R := loopIter (fun E K => evCode C (ev C n) n kp251 (c251 [1, 1, 0, 1, 0, 0, 1, 1, 0, 0, 1, 1, 0, 0]) E K) [0, 1, 3, 4, 7, 8, 9] (Kblk 2 (Kblk 1 (Kseq C (ev C n) n kp251 (c251 [1, 1, 0, 1, 0, 0, 1, 1, 1]) (Klop (fun E K => evCode C (ev C n) n kp251 (c251 [1, 1, 0, 1, 0, 0]) E K) [0, 1, 7, 8, 9] (Kblk 0 (Kseq C (ev C n) n kp251 (c251 [1, 1, 1]) (Ktop C 251 f251 []))) m1)))) m2 [.own 0 0 3 v0, .own 1 0 3 v1, .und, .box 311 [.int .i64 v3_0, .int .i64 v3_1, .int .i64 v3_2, .int .i64 v3_3], .int .i64 v4, .und, .und, .shr 311 v7, .int .i64 v8, .int .i64 v9, .und, .und, .und, .und, .und, .und, .und, .und, .und, .und, .und, .und, .und, .und, .und, .und, .und, .und, .und, .und, .und, .und, .und, .und, .und, .und, .und, .und, .und, .und, .und, .und, .und, .und, .und, .und, .und]
noncomputable def M251_2 (v0 v1 : List Dat) (v3_0 v3_1 v3_2 v3_3 v4 : Int) (v7 : List Dat) (v8 v9 : Int) : R := lim fun φ => L251_2 (φ 0) (φ 1) (φ 2) v0 v1 v3_0 v3_1 v3_2 v3_3 v4 v7 v8 v9
theorem M251_2_c (v0 v1 : List Dat) (v3_0 v3_1 v3_2 v3_3 v4 : Int) (v7 : List Dat) (v8 v9 : Int) : Cont (fun φ => L251_2 (φ 0) (φ 1) (φ 2) v0 v1 v3_0 v3_1 v3_2 v3_3 v4 v7 v8 v9) (M251_2 v0 v1 v3_0 v3_1 v3_2 v3_3 v4 v7 v8 v9) := Cont.re id _
theorem M251_2_e (v0 v1 : List Dat) (v3_0 v3_1 v3_2 v3_3 v4 : Int) (v7 : List Dat) (v8 v9 : Int) : Cont (fun φ => L251_2 (φ 0) (φ 1) (φ 0) v0 v1 v3_0 v3_1 v3_2 v3_3 v4 v7 v8 v9) (M251_2 v0 v1 v3_0 v3_1 v3_2 v3_3 v4 v7 v8 v9) := Cont.re (toZ 2) fun φ => L251_2 (φ 0) (φ 1) (φ 2) v0 v1 v3_0 v3_1 v3_2 v3_3 v4 v7 v8 v9
noncomputable def L251_3 (n : Nat) (m1 : Nat) (v0 v1 v7 : List Dat) (v8 v9 : Int) (v32 : List Dat) (v33 v34 : Int) : R := loopIter (fun E K => evCode C (ev C n) n kp251 (c251 [1, 1, 1, 0, 1, 0, 0]) E K) [0, 1, 7, 8, 9, 32, 33, 34] (Kblk 4 (Kseq C (ev C n) n kp251 (c251 [1, 1, 1, 1]) (Ktop C 251 f251 []))) m1 [.own 0 0 3 v0, .own 1 0 3 v1, .und, .und, .und, .und, .und, .shr 311 v7, .int .i64 v8, .int .i64 v9, .und, .und, .und, .und, .und, .und, .und, .und, .und, .und, .und, .und, .und, .und, .und, .und, .und, .und, .und, .und, .und, .und, .shr 315 v32, .int .i64 v33, .int .i64 v34, .und, .und, .und, .und, .und, .und, .und, .und, .und, .und, .und, .und]
noncomputable def M251_3 (v0 v1 v7 : List Dat) (v8 v9 : Int) (v32 : List Dat) (v33 v34 : Int) : R := lim fun φ => L251_3 (φ 0) (φ 1) v0 v1 v7 v8 v9 v32 v33 v34
theorem M251_3_c (v0 v1 v7 : List Dat) (v8 v9 : Int) (v32 : List Dat) (v33 v34 : Int) : Cont (fun φ => L251_3 (φ 0) (φ 1) v0 v1 v7 v8 v9 v32 v33 v34) (M251_3 v0 v1 v7 v8 v9 v32 v33 v34) := Cont.re id _
theorem M251_3_e (v0 v1 v7 : List Dat) (v8 v9 : Int) (v32 : List Dat) (v33 v34 : Int) : Cont (fun φ => L251_3 (φ 0) (φ 0) v0 v1 v7 v8 v9 v32 v33 v34) (M251_3 v0 v1 v7 v8 v9 v32 v33 v34) := Cont.re (toZ 1) fun φ => L251_3 (φ 0) (φ 1) v0 v1 v7 v8 v9 v32 v33 v34
noncomputable def L251_1 (n : Nat) (m1 : Nat) (v0 v1 v7 : List Dat) (v8 v9 : Int) : R := loopIter (fun E K => evCode C (ev C n) n kp251 (c251 [1, 1, 0, 1, 0, 0]) E K) [0, 1, 7, 8, 9] (Kblk 0 (Kseq C (ev C n) n kp251 (c251 [1, 1, 1]) (Ktop C 251 f251 []))) m1 [.own 0 0 3 v0, .own 1 0 3 v1, .und, .und, .und, .und, .und, .shr 311 v7, .int .i64 v8, .int .i64 v9, .und, .und, .und, .und, .und, .und, .und, .und, .und, .und, .und, .und, .und, .und, .und, .und, .und, .und, .und, .und, .und, .und, .und, .und, .und, .und, .und, .und, .und, .und, .und, .und, .und, .und, .und, .und, .und]
noncomputable def M251_1 (v0 v1 v7 : List Dat) (v8 v9 : Int) : R := lim fun φ => L251_1 (φ 0) (φ 1) v0 v1 v7 v8 v9
theorem M251_1_c (v0 v1 v7 : List Dat) (v8 v9 : Int) : Cont (fun φ => L251_1 (φ 0) (φ 1) v0 v1 v7 v8 v9) (M251_1 v0 v1 v7 v8 v9) := Cont.re id _
theorem M251_1_e (v0 v1 v7 : List Dat) (v8 v9 : Int) : Cont (fun φ => L251_1 (φ 0) (φ 0) v0 v1 v7 v8 v9) (M251_1 v0 v1 v7 v8 v9) := Cont.re (toZ 1) fun φ => L251_1 (φ 0) (φ 1) v0 v1 v7 v8 v9
theorem M251_2_of (v0 v1 : List Dat) (v3_0 v3_1 v3_2 v3_3 v4 : Int) (v7 : List Dat) (v8 v9 : Int) {r : List Dat} (h : (bif decide (v4 ≤ v3_1) then (bif decide (v1.length + ([.int v4, .int (IntKind.i64.wrap (v4 + v3_3))] : List Dat).length ≤ capB 8) then (M251_2 v0 (v1 ++ ([.int v4, .int (IntKind.i64.wrap (v4 + v3_3))] : List Dat)) v3_0 v3_1 v3_2 v3_3 (IntKind.i64.wrap (v4 + v3_2)) v7 v8 v9) else none) else (M251_1 v0 v1 v7 v8 (IntKind.i64.wrap (v9 + 1))) : R) = some r) : M251_2 v0 v1 v3_0 v3_1 v3_2 v3_3 v4 v7 v8 v9 = some r := lim_st (g := fun φ => L251_2 (φ 0) (φ 1) (φ 2) v0 v1 v3_0 v3_1 v3_2 v3_3 v4 v7 v8 v9) 2 h (Cont.bif (Cont.bif (M251_2_c _ _ _ _ _ _ _ _ _ _) Cont.nn) (M251_1_c _ _ _ _ _)) fun φ m hm => (congrArg (fun q => L251_2 (φ 0) (φ 1) q v0 v1 v3_0 v3_1 v3_2 v3_3 v4 v7 v8 v9) hm).trans (by kernel_rfl)
theorem M251_3_of (v0 v1 v7 : List Dat) (v8 v9 : Int) (v32 : List Dat) (v33 v34 : Int) {r : List Dat} (h : (bif decide (v34 < v33) then (bif decide (0 ≤ v34) then (bif decide (v34 < (v32.length : Int)) then (bif decide (v34.toNat < v32.length) then (bif decide (v1.length + ([.int (((rd v32 v34.toNat).C 0).I), .int (((rd v32 v34.toNat).C 1).I)] : List Dat).length ≤ capB 8) then (M251_3 v0 (v1 ++ ([.int (((rd v32 v34.toNat).C 0).I), .int (((rd v32 v34.toNat).C 1).I)] : List Dat)) v7 v8 v9 v32 v33 (IntKind.i64.wrap (v34 + 1))) else none) else none) else none) else none) else (some [.list v1]) : R) = some r) : M251_3 v0 v1 v7 v8 v9 v32 v33 v34 = some r := lim_st (g := fun φ => L251_3 (φ 0) (φ 1) v0 v1 v7 v8 v9 v32 v33 v34) 1 h (Cont.bif (Cont.bif (Cont.bif (Cont.bif (Cont.bif (M251_3_c _ _ _ _ _ _ _ _) Cont.nn) Cont.nn) Cont.nn) Cont.nn) (Cont.const _)) fun φ m hm => (congrArg (fun q => L251_3 (φ 0) q v0 v1 v7 v8 v9 v32 v33 v34) hm).trans (by kernel_rfl)
theorem M251_1_of (v0 v1 v7 : List Dat) (v8 v9 : Int) {r : List Dat} (h : (bif decide (v9 < v8) then (bif decide (0 ≤ v9) then (bif decide (v9 < (v7.length : Int)) then (bif decide (v9.toNat < v7.length) then (M251_2 v0 v1 (((rd v7 v9.toNat).C 0).I) (((rd v7 v9.toNat).C 1).I) (((rd v7 v9.toNat).C 2).I) (((rd v7 v9.toNat).C 3).I) (((rd v7 v9.toNat).C 0).I) v7 v8 v9) else none) else none) else none) else ((E C 270 []).bind fun d2 => (M251_3 v0 v1 v7 v8 v9 ((rd d2 0).L) (((rd d2 0).L).length : Int) 0)) : R) = some r) : M251_1 v0 v1 v7 v8 v9 = some r := lim_st (g := fun φ => L251_1 (φ 0) (φ 1) v0 v1 v7 v8 v9) 1 h (Cont.bif (Cont.bif (Cont.bif (Cont.bif (M251_2_e _ _ _ _ _ _ _ _ _ _) Cont.nn) Cont.nn) Cont.nn) (Cont.bind (Cont.call C 270 _) fun _ => (M251_3_e _ _ _ _ _ _ _ _))) fun φ m hm => (congrArg (fun q => L251_1 (φ 0) q v0 v1 v7 v8 v9) hm).trans (by kernel_rfl)
theorem o251 {r : List Dat} (h : ((E C 269 []).bind fun d1 => (M251_1 ([] : List Dat) ([] : List Dat) ((rd d1 0).L) (((rd d1 0).L).length : Int) 0) : R) = some r) : E C 251 [] = some r := E_st h (Cont.bind (Cont.call C 269 _) fun _ => (M251_1_e _ _ _ _ _)) fun φ => by kernel_rfl
/-- clew/fold.Orbit -/
noncomputable def f252 : Func := Tryz.f252
def kp252 : List Nat := [0, 2, 3, 4, 6, 8, 19, 20, 21, 39, 40, 41]
noncomputable def c252 (p : List Nat) : Code := pick f252 p
noncomputable def L252_2 (n : Nat) (m1 : Nat) (v0 : Int) (v2 : List Dat) (v3 : Int) (v4 v19 : List Dat) (v20 v21 : Int) (v39 : List Dat) (v40 v41 : Int) : R := loopIter (fun E K => evCode C (ev C n) n kp252 (c252 [1, 1, 1, 1, 1, 0, 1, 0, 0]) E K) [0, 2, 3, 4, 19, 20, 21, 39, 40, 41] (Kblk 2 (Kseq C (ev C n) n kp252 (c252 [1, 1, 1, 1, 1, 1]) (Ktop C 252 f252 [.und]))) m1 [.int .i64 v0, .und, .own 2 0 3 v2, .int .i64 v3, .own 4 0 3 v4, .und, .und, .und, .und, .und, .und, .und, .und, .und, .und, .und, .und, .und, .und, .shr 311 v19, .int .i64 v20, .int .i64 v21, .und, .und, .und, .und, .und, .und, .und, .und, .und, .und, .und, .und, .und, .und, .und, .und, .und, .shr 315 v39, .int .i64 v40, .int .i64 v41, .und, .und, .und, .und, .und, .und, .und, .und, .und, .und, .und, .und, .und, .und, .und, .und]
noncomputable def M252_2 (v0 : Int) (v2 : List Dat) (v3 : Int) (v4 v19 : List Dat) (v20 v21 : Int) (v39 : List Dat) (v40 v41 : Int) : R := lim fun φ => L252_2 (φ 0) (φ 1) v0 v2 v3 v4 v19 v20 v21 v39 v40 v41
theorem M252_2_c (v0 : Int) (v2 : List Dat) (v3 : Int) (v4 v19 : List Dat) (v20 v21 : Int) (v39 : List Dat) (v40 v41 : Int) : Cont (fun φ => L252_2 (φ 0) (φ 1) v0 v2 v3 v4 v19 v20 v21 v39 v40 v41) (M252_2 v0 v2 v3 v4 v19 v20 v21 v39 v40 v41) := Cont.re id _
theorem M252_2_e (v0 : Int) (v2 : List Dat) (v3 : Int) (v4 v19 : List Dat) (v20 v21 : Int) (v39 : List Dat) (v40 v41 : Int) : Cont (fun φ => L252_2 (φ 0) (φ 0) v0 v2 v3 v4 v19 v20 v21 v39 v40 v41) (M252_2 v0 v2 v3 v4 v19 v20 v21 v39 v40 v41) := Cont.re (toZ 1) fun φ => L252_2 (φ 0) (φ 1) v0 v2 v3 v4 v19 v20 v21 v39 v40 v41
noncomputable def L252_1 (n : Nat) (m1 : Nat) (v0 : Int) (v2 : List Dat) (v3 : Int) (v4 v19 : List Dat) (v20 v21 : Int) : R := loopIter (fun E K => evCode C (ev C n) n kp252 (c252 [1, 1, 1, 1, 0, 1, 0, 0]) E K) [0, 2, 3, 4, 19, 20, 21] (Kblk 0 (Kseq C (ev C n) n kp252 (c252 [1, 1, 1, 1, 1]) (Ktop C 252 f252 [.und]))) m1 [.int .i64 v0, .und, .own 2 0 3 v2, .int .i64 v3, .own 4 0 3 v4, .und, .und, .und, .und, .und, .und, .und, .und, .und, .und, .und, .und, .und, .und, .shr 311 v19, .int .i64 v20, .int .i64 v21, .und, .und, .und, .und, .und, .und, .und, .und, .und, .und, .und, .und, .und, .und, .und, .und, .und, .und, .und, .und, .und, .und, .und, .und, .und, .und, .und, .und, .und, .und, .und, .und, .und, .und, .und, .und]
noncomputable def M252_1 (v0 : Int) (v2 : List Dat) (v3 : Int) (v4 v19 : List Dat) (v20 v21 : Int) : R := lim fun φ => L252_1 (φ 0) (φ 1) v0 v2 v3 v4 v19 v20 v21
theorem M252_1_c (v0 : Int) (v2 : List Dat) (v3 : Int) (v4 v19 : List Dat) (v20 v21 : Int) : Cont (fun φ => L252_1 (φ 0) (φ 1) v0 v2 v3 v4 v19 v20 v21) (M252_1 v0 v2 v3 v4 v19 v20 v21) := Cont.re id _
theorem M252_1_e (v0 : Int) (v2 : List Dat) (v3 : Int) (v4 v19 : List Dat) (v20 v21 : Int) : Cont (fun φ => L252_1 (φ 0) (φ 0) v0 v2 v3 v4 v19 v20 v21) (M252_1 v0 v2 v3 v4 v19 v20 v21) := Cont.re (toZ 1) fun φ => L252_1 (φ 0) (φ 1) v0 v2 v3 v4 v19 v20 v21
theorem M252_2_of (v0 : Int) (v2 : List Dat) (v3 : Int) (v4 v19 : List Dat) (v20 v21 : Int) (v39 : List Dat) (v40 v41 : Int) {r : List Dat} (h : (bif decide (v41 < v40) then (bif decide (0 ≤ v41) then (bif decide (v41 < (v39.length : Int)) then (bif decide (v41.toNat < v39.length) then (bif (((rd v39 v41.toNat).C 1).I) == v3 then (bif decide (v4.length + ([.int (((rd v39 v41.toNat).C 0).I)] : List Dat).length ≤ capB 8) then (M252_2 v0 v2 v3 (v4 ++ ([.int (((rd v39 v41.toNat).C 0).I)] : List Dat)) v19 v20 v21 v39 v40 (IntKind.i64.wrap (v41 + 1))) else none) else (M252_2 v0 v2 v3 v4 v19 v20 v21 v39 v40 (IntKind.i64.wrap (v41 + 1)))) else none) else none) else none) else ((E C 273 [.shr 3 v4]).bind fun d5 => (some [.list ((rd d5 0).L)])) : R) = some r) : M252_2 v0 v2 v3 v4 v19 v20 v21 v39 v40 v41 = some r := lim_st (g := fun φ => L252_2 (φ 0) (φ 1) v0 v2 v3 v4 v19 v20 v21 v39 v40 v41) 1 h (Cont.bif (Cont.bif (Cont.bif (Cont.bif (Cont.bif (Cont.bif (M252_2_c _ _ _ _ _ _ _ _ _ _) Cont.nn) (M252_2_c _ _ _ _ _ _ _ _ _ _)) Cont.nn) Cont.nn) Cont.nn) (Cont.bind (Cont.call C 273 _) fun _ => (Cont.const _))) fun φ m hm => (congrArg (fun q => L252_2 (φ 0) q v0 v2 v3 v4 v19 v20 v21 v39 v40 v41) hm).trans (by kernel_rfl)
theorem M252_1_of (v0 : Int) (v2 : List Dat) (v3 : Int) (v4 v19 : List Dat) (v20 v21 : Int) {r : List Dat} (h : (bif decide (v21 < v20) then (bif decide (0 ≤ v21) then (bif decide (v21 < (v19.length : Int)) then (bif decide (v21.toNat < v19.length) then ((E C 272 [.agg [.int .i64 (((rd v19 v21.toNat).C 0).I), .int .i64 (((rd v19 v21.toNat).C 1).I), .int .i64 (((rd v19 v21.toNat).C 2).I), .int .i64 (((rd v19 v21.toNat).C 3).I)], .int .i64 (IntKind.i64.wrap (v3 - (((rd v19 v21.toNat).C 3).I)))]).bind fun d3 => (bif (rd d3 0).B then (bif decide (v4.length + ([.int (IntKind.i64.wrap (v3 - (((rd v19 v21.toNat).C 3).I)))] : List Dat).length ≤ capB 8) then (M252_1 v0 v2 v3 (v4 ++ ([.int (IntKind.i64.wrap (v3 - (((rd v19 v21.toNat).C 3).I)))] : List Dat)) v19 v20 (IntKind.i64.wrap (v21 + 1))) else none) else (M252_1 v0 v2 v3 v4 v19 v20 (IntKind.i64.wrap (v21 + 1))))) else none) else none) else none) else ((E C 270 []).bind fun d4 => (M252_2 v0 v2 v3 v4 v19 v20 v21 ((rd d4 0).L) (((rd d4 0).L).length : Int) 0)) : R) = some r) : M252_1 v0 v2 v3 v4 v19 v20 v21 = some r := lim_st (g := fun φ => L252_1 (φ 0) (φ 1) v0 v2 v3 v4 v19 v20 v21) 1 h (Cont.bif (Cont.bif (Cont.bif (Cont.bif (Cont.bind (Cont.call C 272 _) fun _ => (Cont.bif (Cont.bif (M252_1_c _ _ _ _ _ _ _) Cont.nn) (M252_1_c _ _ _ _ _ _ _))) Cont.nn) Cont.nn) Cont.nn) (Cont.bind (Cont.call C 270 _) fun _ => (M252_2_e _ _ _ _ _ _ _ _ _ _))) fun φ m hm => (congrArg (fun q => L252_1 (φ 0) q v0 v2 v3 v4 v19 v20 v21) hm).trans (by kernel_rfl)
theorem o252 (a0 : Int) {r : List Dat} (h : (bif decide (a0 < 0) then (some [.list ([] : List Dat)]) else (bif decide (a0 > 1114367) then (some [.list ([] : List Dat)]) else ((E C 271 [.int .i64 a0]).bind fun d1 => ((E C 269 []).bind fun d2 => (M252_1 a0 ([] : List Dat) ((rd d1 0).I) ([.int ((rd d1 0).I)] : List Dat) ((rd d2 0).L) (((rd d2 0).L).length : Int) 0)))) : R) = some r) : E C 252 [.int .i64 a0] = some r := E_st h (Cont.bif (Cont.const _) (Cont.bif (Cont.const _) (Cont.bind (Cont.call C 271 _) fun _ => (Cont.bind (Cont.call C 269 _) fun _ => (M252_1_e _ _ _ _ _ _ _))))) fun φ => by kernel_rfl
theorem o269 {r : List Dat} (h : (some [.list ([.agg [.int 65, .int 90, .int 1, .int 32], .agg [.int 192, .int 214, .int 1, .int 32], .agg [.int 216, .int 222, .int 1, .int 32], .agg [.int 256, .int 302, .int 2, .int 1], .agg [.int 306, .int 310, .int 2, .int 1], .agg [.int 313, .int 327, .int 2, .int 1], .agg [.int 330, .int 374, .int 2, .int 1], .agg [.int 377, .int 381, .int 2, .int 1], .agg [.int 913, .int 929, .int 1, .int 32], .agg [.int 931, .int 939, .int 1, .int 32], .agg [.int 1024, .int 1039, .int 1, .int 80], .agg [.int 1040, .int 1071, .int 1, .int 32], .agg [.int 1120, .int 1152, .int 2, .int 1], .agg [.int 1329, .int 1366, .int 1, .int 48], .agg [.int 7680, .int 7828, .int 2, .int 1], .agg [.int 9398, .int 9423, .int 1, .int 26], .agg [.int 65313, .int 65338, .int 1, .int 32], .agg [.int 66560, .int 66599, .int 1, .int 40]] : List Dat)] : R) = some r) : E C 269 [] = some r := E_st h (Cont.const _) fun φ => by kernel_rfl
theorem o270 {r : List Dat} (h : (some [.list ([.agg [.int 181, .int 956], .agg [.int 376, .int 255], .agg [.int 383, .int 115], .agg [.int 962, .int 963], .agg [.int 8490, .int 107], .agg [.int 8491, .int 229]] : List Dat)] : R) = some r) : E C 270 [] = some r := E_st h (Cont.const _) fun φ => by kernel_rfl
/-- clew/fold.base -/
noncomputable def f271 : Func := Tryz.f271
def kp271 : List Nat := [0, 2, 4, 6, 7, 8, 9, 20, 21, 22]
noncomputable def c271 (p : List Nat) : Code := pick f271 p
noncomputable def L271_2 (n : Nat) (m1 : Nat) (v0 v2 : Int) (v7 : List Dat) (v8 v9 : Int) (v20 : List Dat) (v21 v22 : Int) : R := loopIter (fun E K => evCode C (ev C n) n kp271 (c271 [1, 1, 0, 1, 0, 0]) E K) [0, 2, 7, 8, 9, 20, 21, 22] (Kblk 2 (Kseq C (ev C n) n kp271 (c271 [1, 1, 1]) (Ktop C 271 f271 [.und]))) m1 [.int .i64 v0, .und, .int .i64 v2, .und, .und, .und, .und, .shr 315 v7, .int .i64 v8, .int .i64 v9, .und, .und, .und, .und, .und, .und, .und, .und, .und, .und, .shr 311 v20, .int .i64 v21, .int .i64 v22, .und, .und, .und, .und, .und, .und, .und, .und, .und, .und, .und, .und]
noncomputable def M271_2 (v0 v2 : Int) (v7 : List Dat) (v8 v9 : Int) (v20 : List Dat) (v21 v22 : Int) : R := lim fun φ => L271_2 (φ 0) (φ 1) v0 v2 v7 v8 v9 v20 v21 v22
theorem M271_2_c (v0 v2 : Int) (v7 : List Dat) (v8 v9 : Int) (v20 : List Dat) (v21 v22 : Int) : Cont (fun φ => L271_2 (φ 0) (φ 1) v0 v2 v7 v8 v9 v20 v21 v22) (M271_2 v0 v2 v7 v8 v9 v20 v21 v22) := Cont.re id _
theorem M271_2_e (v0 v2 : Int) (v7 : List Dat) (v8 v9 : Int) (v20 : List Dat) (v21 v22 : Int) : Cont (fun φ => L271_2 (φ 0) (φ 0) v0 v2 v7 v8 v9 v20 v21 v22) (M271_2 v0 v2 v7 v8 v9 v20 v21 v22) := Cont.re (toZ 1) fun φ => L271_2 (φ 0) (φ 1) v0 v2 v7 v8 v9 v20 v21 v22
noncomputable def L271_1 (n : Nat) (m1 : Nat) (v0 v2 : Int) (v7 : List Dat) (v8 v9 : Int) : R := loopIter (fun E K => evCode C (ev C n) n kp271 (c271 [1, 0, 1, 0, 0]) E K) [0, 2, 7, 8, 9] (Kblk 0 (Kseq C (ev C n) n kp271 (c271 [1, 1]) (Ktop C 271 f271 [.und]))) m1 [.int .i64 v0, .und, .int .i64 v2, .und, .und, .und, .und, .shr 315 v7, .int .i64 v8, .int .i64 v9, .und, .und, .und, .und, .und, .und, .und, .und, .und, .und, .und, .und, .und, .und, .und, .und, .und, .und, .und, .und, .und, .und, .und, .und, .und]
noncomputable def M271_1 (v0 v2 : Int) (v7 : List Dat) (v8 v9 : Int) : R := lim fun φ => L271_1 (φ 0) (φ 1) v0 v2 v7 v8 v9
theorem M271_1_c (v0 v2 : Int) (v7 : List Dat) (v8 v9 : Int) : Cont (fun φ => L271_1 (φ 0) (φ 1) v0 v2 v7 v8 v9) (M271_1 v0 v2 v7 v8 v9) := Cont.re id _
theorem M271_1_e (v0 v2 : Int) (v7 : List Dat) (v8 v9 : Int) : Cont (fun φ => L271_1 (φ 0) (φ 0) v0 v2 v7 v8 v9) (M271_1 v0 v2 v7 v8 v9) := Cont.re (toZ 1) fun φ => L271_1 (φ 0) (φ 1) v0 v2 v7 v8 v9
theorem M271_2_of (v0 v2 : Int) (v7 : List Dat) (v8 v9 : Int) (v20 : List Dat) (v21 v22 : Int) {r : List Dat} (h : (bif decide (v22 < v21) then (bif decide (0 ≤ v22) then (bif decide (v22 < (v20.length : Int)) then (bif decide (v22.toNat < v20.length) then ((E C 272 [.agg [.int .i64 (((rd v20 v22.toNat).C 0).I), .int .i64 (((rd v20 v22.toNat).C 1).I), .int .i64 (((rd v20 v22.toNat).C 2).I), .int .i64 (((rd v20 v22.toNat).C 3).I)], .int .i64 v0]).bind fun d3 => (bif (rd d3 0).B then (some [.int (IntKind.i64.wrap (v0 + (((rd v20 v22.toNat).C 3).I)))]) else (M271_2 v0 v2 v7 v8 v9 v20 v21 (IntKind.i64.wrap (v22 + 1))))) else none) else none) else none) else (some [.int v0]) : R) = some r) : M271_2 v0 v2 v7 v8 v9 v20 v21 v22 = some r := lim_st (g := fun φ => L271_2 (φ 0) (φ 1) v0 v2 v7 v8 v9 v20 v21 v22) 1 h (Cont.bif (Cont.bif (Cont.bif (Cont.bif (Cont.bind (Cont.call C 272 _) fun _ => (Cont.bif (Cont.const _) (M271_2_c _ _ _ _ _ _ _ _))) Cont.nn) Cont.nn) Cont.nn) (Cont.const _)) fun φ m hm => (congrArg (fun q => L271_2 (φ 0) q v0 v2 v7 v8 v9 v20 v21 v22) hm).trans (by kernel_rfl)
theorem M271_1_of (v0 v2 : Int) (v7 : List Dat) (v8 v9 : Int) {r : List Dat} (h : (bif decide (v9 < v8) then (bif decide (0 ≤ v9) then (bif decide (v9 < (v7.length : Int)) then (bif decide (v9.toNat < v7.length) then (bif (((rd v7 v9.toNat).C 0).I) == v0 then (some [.int (((rd v7 v9.toNat).C 1).I)]) else (M271_1 v0 v2 v7 v8 (IntKind.i64.wrap (v9 + 1)))) else none) else none) else none) else ((E C 269 []).bind fun d2 => (M271_2 v0 v2 v7 v8 v9 ((rd d2 0).L) (((rd d2 0).L).length : Int) 0)) : R) = some r) : M271_1 v0 v2 v7 v8 v9 = some r := lim_st (g := fun φ => L271_1 (φ 0) (φ 1) v0 v2 v7 v8 v9) 1 h (Cont.bif (Cont.bif (Cont.bif (Cont.bif (Cont.bif (Cont.const _) (M271_1_c _ _ _ _ _)) Cont.nn) Cont.nn) Cont.nn) (Cont.bind (Cont.call C 269 _) fun _ => (M271_2_e _ _ _ _ _ _ _ _))) fun φ m hm => (congrArg (fun q => L271_1 (φ 0) q v0 v2 v7 v8 v9) hm).trans (by kernel_rfl)
theorem o271 (a0 : Int) {r : List Dat} (h : ((E C 270 []).bind fun d1 => (M271_1 a0 0 ((rd d1 0).L) (((rd d1 0).L).length : Int) 0) : R) = some r) : E C 271 [.int .i64 a0] = some r := E_st h (Cont.bind (Cont.call C 270 _) fun _ => (M271_1_e _ _ _ _ _)) fun φ => by kernel_rfl
theorem o272 (a0_0 a0_1 a0_2 a0_3 a1 : Int) {r : List Dat} (h : (bif decide (a1 ≥ a0_0) then (bif decide (a1 ≤ a0_1) then (bif a0_2 != 0 then (some [.bool (((IntKind.i64.wrap (a1 - a0_0)).tmod a0_2) == 0)]) else none) else (some [.bool false])) else (some [.bool false]) : R) = some r) : E C 272 [.agg [.int .i64 a0_0, .int .i64 a0_1, .int .i64 a0_2, .int .i64 a0_3], .int .i64 a1] = some r := E_st h (Cont.bif (Cont.bif (Cont.bif (Cont.const _) Cont.nn) (Cont.const _)) (Cont.const _)) fun φ => by kernel_rfl
end Go.Proofs.YtlofoifcdmeopaaGreatDoor.V
namespace Go.Proofs.YtlofoifcdmeopaaGreatDoor.V
open Go Go.Ev Go.RowKit
set_option linter.unusedVariables false
set_option linter.unusedSimpArgs false
abbrev Row := Int × Int × Int × Int
def rowsL : List Row := [(65, 90, 1, 32), (192, 214, 1, 32), (216, 222, 1, 32), (256, 302, 2, 1), (306, 310, 2, 1), (313, 327, 2, 1), (330, 374, 2, 1), (377, 381, 2, 1), (913, 929, 1, 32), (931, 939, 1, 32), (1024, 1039, 1, 80), (1040, 1071, 1, 32), (1120, 1152, 2, 1), (1329, 1366, 1, 48), (7680, 7828, 2, 1), (9398, 9423, 1, 26), (65313, 65338, 1, 32), (66560, 66599, 1, 40)]
def sinL : List (Int × Int) := [(181, 956), (376, 255), (383, 115), (962, 963), (8490, 107), (8491, 229)]
def rowsD (l : List Row) : List Dat := l.map fun r => .agg [.int r.1, .int r.2.1, .int r.2.2.1, .int r.2.2.2]
theorem tab542c0f_eq : tab542c0f = rowsD rowsL := rfl
theorem tabdd2fde_eq : tabdd2fde = rs sinL := rfl
theorem rowsD_rd (l : List Row) (i : Nat) (h : i < l.length) : rd (rowsD l) i = .agg [.int (l[i]).1, .int (l[i]).2.1, .int (l[i]).2.2.1, .int (l[i]).2.2.2] := by simp [rd, rowsD, h]
def upB (r : Row) (x : Int) : Bool := decide (r.1 ≤ x) && (decide (x ≤ r.2.1) && ((x - r.1) % r.2.2.1 == 0))
structure OkRow (r : Row) : Prop where
  f0 : 0 ≤ r.1
  f1 : r.1 ≤ 100000
  t1 : r.2.1 ≤ 100000
  s : r.2.2.1 = 1 ∨ r.2.2.1 = 2
  b0 : 0 < r.2.2.2
  b1 : r.2.2.2 ≤ 100
theorem rows_ok {r : Row} (h : r ∈ rowsL) : OkRow r := by
  have key : ∀ r, r ∈ rowsL → 0 ≤ r.1 ∧ r.1 ≤ 100000 ∧ r.2.1 ≤ 100000 ∧ (r.2.2.1 = 1 ∨ r.2.2.1 = 2) ∧ 0 < r.2.2.2 ∧ r.2.2.2 ≤ 100 := by decide
  obtain ⟨h1, h2, h3, h4, h5, h6⟩ := key r h
  exact ⟨h1, h2, h3, h4, h5, h6⟩
def findW (l : List Row) (x : Int) : Int := match l.find? (fun r => upB r x) with | some r => x + r.2.2.2 | none => x
def WS (s : List (Int × Int)) (x : Int) : Int := match s.find? (fun p => p.1 == x) with | some p => p.2 | none => findW rowsL x
/-- What a symbol goes with. -/
def W (x : Int) : Int := WS sinL x
theorem findW_cons (r : Row) (l : List Row) (x : Int) : findW (r :: l) x = if upB r x = true then x + r.2.2.2 else findW l x := by
  unfold findW
  rw [List.find?_cons]
  cases upB r x <;> rfl
theorem WS_cons (p : Int × Int) (s : List (Int × Int)) (x : Int) : WS (p :: s) x = if p.1 = x then p.2 else WS s x := by
  unfold WS
  rw [List.find?_cons]
  by_cases h : p.1 = x
  · rw [if_pos h, show (p.1 == x) = true from by simpa using h]
  · rw [if_neg h, beq_false_of_ne h]
theorem upper_E {r : Row} (hr : OkRow r) (x : Int) (hx : -1000000 ≤ x ∧ x ≤ 2000000) : E C 272 [.agg [.int .i64 r.1, .int .i64 r.2.1, .int .i64 r.2.2.1, .int .i64 r.2.2.2], .int .i64 x] = some [.bool (upB r x)] := by
  obtain ⟨g1, g2, g3, g4, g5, g6⟩ := hr
  apply o272
  unfold upB
  by_cases h0 : x ≥ r.1
  · rw [dT h0, decide_eq_true h0]
    by_cases h1 : x ≤ r.2.1
    · rw [dT h1, decide_eq_true h1, cT (by rcases g4 with h | h <;> rw [h] <;> rfl), w64 (by omega) (by omega), Int.tmod_eq_emod_of_nonneg (by omega)]
      rfl
    · rw [dF h1, decide_eq_false h1]; rfl
  · rw [dF h0, decide_eq_false h0]; rfl
theorem base_rows (l : List Row) (hl : ∀ r, r ∈ l → OkRow r) (hlen : l.length ≤ 1000) (x : Int) (hx : 0 ≤ x ∧ x ≤ 2000000) (v2 v8 v9 : Int) (v7 : List Dat) : ∀ (d k : Nat), l.length - k = d → k ≤ l.length →
    M271_2 x v2 v7 v8 v9 (rowsD l) (l.length : Int) (k : Int) = some [.int (findW (l.drop k) x)] := by
  intro d
  have hrl : (rowsD l).length = l.length := by simp [rowsD]
  induction d with
  | zero =>
    intro k hd hk
    apply M271_2_of
    rw [dF (by omega), List.drop_of_length_le (by omega)]
    rfl
  | succ d ih =>
    intro k hd hk
    have hlt : k < l.length := by omega
    have hr := hl _ (List.getElem_mem hlt)
    have hn := ih (k + 1) (by omega) (by omega)
    have hb1 := hr.b1
    have hb0 := hr.b0
    apply M271_2_of
    rw [hrl, dT (by omega), dT (by omega), dT (by omega), dT (by omega), Int.toNat_natCast, rowsD_rd l k hlt]
    refine (bT (upper_E hr x (by omega))).trans ?_
    rw [List.drop_eq_getElem_cons hlt, findW_cons]
    simp only [rd0, datB]
    cases hu : upB l[k] x with
    | true =>
      rw [if_pos rfl]
      show (some [.int (IntKind.i64.wrap (x + (l[k]).2.2.2))] : R) = _
      rw [w64 (by omega) (by omega)]
    | false =>
      rw [if_neg (by simp)]
      show M271_2 _ _ _ _ _ _ _ _ = _
      rw [w64 (by omega) (by omega)]
      exact hn
theorem rowsF_E : E C 269 [] = some [.list (rowsD rowsL)] := by
  apply o269
  rfl
theorem sinsF_E : E C 270 [] = some [.list (rs sinL)] := by
  apply o270
  rfl
theorem base_sin (s : List (Int × Int)) (hlen : s.length ≤ 1000) (x : Int) (hx : 0 ≤ x ∧ x ≤ 2000000) (v2 : Int) : ∀ (d k : Nat), s.length - k = d → k ≤ s.length →
    M271_1 x v2 (rs s) (s.length : Int) (k : Int) = some [.int (WS (s.drop k) x)] := by
  intro d
  have hrl : (rs s).length = s.length := rs_len s
  induction d with
  | zero =>
    intro k hd hk
    apply M271_1_of
    rw [dF (by omega), bT rowsF_E, List.drop_of_length_le (by omega)]
    simp only [rd0, datL]
    exact base_rows rowsL (fun r hr => rows_ok hr) (by decide) x hx _ _ _ _ rowsL.length 0 rfl (by omega)
  | succ d ih =>
    intro k hd hk
    have hlt : k < s.length := by omega
    have hn := ih (k + 1) (by omega) (by omega)
    apply M271_1_of
    rw [hrl, dT (by omega), dT (by omega), dT (by omega), dT (by omega), Int.toNat_natCast, rs_rd s k hlt, List.drop_eq_getElem_cons hlt, WS_cons]
    by_cases h : (s[k]).1 = x
    · rw [if_pos h]
      exact eT h
    · rw [if_neg h]
      refine (eF h).trans ?_
      rw [w64 (by omega) (by omega)]
      exact hn
theorem base_E (x : Int) (hx : 0 ≤ x ∧ x ≤ 2000000) : E C 271 [.int .i64 x] = some [.int (W x)] := by
  apply o271
  rw [bT sinsF_E]
  simp only [rd0, datL]
  exact base_sin sinL (by decide) x hx _ sinL.length 0 rfl (by omega)
/-! The document's. -/
theorem up_par {r : Row} (hr : OkRow r) {x : Int} (h0 : x ≥ r.1) (h1 : x ≤ r.2.1) (h2 : r.2.2.1 ≠ 1) : upB r x = (x.tmod 2 == r.1.tmod 2) := by
  have hs : r.2.2.1 = 2 := by rcases hr.s with h | h <;> first | exact absurd h h2 | exact h
  have hf := hr.f0
  unfold upB
  rw [decide_eq_true h0, decide_eq_true h1, hs, Int.tmod_eq_emod_of_nonneg (by omega), Int.tmod_eq_emod_of_nonneg hf]
  rw [Bool.true_and, Bool.true_and, Bool.eq_iff_iff, beq_iff_eq, beq_iff_eq]
  omega
theorem up_one {r : Row} {x : Int} (h0 : x ≥ r.1) (h1 : x ≤ r.2.1) (h2 : r.2.2.1 = 1) : upB r x = true := by
  unfold upB
  rw [decide_eq_true h0, decide_eq_true h1, h2]
  simp
theorem up_no {r : Row} {x : Int} (h : ¬ (x ≥ r.1 ∧ x ≤ r.2.1)) : upB r x = false := by
  unfold upB
  by_cases h0 : r.1 ≤ x
  · rw [decide_eq_false (show ¬ x ≤ r.2.1 by omega)]; simp
  · rw [decide_eq_false h0]; rfl
theorem rowsL_len : rowsL.length = 18 := rfl
theorem rowsDL_len : (rowsD rowsL).length = 18 := rfl
theorem rsS_len : (rs sinL).length = 6 := rfl
/-- One round over the rows. -/
theorem row_round (x : Int) (hx : 0 ≤ x ∧ x ≤ 2000000) (k : Nat) (hk : k < 18) (nxt : R) (hn : nxt = some [.int (findW (rowsL.drop (k + 1)) x)]) :
    (bif decide ((k : Int) < 18) then (bif decide (0 ≤ (k : Int)) then (bif decide ((k : Int) < 18) then (bif decide ((k : Int).toNat < tab542c0f.length) then (bif decide (x ≥ (((rd tab542c0f (k : Int).toNat).C 0).I)) then (bif decide (0 ≤ (k : Int)) then (bif decide ((k : Int) < 18) then (bif decide ((k : Int).toNat < tab542c0f.length) then (bif decide (x ≤ (((rd tab542c0f (k : Int).toNat).C 1).I)) then (bif decide (0 ≤ (k : Int)) then (bif decide ((k : Int) < 18) then (bif decide ((k : Int).toNat < tab542c0f.length) then (bif (((rd tab542c0f (k : Int).toNat).C 2).I) == 1 then (bif decide (0 ≤ (k : Int)) then (bif decide ((k : Int) < 18) then (bif decide ((k : Int).toNat < tab542c0f.length) then (some [.int (IntKind.i64.wrap (x + (((rd tab542c0f (k : Int).toNat).C 3).I)))]) else none) else none) else none) else (bif decide (0 ≤ (k : Int)) then (bif decide ((k : Int) < 18) then (bif decide ((k : Int).toNat < tab542c0f.length) then (bif (x.tmod 2) == ((((rd tab542c0f (k : Int).toNat).C 0).I).tmod 2) then (bif decide (0 ≤ (k : Int)) then (bif decide ((k : Int) < 18) then (bif decide ((k : Int).toNat < tab542c0f.length) then (some [.int (IntKind.i64.wrap (x + (((rd tab542c0f (k : Int).toNat).C 3).I)))]) else none) else none) else none) else nxt) else none) else none) else none)) else none) else none) else none) else nxt) else none) else none) else none) else nxt) else none) else none) else none) else (some [.int x]) : R) = some [.int (findW (rowsL.drop k) x)] := by
  have hlt : k < rowsL.length := hk
  have hr := rows_ok (List.getElem_mem hlt)
  have hb1 := hr.b1
  have hb0 := hr.b0
  rw [tab542c0f_eq, Int.toNat_natCast, rowsD_rd rowsL k hlt, rowsDL_len, List.drop_eq_getElem_cons hlt, findW_cons, hn]
  generalize rowsL[k] = r at hr hb0 hb1 ⊢
  have c0 : ((Dat.agg [Dat.int r.1, Dat.int r.2.1, Dat.int r.2.2.1, Dat.int r.2.2.2]).C 0).I = r.1 := rfl
  have c1 : ((Dat.agg [Dat.int r.1, Dat.int r.2.1, Dat.int r.2.2.1, Dat.int r.2.2.2]).C 1).I = r.2.1 := rfl
  have c2 : ((Dat.agg [Dat.int r.1, Dat.int r.2.1, Dat.int r.2.2.1, Dat.int r.2.2.2]).C 2).I = r.2.2.1 := rfl
  have c3 : ((Dat.agg [Dat.int r.1, Dat.int r.2.1, Dat.int r.2.2.1, Dat.int r.2.2.2]).C 3).I = r.2.2.2 := rfl
  rw [c0, c1, c2, c3, w64 (n := x + r.2.2.2) (by omega) (by omega)]
  have k0 : (0 : Int) ≤ (k : Int) := by omega
  have k1 : (k : Int) < 18 := by omega
  simp only [decide_eq_true k0, decide_eq_true k1, decide_eq_true hk, cond_true]
  by_cases h0 : x ≥ r.1
  · rw [dT h0]
    by_cases h1 : x ≤ r.2.1
    · rw [dT h1]
      by_cases h2 : r.2.2.1 = 1
      · rw [eT h2, if_pos (up_one h0 h1 h2)]
      · rw [eF h2, up_par hr h0 h1 h2]
        cases hp : (x.tmod 2 == r.1.tmod 2) with
        | true => rw [if_pos rfl]; rfl
        | false => rw [if_neg (by simp)]; rfl
    · rw [dF h1, up_no (fun h => h1 h.2), if_neg (by simp)]
  · rw [dF h0, up_no (fun h => h0 h.1), if_neg (by simp)]
theorem ref_rows (x : Int) (hx : 0 ≤ x ∧ x ≤ 2000000) (v2 v5 : Int) : ∀ (d k : Nat), 18 - k = d → k ≤ 18 → M74_4 x v2 v5 (k : Int) = some [.int (findW (rowsL.drop k) x)] := by
  intro d
  induction d with
  | zero =>
    intro k hd hk
    apply M74_4_of
    rw [dF (by omega), List.drop_of_length_le (by rw [rowsL_len]; omega)]
    rfl
  | succ d ih =>
    intro k hd hk
    apply M74_4_of
    refine row_round x hx k (by omega) _ ?_
    rw [w64 (by omega) (by omega)]
    exact ih (k + 1) (by omega) (by omega)
theorem ref_rows3 (x : Int) (hx : 0 ≤ x ∧ x ≤ 2000000) (v2 v5 : Int) : M74_3 x v2 v5 0 = some [.int (findW rowsL x)] := by
  apply M74_3_of
  exact row_round x hx 0 (by omega) _ (by
    rw [w64 (by omega) (by omega)]
    exact ref_rows x hx v2 v5 17 1 rfl (by omega))
theorem sin_round (x : Int) (k : Nat) (hk : k < 6) (nxt fin : R) (hn : nxt = some [.int (WS (sinL.drop (k + 1)) x)]) :
    (bif decide ((k : Int) < 6) then (bif decide (0 ≤ (k : Int)) then (bif decide ((k : Int) < 6) then (bif decide ((k : Int).toNat < tabdd2fde.length) then (bif (((rd tabdd2fde (k : Int).toNat).C 0).I) == x then (bif decide (0 ≤ (k : Int)) then (bif decide ((k : Int) < 6) then (bif decide ((k : Int).toNat < tabdd2fde.length) then (some [.int (((rd tabdd2fde (k : Int).toNat).C 1).I)]) else none) else none) else none) else nxt) else none) else none) else none) else fin : R) = some [.int (WS (sinL.drop k) x)] := by
  have hlt : k < sinL.length := hk
  rw [tabdd2fde_eq, Int.toNat_natCast, rs_rd sinL k hlt, rsS_len, List.drop_eq_getElem_cons hlt, WS_cons, hn]
  generalize sinL[k] = p
  have c0 : ((Dat.agg [Dat.int p.1, Dat.int p.2]).C 0).I = p.1 := rfl
  have c1 : ((Dat.agg [Dat.int p.1, Dat.int p.2]).C 1).I = p.2 := rfl
  rw [c0, c1]
  have k0 : (0 : Int) ≤ (k : Int) := by omega
  have k1 : (k : Int) < 6 := by omega
  simp only [decide_eq_true k0, decide_eq_true k1, decide_eq_true hk, cond_true]
  by_cases h : p.1 = x
  · rw [eT h, if_pos h]
  · rw [eF h, if_neg h]
theorem ref_sin (x : Int) (hx : 0 ≤ x ∧ x ≤ 2000000) (v2 : Int) : ∀ (d k : Nat), 6 - k = d → k ≤ 6 → M74_2 x v2 (k : Int) = some [.int (WS (sinL.drop k) x)] := by
  intro d
  induction d with
  | zero =>
    intro k hd hk
    apply M74_2_of
    rw [dF (by omega), List.drop_of_length_le (by show sinL.length ≤ k; have : sinL.length = 6 := rfl; omega)]
    exact ref_rows3 x hx _ _
  | succ d ih =>
    intro k hd hk
    apply M74_2_of
    refine sin_round x k (by omega) _ _ ?_
    rw [w64 (by omega) (by omega)]
    exact ih (k + 1) (by omega) (by omega)
theorem with_E (x : Int) (hx : 0 ≤ x ∧ x ≤ 2000000) : E C 74 [.int .i64 x] = some [.int (W x)] := by
  apply o74
  apply M74_1_of
  exact sin_round x 0 (by omega) _ _ (by
    rw [w64 (by omega) (by omega)]
    exact ref_sin x hx 0 5 1 rfl (by omega))
end Go.Proofs.YtlofoifcdmeopaaGreatDoor.V
namespace Go.Proofs.YtlofoifcdmeopaaGreatDoor.V
open Go Go.Ev Go.RowKit
set_option linter.unusedVariables false
set_option linter.unusedSimpArgs false
def ups (l : List Row) (b : Int) : List Int := l.filterMap fun r => if upB r (b - r.2.2.2) = true then some (b - r.2.2.2) else none
def sins (l : List (Int × Int)) (b : Int) : List Int := l.filterMap fun s => if s.2 = b then some s.1 else none
def P (b : Int) : List Int := [b] ++ ups rowsL b ++ sins sinL b
theorem Sort_E (l : List Int) (h : l.length < 1000000) : E C 273 [.shr 3 (l.map .int)] = some [.list ((sortI l).map .int)] := by
  refine E_given (h := gSortI 3) (by kernel_rfl) ?_
  simp only [gSortI, ints_map, List.length_map]
  rw [show decide (l.length < 4611686018427387904) = true from decide_eq_true (by omega)]
  rfl
theorem cap8 : capB 8 = 17592186044416 := by decide
theorem orb_sin (b : Int) (v0 : Int) (v2 v19 : List Dat) (v20 v21 : Int) : ∀ (d k : Nat) (acc : List Int), 6 - k = d → k ≤ 6 → acc.length ≤ 100 + k →
    M252_2 v0 v2 b (acc.map .int) v19 v20 v21 (rs sinL) 6 (k : Int) = some [.list ((sortI (acc ++ sins (sinL.drop k) b)).map .int)] := by
  intro d
  have hc := cap8
  induction d with
  | zero =>
    intro k acc hd hk ha
    apply M252_2_of
    rw [dF (by omega), bT (Sort_E acc (by omega)), List.drop_of_length_le (by show sinL.length ≤ k; have : sinL.length = 6 := rfl; omega)]
    simp [sins]
  | succ d ih =>
    intro k acc hd hk ha
    have hlt : k < sinL.length := by show k < 6; omega
    apply M252_2_of
    rw [rsS_len, dT (by omega), dT (by omega), dT (by omega), dT (by omega), Int.toNat_natCast, rs_rd sinL k hlt, List.drop_eq_getElem_cons hlt]
    have c1 : ((Dat.agg [Dat.int (sinL[k]).1, Dat.int (sinL[k]).2]).C 1).I = (sinL[k]).2 := rfl
    have c0 : ((Dat.agg [Dat.int (sinL[k]).1, Dat.int (sinL[k]).2]).C 0).I = (sinL[k]).1 := rfl
    rw [c1, c0, w64 (by omega) (by omega)]
    have e : sins (sinL[k] :: sinL.drop (k + 1)) b = (if (sinL[k]).2 = b then [(sinL[k]).1] else []) ++ sins (sinL.drop (k + 1)) b := by
      unfold sins
      rw [List.filterMap_cons]
      by_cases h : (sinL[k]).2 = b
      · simp [h]
      · simp [h]
    rw [e]
    by_cases h : (sinL[k]).2 = b
    · rw [eT h, if_pos h, dT (by simp only [List.length_map, List.length_cons, List.length_nil]; omega)]
      have := ih (k + 1) (acc ++ [(sinL[k]).1]) (by omega) (by omega) (by simp; omega)
      simpa using this
    · rw [eF h, if_neg h]
      have := ih (k + 1) acc (by omega) (by omega) (by omega)
      simpa using this
theorem orb_rows (b : Int) (hb : 0 ≤ b ∧ b ≤ 2000000) (v0 : Int) (v2 : List Dat) : ∀ (d k : Nat) (acc : List Int), 18 - k = d → k ≤ 18 → acc.length ≤ 1 + k →
    M252_1 v0 v2 b (acc.map .int) (rowsD rowsL) 18 (k : Int) = some [.list ((sortI (acc ++ ups (rowsL.drop k) b ++ sins sinL b)).map .int)] := by
  intro d
  have hc := cap8
  induction d with
  | zero =>
    intro k acc hd hk ha
    apply M252_1_of
    rw [dF (by omega), bT sinsF_E]
    simp only [rd0, datL, rsS_len]
    refine (orb_sin b v0 v2 _ _ _ 6 0 acc rfl (by omega) (by omega)).trans ?_
    have e : rowsL.drop k = [] := List.drop_of_length_le (by rw [rowsL_len]; omega)
    rw [e, List.drop_zero]
    simp [ups]
  | succ d ih =>
    intro k acc hd hk ha
    have hlt : k < rowsL.length := by show k < 18; omega
    have hr := rows_ok (List.getElem_mem hlt)
    have hb1 := hr.b1
    have hb0 := hr.b0
    apply M252_1_of
    rw [rowsDL_len, dT (by omega), dT (by omega), dT (by omega), dT (by omega), Int.toNat_natCast, rowsD_rd rowsL k hlt, List.drop_eq_getElem_cons hlt]
    generalize rowsL[k] = r at hr hb0 hb1 ⊢
    have c0 : ((Dat.agg [Dat.int r.1, Dat.int r.2.1, Dat.int r.2.2.1, Dat.int r.2.2.2]).C 0).I = r.1 := rfl
    have c1 : ((Dat.agg [Dat.int r.1, Dat.int r.2.1, Dat.int r.2.2.1, Dat.int r.2.2.2]).C 1).I = r.2.1 := rfl
    have c2 : ((Dat.agg [Dat.int r.1, Dat.int r.2.1, Dat.int r.2.2.1, Dat.int r.2.2.2]).C 2).I = r.2.2.1 := rfl
    have c3 : ((Dat.agg [Dat.int r.1, Dat.int r.2.1, Dat.int r.2.2.1, Dat.int r.2.2.2]).C 3).I = r.2.2.2 := rfl
    rw [c0, c1, c2, c3, w64 (n := b - r.2.2.2) (by omega) (by omega), w64 (n := (k : Int) + 1) (by omega) (by omega), bT (upper_E hr _ (by omega))]
    have e : ups (r :: rowsL.drop (k + 1)) b = (if upB r (b - r.2.2.2) = true then [b - r.2.2.2] else []) ++ ups (rowsL.drop (k + 1)) b := by
      unfold ups
      rw [List.filterMap_cons]
      cases h : upB r (b - r.2.2.2) <;> simp
    rw [e]
    simp only [rd0, datB]
    cases hu : upB r (b - r.2.2.2) with
    | true =>
      rw [if_pos rfl, cT rfl, dT (by simp only [List.length_map, List.length_cons, List.length_nil]; omega)]
      have := ih (k + 1) (acc ++ [b - r.2.2.2]) (by omega) (by omega) (by simp; omega)
      simpa using this
    | false =>
      rw [if_neg (by simp), cF rfl]
      have := ih (k + 1) acc (by omega) (by omega) (by omega)
      simpa using this
theorem W_bound (x : Int) (hx : 0 ≤ x ∧ x ≤ 2000000) : 0 ≤ W x ∧ W x ≤ 2000100 ∧ (x ≤ 1114367 → W x ≤ 1114467) := by
  unfold W WS
  cases hf : sinL.find? (fun p => p.1 == x) with
  | some p =>
    have hm := List.mem_of_find?_eq_some hf
    have key : ∀ p, p ∈ sinL → 0 ≤ p.2 ∧ p.2 ≤ 1000 := by decide
    have := key p hm
    exact ⟨this.1, by show p.2 ≤ _; omega, fun _ => by show p.2 ≤ _; omega⟩
  | none =>
    show 0 ≤ findW rowsL x ∧ findW rowsL x ≤ 2000100 ∧ (x ≤ 1114367 → findW rowsL x ≤ 1114467)
    unfold findW
    cases hr : rowsL.find? (fun r => upB r x) with
    | some r =>
      have := rows_ok (List.mem_of_find?_eq_some hr)
      have h1 := this.b0
      have h2 := this.b1
      exact ⟨by show 0 ≤ x + r.2.2.2; omega, by show x + r.2.2.2 ≤ _; omega, fun _ => by show x + r.2.2.2 ≤ _; omega⟩
    | none => exact ⟨hx.1, by show x ≤ _; omega, fun h => by show x ≤ _; omega⟩
theorem Orbit_E (x : Int) : E C 252 [.int .i64 x] = some [.list (if 0 ≤ x ∧ x ≤ 1114367 then (sortI (P (W x))).map .int else [])] := by
  apply o252
  by_cases h0 : x < 0
  · rw [dT h0, if_neg (by omega)]
  by_cases h1 : x > 1114367
  · rw [dF h0, dT h1, if_neg (by omega)]
  have hb := W_bound x (by omega)
  rw [dF h0, dF h1, if_pos (by omega), bT (base_E x (by omega)), bT rowsF_E]
  simp only [rd0, datI, datL, rowsDL_len]
  exact orb_rows (W x) ⟨hb.1, by have := hb.2.2 (by omega); omega⟩ x [] 18 0 [W x] rfl (by omega) (by simp)
/-! The document's. -/
def fars : List Int := [80, 48, 40, 32, 26, 1, 0, -1]
def symL : List Int := [181, 376, 383, 962, 8490, 8491]
def g1 (b far : Int) : Option Int := if far ≥ 0 ∧ b - far ≥ 0 ∧ W (b - far) = b then some (b - far) else none
def g2 (b : Int) (acc : List Int) (y : Int) : List Int := if W y = b ∧ y ∉ acc then acc ++ [y] else acc
/-- A number moved down to its place. -/
def bub : List Int → Int → List Int → List Int
  | [], x, B => x :: B
  | a :: A, x, B => if a > x then bub A x (a :: B) else (a :: A).reverse ++ x :: B
theorem bub_ok (x : Int) : ∀ (A C rest : List Int), (A.reverse ++ C).Pairwise (· ≤ ·) → (∀ c, c ∈ C → x ≤ c) → ∃ D, bub A x (C ++ rest) = D ++ rest ∧ D.Pairwise (· ≤ ·) ∧ D.Perm (A.reverse ++ x :: C)
  | [], Cc, rest, h1, h2 => ⟨x :: Cc, rfl, List.pairwise_cons.2 ⟨h2, by simpa using h1⟩, List.Perm.refl _⟩
  | a :: A, Cc, rest, h1, h2 => by
    unfold bub
    by_cases h : a > x
    · rw [if_pos h]
      obtain ⟨D, k1, k2, k3⟩ := bub_ok x A (a :: Cc) rest (by simpa using h1) (fun c hc => by
        rcases List.mem_cons.1 hc with rfl | hc
        · omega
        · exact h2 c hc)
      refine ⟨D, k1, k2, k3.trans ?_⟩
      rw [List.reverse_cons, List.append_assoc]
      refine List.Perm.append_left _ ?_
      exact List.Perm.swap a x Cc
    · rw [if_neg h]
      refine ⟨(a :: A).reverse ++ x :: Cc, by simp, ?_, List.Perm.refl _⟩
      rw [List.pairwise_append] at h1 ⊢
      obtain ⟨p1, p2, p3⟩ := h1
      refine ⟨p1, List.pairwise_cons.2 ⟨h2, p2⟩, fun u hu v hv => ?_⟩
      have hua : u ≤ a := by
        rw [List.reverse_cons] at p1 hu
        rcases List.mem_append.1 hu with hu | hu
        · exact (List.pairwise_append.1 p1).2.2 u hu a (by simp)
        · rw [List.mem_singleton.1 hu]; exact Int.le_refl _
      rcases List.mem_cons.1 hv with rfl | hv
      · omega
      · exact Int.le_trans hua (Int.le_trans (by omega) (h2 v hv))
end Go.Proofs.YtlofoifcdmeopaaGreatDoor.V
namespace Go.Proofs.YtlofoifcdmeopaaGreatDoor.V
open Go Go.Ev Go.RowKit
set_option linter.unusedVariables false
set_option linter.unusedSimpArgs false
theorem farsD : ([.int 80, .int 48, .int 40, .int 32, .int 26, .int 1, .int 0, .int (-1)] : List Dat) = fars.map .int := rfl
theorem symD : ([.int 181, .int 376, .int 383, .int 962, .int 8490, .int 8491] : List Dat) = symL.map .int := rfl
def g3 (b : Int) (acc : List Int) (y : Int) : List Int := if W y = b ∧ acc.all (fun z => z != y) = true then acc ++ [y] else acc
theorem getD_drop {l : List Int} {k : Nat} (h : k < l.length) : l.getD k 0 = l[k] := by simp [List.getD_eq_getElem?_getD, h]
/-- The inner round of the sort. -/
theorem sort_in (x0 b i v50 : Int) (hi : 0 ≤ i ∧ i ≤ 1000) : ∀ (A : List Int) (x : Int) (B : List Int) {r : List Dat}, A.length ≤ 1000 →
    M31_4 x0 [] ((bub A x B).map .int) b (i + 1) 80 48 40 32 26 1 0 (-1) 8 181 376 383 962 8490 8491 v50 = some r →
    M31_5 x0 [] ((A.reverse ++ x :: B).map .int) b i (A.length : Int) 80 48 40 32 26 1 0 (-1) 8 181 376 383 962 8490 8491 v50 = some r := by
  intro A
  induction A with
  | nil =>
    intro x B r hl h
    apply M31_5_of
    rw [dF (by simp), w64 (n := i + 1) (by omega) (by omega)]
    exact h
  | cons a A ih =>
    intro x B r hl h
    simp only [List.length_cons] at hl
    apply M31_5_of
    have hlen : (((a :: A).reverse ++ x :: B).map Dat.int).length = A.length + 2 + B.length := by simp; omega
    have e1 : IntKind.i64.wrap (((a :: A).length : Int) - 1) = (A.length : Int) := by rw [w64 (by simp only [List.length_cons]; omega) (by simp only [List.length_cons]; omega)]; simp
    have e2 : ((a :: A).length : Int).toNat = A.length + 1 := by simp
    have r1 : ((a :: A).reverse ++ x :: B).getD A.length 0 = a := by simp [List.getD_eq_getElem?_getD]
    have r2 : ((a :: A).reverse ++ x :: B).getD (A.length + 1) 0 = x := by simp [List.getD_eq_getElem?_getD]
    have s1 : (((a :: A).reverse ++ x :: B).map Dat.int).set (A.length + 1) (.int a) = (A.reverse ++ a :: a :: B).map .int := by
      rw [← List.map_set]
      congr 1
      rw [List.reverse_cons, List.append_assoc, List.set_append_right _ _ (by simp)]
      simp
    have s2 : ((A.reverse ++ a :: a :: B).map Dat.int).set A.length (.int x) = (A.reverse ++ x :: a :: B).map .int := by
      rw [← List.map_set]
      congr 1
      rw [List.set_append_right _ _ (by simp)]
      simp
    have hlen2 : ((A.reverse ++ a :: a :: B).map Dat.int).length = A.length + 2 + B.length := by simp; omega
    have c0 : ((a :: A).length : Int) = (A.length : Int) + 1 := by simp
    rw [e1, e2, Int.toNat_natCast, rdI, rdI, r1, r2, s1, s2, hlen, hlen2, c0]
    have q : (((A.length + 2 + B.length : Nat)) : Int) = (A.length : Int) + 2 + B.length := by omega
    rw [q, dT (by omega), dT (by omega), dT (by omega), dT (by omega), dT (by omega), dT (by omega), dT (by omega), w64 (n := i + 1) (by omega) (by omega)]
    unfold bub at h
    by_cases hax : a > x
    · rw [if_pos hax] at h
      rw [dT hax]
      have := ih x (a :: B) (by omega) h
      repeat rw [dT (by omega)]
      exact this
    · rw [if_neg hax] at h
      rw [dF hax]
      exact h
theorem sort_out (x0 b v50 : Int) : ∀ (rest Q : List Int), Q.Pairwise (· ≤ ·) → 1 ≤ Q.length → Q.length + rest.length ≤ 900 →
    ∃ L : List Int, L.Pairwise (· ≤ ·) ∧ L.Perm (Q ++ rest) ∧ M31_4 x0 [] ((Q ++ rest).map .int) b (Q.length : Int) 80 48 40 32 26 1 0 (-1) 8 181 376 383 962 8490 8491 v50 = some [.list (L.map .int)] := by
  intro rest
  induction rest with
  | nil =>
    intro Q h1 h2 h3
    refine ⟨Q, h1, by simp, ?_⟩
    apply M31_4_of
    rw [dF (by simp), List.append_nil]
  | cons x rest ih =>
    intro Q h1 h2 h3
    simp only [List.length_cons] at h3
    obtain ⟨D, k1, k2, k3⟩ := bub_ok x Q.reverse [] rest (by simpa using h1) (fun c hc => by cases hc)
    have hD : D.length = Q.length + 1 := by rw [k3.length_eq]; simp
    obtain ⟨L, g1, g2, g3⟩ := ih D k2 (by omega) (by omega)
    refine ⟨L, g1, g2.trans ?_, ?_⟩
    · have : (D ++ rest).Perm ((Q ++ [x]) ++ rest) := List.Perm.append_right rest (k3.trans (by simp))
      simpa using this
    · apply M31_4_of
      rw [dT (by simp; omega)]
      have := sort_in x0 b (Q.length : Int) v50 (by omega) Q.reverse x rest (r := [.list (L.map .int)]) (by simp; omega) (by
        rw [List.nil_append] at k1
        rw [k1]
        have hi : (Q.length : Int) + 1 = (D.length : Int) := by omega
        rw [hi]
        exact g3)
      simpa using this
theorem fresh_loop (x0 b y : Int) (acc : List Int) (hacc : acc.length ≤ 100) (k : Nat) (hk : k < 6) {r : List Dat}
    (h : M31_2 x0 [] ((if acc.all (fun z => z != y) = true then acc ++ [y] else acc).map .int) b 80 48 40 32 26 1 0 (-1) 8 181 376 383 962 8490 8491 ((k + 1 : Nat) : Int) = some r) : ∀ (d j : Nat), acc.length - j = d → j ≤ acc.length →
    M31_3 x0 [] (acc.map .int) b y ((acc.take j).all fun z => z != y) 80 48 40 32 26 1 0 (-1) 8 181 376 383 962 8490 8491 (k : Int) (acc.length : Int) (j : Int) = some r := by
  intro d
  have hc := cap8
  induction d with
  | zero =>
    intro j hd hj
    obtain rfl : j = acc.length := by omega
    apply M31_3_of
    rw [dF (by omega), List.take_length, w64 (n := (k : Int) + 1) (by omega) (by omega)]
    cases hf : acc.all (fun z => z != y) with
    | true =>
      rw [hf, if_pos rfl] at h
      rw [cT rfl, dT (by simp only [List.length_map, List.length_cons, List.length_nil]; omega)]
      simpa using h
    | false =>
      rw [hf, if_neg (by simp)] at h
      rw [cF rfl]
      simpa using h
  | succ d ih =>
    intro j hd hj
    have hlt : j < acc.length := by omega
    have hn := ih (j + 1) (by omega) (by omega)
    rw [List.take_succ_eq_append_getElem hlt, List.all_append] at hn
    apply M31_3_of
    simp only [List.length_map, Int.toNat_natCast, rdI]
    rw [dT (by omega), dT (by omega), dT (by omega), dT (by omega), getD_drop hlt, w64 (n := (j : Int) + 1) (by omega) (by omega)]
    cases hf : (acc.take j).all (fun z => z != y) with
    | true =>
      rw [hf] at hn
      rw [cT rfl]
      simpa using hn
    | false =>
      rw [hf] at hn
      rw [cF rfl]
      simpa using hn
theorem ref2 (x0 b : Int) : ∀ (d k : Nat) (acc : List Int) {r : List Dat}, 6 - k = d → k ≤ 6 → acc.length ≤ 20 + k →
    M31_4 x0 [] (((symL.drop k).foldl (g3 b) acc).map .int) b 1 80 48 40 32 26 1 0 (-1) 8 181 376 383 962 8490 8491 6 = some r →
    M31_2 x0 [] (acc.map .int) b 80 48 40 32 26 1 0 (-1) 8 181 376 383 962 8490 8491 (k : Int) = some r := by
  intro d
  induction d with
  | zero =>
    intro k acc r hd hk ha h
    obtain rfl : k = 6 := by omega
    apply M31_2_of
    rw [dF (by omega)]
    exact h
  | succ d ih =>
    intro k acc r hd hk ha h
    have hlt : k < symL.length := by show k < 6; omega
    have hy : 0 ≤ symL[k] ∧ symL[k] ≤ 10000 := by
      have key : ∀ y, y ∈ symL → 0 ≤ y ∧ y ≤ 10000 := by decide
      exact key _ (List.getElem_mem hlt)
    rw [List.drop_eq_getElem_cons hlt, List.foldl_cons] at h
    apply M31_2_of
    rw [symD, Int.toNat_natCast, rdI, getD_drop hlt, dT (by omega), dT (by omega), dT (by omega), bT (with_E _ (by omega))]
    simp only [rd0, datI]
    by_cases hw : W symL[k] = b
    · rw [cF (by simp [hw])]
      have hg : g3 b acc symL[k] = if acc.all (fun z => z != symL[k]) = true then acc ++ [symL[k]] else acc := by
        unfold g3
        by_cases ha2 : acc.all (fun z => z != symL[k]) = true
        · rw [if_pos ⟨hw, ha2⟩, if_pos ha2]
        · rw [if_neg (fun q => ha2 q.2), if_neg ha2]
      have hlen : (g3 b acc symL[k]).length ≤ acc.length + 1 := by
        rw [hg]
        split <;> simp
      have hn := ih (k + 1) (g3 b acc symL[k]) (by omega) (by omega) (by omega) h
      rw [hg] at hn
      have := fresh_loop x0 b symL[k] acc (by omega) k (by omega) hn acc.length 0 rfl (by omega)
      simpa using this
    · rw [cT (by simpa using hw), w64 (n := (k : Int) + 1) (by omega) (by omega)]
      have hg : g3 b acc symL[k] = acc := by
        unfold g3
        rw [if_neg (fun q => hw q.1)]
      rw [hg] at h
      have := ih (k + 1) acc (by omega) (by omega) (by omega) h
      simpa using this
theorem ref1 (x0 b : Int) (hb : 0 ≤ b ∧ b ≤ 1200000) : ∀ (d k : Nat) (acc : List Int) {r : List Dat}, 8 - k = d → k ≤ 8 → acc.length ≤ k →
    M31_2 x0 [] ((acc ++ (fars.drop k).filterMap (g1 b)).map .int) b 80 48 40 32 26 1 0 (-1) 8 181 376 383 962 8490 8491 0 = some r →
    M31_1 x0 [] (acc.map .int) b 80 48 40 32 26 1 0 (-1) (k : Int) = some r := by
  intro d
  have hc := cap8
  induction d with
  | zero =>
    intro k acc r hd hk ha h
    obtain rfl : k = 8 := by omega
    apply M31_1_of
    rw [dF (by omega)]
    have e : fars.drop 8 = [] := rfl
    rw [e, List.filterMap_nil, List.append_nil] at h
    exact h
  | succ d ih =>
    intro k acc r hd hk ha h
    have hlt : k < fars.length := by show k < 8; omega
    have hf : -1 ≤ fars[k] ∧ fars[k] ≤ 80 := by
      have key : ∀ y, y ∈ fars → -1 ≤ y ∧ y ≤ 80 := by decide
      exact key _ (List.getElem_mem hlt)
    rw [List.drop_eq_getElem_cons hlt, List.filterMap_cons] at h
    apply M31_1_of
    rw [farsD, Int.toNat_natCast, rdI, getD_drop hlt, dT (by omega), dT (by omega), dT (by omega), w64 (n := b - fars[k]) (by omega) (by omega), w64 (n := (k : Int) + 1) (by omega) (by omega)]
    have skip : ¬ (fars[k] ≥ 0 ∧ b - fars[k] ≥ 0 ∧ W (b - fars[k]) = b) → M31_1 x0 [] (acc.map .int) b 80 48 40 32 26 1 0 (-1) ((k : Int) + 1) = some r := fun hn => by
      have hg : g1 b fars[k] = none := by unfold g1; rw [if_neg hn]
      rw [hg] at h
      have := ih (k + 1) acc (by omega) (by omega) (by omega) h
      simpa using this
    by_cases h0 : fars[k] ≥ 0
    · rw [dT h0]
      by_cases h1 : b - fars[k] ≥ 0
      · rw [dT h1, bT (with_E _ (by omega))]
        simp only [rd0, datI]
        by_cases hw : W (b - fars[k]) = b
        · rw [eT hw, dT (by simp only [List.length_map, List.length_cons, List.length_nil]; omega)]
          have hg : g1 b fars[k] = some (b - fars[k]) := by unfold g1; rw [if_pos ⟨h0, h1, hw⟩]
          rw [hg] at h
          have := ih (k + 1) (acc ++ [b - fars[k]]) (by omega) (by omega) (by simp; omega) (by simpa using h)
          simpa using this
        · rw [eF hw]
          exact skip (fun q => hw q.2.2)
      · rw [dF h1]
        exact skip (fun q => h1 q.2.1)
    · rw [dF h0]
      exact skip (fun q => h0 q.1)
/-- What the document gathers. -/
def Q (b : Int) : List Int := symL.foldl (g3 b) (fars.filterMap (g1 b))
theorem g3_mem {b : Int} {acc : List Int} {y z : Int} : z ∈ g3 b acc y ↔ z ∈ acc ∨ (z = y ∧ W y = b) := by
  unfold g3
  by_cases hw : W y = b
  · by_cases ha : acc.all (fun z => z != y) = true
    · rw [if_pos ⟨hw, ha⟩]
      simp [hw]
    · rw [if_neg (fun q => ha q.2)]
      have : y ∈ acc := by
        have : ¬ ∀ z, z ∈ acc → (z != y) = true := fun q => ha (List.all_eq_true.2 q)
        simp only [Classical.not_forall] at this
        obtain ⟨w, hw1, hw2⟩ := this
        have : w = y := by simpa using hw2
        rw [← this]
        exact hw1
      constructor
      · exact .inl
      · rintro (h | ⟨rfl, _⟩)
        · exact h
        · exact this
  · rw [if_neg (fun q => hw q.1)]
    constructor
    · exact .inl
    · rintro (h | ⟨_, h⟩)
      · exact h
      · exact absurd h hw
theorem foldl_mem {b z : Int} : ∀ (l acc : List Int), z ∈ l.foldl (g3 b) acc ↔ z ∈ acc ∨ (z ∈ l ∧ W z = b)
  | [], acc => by simp
  | y :: l, acc => by
    rw [List.foldl_cons, foldl_mem l, g3_mem]
    constructor
    · rintro ((h | ⟨rfl, h⟩) | h)
      · exact .inl h
      · exact .inr ⟨by simp, h⟩
      · exact .inr ⟨by simp [h.1], h.2⟩
    · rintro (h | ⟨h1, h2⟩)
      · exact .inl (.inl h)
      · rcases List.mem_cons.1 h1 with rfl | h1
        · exact .inl (.inr ⟨rfl, h2⟩)
        · exact .inr ⟨h1, h2⟩
theorem Q_mem {b z : Int} : z ∈ Q b ↔ (∃ far, far ∈ fars ∧ far ≥ 0 ∧ b - far ≥ 0 ∧ W (b - far) = b ∧ z = b - far) ∨ (z ∈ symL ∧ W z = b) := by
  unfold Q
  rw [foldl_mem, List.mem_filterMap]
  constructor
  · rintro (⟨far, h1, h2⟩ | h)
    · unfold g1 at h2
      split at h2
      · rename_i hc
        exact .inl ⟨far, h1, hc.1, hc.2.1, hc.2.2, (Option.some.inj h2).symm⟩
      · cases h2
    · exact .inr h
  · rintro (⟨far, h1, h2, h3, h4, rfl⟩ | h)
    · exact .inl ⟨far, h1, by unfold g1; rw [if_pos ⟨h2, h3, h4⟩]⟩
    · exact .inr h
theorem P_mem {b z : Int} : z ∈ P b ↔ z = b ∨ (∃ r, r ∈ rowsL ∧ upB r z = true ∧ z = b - r.2.2.2) ∨ ∃ s, s ∈ sinL ∧ s.2 = b ∧ z = s.1 := by
  unfold P ups sins
  simp only [List.mem_append, List.mem_singleton, List.mem_filterMap]
  constructor
  · rintro ((h | ⟨r, h1, h2⟩) | ⟨s, h1, h2⟩)
    · exact .inl h
    · split at h2
      · rename_i hu
        have := Option.some.inj h2
        subst this
        exact .inr (.inl ⟨r, h1, hu, rfl⟩)
      · cases h2
    · split at h2
      · rename_i hs
        exact .inr (.inr ⟨s, h1, hs, (Option.some.inj h2).symm⟩)
      · cases h2
  · rintro (h | ⟨r, h1, h2, rfl⟩ | ⟨s, h1, h2, rfl⟩)
    · exact .inl (.inl h)
    · exact .inl (.inr ⟨r, h1, by rw [if_pos h2]⟩)
    · exact .inr ⟨s, h1, by rw [if_pos h2]⟩
theorem rows_apart : ∀ r, r ∈ rowsL → ∀ r', r' ∈ rowsL → r = r' ∨ r.2.1 < r'.1 ∨ r'.2.1 < r.1 := by decide
theorem sin_not_up : ∀ s, s ∈ sinL → ∀ r, r ∈ rowsL → upB r s.1 = false := by decide
theorem far_by : ∀ r, r ∈ rowsL → r.2.2.2 ∈ fars := by decide
theorem sin_W : ∀ s, s ∈ sinL → W s.1 = s.2 ∧ s.1 ∈ symL ∧ W s.2 = s.2 := by decide +kernel
theorem up_range {r : Row} {x : Int} (h : upB r x = true) : r.1 ≤ x ∧ x ≤ r.2.1 := by
  unfold upB at h
  simp only [Bool.and_eq_true, decide_eq_true_eq] at h
  exact ⟨h.1, h.2.1⟩
theorem W_up {r : Row} (hr : r ∈ rowsL) {y : Int} (h : upB r y = true) : W y = y + r.2.2.2 := by
  unfold W WS
  have h1 : sinL.find? (fun p => p.1 == y) = none := by
    rw [List.find?_eq_none]
    intro p hp hpy
    have : p.1 = y := by simpa using hpy
    have := sin_not_up p hp r hr
    rw [‹p.1 = y›, h] at this
    cases this
  rw [h1]
  show findW rowsL y = _
  unfold findW
  cases hf : rowsL.find? (fun r => upB r y) with
  | none =>
    have := List.find?_eq_none.1 hf r hr
    exact absurd h this
  | some r' =>
    have hr' := List.mem_of_find?_eq_some hf
    have hu' : upB r' y = true := by
      have := List.find?_some hf
      simpa using this
    have a1 := up_range h
    have a2 := up_range hu'
    rcases rows_apart r hr r' hr' with rfl | h3 | h3
    · rfl
    · omega
    · omega
theorem W_cases {y b : Int} (h : W y = b) : y = b ∨ (∃ r, r ∈ rowsL ∧ upB r y = true ∧ y = b - r.2.2.2) ∨ ∃ s, s ∈ sinL ∧ s.2 = b ∧ y = s.1 := by
  unfold W WS at h
  cases hf : sinL.find? (fun p => p.1 == y) with
  | some p =>
    rw [hf] at h
    have h' : p.2 = b := h
    have hp : p.1 = y := by
      have := List.find?_some hf
      simpa using this
    exact .inr (.inr ⟨p, List.mem_of_find?_eq_some hf, h', hp.symm⟩)
  | none =>
    rw [hf] at h
    have h' : findW rowsL y = b := h
    unfold findW at h'
    cases hr : rowsL.find? (fun r => upB r y) with
    | some r =>
      rw [hr] at h'
      have h2 : y + r.2.2.2 = b := h'
      have hu : upB r y = true := by
        have := List.find?_some hr
        simpa using this
      exact .inr (.inl ⟨r, List.mem_of_find?_eq_some hr, hu, by omega⟩)
    | none =>
      rw [hr] at h'
      exact .inl h'
theorem low_W : ∀ r, r ∈ rowsL → ∀ k : Fin 150, upB r (r.1 + (k.val : Int)) = true → W (r.1 + (k.val : Int) + r.2.2.2) = r.1 + (k.val : Int) + r.2.2.2 := by decide +kernel
theorem row_len : ∀ r, r ∈ rowsL → r.2.1 - r.1 < 150 := by decide
theorem W_W (x : Int) : W (W x) = W x := by
  rcases W_cases (rfl : W x = W x) with h | ⟨r, h1, h2, h3⟩ | ⟨s, h1, h2, h3⟩
  · exact congrArg W h.symm
  · have a := up_range h2
    have hl := row_len r h1
    have key := low_W r h1 ⟨(x - r.1).toNat, by omega⟩
    have e : r.1 + (((x - r.1).toNat : Nat) : Int) = x := by omega
    simp only [e] at key
    have hx : W x = x + r.2.2.2 := W_up h1 h2
    rw [hx]
    exact key h2
  · rw [← h2]
    exact (sin_W s h1).2.2
theorem P_Q {b : Int} (hb : 0 ≤ b) (hw : W b = b) (z : Int) : z ∈ P b ↔ z ∈ Q b := by
  rw [P_mem, Q_mem]
  constructor
  · rintro (rfl | ⟨r, h1, h2, rfl⟩ | ⟨s, h1, h2, rfl⟩)
    · exact .inl ⟨0, by decide, by omega, by omega, by rw [Int.sub_zero]; exact hw, by omega⟩
    · have a := up_range h2
      have hr := rows_ok h1
      have g := W_up h1 h2
      have h5 := hr.b0
      have h6 := hr.f0
      exact .inl ⟨r.2.2.2, far_by r h1, by omega, by omega, by rw [g]; omega, rfl⟩
    · obtain ⟨g1, g2, _⟩ := sin_W s h1
      exact .inr ⟨g2, by rw [g1]; exact h2⟩
  · rintro (⟨far, h1, h2, h3, h4, rfl⟩ | ⟨h1, h2⟩)
    · exact W_cases h4
    · exact W_cases h2
theorem RefOrbit_E (x : Int) (hx : 0 ≤ x ∧ x ≤ 1114367) : ∃ L : List Int, L.Pairwise (· ≤ ·) ∧ L.Perm (Q (W x)) ∧ E C 31 [.int .i64 x] = some [.list (L.map .int)] := by
  have hb := W_bound x (by omega)
  have hbb := hb.2.2 hx.2
  have hne : (Q (W x)).length ≠ 0 := fun h0 => by
    have hq : W x ∈ Q (W x) := by
      rw [Q_mem]
      exact .inl ⟨0, by decide, by omega, by omega, by rw [Int.sub_zero]; exact W_W x, by omega⟩
    rw [List.eq_nil_of_length_eq_zero h0] at hq
    cases hq
  have hlen : (Q (W x)).length ≤ 14 := by
    have h1 : ∀ (l acc : List Int), (l.foldl (g3 (W x)) acc).length ≤ acc.length + l.length := by
      intro l
      induction l with
      | nil => intro acc; simp
      | cons y l ih =>
        intro acc
        have h2 : (g3 (W x) acc y).length ≤ acc.length + 1 := by
          unfold g3
          split <;> simp
        have := ih (g3 (W x) acc y)
        simp only [List.foldl_cons, List.length_cons]
        omega
    have h3 := h1 symL (fars.filterMap (g1 (W x)))
    have h4 : (fars.filterMap (g1 (W x))).length ≤ fars.length := List.length_filterMap_le _ _
    have h5 : fars.length = 8 := rfl
    have h6 : symL.length = 6 := rfl
    unfold Q
    omega
  cases hq : Q (W x) with
  | nil => rw [hq] at hne; simp at hne
  | cons a rest =>
    rw [hq] at hlen
    obtain ⟨L, g1', g2', g3'⟩ := sort_out x (W x) 6 rest [a] (List.pairwise_singleton _ _) (by simp) (by simp only [List.length_cons, List.length_nil] at hlen ⊢; omega)
    refine ⟨L, g1', by simpa using g2', ?_⟩
    apply o31
    rw [dF (by omega), dF (by omega), bT (with_E x (by omega))]
    refine ref1 x (W x) ⟨hb.1, by omega⟩ 8 0 [] rfl (by omega) (by simp) ?_
    refine ref2 x (W x) 6 0 _ rfl (by omega) ?_ ?_
    · have h4 : (fars.filterMap (g1 (W x))).length ≤ fars.length := List.length_filterMap_le _ _
      have h5 : fars.length = 8 := rfl
      simpa using (by omega : (fars.filterMap (g1 (W x))).length ≤ 20)
    · have e : (symL.drop 0).foldl (g3 (W x)) ([] ++ (fars.drop 0).filterMap (g1 (W x))) = a :: rest := hq
      rw [e]
      exact g3'
end Go.Proofs.YtlofoifcdmeopaaGreatDoor.V
namespace Go.Proofs.YtlofoifcdmeopaaGreatDoor.V
open Go Go.Ev Go.RowKit
set_option linter.unusedVariables false
set_option linter.unusedSimpArgs false
theorem P_W {x z : Int} : z ∈ P (W x) ↔ W z = W x := by
  rw [P_mem]
  constructor
  · rintro (rfl | ⟨r, hr, h1, h2⟩ | ⟨s, hs, h1, h2⟩)
    · exact W_W x
    · rw [W_up hr h1]; omega
    · rw [h2, (sin_W s hs).1, h1]
  · exact fun h => W_cases h
theorem mem_sortI {l : List Int} {x : Int} : x ∈ sortI l ↔ x ∈ l := (sortI_perm l).mem_iff
/-- All that is the same as a symbol. -/
def orbL (x : Int) : List Int := if 0 ≤ x ∧ x ≤ 1114367 then sortI (P (W x)) else []
theorem mem_orbL {x z : Int} : z ∈ orbL x ↔ (0 ≤ x ∧ x ≤ 1114367) ∧ W z = W x := by
  unfold orbL
  split
  · rename_i h
    rw [mem_sortI, P_W]
    exact ⟨fun h2 => ⟨h, h2⟩, fun h2 => h2.2⟩
  · rename_i h
    exact ⟨(fun h2 => by cases h2), fun h2 => absurd h2.1 h⟩
theorem P_length (b : Int) : (P b).length ≤ 25 := by
  have h1 : (ups rowsL b).length ≤ 18 := List.length_filterMap_le _ _
  have h2 : (sins sinL b).length ≤ 6 := List.length_filterMap_le _ _
  unfold P
  rw [List.length_append, List.length_append, List.length_singleton]
  omega
theorem orbL_length (x : Int) : (orbL x).length ≤ 25 := by
  unfold orbL
  split
  · rw [sortI_length]; exact P_length _
  · simp
theorem Orbit2_E (x : Int) : E C 252 [.int .i64 x] = some [.list ((orbL x).map .int)] := by
  rw [Orbit_E x]
  unfold orbL
  split <;> rfl
def runL (by_ step hi : Int) : Nat → Int → List Int
  | 0, _ => []
  | n + 1, x => if x ≤ hi then x :: (x + by_) :: runL by_ step hi n (x + step) else []
theorem runL_length (by_ step hi : Int) : ∀ (n : Nat) (x : Int), (runL by_ step hi n x).length ≤ 2 * n
  | 0, x => by simp [runL]
  | n + 1, x => by
    have := runL_length by_ step hi n (x + step)
    unfold runL
    split <;> simp only [List.length_cons, List.length_nil] <;> omega
theorem mem_runL (by_ step hi : Int) (hs : step = 1 ∨ step = 2) : ∀ (n : Nat) (x y : Int), x ≤ y → y ≤ hi → y - x < n → (step = 1 ∨ y % 2 = x % 2) → y ∈ runL by_ step hi n x ∧ y + by_ ∈ runL by_ step hi n x
  | 0, x, y, h1, h2, h3, _ => by omega
  | n + 1, x, y, h1, h2, h3, h4 => by
    unfold runL
    rw [if_pos (by omega)]
    by_cases e : y = x
    · subst e
      simp
    · have := mem_runL by_ step hi hs n (x + step) y (by omega) h2 (by omega) (by omega)
      exact ⟨by simp [this.1], by simp [this.2]⟩
def casedR (r : Row) : List Int := runL r.2.2.2 r.2.2.1 r.2.1 200 r.1
def casedS (s : Int × Int) : List Int := [s.1, s.2]
def casedL : List Int := rowsL.flatMap casedR ++ sinL.flatMap casedS
theorem rows_short : ∀ r ∈ rowsL, r.2.1 - r.1 < 200 := by decide +kernel
theorem flatMap_length {α : Type} (f : α → List Int) (b : Nat) (h : ∀ a, (f a).length ≤ b) : ∀ L : List α, (L.flatMap f).length ≤ b * L.length
  | [] => by simp
  | a :: L => by
    have h1 := flatMap_length f b h L
    have h2 := h a
    rw [List.flatMap_cons, List.length_append, List.length_cons, Nat.mul_add]
    omega
theorem casedL_length : casedL.length ≤ 10000 := by
  have h1 := flatMap_length casedR 400 (fun r => runL_length _ _ _ 200 _) rowsL
  have h2 := flatMap_length casedS 2 (fun s => Nat.le_refl _) sinL
  have e1 : rowsL.length = 18 := rfl
  have e2 : sinL.length = 6 := rfl
  unfold casedL
  rw [List.length_append]
  omega
theorem up_mod {r : Row} {y : Int} (h : upB r y = true) : r.1 ≤ y ∧ y ≤ r.2.1 ∧ (y - r.1) % r.2.2.1 = 0 := by
  unfold upB at h
  simpa using h
theorem mem_cased {x y : Int} (h : W y = W x) (hne : x ≠ y) : y ∈ casedL := by
  have row : ∀ (z : Int) (r : Row), r ∈ rowsL → upB r z = true → z ∈ casedL ∧ z + r.2.2.2 ∈ casedL := fun z r hr hz => by
    have hs := (rows_ok hr).s
    obtain ⟨g1, g2, g3⟩ := up_mod hz
    have hsh := rows_short r hr
    have := mem_runL r.2.2.2 r.2.2.1 r.2.1 hs 200 r.1 z g1 g2 (by omega) (by rcases hs with h | h <;> rw [h] at g3 ⊢ <;> omega)
    exact ⟨List.mem_append_left _ (List.mem_flatMap.mpr ⟨r, hr, this.1⟩), List.mem_append_left _ (List.mem_flatMap.mpr ⟨r, hr, this.2⟩)⟩
  have sing : ∀ s ∈ sinL, s.1 ∈ casedL ∧ s.2 ∈ casedL := fun s hs =>
    ⟨List.mem_append_right _ (List.mem_flatMap.mpr ⟨s, hs, by simp [casedS]⟩), List.mem_append_right _ (List.mem_flatMap.mpr ⟨s, hs, by simp [casedS]⟩)⟩
  rcases W_cases (y := y) rfl with e | ⟨r, hr, h1, _⟩ | ⟨s, hs, _, e⟩
  · rcases W_cases (y := x) rfl with e2 | ⟨r, hr, h1, e2⟩ | ⟨s, hs, e2, _⟩
    · exact absurd (by rw [e2, e, h]) hne
    · have : y = x + r.2.2.2 := by omega
      exact this ▸ (row x r hr h1).2
    · have : y = s.2 := by omega
      exact this ▸ (sing s hs).2
  · exact (row y r hr h1).1
  · exact e ▸ (sing s hs).1
theorem rsI_at (pre : List Int) (r : Int) (rest : List Int) : (rd ((pre ++ r :: rest).map Dat.int) pre.length).I = r := by
  rw [rdB (by simp)]
  simp
theorem cap8' : capB 8 = 17592186044416 := by decide
theorem cased_3 (v0 v7 : List Dat) (v8 v9 : Int) : ∀ (rest pre : List (Int × Int)) (acc : List Int), sinL = pre ++ rest → acc.length + 2 * rest.length < 1000000 →
    M251_3 v0 (acc.map .int) v7 v8 v9 (rs sinL) 6 (pre.length : Int) = some [.list ((acc ++ rest.flatMap casedS).map .int)] := by
  have hc := cap8'
  intro rest
  induction rest with
  | nil =>
    intro pre acc hxs ha
    have hl : pre.length = 6 := by have := congrArg List.length hxs; simpa [sinL] using this.symm
    apply M251_3_of
    rw [dF (by omega)]
    simp
  | cons s rest ih =>
    intro pre acc hxs ha
    have hl : 6 = pre.length + (rest.length + 1) := by have := congrArg List.length hxs; simpa [sinL] using this
    simp only [List.length_cons] at ha
    have hat : rd (rs sinL) pre.length = .agg [.int s.1, .int s.2] := by rw [hxs]; exact rs_at _ _ _
    apply M251_3_of
    rw [dT (by omega), rsS_len, dT (by omega), dT (by omega), dT (by omega), Int.toNat_natCast, hat]
    simp only [aggC0, aggC1, datI, List.length_map]
    rw [dT (by simp only [List.length_cons, List.length_nil]; omega), show IntKind.i64.wrap ((pre.length : Int) + 1) = (((pre ++ [s]).length : Nat) : Int) from by rw [w64 (by omega) (by omega)]; simp]
    have := ih (pre ++ [s]) (acc ++ [s.1, s.2]) (by rw [hxs]; simp) (by simp only [List.length_append, List.length_cons, List.length_nil]; omega)
    rw [List.map_append] at this
    refine this.trans ?_
    simp [casedS]
theorem cased_2 (v0 v7 : List Dat) (v8 v9 : Int) {r : Row} (hr : OkRow r) (res : List Dat) : ∀ (n : Nat) (x : Int) (acc : List Int), r.2.1 - x < n → 0 ≤ x → x ≤ 200000 → acc.length + 2 * n < 1000000 →
    M251_1 v0 ((acc ++ runL r.2.2.2 r.2.2.1 r.2.1 n x).map .int) v7 v8 (IntKind.i64.wrap (v9 + 1)) = some res → M251_2 v0 (acc.map .int) r.1 r.2.1 r.2.2.1 r.2.2.2 x v7 v8 v9 = some res := by
  have hc := cap8'
  obtain ⟨g1, g2, g3, g4, g5, g6⟩ := hr
  intro n
  induction n with
  | zero =>
    intro x acc h1 h2 h3 h4 hE
    apply M251_2_of
    rw [dF (by omega)]
    simpa [runL] using hE
  | succ n ih =>
    intro x acc h1 h2 h3 h4 hE
    apply M251_2_of
    unfold runL at hE
    by_cases h : x ≤ r.2.1
    · rw [if_pos h] at hE
      rw [dT h, List.length_map, dT (by simp only [List.length_cons, List.length_nil]; omega), w64 (n := x + r.2.2.2) (by omega) (by omega), w64 (n := x + r.2.2.1) (by omega) (by omega)]
      have := ih (x + r.2.2.1) (acc ++ [x, x + r.2.2.2]) (by omega) (by omega) (by omega) (by simp only [List.length_append, List.length_cons, List.length_nil]; omega) (by simpa using hE)
      rw [List.map_append] at this
      exact this
    · rw [if_neg h, List.append_nil] at hE
      rw [dF h]
      exact hE
theorem cased_1 (v0 : List Dat) : ∀ (rest pre : List Row) (acc : List Int), rowsL = pre ++ rest → acc.length + 400 * rest.length < 100000 →
    M251_1 v0 (acc.map .int) (rowsD rowsL) 18 (pre.length : Int) = some [.list ((acc ++ rest.flatMap casedR ++ sinL.flatMap casedS).map .int)] := by
  intro rest
  induction rest with
  | nil =>
    intro pre acc hxs ha
    have hl : pre.length = 18 := by have := congrArg List.length hxs; simpa [rowsL] using this.symm
    apply M251_1_of
    rw [dF (by omega), bT sinsF_E]
    simp only [rd0, datL, rsS_len]
    refine (cased_3 _ _ _ _ sinL [] acc rfl (by simp only [List.length_nil] at ha; have : sinL.length = 6 := rfl; omega)).trans ?_
    simp
  | cons r rest ih =>
    intro pre acc hxs ha
    have hl : 18 = pre.length + (rest.length + 1) := by have := congrArg List.length hxs; simpa [rowsL] using this
    simp only [List.length_cons] at ha
    have hmem : r ∈ rowsL := by rw [hxs]; simp
    have hok := rows_ok hmem
    have hsh := rows_short r hmem
    have hat : rd (rowsD rowsL) pre.length = .agg [.int r.1, .int r.2.1, .int r.2.2.1, .int r.2.2.2] := by
      have hk : pre.length < rowsL.length := by rw [hxs]; simp
      rw [rowsD_rd rowsL _ hk]
      have : rowsL[pre.length] = r := by
        have h2 : rowsL[pre.length]? = some r := by rw [hxs]; simp
        exact Option.some.inj ((List.getElem?_eq_getElem hk).symm.trans h2)
      rw [this]
    have hrl := runL_length r.2.2.2 r.2.2.1 r.2.1 200 r.1
    have g0 := hok.f0
    have g1 := hok.f1
    apply M251_1_of
    rw [dT (by omega), rowsDL_len, dT (by omega), dT (by omega), dT (by omega), Int.toNat_natCast, hat]
    simp only [aggC0, aggC1, aggC2, aggC3, datI]
    obtain ⟨N, hN⟩ : ∃ N : Nat, N = 200 := ⟨_, rfl⟩
    rw [← hN] at hrl
    refine cased_2 _ _ _ _ hok _ N r.1 acc (by omega) g0 (by omega) (by omega) ?_
    rw [show IntKind.i64.wrap ((pre.length : Int) + 1) = (((pre ++ [r]).length : Nat) : Int) from by rw [w64 (by omega) (by omega)]; simp]
    have hcs : casedR r = runL r.2.2.2 r.2.2.1 r.2.1 N r.1 := by rw [hN]; rfl
    refine (ih (pre ++ [r]) (acc ++ runL r.2.2.2 r.2.2.1 r.2.1 N r.1) (by rw [hxs]; simp) (by rw [List.length_append]; omega)).trans ?_
    rw [← hcs]
    simp
theorem cased_E : E C 251 [] = some [.list (casedL.map .int)] := by
  apply o251
  rw [bT rowsF_E]
  simp only [rd0, datL, rowsDL_len]
  refine (cased_1 [] rowsL [] [] (List.nil_append _).symm (by have : rowsL.length = 18 := rfl; simp only [List.length_nil]; omega)).trans ?_
  rw [List.nil_append]
  unfold casedL
  rfl
def ptR (y : Int) : Int × Int := (y, y)
def addL (l : List (Int × Int)) (c : Int) : List (Int × Int) := if hasB l c = true then (orbL c).map ptR else []
def closeR (l : List (Int × Int)) : List (Int × Int) := mk (l ++ casedL.flatMap (addL l))
theorem addL_length (l : List (Int × Int)) (c : Int) : (addL l c).length ≤ 25 := by
  unfold addL
  split
  · rw [List.length_map]; exact orbL_length c
  · simp
theorem close_2 (v0 v2 : List Dat) (v5 : Int) (v10 : List Dat) (v11 v12 : Int) (os : List Int) (ho : os.length ≤ 25) (res : List Dat) : ∀ (rest pre : List Int) (acc : List (Int × Int)), os = pre ++ rest → acc.length + rest.length < 8000000 →
    M231_1 v0 v2 (rs (acc ++ rest.map ptR)) v10 v11 (IntKind.i64.wrap (v12 + 1)) = some res → M231_2 v0 v2 (rs acc) v5 v10 v11 v12 (os.map .int) (os.length : Int) (pre.length : Int) = some res := by
  have hc16 : capB 16 = 8796093022208 := by decide
  intro rest
  induction rest with
  | nil =>
    intro pre acc hxs ha hE
    have hl : os.length = pre.length := by rw [hxs]; simp
    apply M231_2_of
    rw [dF (by omega)]
    simpa using hE
  | cons y rest ih =>
    intro pre acc hxs ha hE
    simp only [List.length_cons] at ha
    have hl : os.length = pre.length + (rest.length + 1) := by rw [hxs]; simp
    have hat : (rd (os.map Dat.int) pre.length).I = y := by rw [hxs]; exact rsI_at _ _ _
    apply M231_2_of
    rw [List.length_map, dT (by omega), ixT ⟨by omega, by omega⟩, Int.toNat_natCast, hat, rs_len, dT (by rw [List.length_singleton]; omega), rs1 (y, y), ← rsA, show IntKind.i64.wrap ((pre.length : Int) + 1) = (((pre ++ [y]).length : Nat) : Int) from by rw [w64 (by omega) (by omega)]; simp]
    exact ih (pre ++ [y]) (acc ++ [(y, y)]) (by rw [hxs]; simp) (by rw [List.length_append, List.length_singleton]; omega) (by simpa [ptR] using hE)
theorem close_1 (l : List (Int × Int)) (hl0 : l.length ≤ 1000000) (v2 : List Dat) (xs : List Int) (hxl : xs.length ≤ 10000) : ∀ (rest pre : List Int) (acc : List (Int × Int)), xs = pre ++ rest → acc.length + 25 * rest.length < 4000000 →
    M231_1 (rs l) v2 (rs acc) (xs.map .int) (xs.length : Int) (pre.length : Int) = some [.list (rs (mk (acc ++ rest.flatMap (addL l))))] := by
  intro rest
  induction rest with
  | nil =>
    intro pre acc hxs ha
    have hl : xs.length = pre.length := by rw [hxs]; simp
    apply M231_1_of
    rw [dF (by omega), bT (Make_E acc (by simp only [List.length_nil] at ha; omega)), List.flatMap_nil, List.append_nil]
    rfl
  | cons c rest ih =>
    intro pre acc hxs ha
    simp only [List.length_cons] at ha
    have hl : xs.length = pre.length + (rest.length + 1) := by rw [hxs]; simp
    have hat : (rd (xs.map Dat.int) pre.length).I = c := by rw [hxs]; exact rsI_at _ _ _
    have hal := addL_length l c
    have hs := orbL_length c
    have ek : IntKind.i64.wrap ((pre.length : Int) + 1) = (((pre ++ [c]).length : Nat) : Int) := by rw [w64 (by omega) (by omega)]; simp
    have h := ih (pre ++ [c]) (acc ++ addL l c) (by rw [hxs]; simp) (by rw [List.length_append]; omega)
    rw [List.flatMap_cons, ← List.append_assoc]
    apply M231_1_of
    rw [List.length_map, dT (by omega), ixT ⟨by omega, by omega⟩, Int.toNat_natCast, hat, bT (Has_E l c (by omega))]
    simp only [rd0, datB]
    cases hc : hasB l c with
    | true =>
      have e : addL l c = (orbL c).map ptR := by unfold addL; rw [if_pos hc]
      rw [e] at h ⊢
      rw [nF rfl, bT (Orbit2_E c)]
      simp only [rd0, datL, List.length_map]
      exact close_2 _ _ _ _ _ _ (orbL c) hs _ (orbL c) [] acc rfl (by omega) (by rw [ek]; exact h)
    | false =>
      have e : addL l c = [] := by unfold addL; rw [if_neg (by rw [hc]; simp)]
      rw [e, List.append_nil] at h ⊢
      rw [nT rfl, ek]
      exact h
theorem Clone_E (l : List (Int × Int)) (h : l.length < 8796093022208) : E C 250 [.shr 82 (rs l)] = some [.list (rs l)] := by
  refine E_given (h := gClone 82) (by kernel_rfl) ?_
  simp only [gClone]
  rw [rs_len, decide_eq_true h]
  rfl
theorem Close_E (l : List (Int × Int)) (hl : l.length ≤ 1000000) : E C 231 [.shr 82 (rs l)] = some [.list (rs (closeR l))] := by
  have hc := casedL_length
  apply o231
  rw [bT (Clone_E l (by omega)), bT cased_E]
  simp only [rd0, datL, List.length_map]
  exact close_1 l hl _ casedL hc casedL [] l (List.nil_append _).symm (by omega)
theorem closeR_length (l : List (Int × Int)) : (closeR l).length ≤ l.length + 250000 := by
  have h := mk_length (l ++ casedL.flatMap (addL l))
  have hc := casedL_length
  have h2 : (casedL.flatMap (addL l)).length ≤ 25 * casedL.length := by
    generalize casedL = L
    induction L with
    | nil => simp
    | cons a L ih =>
      rw [List.flatMap_cons, List.length_append, List.length_cons, Nat.mul_add]
      have := addL_length l a
      omega
  rw [List.length_append] at h
  unfold closeR
  omega
theorem close_has (l : List (Int × Int)) (x : Int) : hasB (closeR l) x = (orbL x).any (hasB l) := by
  rw [Bool.eq_iff_iff, hasB_iff, List.any_eq_true]
  unfold closeR
  rw [mk_has]
  have hin : hasP (l ++ casedL.flatMap (addL l)) x ↔ hasP l x ∨ ∃ c ∈ casedL, hasB l c = true ∧ x ∈ orbL c := by
    rw [hasP_append]
    refine or_congr Iff.rfl ?_
    constructor
    · rintro ⟨r, hr, h1, h2⟩
      obtain ⟨c, hc, hm⟩ := List.mem_flatMap.mp hr
      unfold addL at hm
      by_cases hb : hasB l c = true
      · rw [if_pos hb] at hm
        obtain ⟨y, hy, rfl⟩ := List.mem_map.mp hm
        unfold ptR at h1 h2
        dsimp only at h1 h2
        have : x = y := by omega
        exact ⟨c, hc, hb, this ▸ hy⟩
      · rw [if_neg hb] at hm
        cases hm
    · rintro ⟨c, hc, hb, hx⟩
      exact ⟨ptR x, List.mem_flatMap.mpr ⟨c, hc, by unfold addL; rw [if_pos hb]; exact List.mem_map.mpr ⟨x, hx, rfl⟩⟩, Int.le_refl _, Int.le_refl _⟩
  rw [hin]
  constructor
  · rintro ⟨h0, h1, _, _, h | ⟨c, _, hb, hx⟩⟩
    · exact ⟨x, mem_orbL.2 ⟨⟨h0, h1⟩, rfl⟩, (hasB_iff l x).mpr ⟨h0, h1, h⟩⟩
    · exact ⟨c, mem_orbL.2 ⟨⟨h0, h1⟩, (mem_orbL.1 hx).2.symm⟩, hb⟩
  · rintro ⟨y, hy, hb⟩
    obtain ⟨⟨h0, h1⟩, hw⟩ := mem_orbL.1 hy
    refine ⟨h0, h1, h0, h1, ?_⟩
    by_cases e : x = y
    · subst e
      exact .inl ((hasB_iff l x).mp hb).2.2
    · have hyb := (hasB_iff l y).mp hb
      exact .inr ⟨y, mem_cased hw e, hb, mem_orbL.2 ⟨⟨hyb.1, hyb.2.1⟩, hw.symm⟩⟩
end Go.Proofs.YtlofoifcdmeopaaGreatDoor.V
namespace Go.Proofs.YtlofoifcdmeopaaGreatDoor.V
open Go Go.Ev Go.RowKit
set_option linter.unusedVariables false
set_option linter.unusedSimpArgs false
theorem fit_slice {T : TypeId → Option TI} {k : Nat} {t e : TypeId} {ti te : TI} {d : Dat} (ht : T t = some ti) (hs : ti.sh = .slice e) (he : T e = some te) (h : fitT T (k + 1) t d) : ∃ l, d = .list l ∧ l.length * te.bytes ≤ 140737488351232 ∧ ∀ x, x ∈ l → fitT T k e x := by
  simp only [fitT] at h
  obtain ⟨ti', h1, h2⟩ := h
  obtain rfl := Option.some.inj (ht.symm.trans h1)
  rw [hs] at h2
  obtain ⟨l, h3, ⟨te', h4, h5⟩, h6⟩ := h2
  obtain rfl := Option.some.inj (he.symm.trans h4)
  exact ⟨l, h3, h5, h6⟩
theorem list_of {α : Type} (f : α → Dat) (P : α → Prop) : ∀ l : List Dat, (∀ x, x ∈ l → ∃ a, x = f a ∧ P a) → ∃ m : List α, l = m.map f ∧ ∀ a, a ∈ m → P a
  | [], _ => ⟨[], rfl, fun a h => by cases h⟩
  | x :: l, h => by
    obtain ⟨a, h1, h2⟩ := h x List.mem_cons_self
    obtain ⟨m, h3, h4⟩ := list_of f P l (fun y hy => h y (List.mem_cons_of_mem _ hy))
    refine ⟨a :: m, by rw [h1, h3]; rfl, fun b hb => ?_⟩
    rw [List.mem_cons] at hb
    cases hb with
    | inl e => rw [e]; exact h2
    | inr e => exact h4 b e
theorem fit_int_row {k : Nat} {d : Dat} (h : fitT C.T (k + 2) 36 d) : ∃ l : List Int, d = .list (l.map .int) ∧ l.length ≤ 17592186043904 ∧ ∀ x, x ∈ l → i64P x := by
  obtain ⟨l, rfl, h1, h2⟩ := fit_slice (t := 36) rfl rfl tyi h
  obtain ⟨m, rfl, h3⟩ := list_of Dat.int i64P l (fun x hx => fit_i64 (h2 x hx))
  refine ⟨m, rfl, ?_, h3⟩
  rw [List.length_map] at h1
  simp only at h1
  omega
/-- A node. -/
structure Nd where
  kind : Int
  frm : Int
  to : Int
  num : Int
  min : Int
  max : Int
  mode : Int
  name : ByteArray
  set : List (Int × Int)
  kids : List Int
def nodeD (n : Nd) : Dat := .agg [.int n.kind, .int n.frm, .int n.to, .int n.num, .int n.min, .int n.max, .int n.mode, .str n.name, .list (rs n.set), .list (n.kids.map .int)]
structure OkN (n : Nd) : Prop where
  kind : i64P n.kind
  frm : i64P n.frm
  to : i64P n.to
  num : i64P n.num
  min : i64P n.min
  max : i64P n.max
  mode : i64P n.mode
  name : n.name.size ≤ 140737488351232
  set : n.set.length ≤ 8796093021952
  rng : ∀ p, p ∈ n.set → i64P p.1 ∧ i64P p.2
  kids : n.kids.length ≤ 17592186043904
  kid : ∀ x, x ∈ n.kids → i64P x
/-- A tree: its nodes, how many groups it has, their names. -/
structure Tr where
  ns : List Nd
  groups : Int
  names : List ByteArray
structure OkT (t : Tr) : Prop where
  ns : t.ns.length ≤ 1172812402928
  nd : ∀ n, n ∈ t.ns → OkN n
  groups : i64P t.groups
  names : t.names.length ≤ 8796093021952
def nsD (l : List Nd) : List Dat := l.map nodeD
theorem nsD_len (l : List Nd) : (nsD l).length = l.length := List.length_map ..
theorem nsD_rd {l : List Nd} {i : Nat} (h : i < l.length) : rd (nsD l) i = nodeD l[i] := by simp [rd, nsD, h]
@[simp] theorem nd0 (n : Nd) : (nodeD n).C 0 = .int n.kind := (rfl)
@[simp] theorem nd1 (n : Nd) : (nodeD n).C 1 = .int n.frm := (rfl)
@[simp] theorem nd2 (n : Nd) : (nodeD n).C 2 = .int n.to := (rfl)
@[simp] theorem nd3 (n : Nd) : (nodeD n).C 3 = .int n.num := (rfl)
@[simp] theorem nd4 (n : Nd) : (nodeD n).C 4 = .int n.min := (rfl)
@[simp] theorem nd5 (n : Nd) : (nodeD n).C 5 = .int n.max := (rfl)
@[simp] theorem nd6 (n : Nd) : (nodeD n).C 6 = .int n.mode := (rfl)
@[simp] theorem nd7 (n : Nd) : (nodeD n).C 7 = .str n.name := (rfl)
@[simp] theorem nd8 (n : Nd) : (nodeD n).C 8 = .list (rs n.set) := (rfl)
@[simp] theorem nd9 (n : Nd) : (nodeD n).C 9 = .list (n.kids.map .int) := (rfl)
end Go.Proofs.YtlofoifcdmeopaaGreatDoor.V
