/- Told functions: what each answers, as plain trees; written by a program of this session (tell.py). The parser's state, and what its small functions answer. The parser, where no quantifiers, flags or alternatives are: pieces, rows, groups. Symbols by their numbers: hexadecimal digits, the program's and the document's. Names: the program's reader and the document's. A stand-in: this seat has not the document of chapter 05. Told functions: what each answers, as plain trees; written by a program of this session (tell.py). Package class, and the document's sets with names and letters. What a backslash makes: the program's and the document's. What a node may be, but for its kids' numbers: the document's Alone. The parser's escapes, classes and other leaves. Symbols that are written by their numbers, one behind the other; how many numbers an orbit has. Where the parts of trees end. Parts as trees; how they are numbered; that what is numbered is laid as a tree is. Symbols that are written by their numbers, one behind the other, are read as Sets. The law's own examples: the first pattern. The law's own examples: the second pattern. Told functions: what each answers, as plain trees; written by a program of this session (tell.py). The law's own examples. Told functions: what each answers, as plain trees; written by a program of this session (tell.py). Told functions: what each answers, as plain trees; written by a program of this session (tell.py). -/
import Derived.Test.YtlofoifcdmeopaaGreatDoorMPNC
import Derived.KernelRfl
import Derived.Test.YtlofoifcdmeopaaGreatDoorMPND
namespace Go.Proofs.YtlofoifcdmeopaaGreatDoor.V
open Go Go.Ev
set_option maxRecDepth 100000
set_option linter.unusedVariables false
/-- clew/parse.Parse -/
noncomputable def f26 : Func := Tryz.f26
def kp26 : List Nat := [0, 2, 3, 4, 5, 6, 7, 8, 9, 17, 55, 56, 57]
noncomputable def c26 (p : List Nat) : Code := pick f26 p
noncomputable def L26_1 (n : Nat) (m1 : Nat) (v0 v2_0 : List Dat) (v2_1 : Int) (v2_2 : List Dat) (v3 v4 v6_0 v6_1 v6_2 v6_3 v6_4 v6_5 v6_6 : Int) (v6_7 : ByteArray) (v6_8 v6_9 v6_10 v7_0 : List Dat) (v7_1 : Int) (v7_2 v17_0 : List Dat) (v17_1 : Int) (v17_2 v17_3 v17_4 v17_5 : Bool) (v17_6 : Int) (v17_7 : List Dat) (v17_8 v17_9 v56 v57 : Int) : R := loopIter (fun E K => evCode C (ev C n) n kp26 (c26 [1, 1, 1, 1, 1, 1, 1, 0, 1, 0, 0]) E K) [0, 2, 3, 4, 5, 6, 7, 17, 55, 56, 57] (Kblk 0 (Kseq C (ev C n) n kp26 (c26 [1, 1, 1, 1, 1, 1, 1, 1]) (Ktop C 26 f26 [.und]))) m1 [.shr 5 v0, .und, .box 25 [.own 2 1 38 v2_0, .int .i64 v2_1, .own 2 3 9 v2_2], .int .i64 v3, .int .i64 v4, .ref 17 0, .box 103 [.int .i64 v6_0, .int .i64 v6_1, .int .i64 v6_2, .int .i64 v6_3, .int .i64 v6_4, .int .i64 v6_5, .int .i64 v6_6, .str v6_7, .shr 82 v6_8, .shr 3 v6_9, .shr 103 v6_10], .box 25 [.own 7 1 38 v7_0, .int .i64 v7_1, .shr 9 v7_2], .und, .und, .und, .und, .und, .und, .und, .und, .und, .box 100 [.shr 5 v17_0, .int .i64 v17_1, .bool v17_2, .bool v17_3, .bool v17_4, .bool v17_5, .int .i64 v17_6, .shr 9 v17_7, .int .i64 v17_8, .int .i64 v17_9], .und, .und, .und, .und, .und, .und, .und, .und, .und, .und, .und, .und, .und, .und, .und, .und, .und, .und, .und, .und, .und, .und, .und, .und, .und, .und, .und, .und, .und, .und, .und, .und, .und, .und, .und, .und, .und, .view 7 0 7 1, .int .i64 v56, .int .i64 v57, .und, .und, .und, .und, .und, .und, .und, .und, .und, .und, .und, .und, .und, .und, .und, .und, .und, .und, .und, .und, .und, .und, .und, .und, .und, .und, .und]
noncomputable def M26_1 (v0 v2_0 : List Dat) (v2_1 : Int) (v2_2 : List Dat) (v3 v4 v6_0 v6_1 v6_2 v6_3 v6_4 v6_5 v6_6 : Int) (v6_7 : ByteArray) (v6_8 v6_9 v6_10 v7_0 : List Dat) (v7_1 : Int) (v7_2 v17_0 : List Dat) (v17_1 : Int) (v17_2 v17_3 v17_4 v17_5 : Bool) (v17_6 : Int) (v17_7 : List Dat) (v17_8 v17_9 v56 v57 : Int) : R := lim fun φ => L26_1 (φ 0) (φ 1) v0 v2_0 v2_1 v2_2 v3 v4 v6_0 v6_1 v6_2 v6_3 v6_4 v6_5 v6_6 v6_7 v6_8 v6_9 v6_10 v7_0 v7_1 v7_2 v17_0 v17_1 v17_2 v17_3 v17_4 v17_5 v17_6 v17_7 v17_8 v17_9 v56 v57
theorem M26_1_c (v0 v2_0 : List Dat) (v2_1 : Int) (v2_2 : List Dat) (v3 v4 v6_0 v6_1 v6_2 v6_3 v6_4 v6_5 v6_6 : Int) (v6_7 : ByteArray) (v6_8 v6_9 v6_10 v7_0 : List Dat) (v7_1 : Int) (v7_2 v17_0 : List Dat) (v17_1 : Int) (v17_2 v17_3 v17_4 v17_5 : Bool) (v17_6 : Int) (v17_7 : List Dat) (v17_8 v17_9 v56 v57 : Int) : Cont (fun φ => L26_1 (φ 0) (φ 1) v0 v2_0 v2_1 v2_2 v3 v4 v6_0 v6_1 v6_2 v6_3 v6_4 v6_5 v6_6 v6_7 v6_8 v6_9 v6_10 v7_0 v7_1 v7_2 v17_0 v17_1 v17_2 v17_3 v17_4 v17_5 v17_6 v17_7 v17_8 v17_9 v56 v57) (M26_1 v0 v2_0 v2_1 v2_2 v3 v4 v6_0 v6_1 v6_2 v6_3 v6_4 v6_5 v6_6 v6_7 v6_8 v6_9 v6_10 v7_0 v7_1 v7_2 v17_0 v17_1 v17_2 v17_3 v17_4 v17_5 v17_6 v17_7 v17_8 v17_9 v56 v57) := Cont.re id _
theorem M26_1_e (v0 v2_0 : List Dat) (v2_1 : Int) (v2_2 : List Dat) (v3 v4 v6_0 v6_1 v6_2 v6_3 v6_4 v6_5 v6_6 : Int) (v6_7 : ByteArray) (v6_8 v6_9 v6_10 v7_0 : List Dat) (v7_1 : Int) (v7_2 v17_0 : List Dat) (v17_1 : Int) (v17_2 v17_3 v17_4 v17_5 : Bool) (v17_6 : Int) (v17_7 : List Dat) (v17_8 v17_9 v56 v57 : Int) : Cont (fun φ => L26_1 (φ 0) (φ 0) v0 v2_0 v2_1 v2_2 v3 v4 v6_0 v6_1 v6_2 v6_3 v6_4 v6_5 v6_6 v6_7 v6_8 v6_9 v6_10 v7_0 v7_1 v7_2 v17_0 v17_1 v17_2 v17_3 v17_4 v17_5 v17_6 v17_7 v17_8 v17_9 v56 v57) (M26_1 v0 v2_0 v2_1 v2_2 v3 v4 v6_0 v6_1 v6_2 v6_3 v6_4 v6_5 v6_6 v6_7 v6_8 v6_9 v6_10 v7_0 v7_1 v7_2 v17_0 v17_1 v17_2 v17_3 v17_4 v17_5 v17_6 v17_7 v17_8 v17_9 v56 v57) := Cont.re (toZ 1) fun φ => L26_1 (φ 0) (φ 1) v0 v2_0 v2_1 v2_2 v3 v4 v6_0 v6_1 v6_2 v6_3 v6_4 v6_5 v6_6 v6_7 v6_8 v6_9 v6_10 v7_0 v7_1 v7_2 v17_0 v17_1 v17_2 v17_3 v17_4 v17_5 v17_6 v17_7 v17_8 v17_9 v56 v57
theorem M26_1_of (v0 v2_0 : List Dat) (v2_1 : Int) (v2_2 : List Dat) (v3 v4 v6_0 v6_1 v6_2 v6_3 v6_4 v6_5 v6_6 : Int) (v6_7 : ByteArray) (v6_8 v6_9 v6_10 v7_0 : List Dat) (v7_1 : Int) (v7_2 v17_0 : List Dat) (v17_1 : Int) (v17_2 v17_3 v17_4 v17_5 : Bool) (v17_6 : Int) (v17_7 : List Dat) (v17_8 v17_9 v56 v57 : Int) {r : List Dat} (h : (bif decide (v57 < v56) then (bif decide (0 ≤ v57) then (bif decide (v57 < (v7_0.length : Int)) then (bif decide (v57.toNat < v7_0.length) then (bif (((rd v7_0 v57.toNat).C 0).I) == 4 then (bif !((((rd v7_0 v57.toNat).C 7).S).toList == ByteArray.empty.toList) then ((E C 70 [.shr 9 v17_7, .str (((rd v7_0 v57.toNat).C 7).S)]).bind fun d5 => (bif decide (0 ≤ v57) then (bif decide (v57 < (v7_0.length : Int)) then (bif decide (v57.toNat < v7_0.length) then (M26_1 v0 v2_0 v2_1 v2_2 v3 v4 v6_0 v6_1 v6_2 v6_3 v6_4 v6_5 v6_6 v6_7 v6_8 v6_9 v6_10 (v7_0.set v57.toNat (.agg [(rd v7_0 v57.toNat).C 0, (rd v7_0 v57.toNat).C 1, (rd v7_0 v57.toNat).C 2, .int (if 0 > ((rd d5 0).I) then 0 else ((rd d5 0).I)), (rd v7_0 v57.toNat).C 4, (rd v7_0 v57.toNat).C 5, (rd v7_0 v57.toNat).C 6, (rd v7_0 v57.toNat).C 7, (rd v7_0 v57.toNat).C 8, (rd v7_0 v57.toNat).C 9])) v7_1 v7_2 v17_0 v17_1 v17_2 v17_3 v17_4 v17_5 v17_6 v17_7 v17_8 v17_9 v56 (IntKind.i64.wrap (v57 + 1))) else none) else none) else none)) else (M26_1 v0 v2_0 v2_1 v2_2 v3 v4 v6_0 v6_1 v6_2 v6_3 v6_4 v6_5 v6_6 v6_7 v6_8 v6_9 v6_10 v7_0 v7_1 v7_2 v17_0 v17_1 v17_2 v17_3 v17_4 v17_5 v17_6 v17_7 v17_8 v17_9 v56 (IntKind.i64.wrap (v57 + 1)))) else (M26_1 v0 v2_0 v2_1 v2_2 v3 v4 v6_0 v6_1 v6_2 v6_3 v6_4 v6_5 v6_6 v6_7 v6_8 v6_9 v6_10 v7_0 v7_1 v7_2 v17_0 v17_1 v17_2 v17_3 v17_4 v17_5 v17_6 v17_7 v17_8 v17_9 v56 (IntKind.i64.wrap (v57 + 1)))) else none) else none) else none) else (some [.agg [.list v7_0, .int v7_1, .list v7_2], .int 0, .int 0]) : R) = some r) : M26_1 v0 v2_0 v2_1 v2_2 v3 v4 v6_0 v6_1 v6_2 v6_3 v6_4 v6_5 v6_6 v6_7 v6_8 v6_9 v6_10 v7_0 v7_1 v7_2 v17_0 v17_1 v17_2 v17_3 v17_4 v17_5 v17_6 v17_7 v17_8 v17_9 v56 v57 = some r := lim_st (g := fun φ => L26_1 (φ 0) (φ 1) v0 v2_0 v2_1 v2_2 v3 v4 v6_0 v6_1 v6_2 v6_3 v6_4 v6_5 v6_6 v6_7 v6_8 v6_9 v6_10 v7_0 v7_1 v7_2 v17_0 v17_1 v17_2 v17_3 v17_4 v17_5 v17_6 v17_7 v17_8 v17_9 v56 v57) 1 h (Cont.bif (Cont.bif (Cont.bif (Cont.bif (Cont.bif (Cont.bif (Cont.bind (Cont.call C 70 _) fun _ => (Cont.bif (Cont.bif (Cont.bif (M26_1_c _ _ _ _ _ _ _ _ _ _ _ _ _ _ _ _ _ _ _ _ _ _ _ _ _ _ _ _ _ _ _ _) Cont.nn) Cont.nn) Cont.nn)) (M26_1_c _ _ _ _ _ _ _ _ _ _ _ _ _ _ _ _ _ _ _ _ _ _ _ _ _ _ _ _ _ _ _ _)) (M26_1_c _ _ _ _ _ _ _ _ _ _ _ _ _ _ _ _ _ _ _ _ _ _ _ _ _ _ _ _ _ _ _ _)) Cont.nn) Cont.nn) Cont.nn) (Cont.const _)) fun φ m hm => (congrArg (fun q => L26_1 (φ 0) q v0 v2_0 v2_1 v2_2 v3 v4 v6_0 v6_1 v6_2 v6_3 v6_4 v6_5 v6_6 v6_7 v6_8 v6_9 v6_10 v7_0 v7_1 v7_2 v17_0 v17_1 v17_2 v17_3 v17_4 v17_5 v17_6 v17_7 v17_8 v17_9 v56 v57) hm).trans (by kernel_rfl)
theorem o26 (a0 : List Dat) {r : List Dat} (h : (bif decide ((a0.length : Int) > 4096) then (some [.agg [.list ([] : List Dat), .int 0, .list ([] : List Dat)], .int 15, .int 0]) else ((E C 66 [.pbox [.shr 5 a0, .int .i64 0, .bool false, .bool false, .bool false, .bool false, .int .i64 0, .own 0 8 9 ([.str ByteArray.empty] : List Dat), .int .i64 0, .int .i64 0], .int .i64 0]).bind fun d1 => ((E C 67 [.pbox [.shr 5 (((rd d1 1).C 0).L), .int .i64 (((rd d1 1).C 1).I), .bool (((rd d1 1).C 2).B), .bool (((rd d1 1).C 3).B), .bool (((rd d1 1).C 4).B), .bool (((rd d1 1).C 5).B), .int .i64 (((rd d1 1).C 6).I), .own 0 8 9 (((rd d1 1).C 7).L), .int .i64 (((rd d1 1).C 8).I), .int .i64 (((rd d1 1).C 9).I)]]).bind fun d2 => (bif !((rd d2 0).B) then ((E C 68 [.pbox [.shr 5 (((rd d2 1).C 0).L), .int .i64 (((rd d2 1).C 1).I), .bool (((rd d2 1).C 2).B), .bool (((rd d2 1).C 3).B), .bool (((rd d2 1).C 4).B), .bool (((rd d2 1).C 5).B), .int .i64 (((rd d2 1).C 6).I), .own 0 8 9 (((rd d2 1).C 7).L), .int .i64 (((rd d2 1).C 8).I), .int .i64 (((rd d2 1).C 9).I)], .int .i64 30, .int .i64 (((rd d2 1).C 1).I)]).bind fun d3 => (bif (((rd d3 0).C 8).I) != 0 then (some [.agg [.list ([] : List Dat), .int 0, .list ([] : List Dat)], .int (((rd d3 0).C 8).I), .int (((rd d3 0).C 9).I)]) else ((E C 69 [.agg [.int .i64 (((rd d1 0).C 0).I), .int .i64 (((rd d1 0).C 1).I), .int .i64 (((rd d1 0).C 2).I), .int .i64 (((rd d1 0).C 3).I), .int .i64 (((rd d1 0).C 4).I), .int .i64 (((rd d1 0).C 5).I), .int .i64 (((rd d1 0).C 6).I), .str (((rd d1 0).C 7).S), .shr 82 (((rd d1 0).C 8).L), .shr 3 (((rd d1 0).C 9).L), .shr 103 (((rd d1 0).C 10).L)], .own 1 0 38 ([] : List Dat)]).bind fun d4 => (M26_1 a0 ([] : List Dat) 0 ([] : List Dat) 0 0 (((rd d1 0).C 0).I) (((rd d1 0).C 1).I) (((rd d1 0).C 2).I) (((rd d1 0).C 3).I) (((rd d1 0).C 4).I) (((rd d1 0).C 5).I) (((rd d1 0).C 6).I) (((rd d1 0).C 7).S) (((rd d1 0).C 8).L) (((rd d1 0).C 9).L) (((rd d1 0).C 10).L) ((rd d4 0).L) (((rd d3 0).C 6).I) (((rd d3 0).C 7).L) (((rd d3 0).C 0).L) (((rd d3 0).C 1).I) (((rd d3 0).C 2).B) (((rd d3 0).C 3).B) (((rd d3 0).C 4).B) (((rd d3 0).C 5).B) (((rd d3 0).C 6).I) (((rd d3 0).C 7).L) (((rd d3 0).C 8).I) (((rd d3 0).C 9).I) (((rd d4 0).L).length : Int) 0)))) else (bif (((rd d2 1).C 8).I) != 0 then (some [.agg [.list ([] : List Dat), .int 0, .list ([] : List Dat)], .int (((rd d2 1).C 8).I), .int (((rd d2 1).C 9).I)]) else ((E C 69 [.agg [.int .i64 (((rd d1 0).C 0).I), .int .i64 (((rd d1 0).C 1).I), .int .i64 (((rd d1 0).C 2).I), .int .i64 (((rd d1 0).C 3).I), .int .i64 (((rd d1 0).C 4).I), .int .i64 (((rd d1 0).C 5).I), .int .i64 (((rd d1 0).C 6).I), .str (((rd d1 0).C 7).S), .shr 82 (((rd d1 0).C 8).L), .shr 3 (((rd d1 0).C 9).L), .shr 103 (((rd d1 0).C 10).L)], .own 1 0 38 ([] : List Dat)]).bind fun d6 => (M26_1 a0 ([] : List Dat) 0 ([] : List Dat) 0 0 (((rd d1 0).C 0).I) (((rd d1 0).C 1).I) (((rd d1 0).C 2).I) (((rd d1 0).C 3).I) (((rd d1 0).C 4).I) (((rd d1 0).C 5).I) (((rd d1 0).C 6).I) (((rd d1 0).C 7).S) (((rd d1 0).C 8).L) (((rd d1 0).C 9).L) (((rd d1 0).C 10).L) ((rd d6 0).L) (((rd d2 1).C 6).I) (((rd d2 1).C 7).L) (((rd d2 1).C 0).L) (((rd d2 1).C 1).I) (((rd d2 1).C 2).B) (((rd d2 1).C 3).B) (((rd d2 1).C 4).B) (((rd d2 1).C 5).B) (((rd d2 1).C 6).I) (((rd d2 1).C 7).L) (((rd d2 1).C 8).I) (((rd d2 1).C 9).I) (((rd d6 0).L).length : Int) 0)))))) : R) = some r) : E C 26 [.shr 5 a0] = some r := E_st h (Cont.bif (Cont.const _) (Cont.bind (Cont.call C 66 _) fun _ => (Cont.bind (Cont.call C 67 _) fun _ => (Cont.bif (Cont.bind (Cont.call C 68 _) fun _ => (Cont.bif (Cont.const _) (Cont.bind (Cont.call C 69 _) fun _ => (M26_1_e _ _ _ _ _ _ _ _ _ _ _ _ _ _ _ _ _ _ _ _ _ _ _ _ _ _ _ _ _ _ _ _)))) (Cont.bif (Cont.const _) (Cont.bind (Cont.call C 69 _) fun _ => (M26_1_e _ _ _ _ _ _ _ _ _ _ _ _ _ _ _ _ _ _ _ _ _ _ _ _ _ _ _ _ _ _ _ _))))))) fun φ => by kernel_rfl
/-- (*clew/parse.parser).alt -/
noncomputable def f66 : Func := Tryz.f66
def kp66 : List Nat := [0, 1, 4, 5, 6]
noncomputable def c66 (p : List Nat) : Code := pick f66 p
noncomputable def L66_1 (n : Nat) (m1 : Nat) (v0_0 : List Dat) (v0_1 : Int) (v0_2 v0_3 v0_4 v0_5 : Bool) (v0_6 : Int) (v0_7 : List Dat) (v0_8 v0_9 v1 v4_0 v4_1 v4_2 v4_3 v4_4 v4_5 v4_6 : Int) (v4_7 : ByteArray) (v4_8 v4_9 v4_10 : List Dat) (v5 : Int) (v6 : List Dat) : R := loopIter (fun E K => evCode C (ev C n) n kp66 (c66 [1, 1, 1, 0, 0, 0]) E K) [0, 1, 4, 5, 6] (Kblk 0 (Kseq C (ev C n) n kp66 (c66 [1, 1, 1, 1]) (Ktop C 66 f66 [.pbox [], .und]))) m1 [.pbox [.shr 5 v0_0, .int .i64 v0_1, .bool v0_2, .bool v0_3, .bool v0_4, .bool v0_5, .int .i64 v0_6, .own 0 8 9 v0_7, .int .i64 v0_8, .int .i64 v0_9], .int .i64 v1, .und, .und, .box 103 [.int .i64 v4_0, .int .i64 v4_1, .int .i64 v4_2, .int .i64 v4_3, .int .i64 v4_4, .int .i64 v4_5, .int .i64 v4_6, .str v4_7, .own 4 9 82 v4_8, .own 4 10 3 v4_9, .own 4 11 103 v4_10], .int .i64 v5, .own 6 0 103 v6, .und, .und, .und, .und, .und, .und, .und, .und, .und, .und, .und, .und, .und, .und, .und, .und, .und, .und, .und, .und, .und, .und, .und, .und, .und, .und, .und, .und, .und, .und, .und, .und, .und, .und, .und, .und, .und, .und, .und, .und, .und, .und, .und, .und, .und, .und, .und]
noncomputable def M66_1 (v0_0 : List Dat) (v0_1 : Int) (v0_2 v0_3 v0_4 v0_5 : Bool) (v0_6 : Int) (v0_7 : List Dat) (v0_8 v0_9 v1 v4_0 v4_1 v4_2 v4_3 v4_4 v4_5 v4_6 : Int) (v4_7 : ByteArray) (v4_8 v4_9 v4_10 : List Dat) (v5 : Int) (v6 : List Dat) : R := lim fun φ => L66_1 (φ 0) (φ 1) v0_0 v0_1 v0_2 v0_3 v0_4 v0_5 v0_6 v0_7 v0_8 v0_9 v1 v4_0 v4_1 v4_2 v4_3 v4_4 v4_5 v4_6 v4_7 v4_8 v4_9 v4_10 v5 v6
theorem M66_1_c (v0_0 : List Dat) (v0_1 : Int) (v0_2 v0_3 v0_4 v0_5 : Bool) (v0_6 : Int) (v0_7 : List Dat) (v0_8 v0_9 v1 v4_0 v4_1 v4_2 v4_3 v4_4 v4_5 v4_6 : Int) (v4_7 : ByteArray) (v4_8 v4_9 v4_10 : List Dat) (v5 : Int) (v6 : List Dat) : Cont (fun φ => L66_1 (φ 0) (φ 1) v0_0 v0_1 v0_2 v0_3 v0_4 v0_5 v0_6 v0_7 v0_8 v0_9 v1 v4_0 v4_1 v4_2 v4_3 v4_4 v4_5 v4_6 v4_7 v4_8 v4_9 v4_10 v5 v6) (M66_1 v0_0 v0_1 v0_2 v0_3 v0_4 v0_5 v0_6 v0_7 v0_8 v0_9 v1 v4_0 v4_1 v4_2 v4_3 v4_4 v4_5 v4_6 v4_7 v4_8 v4_9 v4_10 v5 v6) := Cont.re id _
theorem M66_1_e (v0_0 : List Dat) (v0_1 : Int) (v0_2 v0_3 v0_4 v0_5 : Bool) (v0_6 : Int) (v0_7 : List Dat) (v0_8 v0_9 v1 v4_0 v4_1 v4_2 v4_3 v4_4 v4_5 v4_6 : Int) (v4_7 : ByteArray) (v4_8 v4_9 v4_10 : List Dat) (v5 : Int) (v6 : List Dat) : Cont (fun φ => L66_1 (φ 0) (φ 0) v0_0 v0_1 v0_2 v0_3 v0_4 v0_5 v0_6 v0_7 v0_8 v0_9 v1 v4_0 v4_1 v4_2 v4_3 v4_4 v4_5 v4_6 v4_7 v4_8 v4_9 v4_10 v5 v6) (M66_1 v0_0 v0_1 v0_2 v0_3 v0_4 v0_5 v0_6 v0_7 v0_8 v0_9 v1 v4_0 v4_1 v4_2 v4_3 v4_4 v4_5 v4_6 v4_7 v4_8 v4_9 v4_10 v5 v6) := Cont.re (toZ 1) fun φ => L66_1 (φ 0) (φ 1) v0_0 v0_1 v0_2 v0_3 v0_4 v0_5 v0_6 v0_7 v0_8 v0_9 v1 v4_0 v4_1 v4_2 v4_3 v4_4 v4_5 v4_6 v4_7 v4_8 v4_9 v4_10 v5 v6
theorem M66_1_of (v0_0 : List Dat) (v0_1 : Int) (v0_2 v0_3 v0_4 v0_5 : Bool) (v0_6 : Int) (v0_7 : List Dat) (v0_8 v0_9 v1 v4_0 v4_1 v4_2 v4_3 v4_4 v4_5 v4_6 : Int) (v4_7 : ByteArray) (v4_8 v4_9 v4_10 : List Dat) (v5 : Int) (v6 : List Dat) {r : List Dat} (h : ((E C 67 [.pbox [.shr 5 v0_0, .int .i64 v0_1, .bool v0_2, .bool v0_3, .bool v0_4, .bool v0_5, .int .i64 v0_6, .own 0 8 9 v0_7, .int .i64 v0_8, .int .i64 v0_9]]).bind fun d2 => (bif !((rd d2 0).B) then ((E C 109 [.pbox [.shr 5 (((rd d2 1).C 0).L), .int .i64 (((rd d2 1).C 1).I), .bool (((rd d2 1).C 2).B), .bool (((rd d2 1).C 3).B), .bool (((rd d2 1).C 4).B), .bool (((rd d2 1).C 5).B), .int .i64 (((rd d2 1).C 6).I), .own 0 8 9 (((rd d2 1).C 7).L), .int .i64 (((rd d2 1).C 8).I), .int .i64 (((rd d2 1).C 9).I)], .int .i64 (((rd d2 1).C 1).I)]).bind fun d3 => (bif ((rd d3 0).I) == 124 then ((E C 108 [.pbox [.shr 5 (((rd d3 1).C 0).L), .int .i64 (IntKind.i64.wrap ((((rd d3 1).C 1).I) + 1)), .bool (((rd d3 1).C 2).B), .bool (((rd d3 1).C 3).B), .bool (((rd d3 1).C 4).B), .bool (((rd d3 1).C 5).B), .int .i64 (((rd d3 1).C 6).I), .own 0 8 9 (((rd d3 1).C 7).L), .int .i64 (((rd d3 1).C 8).I), .int .i64 (((rd d3 1).C 9).I)], .int .i64 v1]).bind fun d4 => (bif decide (v6.length + ([.agg [.int (((rd d4 0).C 0).I), .int (((rd d4 0).C 1).I), .int (((rd d4 0).C 2).I), .int (((rd d4 0).C 3).I), .int (((rd d4 0).C 4).I), .int (((rd d4 0).C 5).I), .int (((rd d4 0).C 6).I), .str (((rd d4 0).C 7).S), .list (((rd d4 0).C 8).L), .list (((rd d4 0).C 9).L), .list (((rd d4 0).C 10).L)]] : List Dat).length ≤ capB 144) then (M66_1 (((rd d4 1).C 0).L) (((rd d4 1).C 1).I) (((rd d4 1).C 2).B) (((rd d4 1).C 3).B) (((rd d4 1).C 4).B) (((rd d4 1).C 5).B) (((rd d4 1).C 6).I) (((rd d4 1).C 7).L) (((rd d4 1).C 8).I) (((rd d4 1).C 9).I) v1 v4_0 v4_1 v4_2 v4_3 v4_4 v4_5 v4_6 v4_7 v4_8 v4_9 v4_10 v5 (v6 ++ ([.agg [.int (((rd d4 0).C 0).I), .int (((rd d4 0).C 1).I), .int (((rd d4 0).C 2).I), .int (((rd d4 0).C 3).I), .int (((rd d4 0).C 4).I), .int (((rd d4 0).C 5).I), .int (((rd d4 0).C 6).I), .str (((rd d4 0).C 7).S), .list (((rd d4 0).C 8).L), .list (((rd d4 0).C 9).L), .list (((rd d4 0).C 10).L)]] : List Dat))) else none)) else (bif (v6.length : Int) == 1 then (bif decide (0 < (v6.length : Int)) then (bif decide (0 < v6.length) then (some [.agg [.int (((rd v6 0).C 0).I), .int (((rd v6 0).C 1).I), .int (((rd v6 0).C 2).I), .int (((rd v6 0).C 3).I), .int (((rd v6 0).C 4).I), .int (((rd v6 0).C 5).I), .int (((rd v6 0).C 6).I), .str (((rd v6 0).C 7).S), .list (((rd v6 0).C 8).L), .list (((rd v6 0).C 9).L), .list (((rd v6 0).C 10).L)], .agg [.list (((rd d3 1).C 0).L), .int (((rd d3 1).C 1).I), .bool (((rd d3 1).C 2).B), .bool (((rd d3 1).C 3).B), .bool (((rd d3 1).C 4).B), .bool (((rd d3 1).C 5).B), .int (((rd d3 1).C 6).I), .list (((rd d3 1).C 7).L), .int (((rd d3 1).C 8).I), .int (((rd d3 1).C 9).I)]]) else none) else none) else (some [.agg [.int 6, .int v5, .int (((rd d3 1).C 1).I), .int 0, .int 0, .int 0, .int 0, .str ByteArray.empty, .list ([] : List Dat), .list ([] : List Dat), .list v6], .agg [.list (((rd d3 1).C 0).L), .int (((rd d3 1).C 1).I), .bool (((rd d3 1).C 2).B), .bool (((rd d3 1).C 3).B), .bool (((rd d3 1).C 4).B), .bool (((rd d3 1).C 5).B), .int (((rd d3 1).C 6).I), .list (((rd d3 1).C 7).L), .int (((rd d3 1).C 8).I), .int (((rd d3 1).C 9).I)]])))) else (bif (v6.length : Int) == 1 then (bif decide (0 < (v6.length : Int)) then (bif decide (0 < v6.length) then (some [.agg [.int (((rd v6 0).C 0).I), .int (((rd v6 0).C 1).I), .int (((rd v6 0).C 2).I), .int (((rd v6 0).C 3).I), .int (((rd v6 0).C 4).I), .int (((rd v6 0).C 5).I), .int (((rd v6 0).C 6).I), .str (((rd v6 0).C 7).S), .list (((rd v6 0).C 8).L), .list (((rd v6 0).C 9).L), .list (((rd v6 0).C 10).L)], .agg [.list (((rd d2 1).C 0).L), .int (((rd d2 1).C 1).I), .bool (((rd d2 1).C 2).B), .bool (((rd d2 1).C 3).B), .bool (((rd d2 1).C 4).B), .bool (((rd d2 1).C 5).B), .int (((rd d2 1).C 6).I), .list (((rd d2 1).C 7).L), .int (((rd d2 1).C 8).I), .int (((rd d2 1).C 9).I)]]) else none) else none) else (some [.agg [.int 6, .int v5, .int (((rd d2 1).C 1).I), .int 0, .int 0, .int 0, .int 0, .str ByteArray.empty, .list ([] : List Dat), .list ([] : List Dat), .list v6], .agg [.list (((rd d2 1).C 0).L), .int (((rd d2 1).C 1).I), .bool (((rd d2 1).C 2).B), .bool (((rd d2 1).C 3).B), .bool (((rd d2 1).C 4).B), .bool (((rd d2 1).C 5).B), .int (((rd d2 1).C 6).I), .list (((rd d2 1).C 7).L), .int (((rd d2 1).C 8).I), .int (((rd d2 1).C 9).I)]]))) : R) = some r) : M66_1 v0_0 v0_1 v0_2 v0_3 v0_4 v0_5 v0_6 v0_7 v0_8 v0_9 v1 v4_0 v4_1 v4_2 v4_3 v4_4 v4_5 v4_6 v4_7 v4_8 v4_9 v4_10 v5 v6 = some r := lim_st (g := fun φ => L66_1 (φ 0) (φ 1) v0_0 v0_1 v0_2 v0_3 v0_4 v0_5 v0_6 v0_7 v0_8 v0_9 v1 v4_0 v4_1 v4_2 v4_3 v4_4 v4_5 v4_6 v4_7 v4_8 v4_9 v4_10 v5 v6) 1 h (Cont.bind (Cont.call C 67 _) fun _ => (Cont.bif (Cont.bind (Cont.call C 109 _) fun _ => (Cont.bif (Cont.bind (Cont.call C 108 _) fun _ => (Cont.bif (M66_1_c _ _ _ _ _ _ _ _ _ _ _ _ _ _ _ _ _ _ _ _ _ _ _ _) Cont.nn)) (Cont.bif (Cont.bif (Cont.bif (Cont.const _) Cont.nn) Cont.nn) (Cont.const _)))) (Cont.bif (Cont.bif (Cont.bif (Cont.const _) Cont.nn) Cont.nn) (Cont.const _)))) fun φ m hm => (congrArg (fun q => L66_1 (φ 0) q v0_0 v0_1 v0_2 v0_3 v0_4 v0_5 v0_6 v0_7 v0_8 v0_9 v1 v4_0 v4_1 v4_2 v4_3 v4_4 v4_5 v4_6 v4_7 v4_8 v4_9 v4_10 v5 v6) hm).trans (by kernel_rfl)
theorem o66 (p0_0 : List Dat) (p0_1 : Int) (p0_2 p0_3 p0_4 p0_5 : Bool) (p0_6 : Int) (p0_7 : List Dat) (p0_8 p0_9 a1 : Int) {r : List Dat} (h : ((E C 108 [.pbox [.shr 5 p0_0, .int .i64 p0_1, .bool p0_2, .bool p0_3, .bool p0_4, .bool p0_5, .int .i64 p0_6, .own 0 8 9 p0_7, .int .i64 p0_8, .int .i64 p0_9], .int .i64 a1]).bind fun d1 => (M66_1 (((rd d1 1).C 0).L) (((rd d1 1).C 1).I) (((rd d1 1).C 2).B) (((rd d1 1).C 3).B) (((rd d1 1).C 4).B) (((rd d1 1).C 5).B) (((rd d1 1).C 6).I) (((rd d1 1).C 7).L) (((rd d1 1).C 8).I) (((rd d1 1).C 9).I) a1 0 0 0 0 0 0 0 ByteArray.empty ([] : List Dat) ([] : List Dat) ([] : List Dat) p0_1 ([.agg [.int (((rd d1 0).C 0).I), .int (((rd d1 0).C 1).I), .int (((rd d1 0).C 2).I), .int (((rd d1 0).C 3).I), .int (((rd d1 0).C 4).I), .int (((rd d1 0).C 5).I), .int (((rd d1 0).C 6).I), .str (((rd d1 0).C 7).S), .list (((rd d1 0).C 8).L), .list (((rd d1 0).C 9).L), .list (((rd d1 0).C 10).L)]] : List Dat)) : R) = some r) : E C 66 [.pbox [.shr 5 p0_0, .int .i64 p0_1, .bool p0_2, .bool p0_3, .bool p0_4, .bool p0_5, .int .i64 p0_6, .own 0 8 9 p0_7, .int .i64 p0_8, .int .i64 p0_9], .int .i64 a1] = some r := E_st h (Cont.bind (Cont.call C 108 _) fun _ => (M66_1_e _ _ _ _ _ _ _ _ _ _ _ _ _ _ _ _ _ _ _ _ _ _ _ _)) fun φ => by kernel_rfl
theorem o67 (p0_0 : List Dat) (p0_1 : Int) (p0_2 p0_3 p0_4 p0_5 : Bool) (p0_6 : Int) (p0_7 : List Dat) (p0_8 p0_9 : Int) {r : List Dat} (h : (bif p0_8 != 0 then (some [.bool true, .agg [.list p0_0, .int p0_1, .bool p0_2, .bool p0_3, .bool p0_4, .bool p0_5, .int p0_6, .list p0_7, .int p0_8, .int p0_9]]) else (some [.bool (decide (p0_1 ≥ (p0_0.length : Int))), .agg [.list p0_0, .int p0_1, .bool p0_2, .bool p0_3, .bool p0_4, .bool p0_5, .int p0_6, .list p0_7, .int p0_8, .int p0_9]]) : R) = some r) : E C 67 [.pbox [.shr 5 p0_0, .int .i64 p0_1, .bool p0_2, .bool p0_3, .bool p0_4, .bool p0_5, .int .i64 p0_6, .own 0 8 9 p0_7, .int .i64 p0_8, .int .i64 p0_9]] = some r := E_st h (Cont.bif (Cont.const _) (Cont.const _)) fun φ => by kernel_rfl
theorem o68 (p0_0 : List Dat) (p0_1 : Int) (p0_2 p0_3 p0_4 p0_5 : Bool) (p0_6 : Int) (p0_7 : List Dat) (p0_8 p0_9 a1 a2 : Int) {r : List Dat} (h : (bif p0_8 == 0 then (some [.agg [.list p0_0, .int p0_1, .bool p0_2, .bool p0_3, .bool p0_4, .bool p0_5, .int p0_6, .list p0_7, .int a1, .int a2]]) else (some [.agg [.list p0_0, .int p0_1, .bool p0_2, .bool p0_3, .bool p0_4, .bool p0_5, .int p0_6, .list p0_7, .int p0_8, .int p0_9]]) : R) = some r) : E C 68 [.pbox [.shr 5 p0_0, .int .i64 p0_1, .bool p0_2, .bool p0_3, .bool p0_4, .bool p0_5, .int .i64 p0_6, .own 0 8 9 p0_7, .int .i64 p0_8, .int .i64 p0_9], .int .i64 a1, .int .i64 a2] = some r := E_st h (Cont.bif (Cont.const _) (Cont.const _)) fun φ => by kernel_rfl
/-- clew/parse.number -/
noncomputable def f69 : Func := Tryz.f69
def kp69 : List Nat := [0, 1, 2, 4, 5, 6, 8, 17, 18, 19]
noncomputable def c69 (p : List Nat) : Code := pick f69 p
noncomputable def L69_1 (n : Nat) (m1 : Nat) (v0_0 v0_1 v0_2 v0_3 v0_4 v0_5 v0_6 : Int) (v0_7 : ByteArray) (v0_8 v0_9 v0_10 v1 : List Dat) (v2_0 v2_1 v2_2 v2_3 v2_4 v2_5 v2_6 : Int) (v2_7 : ByteArray) (v2_8 v2_9 v2_10 v4 : List Dat) (v5 : Int) (v6 v17 : List Dat) (v18 v19 : Int) : R := loopIter (fun E K => evCode C (ev C n) n kp69 (c69 [1, 1, 1, 1, 0, 1, 0, 0]) E K) [0, 1, 2, 4, 5, 6, 17, 18, 19] (Kblk 0 (Kseq C (ev C n) n kp69 (c69 [1, 1, 1, 1, 1]) (Ktop C 69 f69 [.und, .und]))) m1 [.agg [.int .i64 v0_0, .int .i64 v0_1, .int .i64 v0_2, .int .i64 v0_3, .int .i64 v0_4, .int .i64 v0_5, .int .i64 v0_6, .str v0_7, .shr 82 v0_8, .shr 3 v0_9, .shr 103 v0_10], .own 1 0 38 v1, .box 103 [.int .i64 v2_0, .int .i64 v2_1, .int .i64 v2_2, .int .i64 v2_3, .int .i64 v2_4, .int .i64 v2_5, .int .i64 v2_6, .str v2_7, .shr 82 v2_8, .shr 3 v2_9, .shr 103 v2_10], .und, .own 4 0 38 v4, .int .i64 v5, .own 6 0 3 v6, .und, .und, .und, .und, .und, .und, .und, .und, .und, .und, .shr 103 v17, .int .i64 v18, .int .i64 v19, .und, .und, .und, .und, .und, .und, .und, .und, .und, .und, .und, .und, .und, .und, .und, .und, .und, .und]
noncomputable def M69_1 (v0_0 v0_1 v0_2 v0_3 v0_4 v0_5 v0_6 : Int) (v0_7 : ByteArray) (v0_8 v0_9 v0_10 v1 : List Dat) (v2_0 v2_1 v2_2 v2_3 v2_4 v2_5 v2_6 : Int) (v2_7 : ByteArray) (v2_8 v2_9 v2_10 v4 : List Dat) (v5 : Int) (v6 v17 : List Dat) (v18 v19 : Int) : R := lim fun φ => L69_1 (φ 0) (φ 1) v0_0 v0_1 v0_2 v0_3 v0_4 v0_5 v0_6 v0_7 v0_8 v0_9 v0_10 v1 v2_0 v2_1 v2_2 v2_3 v2_4 v2_5 v2_6 v2_7 v2_8 v2_9 v2_10 v4 v5 v6 v17 v18 v19
theorem M69_1_c (v0_0 v0_1 v0_2 v0_3 v0_4 v0_5 v0_6 : Int) (v0_7 : ByteArray) (v0_8 v0_9 v0_10 v1 : List Dat) (v2_0 v2_1 v2_2 v2_3 v2_4 v2_5 v2_6 : Int) (v2_7 : ByteArray) (v2_8 v2_9 v2_10 v4 : List Dat) (v5 : Int) (v6 v17 : List Dat) (v18 v19 : Int) : Cont (fun φ => L69_1 (φ 0) (φ 1) v0_0 v0_1 v0_2 v0_3 v0_4 v0_5 v0_6 v0_7 v0_8 v0_9 v0_10 v1 v2_0 v2_1 v2_2 v2_3 v2_4 v2_5 v2_6 v2_7 v2_8 v2_9 v2_10 v4 v5 v6 v17 v18 v19) (M69_1 v0_0 v0_1 v0_2 v0_3 v0_4 v0_5 v0_6 v0_7 v0_8 v0_9 v0_10 v1 v2_0 v2_1 v2_2 v2_3 v2_4 v2_5 v2_6 v2_7 v2_8 v2_9 v2_10 v4 v5 v6 v17 v18 v19) := Cont.re id _
theorem M69_1_e (v0_0 v0_1 v0_2 v0_3 v0_4 v0_5 v0_6 : Int) (v0_7 : ByteArray) (v0_8 v0_9 v0_10 v1 : List Dat) (v2_0 v2_1 v2_2 v2_3 v2_4 v2_5 v2_6 : Int) (v2_7 : ByteArray) (v2_8 v2_9 v2_10 v4 : List Dat) (v5 : Int) (v6 v17 : List Dat) (v18 v19 : Int) : Cont (fun φ => L69_1 (φ 0) (φ 0) v0_0 v0_1 v0_2 v0_3 v0_4 v0_5 v0_6 v0_7 v0_8 v0_9 v0_10 v1 v2_0 v2_1 v2_2 v2_3 v2_4 v2_5 v2_6 v2_7 v2_8 v2_9 v2_10 v4 v5 v6 v17 v18 v19) (M69_1 v0_0 v0_1 v0_2 v0_3 v0_4 v0_5 v0_6 v0_7 v0_8 v0_9 v0_10 v1 v2_0 v2_1 v2_2 v2_3 v2_4 v2_5 v2_6 v2_7 v2_8 v2_9 v2_10 v4 v5 v6 v17 v18 v19) := Cont.re (toZ 1) fun φ => L69_1 (φ 0) (φ 1) v0_0 v0_1 v0_2 v0_3 v0_4 v0_5 v0_6 v0_7 v0_8 v0_9 v0_10 v1 v2_0 v2_1 v2_2 v2_3 v2_4 v2_5 v2_6 v2_7 v2_8 v2_9 v2_10 v4 v5 v6 v17 v18 v19
theorem M69_1_of (v0_0 v0_1 v0_2 v0_3 v0_4 v0_5 v0_6 : Int) (v0_7 : ByteArray) (v0_8 v0_9 v0_10 v1 : List Dat) (v2_0 v2_1 v2_2 v2_3 v2_4 v2_5 v2_6 : Int) (v2_7 : ByteArray) (v2_8 v2_9 v2_10 v4 : List Dat) (v5 : Int) (v6 v17 : List Dat) (v18 v19 : Int) {r : List Dat} (h : (bif decide (v19 < v18) then (bif decide (0 ≤ v19) then (bif decide (v19 < (v17.length : Int)) then (bif decide (v19.toNat < v17.length) then (bif decide (v6.length + ([.int (v1.length : Int)] : List Dat).length ≤ capB 8) then ((E C 69 [.agg [.int .i64 (((rd v17 v19.toNat).C 0).I), .int .i64 (((rd v17 v19.toNat).C 1).I), .int .i64 (((rd v17 v19.toNat).C 2).I), .int .i64 (((rd v17 v19.toNat).C 3).I), .int .i64 (((rd v17 v19.toNat).C 4).I), .int .i64 (((rd v17 v19.toNat).C 5).I), .int .i64 (((rd v17 v19.toNat).C 6).I), .str (((rd v17 v19.toNat).C 7).S), .shr 82 (((rd v17 v19.toNat).C 8).L), .shr 3 (((rd v17 v19.toNat).C 9).L), .shr 103 (((rd v17 v19.toNat).C 10).L)], .own 1 0 38 v1]).bind fun d1 => (M69_1 v0_0 v0_1 v0_2 v0_3 v0_4 v0_5 v0_6 v0_7 v0_8 v0_9 v0_10 ((rd d1 0).L) v2_0 v2_1 v2_2 v2_3 v2_4 v2_5 v2_6 v2_7 v2_8 v2_9 v2_10 v4 v5 (v6 ++ ([.int (v1.length : Int)] : List Dat)) v17 v18 (IntKind.i64.wrap (v19 + 1)))) else none) else none) else none) else none) else (bif decide (0 ≤ v5) then (bif decide (v5 < (v1.length : Int)) then (bif decide (v5.toNat < v1.length) then (some [.list (v1.set v5.toNat (.agg [(rd v1 v5.toNat).C 0, (rd v1 v5.toNat).C 1, (rd v1 v5.toNat).C 2, (rd v1 v5.toNat).C 3, (rd v1 v5.toNat).C 4, (rd v1 v5.toNat).C 5, (rd v1 v5.toNat).C 6, (rd v1 v5.toNat).C 7, (rd v1 v5.toNat).C 8, .list v6]))]) else none) else none) else none) : R) = some r) : M69_1 v0_0 v0_1 v0_2 v0_3 v0_4 v0_5 v0_6 v0_7 v0_8 v0_9 v0_10 v1 v2_0 v2_1 v2_2 v2_3 v2_4 v2_5 v2_6 v2_7 v2_8 v2_9 v2_10 v4 v5 v6 v17 v18 v19 = some r := lim_st (g := fun φ => L69_1 (φ 0) (φ 1) v0_0 v0_1 v0_2 v0_3 v0_4 v0_5 v0_6 v0_7 v0_8 v0_9 v0_10 v1 v2_0 v2_1 v2_2 v2_3 v2_4 v2_5 v2_6 v2_7 v2_8 v2_9 v2_10 v4 v5 v6 v17 v18 v19) 1 h (Cont.bif (Cont.bif (Cont.bif (Cont.bif (Cont.bif (Cont.bind (Cont.call C 69 _) fun _ => (M69_1_c _ _ _ _ _ _ _ _ _ _ _ _ _ _ _ _ _ _ _ _ _ _ _ _ _ _ _ _ _)) Cont.nn) Cont.nn) Cont.nn) Cont.nn) (Cont.bif (Cont.bif (Cont.bif (Cont.const _) Cont.nn) Cont.nn) Cont.nn)) fun φ m hm => (congrArg (fun q => L69_1 (φ 0) q v0_0 v0_1 v0_2 v0_3 v0_4 v0_5 v0_6 v0_7 v0_8 v0_9 v0_10 v1 v2_0 v2_1 v2_2 v2_3 v2_4 v2_5 v2_6 v2_7 v2_8 v2_9 v2_10 v4 v5 v6 v17 v18 v19) hm).trans (by kernel_rfl)
theorem o69 (a0_0 a0_1 a0_2 a0_3 a0_4 a0_5 a0_6 : Int) (a0_7 : ByteArray) (a0_8 a0_9 a0_10 a1 : List Dat) {r : List Dat} (h : (bif decide (a1.length + ([.agg [.int a0_0, .int a0_1, .int a0_2, .int a0_3, .int a0_4, .int a0_5, .int a0_6, .str a0_7, .list a0_8, .list a0_9]] : List Dat).length ≤ capB 120) then (M69_1 a0_0 a0_1 a0_2 a0_3 a0_4 a0_5 a0_6 a0_7 a0_8 a0_9 a0_10 (a1 ++ ([.agg [.int a0_0, .int a0_1, .int a0_2, .int a0_3, .int a0_4, .int a0_5, .int a0_6, .str a0_7, .list a0_8, .list a0_9]] : List Dat)) a0_0 a0_1 a0_2 a0_3 a0_4 a0_5 a0_6 a0_7 a0_8 a0_9 a0_10 ([] : List Dat) (a1.length : Int) ([] : List Dat) a0_10 (a0_10.length : Int) 0) else none : R) = some r) : E C 69 [.agg [.int .i64 a0_0, .int .i64 a0_1, .int .i64 a0_2, .int .i64 a0_3, .int .i64 a0_4, .int .i64 a0_5, .int .i64 a0_6, .str a0_7, .shr 82 a0_8, .shr 3 a0_9, .shr 103 a0_10], .own 1 0 38 a1] = some r := E_st h (Cont.bif (M69_1_e _ _ _ _ _ _ _ _ _ _ _ _ _ _ _ _ _ _ _ _ _ _ _ _ _ _ _ _ _) Cont.nn) fun φ => by kernel_rfl
/-- (*clew/parse.parser).row -/
noncomputable def f108 : Func := Tryz.f108
def kp108 : List Nat := [0, 1, 4, 5, 6, 20]
noncomputable def c108 (p : List Nat) : Code := pick f108 p
noncomputable def L108_1 (n : Nat) (m1 : Nat) (v0_0 : List Dat) (v0_1 : Int) (v0_2 v0_3 v0_4 v0_5 : Bool) (v0_6 : Int) (v0_7 : List Dat) (v0_8 v0_9 v1 v4_0 v4_1 v4_2 v4_3 v4_4 v4_5 v4_6 : Int) (v4_7 : ByteArray) (v4_8 v4_9 v4_10 : List Dat) (v5 : Int) (v6 : List Dat) : R := loopIter (fun E K => evCode C (ev C n) n kp108 (c108 [1, 1, 1, 0, 0, 0]) E K) [0, 1, 4, 5, 6] (Kblk 0 (Kseq C (ev C n) n kp108 (c108 [1, 1, 1, 1]) (Ktop C 108 f108 [.pbox [], .und]))) m1 [.pbox [.shr 5 v0_0, .int .i64 v0_1, .bool v0_2, .bool v0_3, .bool v0_4, .bool v0_5, .int .i64 v0_6, .own 0 8 9 v0_7, .int .i64 v0_8, .int .i64 v0_9], .int .i64 v1, .und, .und, .box 103 [.int .i64 v4_0, .int .i64 v4_1, .int .i64 v4_2, .int .i64 v4_3, .int .i64 v4_4, .int .i64 v4_5, .int .i64 v4_6, .str v4_7, .own 4 9 82 v4_8, .own 4 10 3 v4_9, .own 4 11 103 v4_10], .int .i64 v5, .own 6 0 103 v6, .und, .und, .und, .und, .und, .und, .und, .und, .und, .und, .und, .und, .und, .und, .und, .und, .und, .und, .und, .und, .und, .und, .und, .und, .und, .und, .und, .und, .und, .und, .und, .und, .und, .und, .und, .und, .und, .und, .und, .und, .und]
noncomputable def M108_1 (v0_0 : List Dat) (v0_1 : Int) (v0_2 v0_3 v0_4 v0_5 : Bool) (v0_6 : Int) (v0_7 : List Dat) (v0_8 v0_9 v1 v4_0 v4_1 v4_2 v4_3 v4_4 v4_5 v4_6 : Int) (v4_7 : ByteArray) (v4_8 v4_9 v4_10 : List Dat) (v5 : Int) (v6 : List Dat) : R := lim fun φ => L108_1 (φ 0) (φ 1) v0_0 v0_1 v0_2 v0_3 v0_4 v0_5 v0_6 v0_7 v0_8 v0_9 v1 v4_0 v4_1 v4_2 v4_3 v4_4 v4_5 v4_6 v4_7 v4_8 v4_9 v4_10 v5 v6
theorem M108_1_c (v0_0 : List Dat) (v0_1 : Int) (v0_2 v0_3 v0_4 v0_5 : Bool) (v0_6 : Int) (v0_7 : List Dat) (v0_8 v0_9 v1 v4_0 v4_1 v4_2 v4_3 v4_4 v4_5 v4_6 : Int) (v4_7 : ByteArray) (v4_8 v4_9 v4_10 : List Dat) (v5 : Int) (v6 : List Dat) : Cont (fun φ => L108_1 (φ 0) (φ 1) v0_0 v0_1 v0_2 v0_3 v0_4 v0_5 v0_6 v0_7 v0_8 v0_9 v1 v4_0 v4_1 v4_2 v4_3 v4_4 v4_5 v4_6 v4_7 v4_8 v4_9 v4_10 v5 v6) (M108_1 v0_0 v0_1 v0_2 v0_3 v0_4 v0_5 v0_6 v0_7 v0_8 v0_9 v1 v4_0 v4_1 v4_2 v4_3 v4_4 v4_5 v4_6 v4_7 v4_8 v4_9 v4_10 v5 v6) := Cont.re id _
theorem M108_1_e (v0_0 : List Dat) (v0_1 : Int) (v0_2 v0_3 v0_4 v0_5 : Bool) (v0_6 : Int) (v0_7 : List Dat) (v0_8 v0_9 v1 v4_0 v4_1 v4_2 v4_3 v4_4 v4_5 v4_6 : Int) (v4_7 : ByteArray) (v4_8 v4_9 v4_10 : List Dat) (v5 : Int) (v6 : List Dat) : Cont (fun φ => L108_1 (φ 0) (φ 0) v0_0 v0_1 v0_2 v0_3 v0_4 v0_5 v0_6 v0_7 v0_8 v0_9 v1 v4_0 v4_1 v4_2 v4_3 v4_4 v4_5 v4_6 v4_7 v4_8 v4_9 v4_10 v5 v6) (M108_1 v0_0 v0_1 v0_2 v0_3 v0_4 v0_5 v0_6 v0_7 v0_8 v0_9 v1 v4_0 v4_1 v4_2 v4_3 v4_4 v4_5 v4_6 v4_7 v4_8 v4_9 v4_10 v5 v6) := Cont.re (toZ 1) fun φ => L108_1 (φ 0) (φ 1) v0_0 v0_1 v0_2 v0_3 v0_4 v0_5 v0_6 v0_7 v0_8 v0_9 v1 v4_0 v4_1 v4_2 v4_3 v4_4 v4_5 v4_6 v4_7 v4_8 v4_9 v4_10 v5 v6
theorem M108_1_of (v0_0 : List Dat) (v0_1 : Int) (v0_2 v0_3 v0_4 v0_5 : Bool) (v0_6 : Int) (v0_7 : List Dat) (v0_8 v0_9 v1 v4_0 v4_1 v4_2 v4_3 v4_4 v4_5 v4_6 : Int) (v4_7 : ByteArray) (v4_8 v4_9 v4_10 : List Dat) (v5 : Int) (v6 : List Dat) {r : List Dat} (h : ((E C 147 [.pbox [.shr 5 v0_0, .int .i64 v0_1, .bool v0_2, .bool v0_3, .bool v0_4, .bool v0_5, .int .i64 v0_6, .own 0 8 9 v0_7, .int .i64 v0_8, .int .i64 v0_9]]).bind fun d1 => (bif !((rd d1 0).B) then ((E C 148 [.pbox [.shr 5 (((rd d1 1).C 0).L), .int .i64 (((rd d1 1).C 1).I), .bool (((rd d1 1).C 2).B), .bool (((rd d1 1).C 3).B), .bool (((rd d1 1).C 4).B), .bool (((rd d1 1).C 5).B), .int .i64 (((rd d1 1).C 6).I), .own 0 8 9 (((rd d1 1).C 7).L), .int .i64 (((rd d1 1).C 8).I), .int .i64 (((rd d1 1).C 9).I)], .int .i64 v1]).bind fun d2 => (bif decide (v6.length + ((rd d2 0).L).length ≤ capB 144) then (M108_1 (((rd d2 1).C 0).L) (((rd d2 1).C 1).I) (((rd d2 1).C 2).B) (((rd d2 1).C 3).B) (((rd d2 1).C 4).B) (((rd d2 1).C 5).B) (((rd d2 1).C 6).I) (((rd d2 1).C 7).L) (((rd d2 1).C 8).I) (((rd d2 1).C 9).I) v1 v4_0 v4_1 v4_2 v4_3 v4_4 v4_5 v4_6 v4_7 v4_8 v4_9 v4_10 v5 (v6 ++ ((rd d2 0).L))) else none)) else (bif (v6.length : Int) == 0 then (some [.agg [.int 1, .int v5, .int v5, .int 0, .int 0, .int 0, .int 0, .str ByteArray.empty, .list ([] : List Dat), .list ([] : List Dat), .list ([] : List Dat)], .agg [.list (((rd d1 1).C 0).L), .int (((rd d1 1).C 1).I), .bool (((rd d1 1).C 2).B), .bool (((rd d1 1).C 3).B), .bool (((rd d1 1).C 4).B), .bool (((rd d1 1).C 5).B), .int (((rd d1 1).C 6).I), .list (((rd d1 1).C 7).L), .int (((rd d1 1).C 8).I), .int (((rd d1 1).C 9).I)]]) else (bif (v6.length : Int) == 1 then (bif decide (0 < (v6.length : Int)) then (bif decide (0 < v6.length) then (some [.agg [.int (((rd v6 0).C 0).I), .int (((rd v6 0).C 1).I), .int (((rd v6 0).C 2).I), .int (((rd v6 0).C 3).I), .int (((rd v6 0).C 4).I), .int (((rd v6 0).C 5).I), .int (((rd v6 0).C 6).I), .str (((rd v6 0).C 7).S), .list (((rd v6 0).C 8).L), .list (((rd v6 0).C 9).L), .list (((rd v6 0).C 10).L)], .agg [.list (((rd d1 1).C 0).L), .int (((rd d1 1).C 1).I), .bool (((rd d1 1).C 2).B), .bool (((rd d1 1).C 3).B), .bool (((rd d1 1).C 4).B), .bool (((rd d1 1).C 5).B), .int (((rd d1 1).C 6).I), .list (((rd d1 1).C 7).L), .int (((rd d1 1).C 8).I), .int (((rd d1 1).C 9).I)]]) else none) else none) else (bif decide (0 < (v6.length : Int)) then (bif decide (0 < v6.length) then (bif decide (0 ≤ (IntKind.i64.wrap ((v6.length : Int) - 1))) then (bif decide ((IntKind.i64.wrap ((v6.length : Int) - 1)) < (v6.length : Int)) then (bif decide ((IntKind.i64.wrap ((v6.length : Int) - 1)).toNat < v6.length) then (some [.agg [.int 5, .int (((rd v6 0).C 1).I), .int (((rd v6 ((IntKind.i64.wrap ((v6.length : Int) - 1)).toNat)).C 2).I), .int 0, .int 0, .int 0, .int 0, .str ByteArray.empty, .list ([] : List Dat), .list ([] : List Dat), .list v6], .agg [.list (((rd d1 1).C 0).L), .int (((rd d1 1).C 1).I), .bool (((rd d1 1).C 2).B), .bool (((rd d1 1).C 3).B), .bool (((rd d1 1).C 4).B), .bool (((rd d1 1).C 5).B), .int (((rd d1 1).C 6).I), .list (((rd d1 1).C 7).L), .int (((rd d1 1).C 8).I), .int (((rd d1 1).C 9).I)]]) else none) else none) else none) else none) else none)))) : R) = some r) : M108_1 v0_0 v0_1 v0_2 v0_3 v0_4 v0_5 v0_6 v0_7 v0_8 v0_9 v1 v4_0 v4_1 v4_2 v4_3 v4_4 v4_5 v4_6 v4_7 v4_8 v4_9 v4_10 v5 v6 = some r := lim_st (g := fun φ => L108_1 (φ 0) (φ 1) v0_0 v0_1 v0_2 v0_3 v0_4 v0_5 v0_6 v0_7 v0_8 v0_9 v1 v4_0 v4_1 v4_2 v4_3 v4_4 v4_5 v4_6 v4_7 v4_8 v4_9 v4_10 v5 v6) 1 h (Cont.bind (Cont.call C 147 _) fun _ => (Cont.bif (Cont.bind (Cont.call C 148 _) fun _ => (Cont.bif (M108_1_c _ _ _ _ _ _ _ _ _ _ _ _ _ _ _ _ _ _ _ _ _ _ _ _) Cont.nn)) (Cont.bif (Cont.const _) (Cont.bif (Cont.bif (Cont.bif (Cont.const _) Cont.nn) Cont.nn) (Cont.bif (Cont.bif (Cont.bif (Cont.bif (Cont.bif (Cont.const _) Cont.nn) Cont.nn) Cont.nn) Cont.nn) Cont.nn))))) fun φ m hm => (congrArg (fun q => L108_1 (φ 0) q v0_0 v0_1 v0_2 v0_3 v0_4 v0_5 v0_6 v0_7 v0_8 v0_9 v1 v4_0 v4_1 v4_2 v4_3 v4_4 v4_5 v4_6 v4_7 v4_8 v4_9 v4_10 v5 v6) hm).trans (by kernel_rfl)
theorem o108 (p0_0 : List Dat) (p0_1 : Int) (p0_2 p0_3 p0_4 p0_5 : Bool) (p0_6 : Int) (p0_7 : List Dat) (p0_8 p0_9 a1 : Int) {r : List Dat} (h : (M108_1 p0_0 p0_1 p0_2 p0_3 p0_4 p0_5 p0_6 p0_7 p0_8 p0_9 a1 0 0 0 0 0 0 0 ByteArray.empty ([] : List Dat) ([] : List Dat) ([] : List Dat) p0_1 ([] : List Dat) : R) = some r) : E C 108 [.pbox [.shr 5 p0_0, .int .i64 p0_1, .bool p0_2, .bool p0_3, .bool p0_4, .bool p0_5, .int .i64 p0_6, .own 0 8 9 p0_7, .int .i64 p0_8, .int .i64 p0_9], .int .i64 a1] = some r := E_st h (M108_1_e _ _ _ _ _ _ _ _ _ _ _ _ _ _ _ _ _ _ _ _ _ _ _ _) fun φ => by kernel_rfl
theorem o109 (p0_0 : List Dat) (p0_1 : Int) (p0_2 p0_3 p0_4 p0_5 : Bool) (p0_6 : Int) (p0_7 : List Dat) (p0_8 p0_9 a1 : Int) {r : List Dat} (h : (bif decide (a1 ≥ (p0_0.length : Int)) then (some [.int 0, .agg [.list p0_0, .int p0_1, .bool p0_2, .bool p0_3, .bool p0_4, .bool p0_5, .int p0_6, .list p0_7, .int p0_8, .int p0_9]]) else (bif decide (0 ≤ a1) then (bif decide (a1 < (p0_0.length : Int)) then (bif decide (a1.toNat < p0_0.length) then (some [.int ((rd p0_0 a1.toNat).I), .agg [.list p0_0, .int p0_1, .bool p0_2, .bool p0_3, .bool p0_4, .bool p0_5, .int p0_6, .list p0_7, .int p0_8, .int p0_9]]) else none) else none) else none) : R) = some r) : E C 109 [.pbox [.shr 5 p0_0, .int .i64 p0_1, .bool p0_2, .bool p0_3, .bool p0_4, .bool p0_5, .int .i64 p0_6, .own 0 8 9 p0_7, .int .i64 p0_8, .int .i64 p0_9], .int .i64 a1] = some r := E_st h (Cont.bif (Cont.const _) (Cont.bif (Cont.bif (Cont.bif (Cont.const _) Cont.nn) Cont.nn) Cont.nn)) fun φ => by kernel_rfl
theorem o147 (p0_0 : List Dat) (p0_1 : Int) (p0_2 p0_3 p0_4 p0_5 : Bool) (p0_6 : Int) (p0_7 : List Dat) (p0_8 p0_9 : Int) {r : List Dat} (h : ((E C 177 [.pbox [.shr 5 p0_0, .int .i64 p0_1, .bool p0_2, .bool p0_3, .bool p0_4, .bool p0_5, .int .i64 p0_6, .own 0 8 9 p0_7, .int .i64 p0_8, .int .i64 p0_9]]).bind fun d1 => ((E C 67 [.pbox [.shr 5 (((rd d1 0).C 0).L), .int .i64 (((rd d1 0).C 1).I), .bool (((rd d1 0).C 2).B), .bool (((rd d1 0).C 3).B), .bool (((rd d1 0).C 4).B), .bool (((rd d1 0).C 5).B), .int .i64 (((rd d1 0).C 6).I), .own 0 8 9 (((rd d1 0).C 7).L), .int .i64 (((rd d1 0).C 8).I), .int .i64 (((rd d1 0).C 9).I)]]).bind fun d2 => (bif (rd d2 0).B then (some [.bool true, .agg [.list (((rd d2 1).C 0).L), .int (((rd d2 1).C 1).I), .bool (((rd d2 1).C 2).B), .bool (((rd d2 1).C 3).B), .bool (((rd d2 1).C 4).B), .bool (((rd d2 1).C 5).B), .int (((rd d2 1).C 6).I), .list (((rd d2 1).C 7).L), .int (((rd d2 1).C 8).I), .int (((rd d2 1).C 9).I)]]) else ((E C 109 [.pbox [.shr 5 (((rd d2 1).C 0).L), .int .i64 (((rd d2 1).C 1).I), .bool (((rd d2 1).C 2).B), .bool (((rd d2 1).C 3).B), .bool (((rd d2 1).C 4).B), .bool (((rd d2 1).C 5).B), .int .i64 (((rd d2 1).C 6).I), .own 0 8 9 (((rd d2 1).C 7).L), .int .i64 (((rd d2 1).C 8).I), .int .i64 (((rd d2 1).C 9).I)], .int .i64 (((rd d2 1).C 1).I)]).bind fun d3 => (bif ((rd d3 0).I) == 124 then (some [.bool true, .agg [.list (((rd d3 1).C 0).L), .int (((rd d3 1).C 1).I), .bool (((rd d3 1).C 2).B), .bool (((rd d3 1).C 3).B), .bool (((rd d3 1).C 4).B), .bool (((rd d3 1).C 5).B), .int (((rd d3 1).C 6).I), .list (((rd d3 1).C 7).L), .int (((rd d3 1).C 8).I), .int (((rd d3 1).C 9).I)]]) else ((E C 109 [.pbox [.shr 5 (((rd d3 1).C 0).L), .int .i64 (((rd d3 1).C 1).I), .bool (((rd d3 1).C 2).B), .bool (((rd d3 1).C 3).B), .bool (((rd d3 1).C 4).B), .bool (((rd d3 1).C 5).B), .int .i64 (((rd d3 1).C 6).I), .own 0 8 9 (((rd d3 1).C 7).L), .int .i64 (((rd d3 1).C 8).I), .int .i64 (((rd d3 1).C 9).I)], .int .i64 (((rd d3 1).C 1).I)]).bind fun d4 => (some [.bool (((rd d4 0).I) == 41), .agg [.list (((rd d4 1).C 0).L), .int (((rd d4 1).C 1).I), .bool (((rd d4 1).C 2).B), .bool (((rd d4 1).C 3).B), .bool (((rd d4 1).C 4).B), .bool (((rd d4 1).C 5).B), .int (((rd d4 1).C 6).I), .list (((rd d4 1).C 7).L), .int (((rd d4 1).C 8).I), .int (((rd d4 1).C 9).I)]])))))) : R) = some r) : E C 147 [.pbox [.shr 5 p0_0, .int .i64 p0_1, .bool p0_2, .bool p0_3, .bool p0_4, .bool p0_5, .int .i64 p0_6, .own 0 8 9 p0_7, .int .i64 p0_8, .int .i64 p0_9]] = some r := E_st h (Cont.bind (Cont.call C 177 _) fun _ => (Cont.bind (Cont.call C 67 _) fun _ => (Cont.bif (Cont.const _) (Cont.bind (Cont.call C 109 _) fun _ => (Cont.bif (Cont.const _) (Cont.bind (Cont.call C 109 _) fun _ => (Cont.const _))))))) fun φ => by kernel_rfl
theorem o148 (p0_0 : List Dat) (p0_1 : Int) (p0_2 p0_3 p0_4 p0_5 : Bool) (p0_6 : Int) (p0_7 : List Dat) (p0_8 p0_9 a1 : Int) {r : List Dat} (h : ((E C 178 [.pbox [.shr 5 p0_0, .int .i64 p0_1, .bool p0_2, .bool p0_3, .bool p0_4, .bool p0_5, .int .i64 p0_6, .own 0 8 9 p0_7, .int .i64 p0_8, .int .i64 p0_9]]).bind fun d1 => (bif (rd d1 1).B then ((E C 68 [.pbox [.shr 5 (((rd d1 2).C 0).L), .int .i64 (((rd d1 2).C 1).I), .bool (((rd d1 2).C 2).B), .bool (((rd d1 2).C 3).B), .bool (((rd d1 2).C 4).B), .bool (((rd d1 2).C 5).B), .int .i64 (((rd d1 2).C 6).I), .own 0 8 9 (((rd d1 2).C 7).L), .int .i64 (((rd d1 2).C 8).I), .int .i64 (((rd d1 2).C 9).I)], .int .i64 31, .int .i64 p0_1]).bind fun d2 => (bif (((rd d2 0).C 8).I) != 0 then (some [.list ([] : List Dat), .agg [.list (((rd d2 0).C 0).L), .int (((rd d2 0).C 1).I), .bool (((rd d2 0).C 2).B), .bool (((rd d2 0).C 3).B), .bool (((rd d2 0).C 4).B), .bool (((rd d2 0).C 5).B), .int (((rd d2 0).C 6).I), .list (((rd d2 0).C 7).L), .int (((rd d2 0).C 8).I), .int (((rd d2 0).C 9).I)]]) else ((E C 179 [.pbox [.shr 5 (((rd d2 0).C 0).L), .int .i64 (((rd d2 0).C 1).I), .bool (((rd d2 0).C 2).B), .bool (((rd d2 0).C 3).B), .bool (((rd d2 0).C 4).B), .bool (((rd d2 0).C 5).B), .int .i64 (((rd d2 0).C 6).I), .own 0 8 9 (((rd d2 0).C 7).L), .int .i64 (((rd d2 0).C 8).I), .int .i64 (((rd d2 0).C 9).I)], .int .i64 a1]).bind fun d3 => (bif (((rd d3 2).C 8).I) != 0 then (some [.list ([] : List Dat), .agg [.list (((rd d3 2).C 0).L), .int (((rd d3 2).C 1).I), .bool (((rd d3 2).C 2).B), .bool (((rd d3 2).C 3).B), .bool (((rd d3 2).C 4).B), .bool (((rd d3 2).C 5).B), .int (((rd d3 2).C 6).I), .list (((rd d3 2).C 7).L), .int (((rd d3 2).C 8).I), .int (((rd d3 2).C 9).I)]]) else ((E C 177 [.pbox [.shr 5 (((rd d3 2).C 0).L), .int .i64 (((rd d3 2).C 1).I), .bool (((rd d3 2).C 2).B), .bool (((rd d3 2).C 3).B), .bool (((rd d3 2).C 4).B), .bool (((rd d3 2).C 5).B), .int .i64 (((rd d3 2).C 6).I), .own 0 8 9 (((rd d3 2).C 7).L), .int .i64 (((rd d3 2).C 8).I), .int .i64 (((rd d3 2).C 9).I)]]).bind fun d4 => ((E C 178 [.pbox [.shr 5 (((rd d4 0).C 0).L), .int .i64 (((rd d4 0).C 1).I), .bool (((rd d4 0).C 2).B), .bool (((rd d4 0).C 3).B), .bool (((rd d4 0).C 4).B), .bool (((rd d4 0).C 5).B), .int .i64 (((rd d4 0).C 6).I), .own 0 8 9 (((rd d4 0).C 7).L), .int .i64 (((rd d4 0).C 8).I), .int .i64 (((rd d4 0).C 9).I)]]).bind fun d5 => (bif (rd d5 1).B then (bif !((rd d3 1).B) then ((E C 68 [.pbox [.shr 5 (((rd d5 2).C 0).L), .int .i64 (((rd d5 2).C 1).I), .bool (((rd d5 2).C 2).B), .bool (((rd d5 2).C 3).B), .bool (((rd d5 2).C 4).B), .bool (((rd d5 2).C 5).B), .int .i64 (((rd d5 2).C 6).I), .own 0 8 9 (((rd d5 2).C 7).L), .int .i64 (((rd d5 2).C 8).I), .int .i64 (((rd d5 2).C 9).I)], .int .i64 31, .int .i64 (((rd d5 2).C 1).I)]).bind fun d6 => (some [.list ([] : List Dat), .agg [.list (((rd d6 0).C 0).L), .int (((rd d6 0).C 1).I), .bool (((rd d6 0).C 2).B), .bool (((rd d6 0).C 3).B), .bool (((rd d6 0).C 4).B), .bool (((rd d6 0).C 5).B), .int (((rd d6 0).C 6).I), .list (((rd d6 0).C 7).L), .int (((rd d6 0).C 8).I), .int (((rd d6 0).C 9).I)]])) else ((E C 180 [.agg [.int .i64 (((rd d3 0).C 0).I), .int .i64 (((rd d3 0).C 1).I), .int .i64 (((rd d3 0).C 2).I), .int .i64 (((rd d3 0).C 3).I), .int .i64 (((rd d3 0).C 4).I), .int .i64 (((rd d3 0).C 5).I), .int .i64 (((rd d3 0).C 6).I), .str (((rd d3 0).C 7).S), .shr 82 (((rd d3 0).C 8).L), .shr 3 (((rd d3 0).C 9).L), .shr 103 (((rd d3 0).C 10).L)], .int .i64 p0_1, .agg [.int .i64 (((rd d5 0).C 0).I), .int .i64 (((rd d5 0).C 1).I), .int .i64 (((rd d5 0).C 2).I), .int .i64 (((rd d5 0).C 3).I)]]).bind fun d7 => ((E C 177 [.pbox [.shr 5 (((rd d5 2).C 0).L), .int .i64 (((rd d5 0).C 3).I), .bool (((rd d5 2).C 2).B), .bool (((rd d5 2).C 3).B), .bool (((rd d5 2).C 4).B), .bool (((rd d5 2).C 5).B), .int .i64 (((rd d5 2).C 6).I), .own 0 8 9 (((rd d5 2).C 7).L), .int .i64 (((rd d5 2).C 8).I), .int .i64 (((rd d5 2).C 9).I)]]).bind fun d8 => ((E C 181 [.shr 5 (((rd d8 0).C 0).L), .int .i64 (((rd d8 0).C 1).I)]).bind fun d9 => (bif (rd d9 1).B then ((E C 68 [.pbox [.shr 5 (((rd d8 0).C 0).L), .int .i64 (((rd d8 0).C 1).I), .bool (((rd d8 0).C 2).B), .bool (((rd d8 0).C 3).B), .bool (((rd d8 0).C 4).B), .bool (((rd d8 0).C 5).B), .int .i64 (((rd d8 0).C 6).I), .own 0 8 9 (((rd d8 0).C 7).L), .int .i64 (((rd d8 0).C 8).I), .int .i64 (((rd d8 0).C 9).I)], .int .i64 31, .int .i64 (((rd d8 0).C 1).I)]).bind fun d10 => (bif (((rd d7 0).C 0).I) == 0 then (some [.list ([] : List Dat), .agg [.list (((rd d10 0).C 0).L), .int (((rd d10 0).C 1).I), .bool (((rd d10 0).C 2).B), .bool (((rd d10 0).C 3).B), .bool (((rd d10 0).C 4).B), .bool (((rd d10 0).C 5).B), .int (((rd d10 0).C 6).I), .list (((rd d10 0).C 7).L), .int (((rd d10 0).C 8).I), .int (((rd d10 0).C 9).I)]]) else (some [.list ([.agg [.int (((rd d7 0).C 0).I), .int (((rd d7 0).C 1).I), .int (((rd d7 0).C 2).I), .int (((rd d7 0).C 3).I), .int (((rd d7 0).C 4).I), .int (((rd d7 0).C 5).I), .int (((rd d7 0).C 6).I), .str (((rd d7 0).C 7).S), .list (((rd d7 0).C 8).L), .list (((rd d7 0).C 9).L), .list (((rd d7 0).C 10).L)]] : List Dat), .agg [.list (((rd d10 0).C 0).L), .int (((rd d10 0).C 1).I), .bool (((rd d10 0).C 2).B), .bool (((rd d10 0).C 3).B), .bool (((rd d10 0).C 4).B), .bool (((rd d10 0).C 5).B), .int (((rd d10 0).C 6).I), .list (((rd d10 0).C 7).L), .int (((rd d10 0).C 8).I), .int (((rd d10 0).C 9).I)]]))) else (bif ((rd d9 2).I) != 0 then ((E C 68 [.pbox [.shr 5 (((rd d8 0).C 0).L), .int .i64 (((rd d8 0).C 1).I), .bool (((rd d8 0).C 2).B), .bool (((rd d8 0).C 3).B), .bool (((rd d8 0).C 4).B), .bool (((rd d8 0).C 5).B), .int .i64 (((rd d8 0).C 6).I), .own 0 8 9 (((rd d8 0).C 7).L), .int .i64 (((rd d8 0).C 8).I), .int .i64 (((rd d8 0).C 9).I)], .int .i64 31, .int .i64 (((rd d8 0).C 1).I)]).bind fun d11 => (bif (((rd d7 0).C 0).I) == 0 then (some [.list ([] : List Dat), .agg [.list (((rd d11 0).C 0).L), .int (((rd d11 0).C 1).I), .bool (((rd d11 0).C 2).B), .bool (((rd d11 0).C 3).B), .bool (((rd d11 0).C 4).B), .bool (((rd d11 0).C 5).B), .int (((rd d11 0).C 6).I), .list (((rd d11 0).C 7).L), .int (((rd d11 0).C 8).I), .int (((rd d11 0).C 9).I)]]) else (some [.list ([.agg [.int (((rd d7 0).C 0).I), .int (((rd d7 0).C 1).I), .int (((rd d7 0).C 2).I), .int (((rd d7 0).C 3).I), .int (((rd d7 0).C 4).I), .int (((rd d7 0).C 5).I), .int (((rd d7 0).C 6).I), .str (((rd d7 0).C 7).S), .list (((rd d7 0).C 8).L), .list (((rd d7 0).C 9).L), .list (((rd d7 0).C 10).L)]] : List Dat), .agg [.list (((rd d11 0).C 0).L), .int (((rd d11 0).C 1).I), .bool (((rd d11 0).C 2).B), .bool (((rd d11 0).C 3).B), .bool (((rd d11 0).C 4).B), .bool (((rd d11 0).C 5).B), .int (((rd d11 0).C 6).I), .list (((rd d11 0).C 7).L), .int (((rd d11 0).C 8).I), .int (((rd d11 0).C 9).I)]]))) else (bif (((rd d7 0).C 0).I) == 0 then (some [.list ([] : List Dat), .agg [.list (((rd d8 0).C 0).L), .int (((rd d8 0).C 1).I), .bool (((rd d8 0).C 2).B), .bool (((rd d8 0).C 3).B), .bool (((rd d8 0).C 4).B), .bool (((rd d8 0).C 5).B), .int (((rd d8 0).C 6).I), .list (((rd d8 0).C 7).L), .int (((rd d8 0).C 8).I), .int (((rd d8 0).C 9).I)]]) else (some [.list ([.agg [.int (((rd d7 0).C 0).I), .int (((rd d7 0).C 1).I), .int (((rd d7 0).C 2).I), .int (((rd d7 0).C 3).I), .int (((rd d7 0).C 4).I), .int (((rd d7 0).C 5).I), .int (((rd d7 0).C 6).I), .str (((rd d7 0).C 7).S), .list (((rd d7 0).C 8).L), .list (((rd d7 0).C 9).L), .list (((rd d7 0).C 10).L)]] : List Dat), .agg [.list (((rd d8 0).C 0).L), .int (((rd d8 0).C 1).I), .bool (((rd d8 0).C 2).B), .bool (((rd d8 0).C 3).B), .bool (((rd d8 0).C 4).B), .bool (((rd d8 0).C 5).B), .int (((rd d8 0).C 6).I), .list (((rd d8 0).C 7).L), .int (((rd d8 0).C 8).I), .int (((rd d8 0).C 9).I)]])))))))) else (bif (((rd d3 0).C 0).I) == 0 then (some [.list ([] : List Dat), .agg [.list (((rd d5 2).C 0).L), .int (((rd d5 2).C 1).I), .bool (((rd d5 2).C 2).B), .bool (((rd d5 2).C 3).B), .bool (((rd d5 2).C 4).B), .bool (((rd d5 2).C 5).B), .int (((rd d5 2).C 6).I), .list (((rd d5 2).C 7).L), .int (((rd d5 2).C 8).I), .int (((rd d5 2).C 9).I)]]) else (some [.list ([.agg [.int (((rd d3 0).C 0).I), .int (((rd d3 0).C 1).I), .int (((rd d3 0).C 2).I), .int (((rd d3 0).C 3).I), .int (((rd d3 0).C 4).I), .int (((rd d3 0).C 5).I), .int (((rd d3 0).C 6).I), .str (((rd d3 0).C 7).S), .list (((rd d3 0).C 8).L), .list (((rd d3 0).C 9).L), .list (((rd d3 0).C 10).L)]] : List Dat), .agg [.list (((rd d5 2).C 0).L), .int (((rd d5 2).C 1).I), .bool (((rd d5 2).C 2).B), .bool (((rd d5 2).C 3).B), .bool (((rd d5 2).C 4).B), .bool (((rd d5 2).C 5).B), .int (((rd d5 2).C 6).I), .list (((rd d5 2).C 7).L), .int (((rd d5 2).C 8).I), .int (((rd d5 2).C 9).I)]]))))))))) else (bif (((rd d1 2).C 8).I) != 0 then (some [.list ([] : List Dat), .agg [.list (((rd d1 2).C 0).L), .int (((rd d1 2).C 1).I), .bool (((rd d1 2).C 2).B), .bool (((rd d1 2).C 3).B), .bool (((rd d1 2).C 4).B), .bool (((rd d1 2).C 5).B), .int (((rd d1 2).C 6).I), .list (((rd d1 2).C 7).L), .int (((rd d1 2).C 8).I), .int (((rd d1 2).C 9).I)]]) else ((E C 179 [.pbox [.shr 5 (((rd d1 2).C 0).L), .int .i64 (((rd d1 2).C 1).I), .bool (((rd d1 2).C 2).B), .bool (((rd d1 2).C 3).B), .bool (((rd d1 2).C 4).B), .bool (((rd d1 2).C 5).B), .int .i64 (((rd d1 2).C 6).I), .own 0 8 9 (((rd d1 2).C 7).L), .int .i64 (((rd d1 2).C 8).I), .int .i64 (((rd d1 2).C 9).I)], .int .i64 a1]).bind fun d12 => (bif (((rd d12 2).C 8).I) != 0 then (some [.list ([] : List Dat), .agg [.list (((rd d12 2).C 0).L), .int (((rd d12 2).C 1).I), .bool (((rd d12 2).C 2).B), .bool (((rd d12 2).C 3).B), .bool (((rd d12 2).C 4).B), .bool (((rd d12 2).C 5).B), .int (((rd d12 2).C 6).I), .list (((rd d12 2).C 7).L), .int (((rd d12 2).C 8).I), .int (((rd d12 2).C 9).I)]]) else ((E C 177 [.pbox [.shr 5 (((rd d12 2).C 0).L), .int .i64 (((rd d12 2).C 1).I), .bool (((rd d12 2).C 2).B), .bool (((rd d12 2).C 3).B), .bool (((rd d12 2).C 4).B), .bool (((rd d12 2).C 5).B), .int .i64 (((rd d12 2).C 6).I), .own 0 8 9 (((rd d12 2).C 7).L), .int .i64 (((rd d12 2).C 8).I), .int .i64 (((rd d12 2).C 9).I)]]).bind fun d13 => ((E C 178 [.pbox [.shr 5 (((rd d13 0).C 0).L), .int .i64 (((rd d13 0).C 1).I), .bool (((rd d13 0).C 2).B), .bool (((rd d13 0).C 3).B), .bool (((rd d13 0).C 4).B), .bool (((rd d13 0).C 5).B), .int .i64 (((rd d13 0).C 6).I), .own 0 8 9 (((rd d13 0).C 7).L), .int .i64 (((rd d13 0).C 8).I), .int .i64 (((rd d13 0).C 9).I)]]).bind fun d14 => (bif (rd d14 1).B then (bif !((rd d12 1).B) then ((E C 68 [.pbox [.shr 5 (((rd d14 2).C 0).L), .int .i64 (((rd d14 2).C 1).I), .bool (((rd d14 2).C 2).B), .bool (((rd d14 2).C 3).B), .bool (((rd d14 2).C 4).B), .bool (((rd d14 2).C 5).B), .int .i64 (((rd d14 2).C 6).I), .own 0 8 9 (((rd d14 2).C 7).L), .int .i64 (((rd d14 2).C 8).I), .int .i64 (((rd d14 2).C 9).I)], .int .i64 31, .int .i64 (((rd d14 2).C 1).I)]).bind fun d15 => (some [.list ([] : List Dat), .agg [.list (((rd d15 0).C 0).L), .int (((rd d15 0).C 1).I), .bool (((rd d15 0).C 2).B), .bool (((rd d15 0).C 3).B), .bool (((rd d15 0).C 4).B), .bool (((rd d15 0).C 5).B), .int (((rd d15 0).C 6).I), .list (((rd d15 0).C 7).L), .int (((rd d15 0).C 8).I), .int (((rd d15 0).C 9).I)]])) else ((E C 180 [.agg [.int .i64 (((rd d12 0).C 0).I), .int .i64 (((rd d12 0).C 1).I), .int .i64 (((rd d12 0).C 2).I), .int .i64 (((rd d12 0).C 3).I), .int .i64 (((rd d12 0).C 4).I), .int .i64 (((rd d12 0).C 5).I), .int .i64 (((rd d12 0).C 6).I), .str (((rd d12 0).C 7).S), .shr 82 (((rd d12 0).C 8).L), .shr 3 (((rd d12 0).C 9).L), .shr 103 (((rd d12 0).C 10).L)], .int .i64 p0_1, .agg [.int .i64 (((rd d14 0).C 0).I), .int .i64 (((rd d14 0).C 1).I), .int .i64 (((rd d14 0).C 2).I), .int .i64 (((rd d14 0).C 3).I)]]).bind fun d16 => ((E C 177 [.pbox [.shr 5 (((rd d14 2).C 0).L), .int .i64 (((rd d14 0).C 3).I), .bool (((rd d14 2).C 2).B), .bool (((rd d14 2).C 3).B), .bool (((rd d14 2).C 4).B), .bool (((rd d14 2).C 5).B), .int .i64 (((rd d14 2).C 6).I), .own 0 8 9 (((rd d14 2).C 7).L), .int .i64 (((rd d14 2).C 8).I), .int .i64 (((rd d14 2).C 9).I)]]).bind fun d17 => ((E C 181 [.shr 5 (((rd d17 0).C 0).L), .int .i64 (((rd d17 0).C 1).I)]).bind fun d18 => (bif (rd d18 1).B then ((E C 68 [.pbox [.shr 5 (((rd d17 0).C 0).L), .int .i64 (((rd d17 0).C 1).I), .bool (((rd d17 0).C 2).B), .bool (((rd d17 0).C 3).B), .bool (((rd d17 0).C 4).B), .bool (((rd d17 0).C 5).B), .int .i64 (((rd d17 0).C 6).I), .own 0 8 9 (((rd d17 0).C 7).L), .int .i64 (((rd d17 0).C 8).I), .int .i64 (((rd d17 0).C 9).I)], .int .i64 31, .int .i64 (((rd d17 0).C 1).I)]).bind fun d19 => (bif (((rd d16 0).C 0).I) == 0 then (some [.list ([] : List Dat), .agg [.list (((rd d19 0).C 0).L), .int (((rd d19 0).C 1).I), .bool (((rd d19 0).C 2).B), .bool (((rd d19 0).C 3).B), .bool (((rd d19 0).C 4).B), .bool (((rd d19 0).C 5).B), .int (((rd d19 0).C 6).I), .list (((rd d19 0).C 7).L), .int (((rd d19 0).C 8).I), .int (((rd d19 0).C 9).I)]]) else (some [.list ([.agg [.int (((rd d16 0).C 0).I), .int (((rd d16 0).C 1).I), .int (((rd d16 0).C 2).I), .int (((rd d16 0).C 3).I), .int (((rd d16 0).C 4).I), .int (((rd d16 0).C 5).I), .int (((rd d16 0).C 6).I), .str (((rd d16 0).C 7).S), .list (((rd d16 0).C 8).L), .list (((rd d16 0).C 9).L), .list (((rd d16 0).C 10).L)]] : List Dat), .agg [.list (((rd d19 0).C 0).L), .int (((rd d19 0).C 1).I), .bool (((rd d19 0).C 2).B), .bool (((rd d19 0).C 3).B), .bool (((rd d19 0).C 4).B), .bool (((rd d19 0).C 5).B), .int (((rd d19 0).C 6).I), .list (((rd d19 0).C 7).L), .int (((rd d19 0).C 8).I), .int (((rd d19 0).C 9).I)]]))) else (bif ((rd d18 2).I) != 0 then ((E C 68 [.pbox [.shr 5 (((rd d17 0).C 0).L), .int .i64 (((rd d17 0).C 1).I), .bool (((rd d17 0).C 2).B), .bool (((rd d17 0).C 3).B), .bool (((rd d17 0).C 4).B), .bool (((rd d17 0).C 5).B), .int .i64 (((rd d17 0).C 6).I), .own 0 8 9 (((rd d17 0).C 7).L), .int .i64 (((rd d17 0).C 8).I), .int .i64 (((rd d17 0).C 9).I)], .int .i64 31, .int .i64 (((rd d17 0).C 1).I)]).bind fun d20 => (bif (((rd d16 0).C 0).I) == 0 then (some [.list ([] : List Dat), .agg [.list (((rd d20 0).C 0).L), .int (((rd d20 0).C 1).I), .bool (((rd d20 0).C 2).B), .bool (((rd d20 0).C 3).B), .bool (((rd d20 0).C 4).B), .bool (((rd d20 0).C 5).B), .int (((rd d20 0).C 6).I), .list (((rd d20 0).C 7).L), .int (((rd d20 0).C 8).I), .int (((rd d20 0).C 9).I)]]) else (some [.list ([.agg [.int (((rd d16 0).C 0).I), .int (((rd d16 0).C 1).I), .int (((rd d16 0).C 2).I), .int (((rd d16 0).C 3).I), .int (((rd d16 0).C 4).I), .int (((rd d16 0).C 5).I), .int (((rd d16 0).C 6).I), .str (((rd d16 0).C 7).S), .list (((rd d16 0).C 8).L), .list (((rd d16 0).C 9).L), .list (((rd d16 0).C 10).L)]] : List Dat), .agg [.list (((rd d20 0).C 0).L), .int (((rd d20 0).C 1).I), .bool (((rd d20 0).C 2).B), .bool (((rd d20 0).C 3).B), .bool (((rd d20 0).C 4).B), .bool (((rd d20 0).C 5).B), .int (((rd d20 0).C 6).I), .list (((rd d20 0).C 7).L), .int (((rd d20 0).C 8).I), .int (((rd d20 0).C 9).I)]]))) else (bif (((rd d16 0).C 0).I) == 0 then (some [.list ([] : List Dat), .agg [.list (((rd d17 0).C 0).L), .int (((rd d17 0).C 1).I), .bool (((rd d17 0).C 2).B), .bool (((rd d17 0).C 3).B), .bool (((rd d17 0).C 4).B), .bool (((rd d17 0).C 5).B), .int (((rd d17 0).C 6).I), .list (((rd d17 0).C 7).L), .int (((rd d17 0).C 8).I), .int (((rd d17 0).C 9).I)]]) else (some [.list ([.agg [.int (((rd d16 0).C 0).I), .int (((rd d16 0).C 1).I), .int (((rd d16 0).C 2).I), .int (((rd d16 0).C 3).I), .int (((rd d16 0).C 4).I), .int (((rd d16 0).C 5).I), .int (((rd d16 0).C 6).I), .str (((rd d16 0).C 7).S), .list (((rd d16 0).C 8).L), .list (((rd d16 0).C 9).L), .list (((rd d16 0).C 10).L)]] : List Dat), .agg [.list (((rd d17 0).C 0).L), .int (((rd d17 0).C 1).I), .bool (((rd d17 0).C 2).B), .bool (((rd d17 0).C 3).B), .bool (((rd d17 0).C 4).B), .bool (((rd d17 0).C 5).B), .int (((rd d17 0).C 6).I), .list (((rd d17 0).C 7).L), .int (((rd d17 0).C 8).I), .int (((rd d17 0).C 9).I)]])))))))) else (bif (((rd d12 0).C 0).I) == 0 then (some [.list ([] : List Dat), .agg [.list (((rd d14 2).C 0).L), .int (((rd d14 2).C 1).I), .bool (((rd d14 2).C 2).B), .bool (((rd d14 2).C 3).B), .bool (((rd d14 2).C 4).B), .bool (((rd d14 2).C 5).B), .int (((rd d14 2).C 6).I), .list (((rd d14 2).C 7).L), .int (((rd d14 2).C 8).I), .int (((rd d14 2).C 9).I)]]) else (some [.list ([.agg [.int (((rd d12 0).C 0).I), .int (((rd d12 0).C 1).I), .int (((rd d12 0).C 2).I), .int (((rd d12 0).C 3).I), .int (((rd d12 0).C 4).I), .int (((rd d12 0).C 5).I), .int (((rd d12 0).C 6).I), .str (((rd d12 0).C 7).S), .list (((rd d12 0).C 8).L), .list (((rd d12 0).C 9).L), .list (((rd d12 0).C 10).L)]] : List Dat), .agg [.list (((rd d14 2).C 0).L), .int (((rd d14 2).C 1).I), .bool (((rd d14 2).C 2).B), .bool (((rd d14 2).C 3).B), .bool (((rd d14 2).C 4).B), .bool (((rd d14 2).C 5).B), .int (((rd d14 2).C 6).I), .list (((rd d14 2).C 7).L), .int (((rd d14 2).C 8).I), .int (((rd d14 2).C 9).I)]]))))))))) : R) = some r) : E C 148 [.pbox [.shr 5 p0_0, .int .i64 p0_1, .bool p0_2, .bool p0_3, .bool p0_4, .bool p0_5, .int .i64 p0_6, .own 0 8 9 p0_7, .int .i64 p0_8, .int .i64 p0_9], .int .i64 a1] = some r := E_st h (Cont.bind (Cont.call C 178 _) fun _ => (Cont.bif (Cont.bind (Cont.call C 68 _) fun _ => (Cont.bif (Cont.const _) (Cont.bind (Cont.call C 179 _) fun _ => (Cont.bif (Cont.const _) (Cont.bind (Cont.call C 177 _) fun _ => (Cont.bind (Cont.call C 178 _) fun _ => (Cont.bif (Cont.bif (Cont.bind (Cont.call C 68 _) fun _ => (Cont.const _)) (Cont.bind (Cont.call C 180 _) fun _ => (Cont.bind (Cont.call C 177 _) fun _ => (Cont.bind (Cont.call C 181 _) fun _ => (Cont.bif (Cont.bind (Cont.call C 68 _) fun _ => (Cont.bif (Cont.const _) (Cont.const _))) (Cont.bif (Cont.bind (Cont.call C 68 _) fun _ => (Cont.bif (Cont.const _) (Cont.const _))) (Cont.bif (Cont.const _) (Cont.const _)))))))) (Cont.bif (Cont.const _) (Cont.const _))))))))) (Cont.bif (Cont.const _) (Cont.bind (Cont.call C 179 _) fun _ => (Cont.bif (Cont.const _) (Cont.bind (Cont.call C 177 _) fun _ => (Cont.bind (Cont.call C 178 _) fun _ => (Cont.bif (Cont.bif (Cont.bind (Cont.call C 68 _) fun _ => (Cont.const _)) (Cont.bind (Cont.call C 180 _) fun _ => (Cont.bind (Cont.call C 177 _) fun _ => (Cont.bind (Cont.call C 181 _) fun _ => (Cont.bif (Cont.bind (Cont.call C 68 _) fun _ => (Cont.bif (Cont.const _) (Cont.const _))) (Cont.bif (Cont.bind (Cont.call C 68 _) fun _ => (Cont.bif (Cont.const _) (Cont.const _))) (Cont.bif (Cont.const _) (Cont.const _)))))))) (Cont.bif (Cont.const _) (Cont.const _)))))))))) fun φ => by kernel_rfl
theorem o177 (p0_0 : List Dat) (p0_1 : Int) (p0_2 p0_3 p0_4 p0_5 : Bool) (p0_6 : Int) (p0_7 : List Dat) (p0_8 p0_9 : Int) {r : List Dat} (h : (bif p0_5 then ((E C 205 [.shr 5 p0_0, .int .i64 p0_1]).bind fun d1 => (some [.agg [.list p0_0, .int ((rd d1 0).I), .bool p0_2, .bool p0_3, .bool p0_4, .bool p0_5, .int p0_6, .list p0_7, .int p0_8, .int p0_9]])) else (some [.agg [.list p0_0, .int p0_1, .bool p0_2, .bool p0_3, .bool p0_4, .bool p0_5, .int p0_6, .list p0_7, .int p0_8, .int p0_9]]) : R) = some r) : E C 177 [.pbox [.shr 5 p0_0, .int .i64 p0_1, .bool p0_2, .bool p0_3, .bool p0_4, .bool p0_5, .int .i64 p0_6, .own 0 8 9 p0_7, .int .i64 p0_8, .int .i64 p0_9]] = some r := E_st h (Cont.bif (Cont.bind (Cont.call C 205 _) fun _ => (Cont.const _)) (Cont.const _)) fun φ => by kernel_rfl
theorem o178 (p0_0 : List Dat) (p0_1 : Int) (p0_2 p0_3 p0_4 p0_5 : Bool) (p0_6 : Int) (p0_7 : List Dat) (p0_8 p0_9 : Int) {r : List Dat} (h : ((E C 181 [.shr 5 p0_0, .int .i64 p0_1]).bind fun d1 => (bif ((rd d1 2).I) != 0 then ((E C 68 [.pbox [.shr 5 p0_0, .int .i64 p0_1, .bool p0_2, .bool p0_3, .bool p0_4, .bool p0_5, .int .i64 p0_6, .own 0 8 9 p0_7, .int .i64 p0_8, .int .i64 p0_9], .int .i64 ((rd d1 2).I), .int .i64 p0_1]).bind fun d2 => (bif (rd d1 1).B then (some [.agg [.int (((rd d1 0).C 0).I), .int (((rd d1 0).C 1).I), .int (((rd d1 0).C 2).I), .int (((rd d1 0).C 3).I)], .bool ((((rd d2 0).C 8).I) == 0), .agg [.list (((rd d2 0).C 0).L), .int (((rd d2 0).C 1).I), .bool (((rd d2 0).C 2).B), .bool (((rd d2 0).C 3).B), .bool (((rd d2 0).C 4).B), .bool (((rd d2 0).C 5).B), .int (((rd d2 0).C 6).I), .list (((rd d2 0).C 7).L), .int (((rd d2 0).C 8).I), .int (((rd d2 0).C 9).I)]]) else (some [.agg [.int (((rd d1 0).C 0).I), .int (((rd d1 0).C 1).I), .int (((rd d1 0).C 2).I), .int (((rd d1 0).C 3).I)], .bool false, .agg [.list (((rd d2 0).C 0).L), .int (((rd d2 0).C 1).I), .bool (((rd d2 0).C 2).B), .bool (((rd d2 0).C 3).B), .bool (((rd d2 0).C 4).B), .bool (((rd d2 0).C 5).B), .int (((rd d2 0).C 6).I), .list (((rd d2 0).C 7).L), .int (((rd d2 0).C 8).I), .int (((rd d2 0).C 9).I)]]))) else (bif (rd d1 1).B then (some [.agg [.int (((rd d1 0).C 0).I), .int (((rd d1 0).C 1).I), .int (((rd d1 0).C 2).I), .int (((rd d1 0).C 3).I)], .bool (p0_8 == 0), .agg [.list p0_0, .int p0_1, .bool p0_2, .bool p0_3, .bool p0_4, .bool p0_5, .int p0_6, .list p0_7, .int p0_8, .int p0_9]]) else (some [.agg [.int (((rd d1 0).C 0).I), .int (((rd d1 0).C 1).I), .int (((rd d1 0).C 2).I), .int (((rd d1 0).C 3).I)], .bool false, .agg [.list p0_0, .int p0_1, .bool p0_2, .bool p0_3, .bool p0_4, .bool p0_5, .int p0_6, .list p0_7, .int p0_8, .int p0_9]]))) : R) = some r) : E C 178 [.pbox [.shr 5 p0_0, .int .i64 p0_1, .bool p0_2, .bool p0_3, .bool p0_4, .bool p0_5, .int .i64 p0_6, .own 0 8 9 p0_7, .int .i64 p0_8, .int .i64 p0_9]] = some r := E_st h (Cont.bind (Cont.call C 181 _) fun _ => (Cont.bif (Cont.bind (Cont.call C 68 _) fun _ => (Cont.bif (Cont.const _) (Cont.const _))) (Cont.bif (Cont.const _) (Cont.const _)))) fun φ => by kernel_rfl
theorem o179 (p0_0 : List Dat) (p0_1 : Int) (p0_2 p0_3 p0_4 p0_5 : Bool) (p0_6 : Int) (p0_7 : List Dat) (p0_8 p0_9 a1 : Int) {r : List Dat} (h : ((E C 109 [.pbox [.shr 5 p0_0, .int .i64 p0_1, .bool p0_2, .bool p0_3, .bool p0_4, .bool p0_5, .int .i64 p0_6, .own 0 8 9 p0_7, .int .i64 p0_8, .int .i64 p0_9], .int .i64 p0_1]).bind fun d1 => (bif ((rd d1 0).I) == 40 then ((E C 206 [.pbox [.shr 5 (((rd d1 1).C 0).L), .int .i64 (((rd d1 1).C 1).I), .bool (((rd d1 1).C 2).B), .bool (((rd d1 1).C 3).B), .bool (((rd d1 1).C 4).B), .bool (((rd d1 1).C 5).B), .int .i64 (((rd d1 1).C 6).I), .own 0 8 9 (((rd d1 1).C 7).L), .int .i64 (((rd d1 1).C 8).I), .int .i64 (((rd d1 1).C 9).I)], .int .i64 (IntKind.i64.wrap (a1 + 1))]).bind fun d2 => (some [.agg [.int (((rd d2 0).C 0).I), .int (((rd d2 0).C 1).I), .int (((rd d2 0).C 2).I), .int (((rd d2 0).C 3).I), .int (((rd d2 0).C 4).I), .int (((rd d2 0).C 5).I), .int (((rd d2 0).C 6).I), .str (((rd d2 0).C 7).S), .list (((rd d2 0).C 8).L), .list (((rd d2 0).C 9).L), .list (((rd d2 0).C 10).L)], .bool ((rd d2 1).B), .agg [.list (((rd d2 2).C 0).L), .int (((rd d2 2).C 1).I), .bool (((rd d2 2).C 2).B), .bool (((rd d2 2).C 3).B), .bool (((rd d2 2).C 4).B), .bool (((rd d2 2).C 5).B), .int (((rd d2 2).C 6).I), .list (((rd d2 2).C 7).L), .int (((rd d2 2).C 8).I), .int (((rd d2 2).C 9).I)]])) else (bif ((rd d1 0).I) == 91 then ((E C 207 [.shr 5 (((rd d1 1).C 0).L), .int .i64 p0_1, .bool (((rd d1 1).C 2).B)]).bind fun d3 => (bif ((rd d3 2).I) != 0 then ((E C 68 [.pbox [.shr 5 (((rd d1 1).C 0).L), .int .i64 (((rd d1 1).C 1).I), .bool (((rd d1 1).C 2).B), .bool (((rd d1 1).C 3).B), .bool (((rd d1 1).C 4).B), .bool (((rd d1 1).C 5).B), .int .i64 (((rd d1 1).C 6).I), .own 0 8 9 (((rd d1 1).C 7).L), .int .i64 (((rd d1 1).C 8).I), .int .i64 (((rd d1 1).C 9).I)], .int .i64 ((rd d3 2).I), .int .i64 ((rd d3 3).I)]).bind fun d4 => (some [.agg [.int 0, .int 0, .int 0, .int 0, .int 0, .int 0, .int 0, .str ByteArray.empty, .list ([] : List Dat), .list ([] : List Dat), .list ([] : List Dat)], .bool false, .agg [.list (((rd d4 0).C 0).L), .int (((rd d4 0).C 1).I), .bool (((rd d4 0).C 2).B), .bool (((rd d4 0).C 3).B), .bool (((rd d4 0).C 4).B), .bool (((rd d4 0).C 5).B), .int (((rd d4 0).C 6).I), .list (((rd d4 0).C 7).L), .int (((rd d4 0).C 8).I), .int (((rd d4 0).C 9).I)]])) else ((E C 208 [.pbox [.shr 5 (((rd d1 1).C 0).L), .int .i64 (((rd d1 1).C 1).I), .bool (((rd d1 1).C 2).B), .bool (((rd d1 1).C 3).B), .bool (((rd d1 1).C 4).B), .bool (((rd d1 1).C 5).B), .int .i64 (((rd d1 1).C 6).I), .own 0 8 9 (((rd d1 1).C 7).L), .int .i64 (((rd d1 1).C 8).I), .int .i64 (((rd d1 1).C 9).I)], .int .i64 p0_1, .int .i64 ((rd d3 1).I), .shr 82 ((rd d3 0).L)]).bind fun d5 => (some [.agg [.int (((rd d5 0).C 0).I), .int (((rd d5 0).C 1).I), .int (((rd d5 0).C 2).I), .int (((rd d5 0).C 3).I), .int (((rd d5 0).C 4).I), .int (((rd d5 0).C 5).I), .int (((rd d5 0).C 6).I), .str (((rd d5 0).C 7).S), .list (((rd d5 0).C 8).L), .list (((rd d5 0).C 9).L), .list (((rd d5 0).C 10).L)], .bool true, .agg [.list (((rd d5 1).C 0).L), .int (((rd d5 1).C 1).I), .bool (((rd d5 1).C 2).B), .bool (((rd d5 1).C 3).B), .bool (((rd d5 1).C 4).B), .bool (((rd d5 1).C 5).B), .int (((rd d5 1).C 6).I), .list (((rd d5 1).C 7).L), .int (((rd d5 1).C 8).I), .int (((rd d5 1).C 9).I)]])))) else (bif ((rd d1 0).I) == 46 then ((E C 209 [.bool (((rd d1 1).C 4).B)]).bind fun d6 => ((E C 208 [.pbox [.shr 5 (((rd d1 1).C 0).L), .int .i64 (((rd d1 1).C 1).I), .bool (((rd d1 1).C 2).B), .bool (((rd d1 1).C 3).B), .bool (((rd d1 1).C 4).B), .bool (((rd d1 1).C 5).B), .int .i64 (((rd d1 1).C 6).I), .own 0 8 9 (((rd d1 1).C 7).L), .int .i64 (((rd d1 1).C 8).I), .int .i64 (((rd d1 1).C 9).I)], .int .i64 p0_1, .int .i64 (IntKind.i64.wrap (p0_1 + 1)), .shr 82 ((rd d6 0).L)]).bind fun d7 => (some [.agg [.int (((rd d7 0).C 0).I), .int (((rd d7 0).C 1).I), .int (((rd d7 0).C 2).I), .int (((rd d7 0).C 3).I), .int (((rd d7 0).C 4).I), .int (((rd d7 0).C 5).I), .int (((rd d7 0).C 6).I), .str (((rd d7 0).C 7).S), .list (((rd d7 0).C 8).L), .list (((rd d7 0).C 9).L), .list (((rd d7 0).C 10).L)], .bool true, .agg [.list (((rd d7 1).C 0).L), .int (((rd d7 1).C 1).I), .bool (((rd d7 1).C 2).B), .bool (((rd d7 1).C 3).B), .bool (((rd d7 1).C 4).B), .bool (((rd d7 1).C 5).B), .int (((rd d7 1).C 6).I), .list (((rd d7 1).C 7).L), .int (((rd d7 1).C 8).I), .int (((rd d7 1).C 9).I)]]))) else (bif ((rd d1 0).I) == 94 then ((E C 211 [.bool (((rd d1 1).C 3).B), .int .i64 4, .int .i64 1]).bind fun d8 => ((E C 210 [.pbox [.shr 5 (((rd d1 1).C 0).L), .int .i64 (((rd d1 1).C 1).I), .bool (((rd d1 1).C 2).B), .bool (((rd d1 1).C 3).B), .bool (((rd d1 1).C 4).B), .bool (((rd d1 1).C 5).B), .int .i64 (((rd d1 1).C 6).I), .own 0 8 9 (((rd d1 1).C 7).L), .int .i64 (((rd d1 1).C 8).I), .int .i64 (((rd d1 1).C 9).I)], .int .i64 p0_1, .int .i64 (IntKind.i64.wrap (p0_1 + 1)), .int .i64 ((rd d8 0).I)]).bind fun d9 => (some [.agg [.int (((rd d9 0).C 0).I), .int (((rd d9 0).C 1).I), .int (((rd d9 0).C 2).I), .int (((rd d9 0).C 3).I), .int (((rd d9 0).C 4).I), .int (((rd d9 0).C 5).I), .int (((rd d9 0).C 6).I), .str (((rd d9 0).C 7).S), .list (((rd d9 0).C 8).L), .list (((rd d9 0).C 9).L), .list (((rd d9 0).C 10).L)], .bool false, .agg [.list (((rd d9 1).C 0).L), .int (((rd d9 1).C 1).I), .bool (((rd d9 1).C 2).B), .bool (((rd d9 1).C 3).B), .bool (((rd d9 1).C 4).B), .bool (((rd d9 1).C 5).B), .int (((rd d9 1).C 6).I), .list (((rd d9 1).C 7).L), .int (((rd d9 1).C 8).I), .int (((rd d9 1).C 9).I)]]))) else (bif ((rd d1 0).I) == 36 then ((E C 211 [.bool (((rd d1 1).C 3).B), .int .i64 5, .int .i64 2]).bind fun d10 => ((E C 210 [.pbox [.shr 5 (((rd d1 1).C 0).L), .int .i64 (((rd d1 1).C 1).I), .bool (((rd d1 1).C 2).B), .bool (((rd d1 1).C 3).B), .bool (((rd d1 1).C 4).B), .bool (((rd d1 1).C 5).B), .int .i64 (((rd d1 1).C 6).I), .own 0 8 9 (((rd d1 1).C 7).L), .int .i64 (((rd d1 1).C 8).I), .int .i64 (((rd d1 1).C 9).I)], .int .i64 p0_1, .int .i64 (IntKind.i64.wrap (p0_1 + 1)), .int .i64 ((rd d10 0).I)]).bind fun d11 => (some [.agg [.int (((rd d11 0).C 0).I), .int (((rd d11 0).C 1).I), .int (((rd d11 0).C 2).I), .int (((rd d11 0).C 3).I), .int (((rd d11 0).C 4).I), .int (((rd d11 0).C 5).I), .int (((rd d11 0).C 6).I), .str (((rd d11 0).C 7).S), .list (((rd d11 0).C 8).L), .list (((rd d11 0).C 9).L), .list (((rd d11 0).C 10).L)], .bool false, .agg [.list (((rd d11 1).C 0).L), .int (((rd d11 1).C 1).I), .bool (((rd d11 1).C 2).B), .bool (((rd d11 1).C 3).B), .bool (((rd d11 1).C 4).B), .bool (((rd d11 1).C 5).B), .int (((rd d11 1).C 6).I), .list (((rd d11 1).C 7).L), .int (((rd d11 1).C 8).I), .int (((rd d11 1).C 9).I)]]))) else (bif ((rd d1 0).I) == 92 then ((E C 212 [.pbox [.shr 5 (((rd d1 1).C 0).L), .int .i64 (((rd d1 1).C 1).I), .bool (((rd d1 1).C 2).B), .bool (((rd d1 1).C 3).B), .bool (((rd d1 1).C 4).B), .bool (((rd d1 1).C 5).B), .int .i64 (((rd d1 1).C 6).I), .own 0 8 9 (((rd d1 1).C 7).L), .int .i64 (((rd d1 1).C 8).I), .int .i64 (((rd d1 1).C 9).I)]]).bind fun d12 => (some [.agg [.int (((rd d12 0).C 0).I), .int (((rd d12 0).C 1).I), .int (((rd d12 0).C 2).I), .int (((rd d12 0).C 3).I), .int (((rd d12 0).C 4).I), .int (((rd d12 0).C 5).I), .int (((rd d12 0).C 6).I), .str (((rd d12 0).C 7).S), .list (((rd d12 0).C 8).L), .list (((rd d12 0).C 9).L), .list (((rd d12 0).C 10).L)], .bool ((((rd d12 0).C 0).I) != 3), .agg [.list (((rd d12 1).C 0).L), .int (((rd d12 1).C 1).I), .bool (((rd d12 1).C 2).B), .bool (((rd d12 1).C 3).B), .bool (((rd d12 1).C 4).B), .bool (((rd d12 1).C 5).B), .int (((rd d12 1).C 6).I), .list (((rd d12 1).C 7).L), .int (((rd d12 1).C 8).I), .int (((rd d12 1).C 9).I)]])) else ((E C 213 [.shr 5 (((rd d1 1).C 0).L), .int .i64 p0_1]).bind fun d13 => ((E C 215 [.int .i64 ((rd d13 0).I)]).bind fun d14 => ((E C 214 [.pbox [.shr 5 (((rd d1 1).C 0).L), .int .i64 (((rd d1 1).C 1).I), .bool (((rd d1 1).C 2).B), .bool (((rd d1 1).C 3).B), .bool (((rd d1 1).C 4).B), .bool (((rd d1 1).C 5).B), .int .i64 (((rd d1 1).C 6).I), .own 0 8 9 (((rd d1 1).C 7).L), .int .i64 (((rd d1 1).C 8).I), .int .i64 (((rd d1 1).C 9).I)], .shr 82 ((rd d14 0).L)]).bind fun d15 => ((E C 208 [.pbox [.shr 5 (((rd d15 1).C 0).L), .int .i64 (((rd d15 1).C 1).I), .bool (((rd d15 1).C 2).B), .bool (((rd d15 1).C 3).B), .bool (((rd d15 1).C 4).B), .bool (((rd d15 1).C 5).B), .int .i64 (((rd d15 1).C 6).I), .own 0 8 9 (((rd d15 1).C 7).L), .int .i64 (((rd d15 1).C 8).I), .int .i64 (((rd d15 1).C 9).I)], .int .i64 p0_1, .int .i64 (IntKind.i64.wrap (p0_1 + ((rd d13 1).I))), .shr 82 ((rd d15 0).L)]).bind fun d16 => (some [.agg [.int (((rd d16 0).C 0).I), .int (((rd d16 0).C 1).I), .int (((rd d16 0).C 2).I), .int (((rd d16 0).C 3).I), .int (((rd d16 0).C 4).I), .int (((rd d16 0).C 5).I), .int (((rd d16 0).C 6).I), .str (((rd d16 0).C 7).S), .list (((rd d16 0).C 8).L), .list (((rd d16 0).C 9).L), .list (((rd d16 0).C 10).L)], .bool true, .agg [.list (((rd d16 1).C 0).L), .int (((rd d16 1).C 1).I), .bool (((rd d16 1).C 2).B), .bool (((rd d16 1).C 3).B), .bool (((rd d16 1).C 4).B), .bool (((rd d16 1).C 5).B), .int (((rd d16 1).C 6).I), .list (((rd d16 1).C 7).L), .int (((rd d16 1).C 8).I), .int (((rd d16 1).C 9).I)]]))))))))))) : R) = some r) : E C 179 [.pbox [.shr 5 p0_0, .int .i64 p0_1, .bool p0_2, .bool p0_3, .bool p0_4, .bool p0_5, .int .i64 p0_6, .own 0 8 9 p0_7, .int .i64 p0_8, .int .i64 p0_9], .int .i64 a1] = some r := E_st h (Cont.bind (Cont.call C 109 _) fun _ => (Cont.bif (Cont.bind (Cont.call C 206 _) fun _ => (Cont.const _)) (Cont.bif (Cont.bind (Cont.call C 207 _) fun _ => (Cont.bif (Cont.bind (Cont.call C 68 _) fun _ => (Cont.const _)) (Cont.bind (Cont.call C 208 _) fun _ => (Cont.const _)))) (Cont.bif (Cont.bind (Cont.call C 209 _) fun _ => (Cont.bind (Cont.call C 208 _) fun _ => (Cont.const _))) (Cont.bif (Cont.bind (Cont.call C 211 _) fun _ => (Cont.bind (Cont.call C 210 _) fun _ => (Cont.const _))) (Cont.bif (Cont.bind (Cont.call C 211 _) fun _ => (Cont.bind (Cont.call C 210 _) fun _ => (Cont.const _))) (Cont.bif (Cont.bind (Cont.call C 212 _) fun _ => (Cont.const _)) (Cont.bind (Cont.call C 213 _) fun _ => (Cont.bind (Cont.call C 215 _) fun _ => (Cont.bind (Cont.call C 214 _) fun _ => (Cont.bind (Cont.call C 208 _) fun _ => (Cont.const _)))))))))))) fun φ => by kernel_rfl
theorem o206 (p0_0 : List Dat) (p0_1 : Int) (p0_2 p0_3 p0_4 p0_5 : Bool) (p0_6 : Int) (p0_7 : List Dat) (p0_8 p0_9 a1 : Int) {r : List Dat} (h : (bif decide (a1 > 100) then ((E C 68 [.pbox [.shr 5 p0_0, .int .i64 p0_1, .bool p0_2, .bool p0_3, .bool p0_4, .bool p0_5, .int .i64 p0_6, .own 0 8 9 p0_7, .int .i64 p0_8, .int .i64 p0_9], .int .i64 39, .int .i64 p0_1]).bind fun d1 => (some [.agg [.int 0, .int 0, .int 0, .int 0, .int 0, .int 0, .int 0, .str ByteArray.empty, .list ([] : List Dat), .list ([] : List Dat), .list ([] : List Dat)], .bool false, .agg [.list (((rd d1 0).C 0).L), .int (((rd d1 0).C 1).I), .bool (((rd d1 0).C 2).B), .bool (((rd d1 0).C 3).B), .bool (((rd d1 0).C 4).B), .bool (((rd d1 0).C 5).B), .int (((rd d1 0).C 6).I), .list (((rd d1 0).C 7).L), .int (((rd d1 0).C 8).I), .int (((rd d1 0).C 9).I)]])) else ((E C 229 [.pbox [.shr 5 p0_0, .int .i64 p0_1, .bool p0_2, .bool p0_3, .bool p0_4, .bool p0_5, .int .i64 p0_6, .own 0 8 9 p0_7, .int .i64 p0_8, .int .i64 p0_9], .int .i64 p0_1]).bind fun d2 => (bif ((rd d2 0).C 7).B then (some [.agg [.int 0, .int 0, .int 0, .int 0, .int 0, .int 0, .int 0, .str ByteArray.empty, .list ([] : List Dat), .list ([] : List Dat), .list ([] : List Dat)], .bool false, .agg [.list (((rd d2 1).C 0).L), .int (((rd d2 1).C 1).I), .bool (((rd d2 0).C 3).B), .bool (((rd d2 0).C 4).B), .bool (((rd d2 0).C 5).B), .bool (((rd d2 0).C 6).B), .int (((rd d2 1).C 6).I), .list (((rd d2 1).C 7).L), .int (((rd d2 1).C 8).I), .int (((rd d2 1).C 9).I)]]) else (bif (((rd d2 1).C 8).I) != 0 then (some [.agg [.int 0, .int 0, .int 0, .int 0, .int 0, .int 0, .int 0, .str ByteArray.empty, .list ([] : List Dat), .list ([] : List Dat), .list ([] : List Dat)], .bool false, .agg [.list (((rd d2 1).C 0).L), .int (((rd d2 1).C 1).I), .bool (((rd d2 0).C 3).B), .bool (((rd d2 0).C 4).B), .bool (((rd d2 0).C 5).B), .bool (((rd d2 0).C 6).B), .int (((rd d2 1).C 6).I), .list (((rd d2 1).C 7).L), .int (((rd d2 1).C 8).I), .int (((rd d2 1).C 9).I)]]) else (bif (((rd d2 0).C 0).I) == 7 then (bif (((rd d2 1).C 6).I) == 99 then ((E C 68 [.pbox [.shr 5 (((rd d2 1).C 0).L), .int .i64 (((rd d2 1).C 1).I), .bool (((rd d2 1).C 2).B), .bool (((rd d2 1).C 3).B), .bool (((rd d2 1).C 4).B), .bool (((rd d2 1).C 5).B), .int .i64 (((rd d2 1).C 6).I), .own 0 8 9 (((rd d2 1).C 7).L), .int .i64 (((rd d2 1).C 8).I), .int .i64 (((rd d2 1).C 9).I)], .int .i64 40, .int .i64 p0_1]).bind fun d3 => (some [.agg [.int 0, .int 0, .int 0, .int 0, .int 0, .int 0, .int 0, .str ByteArray.empty, .list ([] : List Dat), .list ([] : List Dat), .list ([] : List Dat)], .bool false, .agg [.list (((rd d3 0).C 0).L), .int (((rd d3 0).C 1).I), .bool (((rd d3 0).C 2).B), .bool (((rd d3 0).C 3).B), .bool (((rd d3 0).C 4).B), .bool (((rd d3 0).C 5).B), .int (((rd d3 0).C 6).I), .list (((rd d3 0).C 7).L), .int (((rd d3 0).C 8).I), .int (((rd d3 0).C 9).I)]])) else (bif decide ((((rd d2 1).C 7).L).length + ([.str (((rd d2 0).C 2).S)] : List Dat).length ≤ capB 16) then ((E C 66 [.pbox [.shr 5 (((rd d2 1).C 0).L), .int .i64 (((rd d2 1).C 1).I), .bool (((rd d2 0).C 3).B), .bool (((rd d2 0).C 4).B), .bool (((rd d2 0).C 5).B), .bool (((rd d2 0).C 6).B), .int .i64 (IntKind.i64.wrap ((((rd d2 1).C 6).I) + 1)), .own 0 8 9 ((((rd d2 1).C 7).L) ++ ([.str (((rd d2 0).C 2).S)] : List Dat)), .int .i64 (((rd d2 1).C 8).I), .int .i64 (((rd d2 1).C 9).I)], .int .i64 a1]).bind fun d4 => ((E C 109 [.pbox [.shr 5 (((rd d4 1).C 0).L), .int .i64 (((rd d4 1).C 1).I), .bool (((rd d2 1).C 2).B), .bool (((rd d2 1).C 3).B), .bool (((rd d2 1).C 4).B), .bool (((rd d2 1).C 5).B), .int .i64 (((rd d4 1).C 6).I), .own 0 8 9 (((rd d4 1).C 7).L), .int .i64 (((rd d4 1).C 8).I), .int .i64 (((rd d4 1).C 9).I)], .int .i64 (((rd d4 1).C 1).I)]).bind fun d5 => (bif ((rd d5 0).I) != 41 then ((E C 68 [.pbox [.shr 5 (((rd d5 1).C 0).L), .int .i64 (((rd d5 1).C 1).I), .bool (((rd d5 1).C 2).B), .bool (((rd d5 1).C 3).B), .bool (((rd d5 1).C 4).B), .bool (((rd d5 1).C 5).B), .int .i64 (((rd d5 1).C 6).I), .own 0 8 9 (((rd d5 1).C 7).L), .int .i64 (((rd d5 1).C 8).I), .int .i64 (((rd d5 1).C 9).I)], .int .i64 30, .int .i64 p0_1]).bind fun d6 => (some [.agg [.int 0, .int 0, .int 0, .int 0, .int 0, .int 0, .int 0, .str ByteArray.empty, .list ([] : List Dat), .list ([] : List Dat), .list ([] : List Dat)], .bool false, .agg [.list (((rd d6 0).C 0).L), .int (((rd d6 0).C 1).I), .bool (((rd d6 0).C 2).B), .bool (((rd d6 0).C 3).B), .bool (((rd d6 0).C 4).B), .bool (((rd d6 0).C 5).B), .int (((rd d6 0).C 6).I), .list (((rd d6 0).C 7).L), .int (((rd d6 0).C 8).I), .int (((rd d6 0).C 9).I)]])) else ((E C 67 [.pbox [.shr 5 (((rd d5 1).C 0).L), .int .i64 (((rd d5 1).C 1).I), .bool (((rd d5 1).C 2).B), .bool (((rd d5 1).C 3).B), .bool (((rd d5 1).C 4).B), .bool (((rd d5 1).C 5).B), .int .i64 (((rd d5 1).C 6).I), .own 0 8 9 (((rd d5 1).C 7).L), .int .i64 (((rd d5 1).C 8).I), .int .i64 (((rd d5 1).C 9).I)]]).bind fun d7 => (bif (rd d7 0).B then ((E C 68 [.pbox [.shr 5 (((rd d7 1).C 0).L), .int .i64 (((rd d7 1).C 1).I), .bool (((rd d7 1).C 2).B), .bool (((rd d7 1).C 3).B), .bool (((rd d7 1).C 4).B), .bool (((rd d7 1).C 5).B), .int .i64 (((rd d7 1).C 6).I), .own 0 8 9 (((rd d7 1).C 7).L), .int .i64 (((rd d7 1).C 8).I), .int .i64 (((rd d7 1).C 9).I)], .int .i64 30, .int .i64 p0_1]).bind fun d8 => (some [.agg [.int 0, .int 0, .int 0, .int 0, .int 0, .int 0, .int 0, .str ByteArray.empty, .list ([] : List Dat), .list ([] : List Dat), .list ([] : List Dat)], .bool false, .agg [.list (((rd d8 0).C 0).L), .int (((rd d8 0).C 1).I), .bool (((rd d8 0).C 2).B), .bool (((rd d8 0).C 3).B), .bool (((rd d8 0).C 4).B), .bool (((rd d8 0).C 5).B), .int (((rd d8 0).C 6).I), .list (((rd d8 0).C 7).L), .int (((rd d8 0).C 8).I), .int (((rd d8 0).C 9).I)]])) else (bif (((rd d2 0).C 0).I) == 0 then (some [.agg [.int (((rd d4 0).C 0).I), .int (((rd d4 0).C 1).I), .int (((rd d4 0).C 2).I), .int (((rd d4 0).C 3).I), .int (((rd d4 0).C 4).I), .int (((rd d4 0).C 5).I), .int (((rd d4 0).C 6).I), .str (((rd d4 0).C 7).S), .list (((rd d4 0).C 8).L), .list (((rd d4 0).C 9).L), .list (((rd d4 0).C 10).L)], .bool true, .agg [.list (((rd d7 1).C 0).L), .int (IntKind.i64.wrap ((((rd d7 1).C 1).I) + 1)), .bool (((rd d7 1).C 2).B), .bool (((rd d7 1).C 3).B), .bool (((rd d7 1).C 4).B), .bool (((rd d7 1).C 5).B), .int (((rd d7 1).C 6).I), .list (((rd d7 1).C 7).L), .int (((rd d7 1).C 8).I), .int (((rd d7 1).C 9).I)]]) else (some [.agg [.int (((rd d2 0).C 0).I), .int p0_1, .int (IntKind.i64.wrap ((((rd d7 1).C 1).I) + 1)), .int (IntKind.i64.wrap ((((rd d2 1).C 6).I) + 1)), .int 0, .int 0, .int 0, .str (((rd d2 0).C 2).S), .list ([] : List Dat), .list ([] : List Dat), .list ([.agg [.int (((rd d4 0).C 0).I), .int (((rd d4 0).C 1).I), .int (((rd d4 0).C 2).I), .int (((rd d4 0).C 3).I), .int (((rd d4 0).C 4).I), .int (((rd d4 0).C 5).I), .int (((rd d4 0).C 6).I), .str (((rd d4 0).C 7).S), .list (((rd d4 0).C 8).L), .list (((rd d4 0).C 9).L), .list (((rd d4 0).C 10).L)]] : List Dat)], .bool true, .agg [.list (((rd d7 1).C 0).L), .int (IntKind.i64.wrap ((((rd d7 1).C 1).I) + 1)), .bool (((rd d7 1).C 2).B), .bool (((rd d7 1).C 3).B), .bool (((rd d7 1).C 4).B), .bool (((rd d7 1).C 5).B), .int (((rd d7 1).C 6).I), .list (((rd d7 1).C 7).L), .int (((rd d7 1).C 8).I), .int (((rd d7 1).C 9).I)]]))))))) else none)) else ((E C 66 [.pbox [.shr 5 (((rd d2 1).C 0).L), .int .i64 (((rd d2 1).C 1).I), .bool (((rd d2 0).C 3).B), .bool (((rd d2 0).C 4).B), .bool (((rd d2 0).C 5).B), .bool (((rd d2 0).C 6).B), .int .i64 (((rd d2 1).C 6).I), .own 0 8 9 (((rd d2 1).C 7).L), .int .i64 (((rd d2 1).C 8).I), .int .i64 (((rd d2 1).C 9).I)], .int .i64 a1]).bind fun d9 => ((E C 109 [.pbox [.shr 5 (((rd d9 1).C 0).L), .int .i64 (((rd d9 1).C 1).I), .bool (((rd d2 1).C 2).B), .bool (((rd d2 1).C 3).B), .bool (((rd d2 1).C 4).B), .bool (((rd d2 1).C 5).B), .int .i64 (((rd d9 1).C 6).I), .own 0 8 9 (((rd d9 1).C 7).L), .int .i64 (((rd d9 1).C 8).I), .int .i64 (((rd d9 1).C 9).I)], .int .i64 (((rd d9 1).C 1).I)]).bind fun d10 => (bif ((rd d10 0).I) != 41 then ((E C 68 [.pbox [.shr 5 (((rd d10 1).C 0).L), .int .i64 (((rd d10 1).C 1).I), .bool (((rd d10 1).C 2).B), .bool (((rd d10 1).C 3).B), .bool (((rd d10 1).C 4).B), .bool (((rd d10 1).C 5).B), .int .i64 (((rd d10 1).C 6).I), .own 0 8 9 (((rd d10 1).C 7).L), .int .i64 (((rd d10 1).C 8).I), .int .i64 (((rd d10 1).C 9).I)], .int .i64 30, .int .i64 p0_1]).bind fun d11 => (some [.agg [.int 0, .int 0, .int 0, .int 0, .int 0, .int 0, .int 0, .str ByteArray.empty, .list ([] : List Dat), .list ([] : List Dat), .list ([] : List Dat)], .bool false, .agg [.list (((rd d11 0).C 0).L), .int (((rd d11 0).C 1).I), .bool (((rd d11 0).C 2).B), .bool (((rd d11 0).C 3).B), .bool (((rd d11 0).C 4).B), .bool (((rd d11 0).C 5).B), .int (((rd d11 0).C 6).I), .list (((rd d11 0).C 7).L), .int (((rd d11 0).C 8).I), .int (((rd d11 0).C 9).I)]])) else ((E C 67 [.pbox [.shr 5 (((rd d10 1).C 0).L), .int .i64 (((rd d10 1).C 1).I), .bool (((rd d10 1).C 2).B), .bool (((rd d10 1).C 3).B), .bool (((rd d10 1).C 4).B), .bool (((rd d10 1).C 5).B), .int .i64 (((rd d10 1).C 6).I), .own 0 8 9 (((rd d10 1).C 7).L), .int .i64 (((rd d10 1).C 8).I), .int .i64 (((rd d10 1).C 9).I)]]).bind fun d12 => (bif (rd d12 0).B then ((E C 68 [.pbox [.shr 5 (((rd d12 1).C 0).L), .int .i64 (((rd d12 1).C 1).I), .bool (((rd d12 1).C 2).B), .bool (((rd d12 1).C 3).B), .bool (((rd d12 1).C 4).B), .bool (((rd d12 1).C 5).B), .int .i64 (((rd d12 1).C 6).I), .own 0 8 9 (((rd d12 1).C 7).L), .int .i64 (((rd d12 1).C 8).I), .int .i64 (((rd d12 1).C 9).I)], .int .i64 30, .int .i64 p0_1]).bind fun d13 => (some [.agg [.int 0, .int 0, .int 0, .int 0, .int 0, .int 0, .int 0, .str ByteArray.empty, .list ([] : List Dat), .list ([] : List Dat), .list ([] : List Dat)], .bool false, .agg [.list (((rd d13 0).C 0).L), .int (((rd d13 0).C 1).I), .bool (((rd d13 0).C 2).B), .bool (((rd d13 0).C 3).B), .bool (((rd d13 0).C 4).B), .bool (((rd d13 0).C 5).B), .int (((rd d13 0).C 6).I), .list (((rd d13 0).C 7).L), .int (((rd d13 0).C 8).I), .int (((rd d13 0).C 9).I)]])) else (bif (((rd d2 0).C 0).I) == 0 then (some [.agg [.int (((rd d9 0).C 0).I), .int (((rd d9 0).C 1).I), .int (((rd d9 0).C 2).I), .int (((rd d9 0).C 3).I), .int (((rd d9 0).C 4).I), .int (((rd d9 0).C 5).I), .int (((rd d9 0).C 6).I), .str (((rd d9 0).C 7).S), .list (((rd d9 0).C 8).L), .list (((rd d9 0).C 9).L), .list (((rd d9 0).C 10).L)], .bool true, .agg [.list (((rd d12 1).C 0).L), .int (IntKind.i64.wrap ((((rd d12 1).C 1).I) + 1)), .bool (((rd d12 1).C 2).B), .bool (((rd d12 1).C 3).B), .bool (((rd d12 1).C 4).B), .bool (((rd d12 1).C 5).B), .int (((rd d12 1).C 6).I), .list (((rd d12 1).C 7).L), .int (((rd d12 1).C 8).I), .int (((rd d12 1).C 9).I)]]) else (some [.agg [.int (((rd d2 0).C 0).I), .int p0_1, .int (IntKind.i64.wrap ((((rd d12 1).C 1).I) + 1)), .int (((rd d2 0).C 1).I), .int 0, .int 0, .int 0, .str (((rd d2 0).C 2).S), .list ([] : List Dat), .list ([] : List Dat), .list ([.agg [.int (((rd d9 0).C 0).I), .int (((rd d9 0).C 1).I), .int (((rd d9 0).C 2).I), .int (((rd d9 0).C 3).I), .int (((rd d9 0).C 4).I), .int (((rd d9 0).C 5).I), .int (((rd d9 0).C 6).I), .str (((rd d9 0).C 7).S), .list (((rd d9 0).C 8).L), .list (((rd d9 0).C 9).L), .list (((rd d9 0).C 10).L)]] : List Dat)], .bool true, .agg [.list (((rd d12 1).C 0).L), .int (IntKind.i64.wrap ((((rd d12 1).C 1).I) + 1)), .bool (((rd d12 1).C 2).B), .bool (((rd d12 1).C 3).B), .bool (((rd d12 1).C 4).B), .bool (((rd d12 1).C 5).B), .int (((rd d12 1).C 6).I), .list (((rd d12 1).C 7).L), .int (((rd d12 1).C 8).I), .int (((rd d12 1).C 9).I)]]))))))))))) : R) = some r) : E C 206 [.pbox [.shr 5 p0_0, .int .i64 p0_1, .bool p0_2, .bool p0_3, .bool p0_4, .bool p0_5, .int .i64 p0_6, .own 0 8 9 p0_7, .int .i64 p0_8, .int .i64 p0_9], .int .i64 a1] = some r := E_st h (Cont.bif (Cont.bind (Cont.call C 68 _) fun _ => (Cont.const _)) (Cont.bind (Cont.call C 229 _) fun _ => (Cont.bif (Cont.const _) (Cont.bif (Cont.const _) (Cont.bif (Cont.bif (Cont.bind (Cont.call C 68 _) fun _ => (Cont.const _)) (Cont.bif (Cont.bind (Cont.call C 66 _) fun _ => (Cont.bind (Cont.call C 109 _) fun _ => (Cont.bif (Cont.bind (Cont.call C 68 _) fun _ => (Cont.const _)) (Cont.bind (Cont.call C 67 _) fun _ => (Cont.bif (Cont.bind (Cont.call C 68 _) fun _ => (Cont.const _)) (Cont.bif (Cont.const _) (Cont.const _))))))) Cont.nn)) (Cont.bind (Cont.call C 66 _) fun _ => (Cont.bind (Cont.call C 109 _) fun _ => (Cont.bif (Cont.bind (Cont.call C 68 _) fun _ => (Cont.const _)) (Cont.bind (Cont.call C 67 _) fun _ => (Cont.bif (Cont.bind (Cont.call C 68 _) fun _ => (Cont.const _)) (Cont.bif (Cont.const _) (Cont.const _)))))))))))) fun φ => by kernel_rfl
theorem o208 (p0_0 : List Dat) (p0_1 : Int) (p0_2 p0_3 p0_4 p0_5 : Bool) (p0_6 : Int) (p0_7 : List Dat) (p0_8 p0_9 a1 a2 : Int) (a3 : List Dat) {r : List Dat} (h : (some [.agg [.int 2, .int a1, .int a2, .int 0, .int 0, .int 0, .int 0, .str ByteArray.empty, .list a3, .list ([] : List Dat), .list ([] : List Dat)], .agg [.list p0_0, .int a2, .bool p0_2, .bool p0_3, .bool p0_4, .bool p0_5, .int p0_6, .list p0_7, .int p0_8, .int p0_9]] : R) = some r) : E C 208 [.pbox [.shr 5 p0_0, .int .i64 p0_1, .bool p0_2, .bool p0_3, .bool p0_4, .bool p0_5, .int .i64 p0_6, .own 0 8 9 p0_7, .int .i64 p0_8, .int .i64 p0_9], .int .i64 a1, .int .i64 a2, .shr 82 a3] = some r := E_st h (Cont.const _) fun φ => by kernel_rfl
theorem o211 (a0 : Bool) (a1 a2 : Int) {r : List Dat} (h : (bif a0 then (some [.int a1]) else (some [.int a2]) : R) = some r) : E C 211 [.bool a0, .int .i64 a1, .int .i64 a2] = some r := E_st h (Cont.bif (Cont.const _) (Cont.const _)) fun φ => by kernel_rfl
theorem o210 (p0_0 : List Dat) (p0_1 : Int) (p0_2 p0_3 p0_4 p0_5 : Bool) (p0_6 : Int) (p0_7 : List Dat) (p0_8 p0_9 a1 a2 a3 : Int) {r : List Dat} (h : (some [.agg [.int 3, .int a1, .int a2, .int a3, .int 0, .int 0, .int 0, .str ByteArray.empty, .list ([] : List Dat), .list ([] : List Dat), .list ([] : List Dat)], .agg [.list p0_0, .int a2, .bool p0_2, .bool p0_3, .bool p0_4, .bool p0_5, .int p0_6, .list p0_7, .int p0_8, .int p0_9]] : R) = some r) : E C 210 [.pbox [.shr 5 p0_0, .int .i64 p0_1, .bool p0_2, .bool p0_3, .bool p0_4, .bool p0_5, .int .i64 p0_6, .own 0 8 9 p0_7, .int .i64 p0_8, .int .i64 p0_9], .int .i64 a1, .int .i64 a2, .int .i64 a3] = some r := E_st h (Cont.const _) fun φ => by kernel_rfl
theorem o212 (p0_0 : List Dat) (p0_1 : Int) (p0_2 p0_3 p0_4 p0_5 : Bool) (p0_6 : Int) (p0_7 : List Dat) (p0_8 p0_9 : Int) {r : List Dat} (h : ((E C 232 [.shr 5 p0_0, .int .i64 p0_1]).bind fun d1 => (bif ((rd d1 1).I) != 0 then ((E C 68 [.pbox [.shr 5 p0_0, .int .i64 p0_1, .bool p0_2, .bool p0_3, .bool p0_4, .bool p0_5, .int .i64 p0_6, .own 0 8 9 p0_7, .int .i64 p0_8, .int .i64 p0_9], .int .i64 ((rd d1 1).I), .int .i64 p0_1]).bind fun d2 => (some [.agg [.int 0, .int 0, .int 0, .int 0, .int 0, .int 0, .int 0, .str ByteArray.empty, .list ([] : List Dat), .list ([] : List Dat), .list ([] : List Dat)], .agg [.list (((rd d2 0).C 0).L), .int (((rd d2 0).C 1).I), .bool (((rd d2 0).C 2).B), .bool (((rd d2 0).C 3).B), .bool (((rd d2 0).C 4).B), .bool (((rd d2 0).C 5).B), .int (((rd d2 0).C 6).I), .list (((rd d2 0).C 7).L), .int (((rd d2 0).C 8).I), .int (((rd d2 0).C 9).I)]])) else (bif (((rd d1 0).C 0).I) == 1 then ((E C 215 [.int .i64 (((rd d1 0).C 2).I)]).bind fun d3 => ((E C 214 [.pbox [.shr 5 p0_0, .int .i64 p0_1, .bool p0_2, .bool p0_3, .bool p0_4, .bool p0_5, .int .i64 p0_6, .own 0 8 9 p0_7, .int .i64 p0_8, .int .i64 p0_9], .shr 82 ((rd d3 0).L)]).bind fun d4 => ((E C 208 [.pbox [.shr 5 (((rd d4 1).C 0).L), .int .i64 (((rd d4 1).C 1).I), .bool (((rd d4 1).C 2).B), .bool (((rd d4 1).C 3).B), .bool (((rd d4 1).C 4).B), .bool (((rd d4 1).C 5).B), .int .i64 (((rd d4 1).C 6).I), .own 0 8 9 (((rd d4 1).C 7).L), .int .i64 (((rd d4 1).C 8).I), .int .i64 (((rd d4 1).C 9).I)], .int .i64 p0_1, .int .i64 (((rd d1 0).C 1).I), .shr 82 ((rd d4 0).L)]).bind fun d5 => (some [.agg [.int (((rd d5 0).C 0).I), .int (((rd d5 0).C 1).I), .int (((rd d5 0).C 2).I), .int (((rd d5 0).C 3).I), .int (((rd d5 0).C 4).I), .int (((rd d5 0).C 5).I), .int (((rd d5 0).C 6).I), .str (((rd d5 0).C 7).S), .list (((rd d5 0).C 8).L), .list (((rd d5 0).C 9).L), .list (((rd d5 0).C 10).L)], .agg [.list (((rd d5 1).C 0).L), .int (((rd d5 1).C 1).I), .bool (((rd d5 1).C 2).B), .bool (((rd d5 1).C 3).B), .bool (((rd d5 1).C 4).B), .bool (((rd d5 1).C 5).B), .int (((rd d5 1).C 6).I), .list (((rd d5 1).C 7).L), .int (((rd d5 1).C 8).I), .int (((rd d5 1).C 9).I)]])))) else (bif (((rd d1 0).C 0).I) == 2 then ((E C 214 [.pbox [.shr 5 p0_0, .int .i64 p0_1, .bool p0_2, .bool p0_3, .bool p0_4, .bool p0_5, .int .i64 p0_6, .own 0 8 9 p0_7, .int .i64 p0_8, .int .i64 p0_9], .shr 82 (((rd d1 0).C 4).L)]).bind fun d6 => ((E C 208 [.pbox [.shr 5 (((rd d6 1).C 0).L), .int .i64 (((rd d6 1).C 1).I), .bool (((rd d6 1).C 2).B), .bool (((rd d6 1).C 3).B), .bool (((rd d6 1).C 4).B), .bool (((rd d6 1).C 5).B), .int .i64 (((rd d6 1).C 6).I), .own 0 8 9 (((rd d6 1).C 7).L), .int .i64 (((rd d6 1).C 8).I), .int .i64 (((rd d6 1).C 9).I)], .int .i64 p0_1, .int .i64 (((rd d1 0).C 1).I), .shr 82 ((rd d6 0).L)]).bind fun d7 => (some [.agg [.int (((rd d7 0).C 0).I), .int (((rd d7 0).C 1).I), .int (((rd d7 0).C 2).I), .int (((rd d7 0).C 3).I), .int (((rd d7 0).C 4).I), .int (((rd d7 0).C 5).I), .int (((rd d7 0).C 6).I), .str (((rd d7 0).C 7).S), .list (((rd d7 0).C 8).L), .list (((rd d7 0).C 9).L), .list (((rd d7 0).C 10).L)], .agg [.list (((rd d7 1).C 0).L), .int (((rd d7 1).C 1).I), .bool (((rd d7 1).C 2).B), .bool (((rd d7 1).C 3).B), .bool (((rd d7 1).C 4).B), .bool (((rd d7 1).C 5).B), .int (((rd d7 1).C 6).I), .list (((rd d7 1).C 7).L), .int (((rd d7 1).C 8).I), .int (((rd d7 1).C 9).I)]]))) else (bif (((rd d1 0).C 0).I) == 3 then ((E C 210 [.pbox [.shr 5 p0_0, .int .i64 p0_1, .bool p0_2, .bool p0_3, .bool p0_4, .bool p0_5, .int .i64 p0_6, .own 0 8 9 p0_7, .int .i64 p0_8, .int .i64 p0_9], .int .i64 p0_1, .int .i64 (((rd d1 0).C 1).I), .int .i64 (((rd d1 0).C 2).I)]).bind fun d8 => (some [.agg [.int (((rd d8 0).C 0).I), .int (((rd d8 0).C 1).I), .int (((rd d8 0).C 2).I), .int (((rd d8 0).C 3).I), .int (((rd d8 0).C 4).I), .int (((rd d8 0).C 5).I), .int (((rd d8 0).C 6).I), .str (((rd d8 0).C 7).S), .list (((rd d8 0).C 8).L), .list (((rd d8 0).C 9).L), .list (((rd d8 0).C 10).L)], .agg [.list (((rd d8 1).C 0).L), .int (((rd d8 1).C 1).I), .bool (((rd d8 1).C 2).B), .bool (((rd d8 1).C 3).B), .bool (((rd d8 1).C 4).B), .bool (((rd d8 1).C 5).B), .int (((rd d8 1).C 6).I), .list (((rd d8 1).C 7).L), .int (((rd d8 1).C 8).I), .int (((rd d8 1).C 9).I)]])) else ((E C 211 [.bool p0_2, .int .i64 1, .int .i64 0]).bind fun d9 => (some [.agg [.int 4, .int p0_1, .int (((rd d1 0).C 1).I), .int (((rd d1 0).C 2).I), .int 0, .int 0, .int ((rd d9 0).I), .str (((rd d1 0).C 3).S), .list ([] : List Dat), .list ([] : List Dat), .list ([] : List Dat)], .agg [.list p0_0, .int (((rd d1 0).C 1).I), .bool p0_2, .bool p0_3, .bool p0_4, .bool p0_5, .int p0_6, .list p0_7, .int p0_8, .int p0_9]])))))) : R) = some r) : E C 212 [.pbox [.shr 5 p0_0, .int .i64 p0_1, .bool p0_2, .bool p0_3, .bool p0_4, .bool p0_5, .int .i64 p0_6, .own 0 8 9 p0_7, .int .i64 p0_8, .int .i64 p0_9]] = some r := E_st h (Cont.bind (Cont.call C 232 _) fun _ => (Cont.bif (Cont.bind (Cont.call C 68 _) fun _ => (Cont.const _)) (Cont.bif (Cont.bind (Cont.call C 215 _) fun _ => (Cont.bind (Cont.call C 214 _) fun _ => (Cont.bind (Cont.call C 208 _) fun _ => (Cont.const _)))) (Cont.bif (Cont.bind (Cont.call C 214 _) fun _ => (Cont.bind (Cont.call C 208 _) fun _ => (Cont.const _))) (Cont.bif (Cont.bind (Cont.call C 210 _) fun _ => (Cont.const _)) (Cont.bind (Cont.call C 211 _) fun _ => (Cont.const _))))))) fun φ => by kernel_rfl
theorem o214 (p0_0 : List Dat) (p0_1 : Int) (p0_2 p0_3 p0_4 p0_5 : Bool) (p0_6 : Int) (p0_7 : List Dat) (p0_8 p0_9 : Int) (a1 : List Dat) {r : List Dat} (h : (bif p0_2 then ((E C 231 [.shr 82 a1]).bind fun d1 => (some [.list ((rd d1 0).L), .agg [.list p0_0, .int p0_1, .bool p0_2, .bool p0_3, .bool p0_4, .bool p0_5, .int p0_6, .list p0_7, .int p0_8, .int p0_9]])) else (some [.list a1, .agg [.list p0_0, .int p0_1, .bool p0_2, .bool p0_3, .bool p0_4, .bool p0_5, .int p0_6, .list p0_7, .int p0_8, .int p0_9]]) : R) = some r) : E C 214 [.pbox [.shr 5 p0_0, .int .i64 p0_1, .bool p0_2, .bool p0_3, .bool p0_4, .bool p0_5, .int .i64 p0_6, .own 0 8 9 p0_7, .int .i64 p0_8, .int .i64 p0_9], .shr 82 a1] = some r := E_st h (Cont.bif (Cont.bind (Cont.call C 231 _) fun _ => (Cont.const _)) (Cont.const _)) fun φ => by kernel_rfl
theorem o229 (p0_0 : List Dat) (p0_1 : Int) (p0_2 p0_3 p0_4 p0_5 : Bool) (p0_6 : Int) (p0_7 : List Dat) (p0_8 p0_9 a1 : Int) {r : List Dat} (h : ((E C 109 [.pbox [.shr 5 p0_0, .int .i64 p0_1, .bool p0_2, .bool p0_3, .bool p0_4, .bool p0_5, .int .i64 p0_6, .own 0 8 9 p0_7, .int .i64 p0_8, .int .i64 p0_9], .int .i64 (IntKind.i64.wrap (a1 + 1))]).bind fun d1 => (bif ((rd d1 0).I) != 63 then (some [.agg [.int 7, .int 0, .str ByteArray.empty, .bool (((rd d1 1).C 2).B), .bool (((rd d1 1).C 3).B), .bool (((rd d1 1).C 4).B), .bool (((rd d1 1).C 5).B), .bool false], .agg [.list (((rd d1 1).C 0).L), .int (IntKind.i64.wrap (a1 + 1)), .bool (((rd d1 1).C 2).B), .bool (((rd d1 1).C 3).B), .bool (((rd d1 1).C 4).B), .bool (((rd d1 1).C 5).B), .int (((rd d1 1).C 6).I), .list (((rd d1 1).C 7).L), .int (((rd d1 1).C 8).I), .int (((rd d1 1).C 9).I)]]) else ((E C 109 [.pbox [.shr 5 (((rd d1 1).C 0).L), .int .i64 (((rd d1 1).C 1).I), .bool (((rd d1 1).C 2).B), .bool (((rd d1 1).C 3).B), .bool (((rd d1 1).C 4).B), .bool (((rd d1 1).C 5).B), .int .i64 (((rd d1 1).C 6).I), .own 0 8 9 (((rd d1 1).C 7).L), .int .i64 (((rd d1 1).C 8).I), .int .i64 (((rd d1 1).C 9).I)], .int .i64 (IntKind.i64.wrap (a1 + 2))]).bind fun d2 => ((E C 109 [.pbox [.shr 5 (((rd d2 1).C 0).L), .int .i64 (((rd d2 1).C 1).I), .bool (((rd d2 1).C 2).B), .bool (((rd d2 1).C 3).B), .bool (((rd d2 1).C 4).B), .bool (((rd d2 1).C 5).B), .int .i64 (((rd d2 1).C 6).I), .own 0 8 9 (((rd d2 1).C 7).L), .int .i64 (((rd d2 1).C 8).I), .int .i64 (((rd d2 1).C 9).I)], .int .i64 (IntKind.i64.wrap (a1 + 3))]).bind fun d3 => (bif ((rd d2 0).I) == 58 then (some [.agg [.int 0, .int 0, .str ByteArray.empty, .bool (((rd d3 1).C 2).B), .bool (((rd d3 1).C 3).B), .bool (((rd d3 1).C 4).B), .bool (((rd d3 1).C 5).B), .bool false], .agg [.list (((rd d3 1).C 0).L), .int (IntKind.i64.wrap (a1 + 3)), .bool (((rd d3 1).C 2).B), .bool (((rd d3 1).C 3).B), .bool (((rd d3 1).C 4).B), .bool (((rd d3 1).C 5).B), .int (((rd d3 1).C 6).I), .list (((rd d3 1).C 7).L), .int (((rd d3 1).C 8).I), .int (((rd d3 1).C 9).I)]]) else (bif ((rd d2 0).I) == 62 then (some [.agg [.int 9, .int 0, .str ByteArray.empty, .bool (((rd d3 1).C 2).B), .bool (((rd d3 1).C 3).B), .bool (((rd d3 1).C 4).B), .bool (((rd d3 1).C 5).B), .bool false], .agg [.list (((rd d3 1).C 0).L), .int (IntKind.i64.wrap (a1 + 3)), .bool (((rd d3 1).C 2).B), .bool (((rd d3 1).C 3).B), .bool (((rd d3 1).C 4).B), .bool (((rd d3 1).C 5).B), .int (((rd d3 1).C 6).I), .list (((rd d3 1).C 7).L), .int (((rd d3 1).C 8).I), .int (((rd d3 1).C 9).I)]]) else (bif ((rd d2 0).I) == 61 then ((E C 244 [.int .u8 ((rd d2 0).I), .int .i64 1, .int .i64 2]).bind fun d4 => (some [.agg [.int 10, .int ((rd d4 0).I), .str ByteArray.empty, .bool (((rd d3 1).C 2).B), .bool (((rd d3 1).C 3).B), .bool (((rd d3 1).C 4).B), .bool (((rd d3 1).C 5).B), .bool false], .agg [.list (((rd d3 1).C 0).L), .int (IntKind.i64.wrap (a1 + 3)), .bool (((rd d3 1).C 2).B), .bool (((rd d3 1).C 3).B), .bool (((rd d3 1).C 4).B), .bool (((rd d3 1).C 5).B), .int (((rd d3 1).C 6).I), .list (((rd d3 1).C 7).L), .int (((rd d3 1).C 8).I), .int (((rd d3 1).C 9).I)]])) else (bif ((rd d2 0).I) == 33 then ((E C 244 [.int .u8 ((rd d2 0).I), .int .i64 1, .int .i64 2]).bind fun d5 => (some [.agg [.int 10, .int ((rd d5 0).I), .str ByteArray.empty, .bool (((rd d3 1).C 2).B), .bool (((rd d3 1).C 3).B), .bool (((rd d3 1).C 4).B), .bool (((rd d3 1).C 5).B), .bool false], .agg [.list (((rd d3 1).C 0).L), .int (IntKind.i64.wrap (a1 + 3)), .bool (((rd d3 1).C 2).B), .bool (((rd d3 1).C 3).B), .bool (((rd d3 1).C 4).B), .bool (((rd d3 1).C 5).B), .int (((rd d3 1).C 6).I), .list (((rd d3 1).C 7).L), .int (((rd d3 1).C 8).I), .int (((rd d3 1).C 9).I)]])) else (bif ((rd d2 0).I) == 35 then ((E C 245 [.pbox [.shr 5 (((rd d3 1).C 0).L), .int .i64 (IntKind.i64.wrap (a1 + 3)), .bool (((rd d3 1).C 2).B), .bool (((rd d3 1).C 3).B), .bool (((rd d3 1).C 4).B), .bool (((rd d3 1).C 5).B), .int .i64 (((rd d3 1).C 6).I), .own 0 8 9 (((rd d3 1).C 7).L), .int .i64 (((rd d3 1).C 8).I), .int .i64 (((rd d3 1).C 9).I)], .int .i64 a1]).bind fun d6 => (some [.agg [.int (((rd d6 0).C 0).I), .int (((rd d6 0).C 1).I), .str (((rd d6 0).C 2).S), .bool (((rd d6 0).C 3).B), .bool (((rd d6 0).C 4).B), .bool (((rd d6 0).C 5).B), .bool (((rd d6 0).C 6).B), .bool (((rd d6 0).C 7).B)], .agg [.list (((rd d6 1).C 0).L), .int (((rd d6 1).C 1).I), .bool (((rd d6 1).C 2).B), .bool (((rd d6 1).C 3).B), .bool (((rd d6 1).C 4).B), .bool (((rd d6 1).C 5).B), .int (((rd d6 1).C 6).I), .list (((rd d6 1).C 7).L), .int (((rd d6 1).C 8).I), .int (((rd d6 1).C 9).I)]])) else (bif ((rd d2 0).I) == 60 then (bif ((rd d3 0).I) == 61 then ((E C 244 [.int .u8 ((rd d3 0).I), .int .i64 3, .int .i64 4]).bind fun d7 => (some [.agg [.int 10, .int ((rd d7 0).I), .str ByteArray.empty, .bool (((rd d3 1).C 2).B), .bool (((rd d3 1).C 3).B), .bool (((rd d3 1).C 4).B), .bool (((rd d3 1).C 5).B), .bool false], .agg [.list (((rd d3 1).C 0).L), .int (IntKind.i64.wrap (a1 + 4)), .bool (((rd d3 1).C 2).B), .bool (((rd d3 1).C 3).B), .bool (((rd d3 1).C 4).B), .bool (((rd d3 1).C 5).B), .int (((rd d3 1).C 6).I), .list (((rd d3 1).C 7).L), .int (((rd d3 1).C 8).I), .int (((rd d3 1).C 9).I)]])) else (bif ((rd d3 0).I) == 33 then ((E C 244 [.int .u8 ((rd d3 0).I), .int .i64 3, .int .i64 4]).bind fun d8 => (some [.agg [.int 10, .int ((rd d8 0).I), .str ByteArray.empty, .bool (((rd d3 1).C 2).B), .bool (((rd d3 1).C 3).B), .bool (((rd d3 1).C 4).B), .bool (((rd d3 1).C 5).B), .bool false], .agg [.list (((rd d3 1).C 0).L), .int (IntKind.i64.wrap (a1 + 4)), .bool (((rd d3 1).C 2).B), .bool (((rd d3 1).C 3).B), .bool (((rd d3 1).C 4).B), .bool (((rd d3 1).C 5).B), .int (((rd d3 1).C 6).I), .list (((rd d3 1).C 7).L), .int (((rd d3 1).C 8).I), .int (((rd d3 1).C 9).I)]])) else (bif ((rd d2 0).I) == 60 then ((E C 246 [.pbox [.shr 5 (((rd d3 1).C 0).L), .int .i64 (IntKind.i64.wrap (a1 + 3)), .bool (((rd d3 1).C 2).B), .bool (((rd d3 1).C 3).B), .bool (((rd d3 1).C 4).B), .bool (((rd d3 1).C 5).B), .int .i64 (((rd d3 1).C 6).I), .own 0 8 9 (((rd d3 1).C 7).L), .int .i64 (((rd d3 1).C 8).I), .int .i64 (((rd d3 1).C 9).I)], .int .i64 (IntKind.i64.wrap (a1 + 3))]).bind fun d9 => (some [.agg [.int (((rd d9 0).C 0).I), .int (((rd d9 0).C 1).I), .str (((rd d9 0).C 2).S), .bool (((rd d9 0).C 3).B), .bool (((rd d9 0).C 4).B), .bool (((rd d9 0).C 5).B), .bool (((rd d9 0).C 6).B), .bool (((rd d9 0).C 7).B)], .agg [.list (((rd d9 1).C 0).L), .int (((rd d9 1).C 1).I), .bool (((rd d9 1).C 2).B), .bool (((rd d9 1).C 3).B), .bool (((rd d9 1).C 4).B), .bool (((rd d9 1).C 5).B), .int (((rd d9 1).C 6).I), .list (((rd d9 1).C 7).L), .int (((rd d9 1).C 8).I), .int (((rd d9 1).C 9).I)]])) else ((E C 247 [.pbox [.shr 5 (((rd d3 1).C 0).L), .int .i64 (IntKind.i64.wrap (a1 + 2)), .bool (((rd d3 1).C 2).B), .bool (((rd d3 1).C 3).B), .bool (((rd d3 1).C 4).B), .bool (((rd d3 1).C 5).B), .int .i64 (((rd d3 1).C 6).I), .own 0 8 9 (((rd d3 1).C 7).L), .int .i64 (((rd d3 1).C 8).I), .int .i64 (((rd d3 1).C 9).I)]]).bind fun d10 => (some [.agg [.int (((rd d10 0).C 0).I), .int (((rd d10 0).C 1).I), .str (((rd d10 0).C 2).S), .bool (((rd d10 0).C 3).B), .bool (((rd d10 0).C 4).B), .bool (((rd d10 0).C 5).B), .bool (((rd d10 0).C 6).B), .bool (((rd d10 0).C 7).B)], .agg [.list (((rd d10 1).C 0).L), .int (((rd d10 1).C 1).I), .bool (((rd d10 1).C 2).B), .bool (((rd d10 1).C 3).B), .bool (((rd d10 1).C 4).B), .bool (((rd d10 1).C 5).B), .int (((rd d10 1).C 6).I), .list (((rd d10 1).C 7).L), .int (((rd d10 1).C 8).I), .int (((rd d10 1).C 9).I)]]))))) else (bif ((rd d2 0).I) == 60 then ((E C 246 [.pbox [.shr 5 (((rd d3 1).C 0).L), .int .i64 (IntKind.i64.wrap (a1 + 3)), .bool (((rd d3 1).C 2).B), .bool (((rd d3 1).C 3).B), .bool (((rd d3 1).C 4).B), .bool (((rd d3 1).C 5).B), .int .i64 (((rd d3 1).C 6).I), .own 0 8 9 (((rd d3 1).C 7).L), .int .i64 (((rd d3 1).C 8).I), .int .i64 (((rd d3 1).C 9).I)], .int .i64 (IntKind.i64.wrap (a1 + 3))]).bind fun d11 => (some [.agg [.int (((rd d11 0).C 0).I), .int (((rd d11 0).C 1).I), .str (((rd d11 0).C 2).S), .bool (((rd d11 0).C 3).B), .bool (((rd d11 0).C 4).B), .bool (((rd d11 0).C 5).B), .bool (((rd d11 0).C 6).B), .bool (((rd d11 0).C 7).B)], .agg [.list (((rd d11 1).C 0).L), .int (((rd d11 1).C 1).I), .bool (((rd d11 1).C 2).B), .bool (((rd d11 1).C 3).B), .bool (((rd d11 1).C 4).B), .bool (((rd d11 1).C 5).B), .int (((rd d11 1).C 6).I), .list (((rd d11 1).C 7).L), .int (((rd d11 1).C 8).I), .int (((rd d11 1).C 9).I)]])) else ((E C 247 [.pbox [.shr 5 (((rd d3 1).C 0).L), .int .i64 (IntKind.i64.wrap (a1 + 2)), .bool (((rd d3 1).C 2).B), .bool (((rd d3 1).C 3).B), .bool (((rd d3 1).C 4).B), .bool (((rd d3 1).C 5).B), .int .i64 (((rd d3 1).C 6).I), .own 0 8 9 (((rd d3 1).C 7).L), .int .i64 (((rd d3 1).C 8).I), .int .i64 (((rd d3 1).C 9).I)]]).bind fun d12 => (some [.agg [.int (((rd d12 0).C 0).I), .int (((rd d12 0).C 1).I), .str (((rd d12 0).C 2).S), .bool (((rd d12 0).C 3).B), .bool (((rd d12 0).C 4).B), .bool (((rd d12 0).C 5).B), .bool (((rd d12 0).C 6).B), .bool (((rd d12 0).C 7).B)], .agg [.list (((rd d12 1).C 0).L), .int (((rd d12 1).C 1).I), .bool (((rd d12 1).C 2).B), .bool (((rd d12 1).C 3).B), .bool (((rd d12 1).C 4).B), .bool (((rd d12 1).C 5).B), .int (((rd d12 1).C 6).I), .list (((rd d12 1).C 7).L), .int (((rd d12 1).C 8).I), .int (((rd d12 1).C 9).I)]])))))))))))) : R) = some r) : E C 229 [.pbox [.shr 5 p0_0, .int .i64 p0_1, .bool p0_2, .bool p0_3, .bool p0_4, .bool p0_5, .int .i64 p0_6, .own 0 8 9 p0_7, .int .i64 p0_8, .int .i64 p0_9], .int .i64 a1] = some r := E_st h (Cont.bind (Cont.call C 109 _) fun _ => (Cont.bif (Cont.const _) (Cont.bind (Cont.call C 109 _) fun _ => (Cont.bind (Cont.call C 109 _) fun _ => (Cont.bif (Cont.const _) (Cont.bif (Cont.const _) (Cont.bif (Cont.bind (Cont.call C 244 _) fun _ => (Cont.const _)) (Cont.bif (Cont.bind (Cont.call C 244 _) fun _ => (Cont.const _)) (Cont.bif (Cont.bind (Cont.call C 245 _) fun _ => (Cont.const _)) (Cont.bif (Cont.bif (Cont.bind (Cont.call C 244 _) fun _ => (Cont.const _)) (Cont.bif (Cont.bind (Cont.call C 244 _) fun _ => (Cont.const _)) (Cont.bif (Cont.bind (Cont.call C 246 _) fun _ => (Cont.const _)) (Cont.bind (Cont.call C 247 _) fun _ => (Cont.const _))))) (Cont.bif (Cont.bind (Cont.call C 246 _) fun _ => (Cont.const _)) (Cont.bind (Cont.call C 247 _) fun _ => (Cont.const _))))))))))))) fun φ => by kernel_rfl
/-- (*clew/parse.parser).toggles -/
noncomputable def f247 : Func := Tryz.f247
def kp247 : List Nat := [0, 2, 3, 4, 5, 6]
noncomputable def c247 (p : List Nat) : Code := pick f247 p
noncomputable def L247_1 (n : Nat) (m1 : Nat) (v0_0 : List Dat) (v0_1 : Int) (v0_2 v0_3 v0_4 v0_5 : Bool) (v0_6 : Int) (v0_7 : List Dat) (v0_8 v0_9 v3_0 v3_1 : Int) (v3_2 : ByteArray) (v3_3 v3_4 v3_5 v3_6 v3_7 v4 v5 : Bool) : R := loopIter (fun E K => evCode C (ev C n) n kp247 (c247 [1, 1, 1, 0, 0]) E K) [0, 2, 3, 4, 5] (Kblk 0 (Ktop C 247 f247 [.pbox []])) m1 [.pbox [.shr 5 v0_0, .int .i64 v0_1, .bool v0_2, .bool v0_3, .bool v0_4, .bool v0_5, .int .i64 v0_6, .own 0 8 9 v0_7, .int .i64 v0_8, .int .i64 v0_9], .und, .box 268 [.int .i64 0, .int .i64 0, .str ByteArray.empty, .bool false, .bool false, .bool false, .bool false, .bool false], .box 268 [.int .i64 v3_0, .int .i64 v3_1, .str v3_2, .bool v3_3, .bool v3_4, .bool v3_5, .bool v3_6, .bool v3_7], .bool v4, .bool v5, .und, .und, .und, .und, .und, .und, .und, .und, .und, .und, .und, .und, .und, .und, .und, .und, .und, .und, .und, .und, .und, .und, .und, .und, .und, .und, .und, .und, .und, .und, .und, .und, .und, .und, .und, .und, .und, .und, .und, .und, .und, .und, .und, .und, .und, .und, .und, .und, .und, .und, .und, .und, .und, .und, .und, .und, .und, .und]
noncomputable def M247_1 (v0_0 : List Dat) (v0_1 : Int) (v0_2 v0_3 v0_4 v0_5 : Bool) (v0_6 : Int) (v0_7 : List Dat) (v0_8 v0_9 v3_0 v3_1 : Int) (v3_2 : ByteArray) (v3_3 v3_4 v3_5 v3_6 v3_7 v4 v5 : Bool) : R := lim fun φ => L247_1 (φ 0) (φ 1) v0_0 v0_1 v0_2 v0_3 v0_4 v0_5 v0_6 v0_7 v0_8 v0_9 v3_0 v3_1 v3_2 v3_3 v3_4 v3_5 v3_6 v3_7 v4 v5
theorem M247_1_c (v0_0 : List Dat) (v0_1 : Int) (v0_2 v0_3 v0_4 v0_5 : Bool) (v0_6 : Int) (v0_7 : List Dat) (v0_8 v0_9 v3_0 v3_1 : Int) (v3_2 : ByteArray) (v3_3 v3_4 v3_5 v3_6 v3_7 v4 v5 : Bool) : Cont (fun φ => L247_1 (φ 0) (φ 1) v0_0 v0_1 v0_2 v0_3 v0_4 v0_5 v0_6 v0_7 v0_8 v0_9 v3_0 v3_1 v3_2 v3_3 v3_4 v3_5 v3_6 v3_7 v4 v5) (M247_1 v0_0 v0_1 v0_2 v0_3 v0_4 v0_5 v0_6 v0_7 v0_8 v0_9 v3_0 v3_1 v3_2 v3_3 v3_4 v3_5 v3_6 v3_7 v4 v5) := Cont.re id _
theorem M247_1_e (v0_0 : List Dat) (v0_1 : Int) (v0_2 v0_3 v0_4 v0_5 : Bool) (v0_6 : Int) (v0_7 : List Dat) (v0_8 v0_9 v3_0 v3_1 : Int) (v3_2 : ByteArray) (v3_3 v3_4 v3_5 v3_6 v3_7 v4 v5 : Bool) : Cont (fun φ => L247_1 (φ 0) (φ 0) v0_0 v0_1 v0_2 v0_3 v0_4 v0_5 v0_6 v0_7 v0_8 v0_9 v3_0 v3_1 v3_2 v3_3 v3_4 v3_5 v3_6 v3_7 v4 v5) (M247_1 v0_0 v0_1 v0_2 v0_3 v0_4 v0_5 v0_6 v0_7 v0_8 v0_9 v3_0 v3_1 v3_2 v3_3 v3_4 v3_5 v3_6 v3_7 v4 v5) := Cont.re (toZ 1) fun φ => L247_1 (φ 0) (φ 1) v0_0 v0_1 v0_2 v0_3 v0_4 v0_5 v0_6 v0_7 v0_8 v0_9 v3_0 v3_1 v3_2 v3_3 v3_4 v3_5 v3_6 v3_7 v4 v5
theorem M247_1_of (v0_0 : List Dat) (v0_1 : Int) (v0_2 v0_3 v0_4 v0_5 : Bool) (v0_6 : Int) (v0_7 : List Dat) (v0_8 v0_9 v3_0 v3_1 : Int) (v3_2 : ByteArray) (v3_3 v3_4 v3_5 v3_6 v3_7 v4 v5 : Bool) {r : List Dat} (h : ((E C 109 [.pbox [.shr 5 v0_0, .int .i64 v0_1, .bool v0_2, .bool v0_3, .bool v0_4, .bool v0_5, .int .i64 v0_6, .own 0 8 9 v0_7, .int .i64 v0_8, .int .i64 v0_9], .int .i64 v0_1]).bind fun d1 => ((E C 266 [.pbox [.bool v3_3, .bool v3_4, .bool v3_5, .bool v3_6], .int .u8 ((rd d1 0).I), .bool v4]).bind fun d2 => (bif (rd d2 0).B then (M247_1 (((rd d1 1).C 0).L) (IntKind.i64.wrap ((((rd d1 1).C 1).I) + 1)) (((rd d1 1).C 2).B) (((rd d1 1).C 3).B) (((rd d1 1).C 4).B) (((rd d1 1).C 5).B) (((rd d1 1).C 6).I) (((rd d1 1).C 7).L) (((rd d1 1).C 8).I) (((rd d1 1).C 9).I) v3_0 v3_1 v3_2 (((rd d2 1).C 0).B) (((rd d2 1).C 1).B) (((rd d2 1).C 2).B) (((rd d2 1).C 3).B) v3_7 v4 true) else (bif ((rd d1 0).I) == 45 then (bif v4 then (M247_1 (((rd d1 1).C 0).L) (IntKind.i64.wrap ((((rd d1 1).C 1).I) + 1)) (((rd d1 1).C 2).B) (((rd d1 1).C 3).B) (((rd d1 1).C 4).B) (((rd d1 1).C 5).B) (((rd d1 1).C 6).I) (((rd d1 1).C 7).L) (((rd d1 1).C 8).I) (((rd d1 1).C 9).I) v3_0 v3_1 v3_2 (((rd d2 1).C 0).B) (((rd d2 1).C 1).B) (((rd d2 1).C 2).B) (((rd d2 1).C 3).B) v3_7 false false) else (bif v5 then (bif ((rd d1 0).I) == 58 then (some [.agg [.int v3_0, .int v3_1, .str v3_2, .bool (((rd d2 1).C 0).B), .bool (((rd d2 1).C 1).B), .bool (((rd d2 1).C 2).B), .bool (((rd d2 1).C 3).B), .bool (((rd d1 0).I) == 41)], .agg [.list (((rd d1 1).C 0).L), .int (IntKind.i64.wrap ((((rd d1 1).C 1).I) + 1)), .bool (((rd d1 1).C 2).B), .bool (((rd d1 1).C 3).B), .bool (((rd d1 1).C 4).B), .bool (((rd d1 1).C 5).B), .int (((rd d1 1).C 6).I), .list (((rd d1 1).C 7).L), .int (((rd d1 1).C 8).I), .int (((rd d1 1).C 9).I)]]) else (bif ((rd d1 0).I) == 41 then (some [.agg [.int v3_0, .int v3_1, .str v3_2, .bool (((rd d2 1).C 0).B), .bool (((rd d2 1).C 1).B), .bool (((rd d2 1).C 2).B), .bool (((rd d2 1).C 3).B), .bool (((rd d1 0).I) == 41)], .agg [.list (((rd d1 1).C 0).L), .int (IntKind.i64.wrap ((((rd d1 1).C 1).I) + 1)), .bool (((rd d1 1).C 2).B), .bool (((rd d1 1).C 3).B), .bool (((rd d1 1).C 4).B), .bool (((rd d1 1).C 5).B), .int (((rd d1 1).C 6).I), .list (((rd d1 1).C 7).L), .int (((rd d1 1).C 8).I), .int (((rd d1 1).C 9).I)]]) else ((E C 68 [.pbox [.shr 5 (((rd d1 1).C 0).L), .int .i64 (((rd d1 1).C 1).I), .bool (((rd d1 1).C 2).B), .bool (((rd d1 1).C 3).B), .bool (((rd d1 1).C 4).B), .bool (((rd d1 1).C 5).B), .int .i64 (((rd d1 1).C 6).I), .own 0 8 9 (((rd d1 1).C 7).L), .int .i64 (((rd d1 1).C 8).I), .int .i64 (((rd d1 1).C 9).I)], .int .i64 35, .int .i64 (((rd d1 1).C 1).I)]).bind fun d3 => (some [.agg [.int v3_0, .int v3_1, .str v3_2, .bool (((rd d2 1).C 0).B), .bool (((rd d2 1).C 1).B), .bool (((rd d2 1).C 2).B), .bool (((rd d2 1).C 3).B), .bool v3_7], .agg [.list (((rd d3 0).C 0).L), .int (((rd d3 0).C 1).I), .bool (((rd d3 0).C 2).B), .bool (((rd d3 0).C 3).B), .bool (((rd d3 0).C 4).B), .bool (((rd d3 0).C 5).B), .int (((rd d3 0).C 6).I), .list (((rd d3 0).C 7).L), .int (((rd d3 0).C 8).I), .int (((rd d3 0).C 9).I)]])))) else ((E C 68 [.pbox [.shr 5 (((rd d1 1).C 0).L), .int .i64 (((rd d1 1).C 1).I), .bool (((rd d1 1).C 2).B), .bool (((rd d1 1).C 3).B), .bool (((rd d1 1).C 4).B), .bool (((rd d1 1).C 5).B), .int .i64 (((rd d1 1).C 6).I), .own 0 8 9 (((rd d1 1).C 7).L), .int .i64 (((rd d1 1).C 8).I), .int .i64 (((rd d1 1).C 9).I)], .int .i64 35, .int .i64 (((rd d1 1).C 1).I)]).bind fun d4 => (some [.agg [.int v3_0, .int v3_1, .str v3_2, .bool (((rd d2 1).C 0).B), .bool (((rd d2 1).C 1).B), .bool (((rd d2 1).C 2).B), .bool (((rd d2 1).C 3).B), .bool v3_7], .agg [.list (((rd d4 0).C 0).L), .int (((rd d4 0).C 1).I), .bool (((rd d4 0).C 2).B), .bool (((rd d4 0).C 3).B), .bool (((rd d4 0).C 4).B), .bool (((rd d4 0).C 5).B), .int (((rd d4 0).C 6).I), .list (((rd d4 0).C 7).L), .int (((rd d4 0).C 8).I), .int (((rd d4 0).C 9).I)]])))) else (bif v5 then (bif ((rd d1 0).I) == 58 then (some [.agg [.int v3_0, .int v3_1, .str v3_2, .bool (((rd d2 1).C 0).B), .bool (((rd d2 1).C 1).B), .bool (((rd d2 1).C 2).B), .bool (((rd d2 1).C 3).B), .bool (((rd d1 0).I) == 41)], .agg [.list (((rd d1 1).C 0).L), .int (IntKind.i64.wrap ((((rd d1 1).C 1).I) + 1)), .bool (((rd d1 1).C 2).B), .bool (((rd d1 1).C 3).B), .bool (((rd d1 1).C 4).B), .bool (((rd d1 1).C 5).B), .int (((rd d1 1).C 6).I), .list (((rd d1 1).C 7).L), .int (((rd d1 1).C 8).I), .int (((rd d1 1).C 9).I)]]) else (bif ((rd d1 0).I) == 41 then (some [.agg [.int v3_0, .int v3_1, .str v3_2, .bool (((rd d2 1).C 0).B), .bool (((rd d2 1).C 1).B), .bool (((rd d2 1).C 2).B), .bool (((rd d2 1).C 3).B), .bool (((rd d1 0).I) == 41)], .agg [.list (((rd d1 1).C 0).L), .int (IntKind.i64.wrap ((((rd d1 1).C 1).I) + 1)), .bool (((rd d1 1).C 2).B), .bool (((rd d1 1).C 3).B), .bool (((rd d1 1).C 4).B), .bool (((rd d1 1).C 5).B), .int (((rd d1 1).C 6).I), .list (((rd d1 1).C 7).L), .int (((rd d1 1).C 8).I), .int (((rd d1 1).C 9).I)]]) else ((E C 68 [.pbox [.shr 5 (((rd d1 1).C 0).L), .int .i64 (((rd d1 1).C 1).I), .bool (((rd d1 1).C 2).B), .bool (((rd d1 1).C 3).B), .bool (((rd d1 1).C 4).B), .bool (((rd d1 1).C 5).B), .int .i64 (((rd d1 1).C 6).I), .own 0 8 9 (((rd d1 1).C 7).L), .int .i64 (((rd d1 1).C 8).I), .int .i64 (((rd d1 1).C 9).I)], .int .i64 35, .int .i64 (((rd d1 1).C 1).I)]).bind fun d5 => (some [.agg [.int v3_0, .int v3_1, .str v3_2, .bool (((rd d2 1).C 0).B), .bool (((rd d2 1).C 1).B), .bool (((rd d2 1).C 2).B), .bool (((rd d2 1).C 3).B), .bool v3_7], .agg [.list (((rd d5 0).C 0).L), .int (((rd d5 0).C 1).I), .bool (((rd d5 0).C 2).B), .bool (((rd d5 0).C 3).B), .bool (((rd d5 0).C 4).B), .bool (((rd d5 0).C 5).B), .int (((rd d5 0).C 6).I), .list (((rd d5 0).C 7).L), .int (((rd d5 0).C 8).I), .int (((rd d5 0).C 9).I)]])))) else ((E C 68 [.pbox [.shr 5 (((rd d1 1).C 0).L), .int .i64 (((rd d1 1).C 1).I), .bool (((rd d1 1).C 2).B), .bool (((rd d1 1).C 3).B), .bool (((rd d1 1).C 4).B), .bool (((rd d1 1).C 5).B), .int .i64 (((rd d1 1).C 6).I), .own 0 8 9 (((rd d1 1).C 7).L), .int .i64 (((rd d1 1).C 8).I), .int .i64 (((rd d1 1).C 9).I)], .int .i64 35, .int .i64 (((rd d1 1).C 1).I)]).bind fun d6 => (some [.agg [.int v3_0, .int v3_1, .str v3_2, .bool (((rd d2 1).C 0).B), .bool (((rd d2 1).C 1).B), .bool (((rd d2 1).C 2).B), .bool (((rd d2 1).C 3).B), .bool v3_7], .agg [.list (((rd d6 0).C 0).L), .int (((rd d6 0).C 1).I), .bool (((rd d6 0).C 2).B), .bool (((rd d6 0).C 3).B), .bool (((rd d6 0).C 4).B), .bool (((rd d6 0).C 5).B), .int (((rd d6 0).C 6).I), .list (((rd d6 0).C 7).L), .int (((rd d6 0).C 8).I), .int (((rd d6 0).C 9).I)]])))))) : R) = some r) : M247_1 v0_0 v0_1 v0_2 v0_3 v0_4 v0_5 v0_6 v0_7 v0_8 v0_9 v3_0 v3_1 v3_2 v3_3 v3_4 v3_5 v3_6 v3_7 v4 v5 = some r := lim_st (g := fun φ => L247_1 (φ 0) (φ 1) v0_0 v0_1 v0_2 v0_3 v0_4 v0_5 v0_6 v0_7 v0_8 v0_9 v3_0 v3_1 v3_2 v3_3 v3_4 v3_5 v3_6 v3_7 v4 v5) 1 h (Cont.bind (Cont.call C 109 _) fun _ => (Cont.bind (Cont.call C 266 _) fun _ => (Cont.bif (M247_1_c _ _ _ _ _ _ _ _ _ _ _ _ _ _ _ _ _ _ _ _) (Cont.bif (Cont.bif (M247_1_c _ _ _ _ _ _ _ _ _ _ _ _ _ _ _ _ _ _ _ _) (Cont.bif (Cont.bif (Cont.const _) (Cont.bif (Cont.const _) (Cont.bind (Cont.call C 68 _) fun _ => (Cont.const _)))) (Cont.bind (Cont.call C 68 _) fun _ => (Cont.const _)))) (Cont.bif (Cont.bif (Cont.const _) (Cont.bif (Cont.const _) (Cont.bind (Cont.call C 68 _) fun _ => (Cont.const _)))) (Cont.bind (Cont.call C 68 _) fun _ => (Cont.const _))))))) fun φ m hm => (congrArg (fun q => L247_1 (φ 0) q v0_0 v0_1 v0_2 v0_3 v0_4 v0_5 v0_6 v0_7 v0_8 v0_9 v3_0 v3_1 v3_2 v3_3 v3_4 v3_5 v3_6 v3_7 v4 v5) hm).trans (by kernel_rfl)
theorem o247 (p0_0 : List Dat) (p0_1 : Int) (p0_2 p0_3 p0_4 p0_5 : Bool) (p0_6 : Int) (p0_7 : List Dat) (p0_8 p0_9 : Int) {r : List Dat} (h : (M247_1 p0_0 p0_1 p0_2 p0_3 p0_4 p0_5 p0_6 p0_7 p0_8 p0_9 0 0 ByteArray.empty p0_2 p0_3 p0_4 p0_5 false true false : R) = some r) : E C 247 [.pbox [.shr 5 p0_0, .int .i64 p0_1, .bool p0_2, .bool p0_3, .bool p0_4, .bool p0_5, .int .i64 p0_6, .own 0 8 9 p0_7, .int .i64 p0_8, .int .i64 p0_9]] = some r := E_st h (M247_1_e _ _ _ _ _ _ _ _ _ _ _ _ _ _ _ _ _ _ _ _) fun φ => by kernel_rfl
/-- (*clew/parse.flags).letter -/
noncomputable def f266 : Func := Tryz.f266
theorem o266 (p0_0 p0_1 p0_2 p0_3 : Bool) (a1 : Int) (a2 : Bool) {r : List Dat} (h : (bif a1 == 105 then (some [.bool true, .agg [.bool a2, .bool p0_1, .bool p0_2, .bool p0_3]]) else (bif a1 == 109 then (some [.bool true, .agg [.bool p0_0, .bool a2, .bool p0_2, .bool p0_3]]) else (bif a1 == 115 then (some [.bool true, .agg [.bool p0_0, .bool p0_1, .bool a2, .bool p0_3]]) else (bif a1 == 120 then (some [.bool true, .agg [.bool p0_0, .bool p0_1, .bool p0_2, .bool a2]]) else (some [.bool false, .agg [.bool p0_0, .bool p0_1, .bool p0_2, .bool p0_3]])))) : R) = some r) : E C 266 [.pbox [.bool p0_0, .bool p0_1, .bool p0_2, .bool p0_3], .int .u8 a1, .bool a2] = some r := E_st h (Cont.bif (Cont.const _) (Cont.bif (Cont.const _) (Cont.bif (Cont.const _) (Cont.bif (Cont.const _) (Cont.const _))))) fun φ => by kernel_rfl
end Go.Proofs.YtlofoifcdmeopaaGreatDoor.V
namespace Go.Proofs.YtlofoifcdmeopaaGreatDoor.V
open Go Go.Ev Go.RowKit
set_option linter.unusedVariables false
set_option linter.unusedSimpArgs false
/-- What a parser holds, but for its pattern. -/
structure PS where
  k : Int
  fo : Bool
  li : Bool
  al : Bool
  wi : Bool
  gr : Int
  nm : List ByteArray
  e : Int
  wh : Int
abbrev pv (b : List Int) (s : PS) : AV := .pbox [.shr 5 (b.map .int), .int .i64 s.k, .bool s.fo, .bool s.li, .bool s.al, .bool s.wi, .int .i64 s.gr, .own 0 8 9 (s.nm.map .str), .int .i64 s.e, .int .i64 s.wh]
def pd (b : List Int) (s : PS) : Dat := .agg [.list (b.map .int), .int s.k, .bool s.fo, .bool s.li, .bool s.al, .bool s.wi, .int s.gr, .list (s.nm.map .str), .int s.e, .int s.wh]
theorem pd0 (b : List Int) (s : PS) : (pd b s).C 0 = .list (b.map .int) := (rfl)
theorem pd1 (b : List Int) (s : PS) : (pd b s).C 1 = .int s.k := (rfl)
theorem pd2 (b : List Int) (s : PS) : (pd b s).C 2 = .bool s.fo := (rfl)
theorem pd3 (b : List Int) (s : PS) : (pd b s).C 3 = .bool s.li := (rfl)
theorem pd4 (b : List Int) (s : PS) : (pd b s).C 4 = .bool s.al := (rfl)
theorem pd5 (b : List Int) (s : PS) : (pd b s).C 5 = .bool s.wi := (rfl)
theorem pd6 (b : List Int) (s : PS) : (pd b s).C 6 = .int s.gr := (rfl)
theorem pd7 (b : List Int) (s : PS) : (pd b s).C 7 = .list (s.nm.map .str) := (rfl)
theorem pd8 (b : List Int) (s : PS) : (pd b s).C 8 = .int s.e := (rfl)
theorem pd9 (b : List Int) (s : PS) : (pd b s).C 9 = .int s.wh := (rfl)
/-- A part: its node, and its kids. -/
def ptD (n : Nd) (ks : List Dat) : Dat := .agg [.int n.kind, .int n.frm, .int n.to, .int n.num, .int n.min, .int n.max, .int n.mode, .str n.name, .list (rs n.set), .list (n.kids.map .int), .list ks]
abbrev ptV (n : Nd) (ks : List Dat) : AV := .agg [.int .i64 n.kind, .int .i64 n.frm, .int .i64 n.to, .int .i64 n.num, .int .i64 n.min, .int .i64 n.max, .int .i64 n.mode, .str n.name, .shr 82 (rs n.set), .shr 3 (n.kids.map .int), .shr 103 ks]
theorem pt0 (n : Nd) (ks : List Dat) : (ptD n ks).C 0 = .int n.kind := (rfl)
theorem pt1 (n : Nd) (ks : List Dat) : (ptD n ks).C 1 = .int n.frm := (rfl)
theorem pt2 (n : Nd) (ks : List Dat) : (ptD n ks).C 2 = .int n.to := (rfl)
theorem pt3 (n : Nd) (ks : List Dat) : (ptD n ks).C 3 = .int n.num := (rfl)
theorem pt4 (n : Nd) (ks : List Dat) : (ptD n ks).C 4 = .int n.min := (rfl)
theorem pt5 (n : Nd) (ks : List Dat) : (ptD n ks).C 5 = .int n.max := (rfl)
theorem pt6 (n : Nd) (ks : List Dat) : (ptD n ks).C 6 = .int n.mode := (rfl)
theorem pt7 (n : Nd) (ks : List Dat) : (ptD n ks).C 7 = .str n.name := (rfl)
theorem pt8 (n : Nd) (ks : List Dat) : (ptD n ks).C 8 = .list (rs n.set) := (rfl)
theorem pt9 (n : Nd) (ks : List Dat) : (ptD n ks).C 9 = .list (n.kids.map .int) := (rfl)
theorem pt10 (n : Nd) (ks : List Dat) : (ptD n ks).C 10 = .list ks := (rfl)
theorem stP : (∀ (a : Dat) (l : List Dat), rd (a :: l) 0 = a) ∧ (∀ (a b : Dat) (l : List Dat), rd (a :: b :: l) 1 = b) ∧ (∀ (a b c : Dat) (l : List Dat), rd (a :: b :: c :: l) 2 = c) ∧ (∀ (a b c d : Dat) (l : List Dat), rd (a :: b :: c :: d :: l) 3 = d) ∧ (∀ (b : List Int) (s : PS), (pd b s).C 0 = .list (b.map .int)) ∧ (∀ (b : List Int) (s : PS), (pd b s).C 1 = .int s.k) ∧ (∀ (b : List Int) (s : PS), (pd b s).C 2 = .bool s.fo) ∧ (∀ (b : List Int) (s : PS), (pd b s).C 3 = .bool s.li) ∧ (∀ (b : List Int) (s : PS), (pd b s).C 4 = .bool s.al) ∧ (∀ (b : List Int) (s : PS), (pd b s).C 5 = .bool s.wi) ∧ (∀ (b : List Int) (s : PS), (pd b s).C 6 = .int s.gr) ∧ (∀ (b : List Int) (s : PS), (pd b s).C 7 = .list (s.nm.map .str)) ∧ (∀ (b : List Int) (s : PS), (pd b s).C 8 = .int s.e) ∧ (∀ (b : List Int) (s : PS), (pd b s).C 9 = .int s.wh) ∧ (∀ (n : Nd) (ks : List Dat), (ptD n ks).C 0 = .int n.kind) ∧ (∀ (n : Nd) (ks : List Dat), (ptD n ks).C 1 = .int n.frm) ∧ (∀ (n : Nd) (ks : List Dat), (ptD n ks).C 2 = .int n.to) ∧ (∀ (n : Nd) (ks : List Dat), (ptD n ks).C 3 = .int n.num) ∧ (∀ (n : Nd) (ks : List Dat), (ptD n ks).C 4 = .int n.min) ∧ (∀ (n : Nd) (ks : List Dat), (ptD n ks).C 5 = .int n.max) ∧ (∀ (n : Nd) (ks : List Dat), (ptD n ks).C 6 = .int n.mode) ∧ (∀ (n : Nd) (ks : List Dat), (ptD n ks).C 7 = .str n.name) ∧ (∀ (n : Nd) (ks : List Dat), (ptD n ks).C 8 = .list (rs n.set)) ∧ (∀ (n : Nd) (ks : List Dat), (ptD n ks).C 9 = .list (n.kids.map .int)) ∧ (∀ (n : Nd) (ks : List Dat), (ptD n ks).C 10 = .list ks) ∧ (∀ l : List Dat, (Dat.list l).L = l) ∧ (∀ n : Int, (Dat.int n).I = n) ∧ (∀ b : Bool, (Dat.bool b).B = b) ∧ (∀ s : ByteArray, (Dat.str s).S = s) := ⟨rd0, rd1, rd2, rd3, pd0, pd1, pd2, pd3, pd4, pd5, pd6, pd7, pd8, pd9, pt0, pt1, pt2, pt3, pt4, pt5, pt6, pt7, pt8, pt9, pt10, datL, datI, datB, datS⟩
theorem agA : (∀ (a : Dat) (l : List Dat), (Dat.agg (a :: l)).C 0 = a) ∧ (∀ (a b : Dat) (l : List Dat), (Dat.agg (a :: b :: l)).C 1 = b) ∧ (∀ (a b c : Dat) (l : List Dat), (Dat.agg (a :: b :: c :: l)).C 2 = c) ∧ (∀ (a b c d : Dat) (l : List Dat), (Dat.agg (a :: b :: c :: d :: l)).C 3 = d) ∧ (∀ (a b c d e : Dat) (l : List Dat), (Dat.agg (a :: b :: c :: d :: e :: l)).C 4 = e) ∧ (∀ (a b c d e f : Dat) (l : List Dat), (Dat.agg (a :: b :: c :: d :: e :: f :: l)).C 5 = f) := ⟨aggC0, aggC1, aggC2, aggC3, aggC4, aggC5⟩
def nd0P : Nd := ⟨0, 0, 0, 0, 0, 0, 0, ByteArray.empty, [], []⟩
def overB (b : List Int) (s : PS) : Bool := s.e != 0 || decide (s.k ≥ (b.length : Int))
def failS (s : PS) (e at_ : Int) : PS := if s.e = 0 then { s with e := e, wh := at_ } else s
def skipS (b : List Int) (s : PS) : PS := bif s.wi then { s with k := blankR b s.k } else s
def endsB (b : List Int) (s : PS) : Bool := overB b (skipS b s) || atB b (skipS b s).k == 124 || atB b (skipS b s).k == 41
theorem over_E (b : List Int) (s : PS) : E C 67 [pv b s] = some [.bool (overB b s), pd b s] := by
  apply o67
  unfold overB
  by_cases h : s.e = 0
  · rw [neF h, List.length_map, show (s.e != 0) = false by simp [h], Bool.false_or]; rfl
  · rw [neT h, show (s.e != 0) = true by simp [h], Bool.true_or]; rfl
theorem fail_E (b : List Int) (s : PS) (e a : Int) : E C 68 [pv b s, .int .i64 e, .int .i64 a] = some [pd b (failS s e a)] := by
  apply o68
  unfold failS
  by_cases h : s.e = 0
  · rw [eT h, if_pos h]; rfl
  · rw [eF h, if_neg h]; rfl
theorem byteAt_E (b : List Int) (s : PS) (i : Int) (hi : 0 ≤ i) : E C 109 [pv b s, .int .i64 i] = some [.int (atB b i), pd b s] := by
  apply o109
  rw [List.length_map]
  by_cases h : i ≥ (b.length : Int)
  · rw [dT h, atB_out (by omega)]; rfl
  · rw [dF h, ixT ⟨hi, by omega⟩, rdA ⟨hi, by omega⟩]; rfl
theorem skip_E (b : List Int) (hb : b.length ≤ 140737488351232) (s : PS) (hk : i64P s.k) : E C 177 [pv b s] = some [pd b (skipS b s)] := by
  apply o177
  unfold skipS
  cases hw : s.wi with
  | true => rw [cond_true, cond_true, bT (Blank_E b hb s.k hk)]; rfl
  | false => rw [cond_false, cond_false, ← hw]; rfl
theorem ends_E (b : List Int) (hb : b.length ≤ 140737488351232) (s : PS) (hk : i64P s.k) (h0 : 0 ≤ (skipS b s).k) : E C 147 [pv b s] = some [.bool (endsB b s), pd b (skipS b s)] := by
  apply o147
  rw [bT (skip_E b hb s hk)]
  simp only [rd0, pd0, pd1, pd2, pd3, pd4, pd5, pd6, pd7, pd8, pd9, datL, datI, datB]
  rw [bT (over_E b (skipS b s))]
  simp only [rd0, rd1, pd0, pd1, pd2, pd3, pd4, pd5, pd6, pd7, pd8, pd9, datL, datI, datB]
  unfold endsB
  cases overB b (skipS b s) with
  | true => rfl
  | false =>
  rw [cond_false, Bool.false_or, bT (byteAt_E b (skipS b s) _ h0)]
  simp only [rd0, rd1, pd0, pd1, pd2, pd3, pd4, pd5, pd6, pd7, pd8, pd9, datL, datI, datB]
  by_cases h : atB b (skipS b s).k = 124
  · rw [eT h, show (atB b (skipS b s).k == 124) = true by simp [h], Bool.true_or]; rfl
  rw [eF h, show (atB b (skipS b s).k == 124) = false by simp [h], Bool.false_or, bT (byteAt_E b (skipS b s) _ h0)]
  rfl
theorem set_E (b : List Int) (s : PS) (f t : Int) (l : List (Int × Int)) : E C 208 [pv b s, .int .i64 f, .int .i64 t, .shr 82 (rs l)] = some [ptD ⟨2, f, t, 0, 0, 0, 0, ByteArray.empty, l, []⟩ [], pd b { s with k := t }] := by
  apply o208
  rfl
theorem hold_E (b : List Int) (s : PS) (f t w : Int) : E C 210 [pv b s, .int .i64 f, .int .i64 t, .int .i64 w] = some [ptD ⟨3, f, t, w, 0, 0, 0, ByteArray.empty, [], []⟩ [], pd b { s with k := t }] := by
  apply o210
  rfl
theorem closed_E (b : List Int) (s : PS) (l : List (Int × Int)) (hl : l.length ≤ 1000000) : E C 214 [pv b s, .shr 82 (rs l)] = some [.list (rs (bif s.fo then closeR l else l)), pd b s] := by
  apply o214
  cases hf : s.fo with
  | true => rw [cond_true, cond_true, bT (Close_E l hl), ← hf]; rfl
  | false => rw [cond_false, cond_false, ← hf]; rfl
theorem either_E (c : Bool) (x y : Int) : E C 211 [.bool c, .int .i64 x, .int .i64 y] = some [.int (bif c then x else y)] := by
  apply o211
  cases c <;> rfl
theorem Of1_E (x : Int) : E C 215 [.int .i64 x] = some [.list (rs (mk [(x, x)]))] := by
  apply o215
  rw [show ([.agg [.int x, .int x]] : List Dat) = rs [(x, x)] from rfl, bT (Make_E [(x, x)] (show 1 < 8796093022208 by decide))]
  rfl
/-- The quantifier at a place: what is found, whether it counts, the state behind. -/
def countS (b : List Int) (s : PS) : PS := let c := ((rd (countR b s.k) 2).I); if c = 0 then s else failS s c s.k
theorem countR_len (b : List Int) (i : Int) : ∃ q0 q1 q2 q3 : Int, ∃ ok : Bool, ∃ e : Int, countR b i = [.agg [.int q0, .int q1, .int q2, .int q3], .bool ok, .int e] ∧ (e ≠ 0 → ok = false ∧ e = 34) := by
  unfold countR
  split
  · exact ⟨_, _, _, _, _, _, rfl, fun h => absurd rfl h⟩
  · unfold finC
    split
    · exact ⟨_, _, _, _, _, _, rfl, fun h => ⟨rfl, rfl⟩⟩
    · split
      · exact ⟨_, _, _, _, _, _, rfl, fun h => absurd rfl h⟩
      · split
        · exact ⟨_, _, _, _, _, _, rfl, fun h => absurd rfl h⟩
        · exact ⟨_, _, _, _, _, _, rfl, fun h => absurd rfl h⟩
theorem count_E (b : List Int) (hb : b.length ≤ 140737488351232) (s : PS) : E C 178 [pv b s] = some [rd (countR b s.k) 0, .bool ((rd (countR b s.k) 1).B && (s.e == 0)), pd b (countS b s)] := by
  obtain ⟨q0, q1, q2, q3, ok, e, hq, he⟩ := countR_len b s.k
  apply o178
  rw [bT (Count_E b hb s.k)]
  unfold countS
  rw [hq]
  simp only [rd0, rd1, rd2, aggC0, aggC1, aggC2, aggC3, datI, datB]
  by_cases h : e = 0
  · rw [neF h, if_pos h]
    cases ok with
    | true => rw [cond_true, Bool.true_and]; rfl
    | false => rfl
  · obtain ⟨rfl, rfl⟩ := he h
    rw [neT h, if_neg h, bT (fail_E b s _ _)]
    rfl
end Go.Proofs.YtlofoifcdmeopaaGreatDoor.V
namespace Go.Proofs.YtlofoifcdmeopaaGreatDoor.V
open Go Go.Ev Go.RowKit
set_option linter.unusedVariables false
set_option linter.unusedSimpArgs false
theorem count_no (b : List Int) (hb : b.length ≤ 140737488351232) (s : PS) (h : cntQ b s.k = none) : E C 178 [pv b s] = some [.agg [.int 0, .int 0, .int 0, .int 0], .bool false, pd b s] := by
  have hc : countR b s.k = noneC := by unfold countR; rw [h]
  have := count_E b hb s
  rw [hc] at this
  unfold countS at this
  rw [hc] at this
  exact this
theorem pc_ok (b : List Int) (hb : b.length ≤ 140737488351232) (s : PS) (d : Int) (he : s.e = 0) (h1 : cntQ b s.k = none) {n : Nd} {ks : List Dat} {may : Bool} {s1 : PS} (hat : E C 179 [pv b s, .int .i64 d] = some [ptD n ks, .bool may, pd b s1]) (e1 : s1.e = 0) (hk1 : i64P s1.k) (h2 : cntQ b (skipS b s1).k = none) (hk : n.kind ≠ 0) : E C 148 [pv b s, .int .i64 d] = some [.list [ptD n ks], pd b (skipS b s1)] := by
  apply o148
  rw [bT (count_no b hb s h1)]
  simp only [stP, agA]
  rw [cond_false, neF he, bT hat]
  simp only [stP, agA]
  rw [neF e1, bT (skip_E b hb s1 hk1)]
  simp only [stP, agA]
  rw [bT (count_no b hb (skipS b s1) h2)]
  simp only [stP, agA]
  rw [cond_false, eF hk]
  rfl
theorem atom_par (b : List Int) (s : PS) (d : Int) (hd : 0 ≤ d ∧ d ≤ 1000) (h0 : 0 ≤ s.k) (hc : atB b s.k = 40) {n : Nd} {ks : List Dat} {may : Bool} {s1 : PS} (hg : E C 206 [pv b s, .int .i64 (d + 1)] = some [ptD n ks, .bool may, pd b s1]) : E C 179 [pv b s, .int .i64 d] = some [ptD n ks, .bool may, pd b s1] := by
  apply o179
  rw [bT (byteAt_E b s _ h0)]
  simp only [stP, agA]
  rw [eT hc, w64 (by omega) (by omega), bT hg]
  rfl
theorem atom_lit (b : List Int) (hbb : isBytes b = true) (hb : b.length ≤ 140737488351232) (s : PS) (d : Int) (h0 : 0 ≤ s.k ∧ s.k ≤ 140737488351232) (hc : atB b s.k ≠ 40 ∧ atB b s.k ≠ 91 ∧ atB b s.k ≠ 46 ∧ atB b s.k ≠ 94 ∧ atB b s.k ≠ 36 ∧ atB b s.k ≠ 92) (hs : 0 ≤ (symR b s.k).2 ∧ (symR b s.k).2 ≤ 4) : E C 179 [pv b s, .int .i64 d] = some [ptD ⟨2, s.k, s.k + (symR b s.k).2, 0, 0, 0, 0, ByteArray.empty, bif s.fo then closeR (mk [((symR b s.k).1, (symR b s.k).1)]) else mk [((symR b s.k).1, (symR b s.k).1)], []⟩ [], .bool true, pd b { s with k := s.k + (symR b s.k).2 }] := by
  obtain ⟨c1, c2, c3, c4, c5, c6⟩ := hc
  apply o179
  rw [bT (byteAt_E b s _ h0.1)]
  simp only [stP, agA]
  rw [eF c1, eF c2, eF c3, eF c4, eF c5, eF c6, bT (At_E b hbb hb s.k)]
  simp only [stP, agA]
  rw [bT (Of1_E _)]
  simp only [stP, agA]
  rw [bT (closed_E b s _ (mk1_len _))]
  simp only [stP, agA]
  rw [w64 (by omega) (by omega), bT (set_E b s _ _ _)]
  rfl
where
  mk1_len (x : Int) : (mk [(x, x)]).length ≤ 1000000 := Nat.le_trans (mk_length [(x, x)]) (show 1 ≤ 1000000 by decide)
theorem cap144 : capB 144 = 977343669134 := by decide
/-- A row of one piece. -/
theorem row_one (b : List Int) (hb : b.length ≤ 140737488351232) (s : PS) (d : Int) (hw : s.wi = false) (hk : i64P s.k) (h0 : 0 ≤ s.k) (hn : endsB b s = false) {x : Dat} {l : List Dat} {s1 : PS} (hp : E C 148 [pv b s, .int .i64 d] = some [.list l, pd b s1]) (hl : l.length ≤ 1) (w1 : s1.wi = false) (k1 : i64P s1.k) (h1 : 0 ≤ s1.k) (he : endsB b s1 = true) : E C 108 [pv b s, .int .i64 d] = some [(match l with | [] => ptD ⟨1, s.k, s.k, 0, 0, 0, 0, ByteArray.empty, [], []⟩ [] | x :: _ => .agg [.int (x.C 0).I, .int (x.C 1).I, .int (x.C 2).I, .int (x.C 3).I, .int (x.C 4).I, .int (x.C 5).I, .int (x.C 6).I, .str (x.C 7).S, .list (x.C 8).L, .list (x.C 9).L, .list (x.C 10).L]), pd b s1] := by
  have sk : skipS b s = s := by unfold skipS; rw [hw]; rfl
  have sk1 : skipS b s1 = s1 := by unfold skipS; rw [w1]; rfl
  apply o108
  apply M108_1_of
  have e0 := ends_E b hb s hk (by rw [sk]; exact h0)
  rw [sk, hn] at e0
  rw [bT e0]
  simp only [stP, agA]
  rw [nF' rfl, bT hp]
  simp only [stP, agA]
  rw [cap144, dT (by show 0 + l.length ≤ _; omega)]
  apply M108_1_of
  have e1 := ends_E b hb s1 k1 (by rw [sk1]; exact h1)
  rw [sk1, he] at e1
  rw [bT e1]
  simp only [stP, agA]
  rw [nF rfl]
  match l, hl with
  | [], _ => rfl
  | [x], _ => rfl
where
  nF' {α : Type} {b : Bool} {x y : α} (h : b = false) : (bif !b then x else y) = x := nT h
theorem alt_one (b : List Int) (s : PS) (d : Int) {n : Nd} {ks : List Dat} {s1 : PS} (hr : E C 108 [pv b s, .int .i64 d] = some [ptD n ks, pd b s1]) (h1 : 0 ≤ s1.k) (hc : overB b s1 = true ∨ atB b s1.k ≠ 124) : E C 66 [pv b s, .int .i64 d] = some [ptD n ks, pd b s1] := by
  apply o66
  rw [bT hr]
  simp only [stP, agA]
  apply M66_1_of
  rw [bT (over_E b s1)]
  simp only [stP, agA]
  cases ho : overB b s1 with
  | true => rfl
  | false =>
    rw [nT rfl, bT (byteAt_E b s1 _ h1)]
    simp only [stP, agA]
    rcases hc with hc | hc
    · rw [ho] at hc; cases hc
    · rw [eF hc]; rfl
end Go.Proofs.YtlofoifcdmeopaaGreatDoor.V
namespace Go.Proofs.YtlofoifcdmeopaaGreatDoor.V
open Go Go.Ev Go.RowKit
set_option linter.unusedVariables false
set_option linter.unusedSimpArgs false
def isSym (x : Int) : Bool := decide ((0 ≤ x ∧ x ≤ 55295) ∨ (57344 ≤ x ∧ x ≤ 1114111) ∨ (1114240 ≤ x ∧ x ≤ 1114367))
theorem isSym_iff (x : Int) : isSym x = true ↔ (0 ≤ x ∧ x ≤ 55295) ∨ (57344 ≤ x ∧ x ≤ 1114111) ∨ (1114240 ≤ x ∧ x ≤ 1114367) := by
  unfold isSym
  rw [decide_eq_true_eq]
theorem isSym_dec {x : Int} {c : Prop} [Decidable c] (h : c ↔ (0 ≤ x ∧ x ≤ 55295) ∨ (57344 ≤ x ∧ x ≤ 1114111) ∨ (1114240 ≤ x ∧ x ≤ 1114367)) : decide c = isSym x := by
  unfold isSym
  exact decide_eq_decide.2 h
theorem isSym_true {x : Int} (h : (0 ≤ x ∧ x ≤ 55295) ∨ (57344 ≤ x ∧ x ≤ 1114111) ∨ (1114240 ≤ x ∧ x ≤ 1114367)) : true = isSym x := ((isSym_iff x).mpr h).symm
theorem isSym_false {x : Int} (h : ¬ ((0 ≤ x ∧ x ≤ 55295) ∨ (57344 ≤ x ∧ x ≤ 1114111) ∨ (1114240 ≤ x ∧ x ≤ 1114367))) : false = isSym x := (Bool.eq_false_iff.mpr (fun e => h ((isSym_iff x).mp e))).symm
/-- A hexadecimal digit's number; -1: it is none. -/
def hexV (c : Int) : Int := if 48 ≤ c ∧ c ≤ 57 then c - 48 else if 97 ≤ c ∧ c ≤ 102 then c - 87 else if 65 ≤ c ∧ c ≤ 70 then c - 55 else -1
theorem hexV_in (c : Int) : -1 ≤ hexV c ∧ hexV c ≤ 15 := by
  unfold hexV
  split
  · omega
  split
  · omega
  split <;> omega
theorem hex_E (c : Int) : E C 302 [.int .u8 c] = some [.int (hexV c)] := by
  apply o302
  rw [bT (digit_E c)]
  simp only [rd0, datB]
  unfold hexV
  cases hd : digB c with
  | true =>
    have h := digB_iff.1 hd
    rw [cT rfl, w8 (by omega) (by omega), w64 (by omega) (by omega), if_pos h]
  | false =>
    have h := digB_no.1 hd
    rw [cF rfl, if_neg h]
    by_cases c1 : c ≥ 97
    · by_cases c2 : c ≤ 102
      · rw [dT c1, dT c2, w8 (by omega) (by omega), w64 (n := c - 97) (by omega) (by omega), w64 (by omega) (by omega), if_pos ⟨c1, c2⟩, show c - 97 + 10 = c - 87 by omega]
      · rw [dT c1, dF c2, dT (by omega), dF (by omega), if_neg (by omega), if_neg (by omega)]
    · rw [dF c1, if_neg (by omega)]
      by_cases c3 : c ≥ 65
      · by_cases c4 : c ≤ 70
        · rw [dT c3, dT c4, w8 (by omega) (by omega), w64 (n := c - 65) (by omega) (by omega), w64 (by omega) (by omega), if_pos ⟨c3, c4⟩, show c - 65 + 10 = c - 55 by omega]
        · rw [dT c3, dF c4, if_neg (by omega)]
      · rw [dF c3, if_neg (by omega)]
def nats (s : List UInt8) : List Int := s.map fun x => (x.toNat : Int)
/-- A number of at most so many hexadecimal digits; how many they are. -/
def hexG : Nat → List Int → Int → Int × Nat
  | 0, _, a => (a, 0)
  | m + 1, l, a => match l with
    | [] => (a, 0)
    | c :: l => if hexV c ≥ 0 then ((hexG m l (a * 16 + hexV c)).1, (hexG m l (a * 16 + hexV c)).2 + 1) else (a, 0)
theorem hexG_le : ∀ (m : Nat) (l : List Int) (a : Int), (hexG m l a).2 ≤ m ∧ (hexG m l a).2 ≤ l.length
  | 0, l, a => ⟨Nat.le_refl _, Nat.zero_le _⟩
  | m + 1, [], a => ⟨Nat.zero_le _, Nat.le_refl _⟩
  | m + 1, c :: l, a => by
    have := hexG_le m l (a * 16 + hexV c)
    unfold hexG
    dsimp only
    split
    · simp only [List.length_cons]; omega
    · simp
theorem hexG_drop {b : List Int} {k : Nat} (m : Nat) (a : Int) : hexG (m + 1) (b.drop k) a = if hexV (atB b (k : Int)) ≥ 0 then ((hexG m (b.drop (k + 1)) (a * 16 + hexV (atB b (k : Int)))).1, (hexG m (b.drop (k + 1)) (a * 16 + hexV (atB b (k : Int)))).2 + 1) else (a, 0) := by
  by_cases h : k < b.length
  · rw [List.drop_eq_getElem_cons h, hexG, atB_in h]
  · rw [List.drop_of_length_le (by omega), atB_out (by omega), if_neg (by decide)]
    rfl
theorem pow16 {k : Nat} (h : k ≤ 6) : (16 : Int) ^ k ≤ 16777216 := by
  have : k = 0 ∨ k = 1 ∨ k = 2 ∨ k = 3 ∨ k = 4 ∨ k = 5 ∨ k = 6 := by omega
  rcases this with rfl | rfl | rfl | rfl | rfl | rfl | rfl <;> decide
theorem hexes_loop (b : List Int) (hb : b.length ≤ 140737488351232) (i : Nat) (hi : i ≤ b.length + 10) (most : Nat) (hm : most ≤ 6) (v6 v7 : Int) : ∀ (m k : Nat) (a : Int), k + m = most → 0 ≤ a → a + 1 ≤ 16 ^ k →
    M284_1 (b.map .int) (i : Int) (most : Int) v6 v7 a (k : Int) = some [.int (hexG m (b.drop (i + k)) a).1, .int (((k + (hexG m (b.drop (i + k)) a).2 : Nat)) : Int)] := by
  intro m
  induction m with
  | zero =>
    intro k a hk h0 h1
    apply M284_1_of
    rw [dF (by omega)]
    rfl
  | succ m ih =>
    intro k a hk h0 h1
    have hp := pow16 (k := k) (by omega)
    have ew : IntKind.i64.wrap ((i : Int) + (k : Int)) = ((i + k : Nat) : Int) := by rw [w64 (by omega) (by omega)]; omega
    have hh := hexV_in (atB b ((i + k : Nat) : Int))
    apply M284_1_of
    rw [dT (by omega), ew, bT (at_E b _)]
    simp only [rd0, datI]
    rw [bT (hex_E _)]
    simp only [rd0, datI]
    rw [hexG_drop]
    by_cases h : hexV (atB b ((i + k : Nat) : Int)) ≥ 0
    · have hin : i + k < b.length := Classical.byContradiction fun hn => by
        rw [atB_out (by omega)] at h
        exact absurd h (by decide)
      rw [dT h, if_pos h, List.length_map, ixT ⟨by omega, by omega⟩, rdA ⟨by omega, by omega⟩, bT (hex_E _)]
      simp only [rd0, datI]
      rw [w64 (n := a * 16) (by omega) (by omega), w64 (n := a * 16 + hexV (atB b ((i + k : Nat) : Int))) (by omega) (by omega), show IntKind.i64.wrap ((k : Int) + 1) = ((k + 1 : Nat) : Int) from by rw [w64 (by omega) (by omega)]; omega]
      have hps : (16 : Int) ^ (k + 1) = 16 ^ k * 16 := Int.pow_succ 16 k
      refine (ih (k + 1) _ (by omega) (by omega) (by rw [hps]; omega)).trans ?_
      rw [show i + (k + 1) = i + k + 1 from rfl]
      have e : ∀ n : Nat, ((k + 1 + n : Nat) : Int) = ((k + (n + 1) : Nat) : Int) := fun n => by omega
      rw [e]
    · rw [dF h, if_neg h]
      rfl
theorem hexes_E (b : List Int) (hb : b.length ≤ 140737488351232) (i : Nat) (hi : i ≤ b.length + 10) (most : Nat) (hm : most ≤ 6) : E C 284 [.shr 5 (b.map .int), .int .i64 (i : Int), .int .i64 (most : Int)] = some [.int (hexG most (b.drop i) 0).1, .int (((hexG most (b.drop i) 0).2 : Nat) : Int)] := by
  apply o284
  refine (hexes_loop b hb i hi most hm 0 0 most 0 0 (by omega) (by omega) (by decide)).trans ?_
  rw [Nat.add_zero, Nat.zero_add]
theorem hexes6_E (b : List Int) (hb : b.length ≤ 140737488351232) (i : Nat) (hi : i ≤ b.length + 10) : E C 284 [.shr 5 (b.map .int), .int .i64 (i : Int), .int .i64 6] = some [.int (hexG 6 (b.drop i) 0).1, .int (((hexG 6 (b.drop i) 0).2 : Nat) : Int)] := hexes_E b hb i hi 6 (by omega)
theorem hexes2_E (b : List Int) (hb : b.length ≤ 140737488351232) (i : Nat) (hi : i ≤ b.length + 10) : E C 284 [.shr 5 (b.map .int), .int .i64 (i : Int), .int .i64 2] = some [.int (hexG 2 (b.drop i) 0).1, .int (((hexG 2 (b.drop i) 0).2 : Nat) : Int)] := hexes_E b hb i hi 2 (by omega)
theorem Is_E (x : Int) : E C 97 [.int .i64 x] = some [.bool (isSym x)] := by
  apply o97
  by_cases h0 : x < 0
  · rw [dT h0, isSym_false (x := x) (by omega)]
  rw [dF h0]
  by_cases h1 : x > 1114367
  · rw [dT h1, isSym_false (x := x) (by omega)]
  rw [dF h1]
  by_cases h2 : x > 1114111
  · rw [dT h2, isSym_dec (x := x) (by omega)]
  rw [dF h2]
  by_cases h3 : x < 55296
  · rw [dT h3, isSym_true (x := x) (by omega)]
  · rw [dF h3, isSym_dec (x := x) (by omega)]
theorem Is2_E (x : Int) : E C 29 [.int .i64 x] = some [.bool (isSym x)] := by
  apply o29
  by_cases h0 : x ≥ 0
  · rw [dT h0]
    by_cases h1 : x ≤ 55295
    · rw [dT h1, isSym_true (x := x) (by omega)]
    rw [dF h1]
    by_cases h2 : x ≥ 57344
    · rw [dT h2]
      by_cases h3 : x ≤ 1114111
      · rw [dT h3, isSym_true (x := x) (by omega)]
      rw [dF h3]
      by_cases h4 : x ≥ 1114240
      · rw [dT h4, isSym_dec (x := x) (by omega)]
      · rw [dF h4, isSym_false (x := x) (by omega)]
    · rw [dF h2, dF (by omega), isSym_false (x := x) (by omega)]
  · rw [dF h0, dF (by omega), dF (by omega), isSym_false (x := x) (by omega)]
/-- A symbol by its number, behind the x: the number, and behind it. -/
def codeS (b : List Int) (j : Nat) : Option (Int × Nat) :=
  if atB b (j : Int) = 123 then
    if (hexG 6 (b.drop (j + 1)) 0).2 = 0 ∨ atB b ((j + 1 + (hexG 6 (b.drop (j + 1)) 0).2 : Nat) : Int) ≠ 125 ∨ isSym (hexG 6 (b.drop (j + 1)) 0).1 = false then none
    else some ((hexG 6 (b.drop (j + 1)) 0).1, j + (hexG 6 (b.drop (j + 1)) 0).2 + 2)
  else if (hexG 2 (b.drop j) 0).2 < 2 then none
  else some ((hexG 2 (b.drop j) 0).1, j + 2)
def itemP (kind to num : Int) (s : ByteArray) (l : List Dat) (e : Int) : List Dat := [.agg [.int kind, .int to, .int num, .str s, .list l], .int e]
def codeP : Option (Int × Nat) → List Dat
  | none => itemP 0 0 0 ByteArray.empty [] 32
  | some p => itemP 1 (p.2 : Int) p.1 ByteArray.empty [] 0
theorem code_E (b : List Int) (hb : b.length ≤ 140737488351232) (j : Nat) (hj : j ≤ b.length + 5) : E C 274 [.shr 5 (b.map .int), .int .i64 (j : Int)] = some (codeP (codeS b j)) := by
  apply o274
  rw [bT (at_E b _)]
  simp only [rd0, datI]
  unfold codeS
  by_cases h : atB b (j : Int) = 123
  · have g := hexG_le 6 (b.drop (j + 1)) 0
    rw [eT h, if_pos h, show IntKind.i64.wrap ((j : Int) + 1) = ((j + 1 : Nat) : Int) from by rw [w64 (by omega) (by omega)]; omega, bT (hexes6_E b hb (j + 1) (by omega))]
    simp only [rd0, rd1, datI]
    by_cases c1 : (hexG 6 (b.drop (j + 1)) 0).2 = 0
    · rw [eT (by omega), if_pos (.inl c1)]; rfl
    rw [eF (by omega), show IntKind.i64.wrap (((j + 1 : Nat) : Int) + (((hexG 6 (b.drop (j + 1)) 0).2 : Nat) : Int)) = ((j + 1 + (hexG 6 (b.drop (j + 1)) 0).2 : Nat) : Int) from by rw [w64 (by omega) (by omega)]; omega, bT (at_E b _)]
    simp only [rd0, datI]
    by_cases c2 : atB b ((j + 1 + (hexG 6 (b.drop (j + 1)) 0).2 : Nat) : Int) = 125
    · rw [neF c2, bT (Is_E _)]
      simp only [rd0, datB]
      cases c3 : isSym (hexG 6 (b.drop (j + 1)) 0).1 with
      | false => rw [nT rfl, if_pos (.inr (.inr rfl))]; rfl
      | true =>
        rw [nF rfl, if_neg (by rintro (h | h | h) <;> first | exact c1 h | exact h c2 | cases h), show IntKind.i64.wrap (IntKind.i64.wrap ((j : Int) + (((hexG 6 (b.drop (j + 1)) 0).2 : Nat) : Int)) + 2) = ((j + (hexG 6 (b.drop (j + 1)) 0).2 + 2 : Nat) : Int) from by rw [w64 (n := (j : Int) + _) (by omega) (by omega), w64 (by omega) (by omega)]; omega]
        rfl
    · rw [neT c2, if_pos (.inr (.inl c2))]; rfl
  · have g := hexG_le 2 (b.drop j) 0
    rw [eF h, if_neg h, bT (hexes2_E b hb j (by omega))]
    simp only [rd0, rd1, datI]
    by_cases c1 : (hexG 2 (b.drop j) 0).2 < 2
    · rw [dT (by omega), if_pos c1]; rfl
    · rw [dF (by omega), if_neg c1, show IntKind.i64.wrap ((j : Int) + (((hexG 2 (b.drop j) 0).2 : Nat) : Int)) = ((j + 2 : Nat) : Int) from by rw [w64 (by omega) (by omega)]; omega]
      rfl
end Go.Proofs.YtlofoifcdmeopaaGreatDoor.V
namespace Go.Proofs.YtlofoifcdmeopaaGreatDoor.V
open Go Go.Ev Go.RowKit
set_option linter.unusedVariables false
set_option linter.unusedSimpArgs false
def wB (c : Int) : Bool := letB c || (c == 95 || digB c)
def wlen : List Int → Nat
  | [] => 0
  | c :: l => if wB c = true then wlen l + 1 else 0
theorem wlen_drop {b : List Int} {k : Nat} (h : k < b.length) : wlen (b.drop k) = if wB (atB b k) = true then wlen (b.drop (k + 1)) + 1 else 0 := by
  rw [List.drop_eq_getElem_cons h, wlen, atB_in h]
theorem wlen_end {b : List Int} {k : Nat} (h : wB (atB b k) = false) : wlen (b.drop k) = 0 := by
  by_cases hk : k < b.length
  · rw [wlen_drop hk, h]; rfl
  · rw [List.drop_of_length_le (by omega)]; rfl
def subB (b : List Int) (i k : Int) : ByteArray := strOf (((b.map Dat.int).take k.toNat).drop i.toNat)
def errN : List Dat := [.str ByteArray.empty, .int 0, .int 36]
def finN (b : List Int) (i k : Int) : List Dat := if i < 0 ∨ k = i ∨ k - i > 32 ∨ atB b k ≠ 62 then errN else [.str (subB b i k), .int (k + 1), .int 0]
theorem fin_ok (b : List Int) (hb : b.length ≤ 140737488351232) (i : Int) (k : Nat) (hik : i ≤ (k : Int)) (hi : i64P i) (hk : k ≤ b.length ∨ i = (k : Int) ∨ i < 0) :
    (bif decide (i < 0) then (some [.str ByteArray.empty, .int 0, .int 36]) else (bif (k : Int) == i then (some [.str ByteArray.empty, .int 0, .int 36]) else (bif decide ((IntKind.i64.wrap ((k : Int) - i)) > 32) then (some [.str ByteArray.empty, .int 0, .int 36]) else ((E C 217 [.shr 5 (b.map .int), .int .i64 (k : Int)]).bind fun d7 => (bif ((rd d7 0).I) != 62 then (some [.str ByteArray.empty, .int 0, .int 36]) else (bif decide (0 ≤ i) then (bif decide (i ≤ (k : Int)) then (bif decide ((k : Int) ≤ (((b.map Dat.int).length : Nat) : Int)) then (some [.str (strOf (((b.map Dat.int).take (k : Int).toNat).drop i.toNat)), .int (IntKind.i64.wrap ((k : Int) + 1)), .int 0]) else none) else none) else none))))) : R) = some (finN b i (k : Int)) := by
  unfold finN errN
  by_cases c1 : i < 0
  · rw [dT c1, if_pos (.inl c1)]
  by_cases c2 : (k : Int) = i
  · rw [dF c1, eT c2, if_pos (.inr (.inl c2))]
  have hkl : k ≤ b.length := by omega
  rw [dF c1, eF c2, w64 (by omega) (by omega), w64 (by omega) (by omega)]
  by_cases c3 : (k : Int) - i > 32
  · rw [dT c3, if_pos (.inr (.inr (.inl c3)))]
  rw [dF c3, bT (at_E b _)]
  simp only [rd0, datI, List.length_map]
  by_cases c4 : atB b (k : Int) = 62
  · rw [neF c4, dT (by omega), dT (by omega), dT (by omega), if_neg (by rintro (h | h | h | h) <;> first | exact h c4 | omega)]
    rfl
  · rw [neT c4, if_pos (.inr (.inr (.inr c4)))]
theorem name_loop (b : List Int) (hb : b.length ≤ 140737488351232) (i : Int) (hi : i64P i) (v4 : ByteArray) (v5 v6 : Int) : ∀ (d k : Nat), b.length - k = d → i ≤ (k : Int) → (k ≤ b.length ∨ i = (k : Int) ∨ i < 0) → (i = (k : Int) → digB (atB b k) = false) →
    M256_1 (b.map .int) i v4 v5 v6 (k : Int) (atB b (k : Int)) = some (finN b i (((k + wlen (b.drop k) : Nat)) : Int)) := by
  intro d
  induction d with
  | zero =>
    intro k hd hik hkl hdg
    have h0 : atB b (k : Int) = 0 := atB_out (by omega)
    have hw : wB (atB b (k : Int)) = false := by rw [h0]; rfl
    apply M256_1_of
    rw [bT (letter_E _), h0, show letB 0 = false from rfl]
    simp only [rd0, datB]
    rw [cF rfl, eF (by omega), bT (digit_E _), show digB 0 = false from rfl]
    simp only [rd0, datB]
    rw [cF rfl, wlen_end hw]
    exact fin_ok b hb i k hik hi hkl
  | succ d ih =>
    intro k hd hik hkl hdg
    have hlt : k < b.length := by omega
    have nx := ih (k + 1) (by omega) (by omega) (by omega) (by omega)
    have ew : IntKind.i64.wrap ((k : Int) + 1) = ((k + 1 : Nat) : Int) := by rw [w64 (by omega) (by omega)]; omega
    have hs : ∀ h : wB (atB b (k : Int)) = true, (((k + 1) + wlen (b.drop (k + 1)) : Nat)) = (k + wlen (b.drop k) : Nat) := fun h => by
      rw [wlen_drop hlt, if_pos h]; omega
    apply M256_1_of
    rw [bT (letter_E _)]
    simp only [rd0, datB]
    cases h1 : letB (atB b (k : Int)) with
    | true =>
      rw [cT rfl, ew, bT (at_E b _)]
      simp only [rd0, datI]
      rw [nx, hs (by simp [wB, h1])]
    | false =>
      rw [cF rfl]
      by_cases h2 : atB b (k : Int) = 95
      · rw [eT h2, ew, bT (at_E b _)]
        simp only [rd0, datI]
        rw [nx, hs (by simp [wB, h2])]
      rw [eF h2, bT (digit_E _)]
      simp only [rd0, datB]
      cases h3 : digB (atB b (k : Int)) with
      | true =>
        have hne : ¬ i = (k : Int) := fun h => by rw [hdg h] at h3; cases h3
        rw [cT rfl, dT (by omega), ew, bT (at_E b _)]
        simp only [rd0, datI]
        rw [nx, hs (by simp [wB, h3])]
      | false =>
        rw [cF rfl, wlen_end (by simp [wB, h1, h2, h3])]
        exact fin_ok b hb i k hik hi hkl
/-- What a name is read as. -/
def nameR (b : List Int) (i : Int) : List Dat := if i < 0 ∨ i ≥ (b.length : Int) ∨ digB (atB b i) = true then errN else finN b i (i + wlen (b.drop i.toNat))
theorem Name_E (b : List Int) (hb : b.length ≤ 140737488351232) (i : Int) (hi : i64P i) : E C 256 [.shr 5 (b.map .int), .int .i64 i] = some (nameR b i) := by
  apply o256
  rw [bT (at_E b _)]
  simp only [rd0, datI]
  unfold nameR
  by_cases h : 0 > i
  · rw [if_pos h, if_pos (.inl h)]
    refine (name_loop b hb i hi _ _ _ _ 0 rfl (by omega) (.inr (.inr h)) (by omega)).trans ?_
    unfold finN
    rw [if_pos (.inl h)]
  · rw [if_neg h]
    obtain ⟨k, rfl⟩ : ∃ k : Nat, i = (k : Int) := ⟨i.toNat, by omega⟩
    cases hg : digB (atB b (k : Int)) with
    | true =>
      rw [if_pos (.inr (.inr rfl))]
      have hl : letB (atB b (k : Int)) = false := by
        rw [digB_iff] at hg
        rw [letB_no]
        omega
      have hg' := digB_iff.1 hg
      apply M256_1_of
      rw [bT (letter_E _), hl]
      simp only [rd0, datB]
      rw [cF rfl, eF (by omega), bT (digit_E _), hg]
      simp only [rd0, datB]
      rw [cT rfl, dF (by omega), dF (by omega), eT rfl]
      rfl
    | false =>
      refine (name_loop b hb (k : Int) hi _ _ _ _ k rfl (by omega) (.inr (.inl rfl)) (fun _ => hg)).trans ?_
      by_cases hl : (k : Int) ≥ (b.length : Int)
      · rw [if_pos (.inr (.inl hl)), wlen_end (by rw [atB_out (by omega)]; rfl)]
        unfold finN
        rw [if_pos (.inr (.inl (by omega)))]
      · rw [if_neg (by rintro (h' | h' | h') <;> first | omega | cases h'), Int.toNat_natCast]
        congr 1
end Go.Proofs.YtlofoifcdmeopaaGreatDoor.V
namespace Go.Proofs.YtlofoifcdmeopaaGreatDoor.V
open Go Go.Ev Go.RowKit
end Go.Proofs.YtlofoifcdmeopaaGreatDoor.V
namespace Go.Proofs.YtlofoifcdmeopaaGreatDoor.V
open Go Go.Ev
set_option maxRecDepth 100000
set_option linter.unusedVariables false
theorem o276 (a0 : Int) {r : List Dat} (h : (bif a0 == 100 then ((E C 285 [.str (bs [100, 105, 103, 105, 116])]).bind fun d1 => (some [.list ((rd d1 0).L), .bool true])) else (bif a0 == 119 then ((E C 285 [.str (bs [119, 111, 114, 100])]).bind fun d2 => (some [.list ((rd d2 0).L), .bool true])) else (bif a0 == 115 then ((E C 285 [.str (bs [115, 112, 97, 99, 101])]).bind fun d3 => (some [.list ((rd d3 0).L), .bool true])) else (bif a0 == 68 then (bif a0 == 68 then ((E C 276 [.int .u8 (IntKind.u8.wrap ((IntKind.u8.wrap (a0 + 97)) - 65))]).bind fun d4 => ((E C 167 [.shr 82 ((rd d4 0).L)]).bind fun d5 => (some [.list ((rd d5 0).L), .bool true]))) else (some [.list ([] : List Dat), .bool false])) else (bif a0 == 87 then (bif a0 == 87 then ((E C 276 [.int .u8 (IntKind.u8.wrap ((IntKind.u8.wrap (a0 + 97)) - 65))]).bind fun d6 => ((E C 167 [.shr 82 ((rd d6 0).L)]).bind fun d7 => (some [.list ((rd d7 0).L), .bool true]))) else (some [.list ([] : List Dat), .bool false])) else (bif a0 == 83 then ((E C 276 [.int .u8 (IntKind.u8.wrap ((IntKind.u8.wrap (a0 + 97)) - 65))]).bind fun d8 => ((E C 167 [.shr 82 ((rd d8 0).L)]).bind fun d9 => (some [.list ((rd d9 0).L), .bool true]))) else (some [.list ([] : List Dat), .bool false])))))) : R) = some r) : E C 276 [.int .u8 a0] = some r := E_st h (Cont.bif (Cont.bind (Cont.call C 285 _) fun _ => (Cont.const _)) (Cont.bif (Cont.bind (Cont.call C 285 _) fun _ => (Cont.const _)) (Cont.bif (Cont.bind (Cont.call C 285 _) fun _ => (Cont.const _)) (Cont.bif (Cont.bif (Cont.bind (Cont.call C 276 _) fun _ => (Cont.bind (Cont.call C 167 _) fun _ => (Cont.const _))) (Cont.const _)) (Cont.bif (Cont.bif (Cont.bind (Cont.call C 276 _) fun _ => (Cont.bind (Cont.call C 167 _) fun _ => (Cont.const _))) (Cont.const _)) (Cont.bif (Cont.bind (Cont.call C 276 _) fun _ => (Cont.bind (Cont.call C 167 _) fun _ => (Cont.const _))) (Cont.const _))))))) fun φ => by kernel_rfl
theorem o282 (a0 : ByteArray) {r : List Dat} (h : ((E C 290 []).bind fun d1 => ((E C 291 [.shr 342 ((rd d1 0).L), .clo 292 [] [.sref 9 ([.str a0] : List Dat) 0 0]]).bind fun d2 => (bif decide (((rd d2 0).I) < 0) then (some [.list ([] : List Dat), .bool false]) else (bif decide (0 ≤ ((rd d2 0).I)) then (bif decide (((rd d2 0).I) < (((rd d1 0).L).length : Int)) then (bif decide (((rd d2 0).I).toNat < ((rd d1 0).L).length) then (some [.list (((rd ((rd d1 0).L) (((rd d2 0).I).toNat)).C 1).L), .bool true]) else none) else none) else none))) : R) = some r) : E C 282 [.str a0] = some r := E_st h (Cont.bind (Cont.call C 290 _) fun _ => (Cont.bind (Cont.call C 291 _) fun _ => (Cont.bif (Cont.const _) (Cont.bif (Cont.bif (Cont.bif (Cont.const _) Cont.nn) Cont.nn) Cont.nn)))) fun φ => by kernel_rfl
theorem o285 (a0 : ByteArray) {r : List Dat} (h : ((E C 282 [.str a0]).bind fun d1 => (some [.list ((rd d1 0).L)]) : R) = some r) : E C 285 [.str a0] = some r := E_st h (Cont.bind (Cont.call C 282 _) fun _ => (Cont.const _)) fun φ => by kernel_rfl
theorem o290 {r : List Dat} (h : (some [.list ([.agg [.str (bs [97, 108, 110, 117, 109]), .list ([.agg [.int 48, .int 57], .agg [.int 65, .int 90], .agg [.int 97, .int 122]] : List Dat)], .agg [.str (bs [97, 108, 112, 104, 97]), .list ([.agg [.int 65, .int 90], .agg [.int 97, .int 122]] : List Dat)], .agg [.str (bs [97, 115, 99, 105, 105]), .list ([.agg [.int 0, .int 127]] : List Dat)], .agg [.str (bs [98, 108, 97, 110, 107]), .list ([.agg [.int 9, .int 9], .agg [.int 32, .int 32]] : List Dat)], .agg [.str (bs [99, 110, 116, 114, 108]), .list ([.agg [.int 0, .int 31], .agg [.int 127, .int 127]] : List Dat)], .agg [.str (bs [100, 105, 103, 105, 116]), .list ([.agg [.int 48, .int 57]] : List Dat)], .agg [.str (bs [103, 114, 97, 112, 104]), .list ([.agg [.int 33, .int 126]] : List Dat)], .agg [.str (bs [108, 111, 119, 101, 114]), .list ([.agg [.int 97, .int 122]] : List Dat)], .agg [.str (bs [112, 114, 105, 110, 116]), .list ([.agg [.int 32, .int 126]] : List Dat)], .agg [.str (bs [112, 117, 110, 99, 116]), .list ([.agg [.int 33, .int 47], .agg [.int 58, .int 64], .agg [.int 91, .int 96], .agg [.int 123, .int 126]] : List Dat)], .agg [.str (bs [115, 112, 97, 99, 101]), .list ([.agg [.int 9, .int 13], .agg [.int 32, .int 32]] : List Dat)], .agg [.str (bs [117, 112, 112, 101, 114]), .list ([.agg [.int 65, .int 90]] : List Dat)], .agg [.str (bs [119, 111, 114, 100]), .list ([.agg [.int 48, .int 57], .agg [.int 65, .int 90], .agg [.int 95, .int 95], .agg [.int 97, .int 122]] : List Dat)], .agg [.str (bs [120, 100, 105, 103, 105, 116]), .list ([.agg [.int 48, .int 57], .agg [.int 65, .int 70], .agg [.int 97, .int 102]] : List Dat)]] : List Dat)] : R) = some r) : E C 290 [] = some r := E_st h (Cont.const _) fun φ => by kernel_rfl
/-- slices.IndexFunc[[]clew/class.named,clew/class.named] -/
noncomputable def f291 : Func := Tryz.f291
def kp291 : List Nat := [0, 1, 4, 5, 7, 8]
noncomputable def c291 (p : List Nat) : Code := pick f291 p
noncomputable def L291_a_1 (n : Nat) (m1 : Nat) (v0 : List Dat) (v1c0d0 : ByteArray) (v4 v7 v8 : Int) : R := loopIter (fun E K => evCode C (ev C n) n kp291 (c291 [1, 0, 1, 0, 0]) E K) [0, 1, 4, 7, 8] (Kblk 0 (Kseq C (ev C n) n kp291 (c291 [1, 1]) (Ktop C 291 f291 [.und, .und]))) m1 [.shr 342 v0, .clo 292 [] [.sref 9 ([.str v1c0d0] : List Dat) 0 0], .und, .und, .int .i64 v4, .und, .und, .int .i64 v7, .int .i64 v8, .und, .und, .und, .und, .und, .und, .und, .und, .und, .und]
noncomputable def M291_a_1 (v0 : List Dat) (v1c0d0 : ByteArray) (v4 v7 v8 : Int) : R := lim fun φ => L291_a_1 (φ 0) (φ 1) v0 v1c0d0 v4 v7 v8
theorem M291_a_1_c (v0 : List Dat) (v1c0d0 : ByteArray) (v4 v7 v8 : Int) : Cont (fun φ => L291_a_1 (φ 0) (φ 1) v0 v1c0d0 v4 v7 v8) (M291_a_1 v0 v1c0d0 v4 v7 v8) := Cont.re id _
theorem M291_a_1_e (v0 : List Dat) (v1c0d0 : ByteArray) (v4 v7 v8 : Int) : Cont (fun φ => L291_a_1 (φ 0) (φ 0) v0 v1c0d0 v4 v7 v8) (M291_a_1 v0 v1c0d0 v4 v7 v8) := Cont.re (toZ 1) fun φ => L291_a_1 (φ 0) (φ 1) v0 v1c0d0 v4 v7 v8
theorem M291_a_1_of (v0 : List Dat) (v1c0d0 : ByteArray) (v4 v7 v8 : Int) {r : List Dat} (h : (bif decide (v8 < v7) then (bif decide (0 ≤ v8) then (bif decide (v8 < (v0.length : Int)) then (bif decide (v8.toNat < v0.length) then ((E C 292 [.agg [.str (((rd v0 v8.toNat).C 0).S), .shr 82 (((rd v0 v8.toNat).C 1).L)], .sref 9 ([.str v1c0d0] : List Dat) 0 0]).bind fun d1 => (bif (rd d1 0).B then (some [.int v8]) else (M291_a_1 v0 v1c0d0 v4 v7 (IntKind.i64.wrap (v8 + 1))))) else none) else none) else none) else (some [.int (-1)]) : R) = some r) : M291_a_1 v0 v1c0d0 v4 v7 v8 = some r := lim_st (g := fun φ => L291_a_1 (φ 0) (φ 1) v0 v1c0d0 v4 v7 v8) 1 h (Cont.bif (Cont.bif (Cont.bif (Cont.bif (Cont.bind (Cont.call C 292 _) fun _ => (Cont.bif (Cont.const _) (M291_a_1_c _ _ _ _ _))) Cont.nn) Cont.nn) Cont.nn) (Cont.const _)) fun φ m hm => (congrArg (fun q => L291_a_1 (φ 0) q v0 v1c0d0 v4 v7 v8) hm).trans (by kernel_rfl)
theorem o291_a (a0 : List Dat) (a1c0d0 : ByteArray) {r : List Dat} (h : (M291_a_1 a0 a1c0d0 0 (a0.length : Int) 0 : R) = some r) : E C 291 [.shr 342 a0, .clo 292 [] [.sref 9 ([.str a1c0d0] : List Dat) 0 0]] = some r := E_st h (M291_a_1_e _ _ _ _ _) fun φ => by kernel_rfl
theorem o292_a (a0_0 : ByteArray) (a0_1 : List Dat) (a1d0 : ByteArray) {r : List Dat} (h : (bif decide (0 < ([.str a1d0] : List Dat).length) then (some [.bool (a0_0.toList == ((rd ([.str a1d0] : List Dat) 0).S).toList)]) else none : R) = some r) : E C 292 [.agg [.str a0_0, .shr 82 a0_1], .sref 9 ([.str a1d0] : List Dat) 0 0] = some r := E_st h (Cont.bif (Cont.const _) Cont.nn) fun φ => by kernel_rfl
end Go.Proofs.YtlofoifcdmeopaaGreatDoor.V
namespace Go.Proofs.YtlofoifcdmeopaaGreatDoor.V
open Go Go.Ev Go.RowKit
set_option linter.unusedVariables false
set_option linter.unusedSimpArgs false
def allN : List (List UInt8 × List (Int × Int)) := [([97, 108, 110, 117, 109], [(48, 57), (65, 90), (97, 122)]), ([97, 108, 112, 104, 97], [(65, 90), (97, 122)]), ([97, 115, 99, 105, 105], [(0, 127)]), ([98, 108, 97, 110, 107], [(9, 9), (32, 32)]), ([99, 110, 116, 114, 108], [(0, 31), (127, 127)]), ([100, 105, 103, 105, 116], [(48, 57)]), ([103, 114, 97, 112, 104], [(33, 126)]), ([108, 111, 119, 101, 114], [(97, 122)]), ([112, 114, 105, 110, 116], [(32, 126)]), ([112, 117, 110, 99, 116], [(33, 47), (58, 64), (91, 96), (123, 126)]), ([115, 112, 97, 99, 101], [(9, 13), (32, 32)]), ([117, 112, 112, 101, 114], [(65, 90)]), ([119, 111, 114, 100], [(48, 57), (65, 90), (95, 95), (97, 122)]), ([120, 100, 105, 103, 105, 116], [(48, 57), (65, 70), (97, 102)])]
def allD (l : List (List UInt8 × List (Int × Int))) : List Dat := l.map fun p => .agg [.str (bs p.1), .list (rs p.2)]
theorem all_E : E C 290 [] = some [.list (allD allN)] := by
  apply o290
  rfl
def findN (s : ByteArray) : List (List UInt8 × List (Int × Int)) → Option (List (Int × Int))
  | [] => none
  | p :: l => bif (bs p.1).toList == s.toList then some p.2 else findN s l
theorem Nam1_E (a : ByteArray) (l : List Dat) (s : ByteArray) : E C 292 [.agg [.str a, .shr 82 l], .sref 9 ([.str s] : List Dat) 0 0] = some [.bool (a.toList == s.toList)] := by
  apply o292_a
  rw [dT (by simp)]
  rfl
theorem allD_rd (l : List (List UInt8 × List (Int × Int))) (k : Nat) (h : k < l.length) : rd (allD l) k = .agg [.str (bs (l[k]).1), .list (rs (l[k]).2)] := by simp [rd, allD, h]
theorem allD_len (l : List (List UInt8 × List (Int × Int))) : (allD l).length = l.length := by simp [allD]
theorem nam_loop (l : List (List UInt8 × List (Int × Int))) (hl : l.length ≤ 1000) (s : ByteArray) (v4 : Int) : ∀ (d k : Nat), l.length - k = d → k ≤ l.length →
    ∃ r : Int, M291_a_1 (allD l) s v4 (l.length : Int) (k : Int) = some [.int r] ∧ (findN s (l.drop k) = none → r = -1) ∧ ∀ x, findN s (l.drop k) = some x → ∃ j : Nat, r = (j : Int) ∧ ∃ h : j < l.length, (l[j]).2 = x := by
  intro d
  induction d with
  | zero =>
    intro k hd hk
    refine ⟨-1, ?_, fun _ => rfl, fun x h => ?_⟩
    · apply M291_a_1_of
      rw [dF (by omega)]
    · rw [List.drop_of_length_le (by omega)] at h
      cases h
  | succ d ih =>
    intro k hd hk
    have hlt : k < l.length := by omega
    obtain ⟨r, h1, h2, h3⟩ := ih (k + 1) (by omega) (by omega)
    rw [List.drop_eq_getElem_cons hlt]
    unfold findN
    cases hb : ((bs (l[k]).1).toList == s.toList) with
    | true =>
      refine ⟨k, ?_, (fun h => by cases h), fun x h => ⟨k, rfl, hlt, Option.some.inj h⟩⟩
      apply M291_a_1_of
      rw [allD_len, dT (by omega), ixT ⟨by omega, by omega⟩, Int.toNat_natCast, allD_rd l k hlt]
      refine (bT (Nam1_E _ _ s)).trans ?_
      exact cT hb
    | false =>
      refine ⟨r, ?_, h2, h3⟩
      apply M291_a_1_of
      rw [allD_len, dT (by omega), ixT ⟨by omega, by omega⟩, Int.toNat_natCast, allD_rd l k hlt]
      refine (bT (Nam1_E _ _ s)).trans ?_
      refine (cF hb).trans ?_
      rw [w64 (by omega) (by omega)]
      exact h1
def namedD (o : Option (List (Int × Int))) : List Dat := match o with
  | none => [.list [], .bool false]
  | some l => [.list (rs l), .bool true]
theorem Named_E (s : ByteArray) : E C 282 [.str s] = some (namedD (findN s allN)) := by
  obtain ⟨r, h1, h2, h3⟩ := nam_loop allN (by decide) s 0 allN.length 0 (by omega) (by omega)
  rw [List.drop_zero] at h2 h3
  have e1 : E C 291 [.shr 342 (allD allN), .clo 292 [] [.sref 9 ([.str s] : List Dat) 0 0]] = some [.int r] := by
    apply o291_a
    rw [allD_len]
    exact h1
  apply o282
  rw [bT all_E]
  simp only [rd0, datL]
  rw [bT e1]
  simp only [rd0, datI, allD_len]
  cases hf : findN s allN with
  | none => rw [h2 hf, dT (by omega)]; rfl
  | some x =>
    obtain ⟨j, rfl, hj, hx⟩ := h3 x hf
    rw [dF (by omega), ixT ⟨by omega, by omega⟩, Int.toNat_natCast, allD_rd allN j hj, hx]
    rfl
theorem must_E (s : ByteArray) (l : List (Int × Int)) (h : findN s allN = some l) : E C 285 [.str s] = some [.list (rs l)] := by
  apply o285
  rw [bT (Named_E s), h]
  rfl
def digL : List (Int × Int) := [(48, 57)]
def wrdL : List (Int × Int) := [(48, 57), (65, 90), (95, 95), (97, 122)]
def spcL : List (Int × Int) := [(9, 13), (32, 32)]
theorem find_dig : findN (bs [100, 105, 103, 105, 116]) allN = some digL := by kernel_rfl
theorem find_wrd : findN (bs [119, 111, 114, 100]) allN = some wrdL := by kernel_rfl
theorem find_spc : findN (bs [115, 112, 97, 99, 101]) allN = some spcL := by kernel_rfl
/-- The set of a letter. -/
def ofL (c : Int) : Option (List (Int × Int)) :=
  if c = 100 then some digL else if c = 119 then some wrdL else if c = 115 then some spcL else if c = 68 then some (notR digL) else if c = 87 then some (notR wrdL) else if c = 83 then some (notR spcL) else none
theorem Of_low (c : Int) (l : List (Int × Int)) (h : (c = 100 ∧ l = digL) ∨ (c = 119 ∧ l = wrdL) ∨ (c = 115 ∧ l = spcL)) : E C 276 [.int .u8 c] = some [.list (rs l), .bool true] := by
  apply o276
  rcases h with ⟨rfl, rfl⟩ | ⟨rfl, rfl⟩ | ⟨rfl, rfl⟩
  · rw [eT rfl, bT (must_E _ _ find_dig)]; rfl
  · rw [eF (by decide), eT rfl, bT (must_E _ _ find_wrd)]; rfl
  · rw [eF (by decide), eF (by decide), eT rfl, bT (must_E _ _ find_spc)]; rfl
theorem Of_E (c : Int) : E C 276 [.int .u8 c] = some (namedD (ofL c)) := by
  unfold ofL
  by_cases c1 : c = 100
  · rw [if_pos c1, Of_low c digL (.inl ⟨c1, rfl⟩)]; rfl
  rw [if_neg c1]
  by_cases c2 : c = 119
  · rw [if_pos c2, Of_low c wrdL (.inr (.inl ⟨c2, rfl⟩))]; rfl
  rw [if_neg c2]
  by_cases c3 : c = 115
  · rw [if_pos c3, Of_low c spcL (.inr (.inr ⟨c3, rfl⟩))]; rfl
  rw [if_neg c3]
  apply o276
  rw [eF c1, eF c2, eF c3]
  by_cases c4 : c = 68
  · rw [if_pos c4, eT c4, eT c4, c4, show IntKind.u8.wrap (IntKind.u8.wrap (68 + 97) - 65) = 100 from by decide, bT (Of_low 100 digL (.inl ⟨rfl, rfl⟩))]
    simp only [rd0, datL]
    rw [bT (Not_E digL (by decide))]; rfl
  rw [if_neg c4, eF c4]
  by_cases c5 : c = 87
  · rw [if_pos c5, eT c5, eT c5, c5, show IntKind.u8.wrap (IntKind.u8.wrap (87 + 97) - 65) = 119 from by decide, bT (Of_low 119 wrdL (.inr (.inl ⟨rfl, rfl⟩)))]
    simp only [rd0, datL]
    rw [bT (Not_E wrdL (by decide))]; rfl
  rw [if_neg c5, eF c5]
  by_cases c6 : c = 83
  · rw [if_pos c6, eT c6, c6, show IntKind.u8.wrap (IntKind.u8.wrap (83 + 97) - 65) = 115 from by decide, bT (Of_low 115 spcL (.inr (.inr ⟨rfl, rfl⟩)))]
    simp only [rd0, datL]
    rw [bT (Not_E spcL (by decide))]; rfl
  · rw [if_neg c6, eF c6]; rfl
/-! The document's. -/
end Go.Proofs.YtlofoifcdmeopaaGreatDoor.V
namespace Go.Proofs.YtlofoifcdmeopaaGreatDoor.V
open Go Go.Ev Go.RowKit
set_option linter.unusedVariables false
set_option linter.unusedSimpArgs false
/-- What a backslash makes. -/
inductive Esc where
  | lit (n to : Int)
  | cls (c to : Int)
  | hld (n to : Int)
  | ref (n to : Int)
  | key (s : ByteArray) (to : Int)
  | err (e : Int)
def progD : Esc → List Dat
  | .lit n to => itemP 1 to n ByteArray.empty [] 0
  | .cls c to => itemP 2 to 0 ByteArray.empty (rs ((ofL c).getD [])) 0
  | .hld n to => itemP 3 to n ByteArray.empty [] 0
  | .ref n to => itemP 4 to n ByteArray.empty [] 0
  | .key s to => itemP 5 to 0 s [] 0
  | .err e => itemP 0 0 0 ByteArray.empty [] e
def simD : Option Esc → List Dat
  | none => [.agg [.int 0, .int 0, .int 0, .str ByteArray.empty, .list []], .bool false, .int 0]
  | some x => [rd (progD x) 0, .bool true, rd (progD x) 1]
def ctrl (c : Int) : Int := if c = 110 then 10 else if c = 116 then 9 else if c = 114 then 13 else if c = 102 then 12 else if c = 118 then 11 else if c = 97 then 7 else if c = 101 then 27 else -1
def heldV (c : Int) : Int := if c = 65 then 1 else if c = 90 then 2 else if c = 122 then 3 else if c = 98 then 6 else if c = 66 then 7 else 0
theorem control_E (c : Int) : E C 275 [.int .u8 c] = some [.int (ctrl c)] := by
  apply o275
  unfold ctrl
  by_cases h0 : c = 110
  · rw [eT h0, if_pos h0]
  rw [eF h0, if_neg h0]
  by_cases h1 : c = 116
  · rw [eT h1, if_pos h1]
  rw [eF h1, if_neg h1]
  by_cases h2 : c = 114
  · rw [eT h2, if_pos h2]
  rw [eF h2, if_neg h2]
  by_cases h3 : c = 102
  · rw [eT h3, if_pos h3]
  rw [eF h3, if_neg h3]
  by_cases h4 : c = 118
  · rw [eT h4, if_pos h4]
  rw [eF h4, if_neg h4]
  by_cases h5 : c = 97
  · rw [eT h5, if_pos h5]
  rw [eF h5, if_neg h5]
  by_cases h6 : c = 101
  · rw [eT h6, if_pos h6]
  rw [eF h6, if_neg h6]
theorem held_E (c : Int) : E C 254 [.int .u8 c] = some [.int (heldV c)] := by
  apply o254
  unfold heldV
  by_cases h0 : c = 65
  · rw [eT h0, if_pos h0]
  rw [eF h0, if_neg h0]
  by_cases h1 : c = 90
  · rw [eT h1, if_pos h1]
  rw [eF h1, if_neg h1]
  by_cases h2 : c = 122
  · rw [eT h2, if_pos h2]
  rw [eF h2, if_neg h2]
  by_cases h3 : c = 98
  · rw [eT h3, if_pos h3]
  rw [eF h3, if_neg h3]
  by_cases h4 : c = 66
  · rw [eT h4, if_pos h4]
  rw [eF h4, if_neg h4]
/-- What is alike beside classes and within them. -/
def simpleS (b : List Int) (i : Nat) : Option Esc :=
  if atB b ((i + 1 : Nat) : Int) = 120 then some (match codeS b (i + 2) with | none => .err 32 | some p => .lit p.1 (p.2 : Int))
  else if ctrl (atB b ((i + 1 : Nat) : Int)) ≥ 0 then some (.lit (ctrl (atB b ((i + 1 : Nat) : Int))) ((i + 2 : Nat) : Int))
  else if (ofL (atB b ((i + 1 : Nat) : Int))).isSome = true then some (.cls (atB b ((i + 1 : Nat) : Int)) ((i + 2 : Nat) : Int))
  else if letB (atB b ((i + 1 : Nat) : Int)) = true ∨ digB (atB b ((i + 1 : Nat) : Int)) = true then none
  else if b.length ≤ i + 1 then some (.err 32)
  else some (.lit (symA b (i + 1)).1 (((i + 1 : Nat) : Int) + (symA b (i + 1)).2))
def keyS (l : List Dat) : Esc := if (rd l 2).I ≠ 0 then .err (rd l 2).I else .key (rd l 0).S (rd l 1).I
def restS (b : List Int) (i : Nat) : Esc :=
  if heldV (atB b ((i + 1 : Nat) : Int)) > 0 then .hld (heldV (atB b ((i + 1 : Nat) : Int))) ((i + 2 : Nat) : Int)
  else if 49 ≤ atB b ((i + 1 : Nat) : Int) ∧ atB b ((i + 1 : Nat) : Int) ≤ 57 then
    if digB (atB b ((i + 2 : Nat) : Int)) = true then .ref ((atB b ((i + 1 : Nat) : Int) - 48) * 10 + (atB b ((i + 2 : Nat) : Int) - 48)) ((i + 3 : Nat) : Int)
    else .ref (atB b ((i + 1 : Nat) : Int) - 48) ((i + 2 : Nat) : Int)
  else if atB b ((i + 1 : Nat) : Int) ≠ 107 then .err 32
  else if atB b ((i + 2 : Nat) : Int) ≠ 60 then .err 36
  else keyS (nameR b ((i + 3 : Nat) : Int))
def escS (b : List Int) (i : Int) (inner : Bool) : Esc :=
  if atB b i ≠ 92 then .err 10
  else match simpleS b i.toNat with
    | some x => x
    | none => if inner = true then (if atB b ((i.toNat + 1 : Nat) : Int) = 98 then .lit 8 ((i.toNat + 2 : Nat) : Int) else .err 32) else restS b i.toNat
theorem simple_E {b : List Int} (hb : isBytes b = true) (hbl : b.length ≤ 140737488351232) (i : Nat) (hi : i < b.length) : E C 253 [.shr 5 (b.map .int), .int .i64 (i : Int)] = some (simD (simpleS b i)) := by
  have e1 : IntKind.i64.wrap ((i : Int) + 1) = ((i + 1 : Nat) : Int) := by rw [w64 (by omega) (by omega)]; omega
  have e2 : IntKind.i64.wrap ((i : Int) + 2) = ((i + 2 : Nat) : Int) := by rw [w64 (by omega) (by omega)]; omega
  apply o253
  rw [e1, e2, bT (at_E b _)]
  simp only [rd0, datI]
  unfold simpleS
  by_cases c1 : atB b ((i + 1 : Nat) : Int) = 120
  · rw [eT c1, if_pos c1, bT (code_E b hbl (i + 2) (by omega))]
    cases codeS b (i + 2) <;> rfl
  rw [eF c1, if_neg c1, bT (control_E _)]
  simp only [rd0, datI]
  by_cases c2 : ctrl (atB b ((i + 1 : Nat) : Int)) ≥ 0
  · rw [dT c2, if_pos c2]; rfl
  rw [dF c2, if_neg c2, bT (Of_E _)]
  cases h3 : ofL (atB b ((i + 1 : Nat) : Int)) with
  | some l =>
    rw [if_pos (show (some l).isSome = true from rfl)]
    show (some [_, _, _] : R) = some [_, _, _]
    simp only [namedD, rd0, rd1, datL, progD, itemP, h3, Option.getD_some]
  | none =>
    rw [if_neg (show ¬ (none : Option (List (Int × Int))).isSome = true by simp)]
    simp only [namedD, rd1, datB]
    rw [cF rfl, bT (letter_E _)]
    simp only [rd0, datB]
    cases h4 : letB (atB b ((i + 1 : Nat) : Int)) with
    | true => rw [cT rfl, if_pos (.inl rfl)]; rfl
    | false =>
      rw [cF rfl, bT (digit_E _)]
      simp only [rd0, datB]
      cases h5 : digB (atB b ((i + 1 : Nat) : Int)) with
      | true => rw [cT rfl, if_pos (.inr rfl)]; rfl
      | false =>
        rw [cF rfl, if_neg (by simp), bT (At_E b hb hbl _)]
        simp only [rd0, rd1, datI]
        unfold symR
        by_cases c6 : b.length ≤ i + 1
        · rw [if_neg (by omega), eT rfl, if_pos c6]; rfl
        · have hs := symA_small hb (i + 1) (by omega)
          rw [if_pos (by omega), Int.toNat_natCast, eF (by omega), if_neg c6, w64 (by omega) (by omega)]
          rfl
theorem rest_P {b : List Int} (hb : isBytes b = true) (hbl : b.length ≤ 140737488351232) (i : Nat) (hi : i < b.length) : ((E C 254 [.int .u8 (atB b ((i + 1 : Nat) : Int))]).bind fun d4 => (bif decide (((rd d4 0).I) > 0) then (some [.agg [.int 3, .int ((i + 2 : Nat) : Int), .int ((rd d4 0).I), .str ByteArray.empty, .list ([] : List Dat)], .int 0]) else (bif decide ((atB b ((i + 1 : Nat) : Int)) ≥ 49) then (bif decide ((atB b ((i + 1 : Nat) : Int)) ≤ 57) then ((E C 217 [.shr 5 (b.map .int), .int .i64 ((i + 2 : Nat) : Int)]).bind fun d5 => ((E C 255 [.int .u8 ((rd d5 0).I)]).bind fun d6 => (bif (rd d6 0).B then (some [.agg [.int 4, .int (IntKind.i64.wrap (((i + 2 : Nat) : Int) + 1)), .int (IntKind.i64.wrap ((IntKind.i64.wrap ((IntKind.i64.wrap (IntKind.u8.wrap ((atB b ((i + 1 : Nat) : Int)) - 48))) * 10)) + (IntKind.i64.wrap (IntKind.u8.wrap (((rd d5 0).I) - 48))))), .str ByteArray.empty, .list ([] : List Dat)], .int 0]) else (some [.agg [.int 4, .int ((i + 2 : Nat) : Int), .int (IntKind.i64.wrap (IntKind.u8.wrap ((atB b ((i + 1 : Nat) : Int)) - 48))), .str ByteArray.empty, .list ([] : List Dat)], .int 0])))) else (bif (atB b ((i + 1 : Nat) : Int)) != 107 then (some [.agg [.int 0, .int 0, .int 0, .str ByteArray.empty, .list ([] : List Dat)], .int 32]) else ((E C 217 [.shr 5 (b.map .int), .int .i64 ((i + 2 : Nat) : Int)]).bind fun d7 => (bif ((rd d7 0).I) != 60 then (some [.agg [.int 0, .int 0, .int 0, .str ByteArray.empty, .list ([] : List Dat)], .int 36]) else ((E C 256 [.shr 5 (b.map .int), .int .i64 ((i + 3 : Nat) : Int)]).bind fun d8 => (bif ((rd d8 2).I) != 0 then (some [.agg [.int 0, .int 0, .int 0, .str ByteArray.empty, .list ([] : List Dat)], .int ((rd d8 2).I)]) else (some [.agg [.int 5, .int ((rd d8 1).I), .int 0, .str ((rd d8 0).S), .list ([] : List Dat)], .int 0]))))))) else (bif (atB b ((i + 1 : Nat) : Int)) != 107 then (some [.agg [.int 0, .int 0, .int 0, .str ByteArray.empty, .list ([] : List Dat)], .int 32]) else ((E C 217 [.shr 5 (b.map .int), .int .i64 ((i + 2 : Nat) : Int)]).bind fun d7 => (bif ((rd d7 0).I) != 60 then (some [.agg [.int 0, .int 0, .int 0, .str ByteArray.empty, .list ([] : List Dat)], .int 36]) else ((E C 256 [.shr 5 (b.map .int), .int .i64 ((i + 3 : Nat) : Int)]).bind fun d8 => (bif ((rd d8 2).I) != 0 then (some [.agg [.int 0, .int 0, .int 0, .str ByteArray.empty, .list ([] : List Dat)], .int ((rd d8 2).I)]) else (some [.agg [.int 5, .int ((rd d8 1).I), .int 0, .str ((rd d8 0).S), .list ([] : List Dat)], .int 0]))))))))) = some (progD (restS b i)) := by
  have hc := atB_byte hb ((i + 1 : Nat) : Int)
  have hd := atB_byte hb ((i + 2 : Nat) : Int)
  have keyT : ¬ (49 ≤ atB b ((i + 1 : Nat) : Int) ∧ atB b ((i + 1 : Nat) : Int) ≤ 57) → ¬ heldV (atB b ((i + 1 : Nat) : Int)) > 0 → (bif (atB b ((i + 1 : Nat) : Int)) != 107 then (some [.agg [.int 0, .int 0, .int 0, .str ByteArray.empty, .list ([] : List Dat)], .int 32]) else ((E C 217 [.shr 5 (b.map .int), .int .i64 ((i + 2 : Nat) : Int)]).bind fun d7 => (bif ((rd d7 0).I) != 60 then (some [.agg [.int 0, .int 0, .int 0, .str ByteArray.empty, .list ([] : List Dat)], .int 36]) else ((E C 256 [.shr 5 (b.map .int), .int .i64 ((i + 3 : Nat) : Int)]).bind fun d8 => (bif ((rd d8 2).I) != 0 then (some [.agg [.int 0, .int 0, .int 0, .str ByteArray.empty, .list ([] : List Dat)], .int ((rd d8 2).I)]) else (some [.agg [.int 5, .int ((rd d8 1).I), .int 0, .str ((rd d8 0).S), .list ([] : List Dat)], .int 0]))))) : R) = some (progD (restS b i)) := fun g1 g2 => by
    unfold restS
    rw [if_neg g2, if_neg g1]
    by_cases c3 : atB b ((i + 1 : Nat) : Int) = 107
    · rw [neF c3, if_neg (by simpa using c3), bT (at_E b _)]
      simp only [rd0, datI]
      by_cases c4 : atB b ((i + 2 : Nat) : Int) = 60
      · rw [neF c4, if_neg (by simpa using c4), bT (Name_E b hbl _ ⟨by omega, by omega⟩)]
        unfold keyS
        by_cases c5 : (rd (nameR b ((i + 3 : Nat) : Int)) 2).I = 0
        · rw [neF c5, if_neg (by simpa using c5)]; rfl
        · rw [neT c5, if_pos c5]; rfl
      · rw [neT c4, if_pos c4]; rfl
    · rw [neT c3, if_pos c3]; rfl
  rw [bT (held_E _)]
  simp only [rd0, datI]
  by_cases c1 : heldV (atB b ((i + 1 : Nat) : Int)) > 0
  · unfold restS
    rw [dT c1, if_pos c1]; rfl
  rw [dF c1]
  by_cases c2 : atB b ((i + 1 : Nat) : Int) ≥ 49
  · rw [dT c2]
    by_cases c3 : atB b ((i + 1 : Nat) : Int) ≤ 57
    · unfold restS
      rw [dT c3, if_neg c1, if_pos ⟨c2, c3⟩, bT (at_E b _)]
      simp only [rd0, datI]
      rw [bT (digit_E _)]
      simp only [rd0, datB]
      rw [w8 (n := atB b ((i + 1 : Nat) : Int) - 48) (by omega) (by omega), w64 (n := atB b ((i + 1 : Nat) : Int) - 48) (by omega) (by omega), w64 (n := (atB b ((i + 1 : Nat) : Int) - 48) * 10) (by omega) (by omega)]
      cases h4 : digB (atB b ((i + 2 : Nat) : Int)) with
      | true =>
        have h4' := digB_iff.1 h4
        rw [cT rfl, if_pos rfl, w8 (n := atB b ((i + 2 : Nat) : Int) - 48) (by omega) (by omega), w64 (n := atB b ((i + 2 : Nat) : Int) - 48) (by omega) (by omega), w64 (n := (atB b ((i + 1 : Nat) : Int) - 48) * 10 + (atB b ((i + 2 : Nat) : Int) - 48)) (by omega) (by omega), w64 (n := ((i + 2 : Nat) : Int) + 1) (by omega) (by omega)]
        rfl
      | false => rw [cF rfl, if_neg (by simp)]; rfl
    · rw [dF c3]
      exact keyT (by omega) c1
  · rw [dF c2]
    exact keyT (by omega) c1
theorem Escape_E {b : List Int} (hb : isBytes b = true) (hbl : b.length ≤ 140737488351232) (i : Int) : E C 232 [.shr 5 (b.map .int), .int .i64 i] = some (progD (escS b i false)) := by
  apply o232
  rw [bT (at_E b _)]
  simp only [rd0, datI]
  unfold escS
  by_cases c0 : atB b i = 92
  · have hin := atB_some (b := b) (i := i) (by rw [c0]; decide)
    obtain ⟨k, rfl⟩ : ∃ k : Nat, i = (k : Int) := ⟨i.toNat, by omega⟩
    have e1 : IntKind.i64.wrap ((k : Int) + 1) = ((k + 1 : Nat) : Int) := by rw [w64 (by omega) (by omega)]; omega
    have e2 : IntKind.i64.wrap ((k : Int) + 2) = ((k + 2 : Nat) : Int) := by rw [w64 (by omega) (by omega)]; omega
    have e3 : IntKind.i64.wrap ((k : Int) + 3) = ((k + 3 : Nat) : Int) := by rw [w64 (by omega) (by omega)]; omega
    rw [neF c0, if_neg (by simpa using c0), bT (simple_E hb hbl k (by omega)), Int.toNat_natCast]
    cases hs : simpleS b k with
    | some x =>
      show (some _ : R) = _
      cases x <;> rfl
    | none =>
      show (bif false then _ else _ : R) = _
      rw [cond_false, e1, e2, e3, bT (at_E b _)]
      simp only [rd0, datI]
      exact rest_P hb hbl k (by omega)
  · rw [neT c0, if_pos c0]; rfl
end Go.Proofs.YtlofoifcdmeopaaGreatDoor.V
namespace Go.Proofs.YtlofoifcdmeopaaGreatDoor.V
open Go Go.Ev Go.RowKit
set_option linter.unusedVariables false
set_option linter.unusedSimpArgs false
def wi (x a b : Int) : Bool := decide (x ≥ a) && decide (x ≤ b)
end Go.Proofs.YtlofoifcdmeopaaGreatDoor.V
namespace Go.Proofs.YtlofoifcdmeopaaGreatDoor.V
open Go Go.Ev Go.RowKit
set_option linter.unusedVariables false
set_option linter.unusedSimpArgs false
def cloS (s : PS) (l : List (Int × Int)) : List (Int × Int) := bif s.fo then closeR l else l
/-- What an escape is, as a part. -/
def escP (b : List Int) (s : PS) : Nd × PS := match escS b s.k false with
  | .lit n to => (⟨2, s.k, to, 0, 0, 0, 0, ByteArray.empty, cloS s (mk [(n, n)]), []⟩, { s with k := to })
  | .cls c to => (⟨2, s.k, to, 0, 0, 0, 0, ByteArray.empty, cloS s ((ofL c).getD []), []⟩, { s with k := to })
  | .hld n to => (⟨3, s.k, to, n, 0, 0, 0, ByteArray.empty, [], []⟩, { s with k := to })
  | .ref n to => (⟨4, s.k, to, n, 0, 0, bif s.fo then 1 else 0, ByteArray.empty, [], []⟩, { s with k := to })
  | .key a to => (⟨4, s.k, to, 0, 0, 0, bif s.fo then 1 else 0, a, [], []⟩, { s with k := to })
  | .err e => (nd0P, failS s e s.k)
theorem ofL_lenP (c : Int) : ((ofL c).getD []).length ≤ 1000000 := by
  unfold ofL
  (repeat' split) <;> first | decide | exact Nat.le_trans (Nat.le_of_lt_succ (by decide)) (Nat.le_refl 1000000)
theorem escape_E (b : List Int) (hbb : isBytes b = true) (hb : b.length ≤ 140737488351232) (s : PS) (he : ∀ e, escS b s.k false = .err e → e ≠ 0) : E C 212 [pv b s] = some [ptD (escP b s).1 [], pd b (escP b s).2] := by
  have h1 := Escape_E hbb hb s.k
  apply o212
  rw [bT h1]
  unfold escP cloS
  cases h : escS b s.k false with
  | lit n to =>
    simp only [progD, itemP, stP, agA]
    rw [neF rfl, eT rfl, bT (Of1_E n)]
    simp only [stP, agA]
    rw [bT (closed_E b s _ (atom_lit.mk1_len n))]
    simp only [stP, agA]
    rw [bT (set_E b s _ _ _)]
    rfl
  | cls c to =>
    simp only [progD, itemP, stP, agA]
    rw [neF rfl, eF (by decide), eT rfl, bT (closed_E b s _ (ofL_lenP c))]
    simp only [stP, agA]
    rw [bT (set_E b s _ _ _)]
    rfl
  | hld n to =>
    simp only [progD, itemP, stP, agA]
    rw [neF rfl, eF (by decide), eF (by decide), eT rfl, bT (hold_E b s _ _ _)]
    rfl
  | ref n to =>
    simp only [progD, itemP, stP, agA]
    rw [neF rfl, eF (by decide), eF (by decide), eF (by decide), bT (either_E _ _ _)]
    rfl
  | key a to =>
    simp only [progD, itemP, stP, agA]
    rw [neF rfl, eF (by decide), eF (by decide), eF (by decide), bT (either_E _ _ _)]
    rfl
  | err e =>
    simp only [progD, itemP, stP, agA]
    rw [neT (he e h), bT (fail_E b s _ _)]
    rfl
end Go.Proofs.YtlofoifcdmeopaaGreatDoor.V
namespace Go.Proofs.YtlofoifcdmeopaaGreatDoor.V
open Go Go.Ev Go.RowKit
set_option linter.unusedVariables false
set_option linter.unusedSimpArgs false
/-! How many numbers a list of ranges has. -/
def cntL : List (Int × Int) → Int
  | [] => 0
  | p :: l => p.2 - p.1 + 1 + cntL l
def exP (p : Int × Int) : List Int := (List.range (p.2 - p.1 + 1).toNat).map fun (k : Nat) => p.1 + (k : Int)
theorem mem_exP {p : Int × Int} {z : Int} : z ∈ exP p ↔ p.1 ≤ z ∧ z ≤ p.2 := by
  unfold exP
  rw [List.mem_map]
  constructor
  · rintro ⟨k, hk, rfl⟩
    rw [List.mem_range] at hk
    omega
  · intro h
    exact ⟨(z - p.1).toNat, by rw [List.mem_range]; omega, by omega⟩
theorem exP_len {p : Int × Int} (h : p.1 ≤ p.2) : ((exP p).length : Int) = p.2 - p.1 + 1 := by
  unfold exP
  rw [List.length_map, List.length_range]
  omega
theorem exP_pw (p : Int × Int) : (exP p).Pairwise (· < ·) := by
  unfold exP
  rw [List.pairwise_map]
  exact List.pairwise_lt_range.imp fun h => by omega
theorem exL_pw {l : List (Int × Int)} (h : leastP l) : (l.flatMap exP).Pairwise (· < ·) := by
  rw [List.pairwise_flatMap]
  refine ⟨fun a _ => exP_pw a, h.2.imp fun {a b} hab x hx y hy => ?_⟩
  rw [mem_exP] at hx hy
  omega
theorem exL_len : ∀ {l : List (Int × Int)}, (∀ r ∈ l, okR r) → ((l.flatMap exP).length : Int) = cntL l
  | [], _ => rfl
  | p :: l, h => by
    have h1 := h p List.mem_cons_self
    unfold okR at h1
    rw [List.flatMap_cons, List.length_append, cntL]
    have := exL_len (l := l) fun r hr => h r (List.mem_cons_of_mem _ hr)
    have := exP_len (p := p) h1.2.1
    omega
theorem cnt_len {l : List (Int × Int)} (hl : leastP l) {m : List Int} (hm : m.Nodup) (h : ∀ z, z ∈ m ↔ hasP l z) : cntL l = (m.length : Int) := by
  have hn : (l.flatMap exP).Nodup := (exL_pw hl).imp fun h => by omega
  have hp : (l.flatMap exP).Perm m := (List.perm_ext_iff_of_nodup hn hm).2 fun z => by
    rw [h, List.mem_flatMap]
    unfold hasP
    constructor
    · rintro ⟨p, h1, h2⟩
      exact ⟨p, h1, mem_exP.1 h2⟩
    · rintro ⟨p, h1, h2⟩
      exact ⟨p, h1, mem_exP.2 h2⟩
  rw [← exL_len hl.1, hp.length_eq]
theorem cntL_one (x : Int) : cntL [(x, x)] = 1 := by unfold cntL cntL; show x - x + 1 + 0 = 1; omega
theorem bsA (a b : List UInt8) : bs a ++ bs b = bs (a ++ b) := by
  apply ByteArray.ext
  rw [ByteArray.data_append]
  simp [bs]
theorem bsZ (s : List UInt8) : (bs s).size = s.length := by show s.toArray.size = _; simp
theorem bsL (s : List UInt8) : (bs s).toList = s := by
  rw [ByteArray.toList_eq]
  simp [bs]
theorem bsE : ByteArray.empty = bs [] := rfl
theorem strD_bs (s : List UInt8) : strD (bs s) = (nats s).map .int := by simp [strD, bs, nats]
abbrev hexS : List UInt8 := [48, 49, 50, 51, 52, 53, 54, 55, 56, 57, 97, 98, 99, 100, 101, 102]
def hc (k : Nat) : UInt8 := hexS.getD k 0
theorem enc_hex : ∀ k : Nat, k < 16 → Utf8.encode (bt (bs hexS) k) = bs [hc k] ∧ hexV ((hc k).toNat : Int) = (k : Int)
  | 0, _ => ⟨by kernel_rfl, by kernel_rfl⟩
  | 1, _ => ⟨by kernel_rfl, by kernel_rfl⟩
  | 2, _ => ⟨by kernel_rfl, by kernel_rfl⟩
  | 3, _ => ⟨by kernel_rfl, by kernel_rfl⟩
  | 4, _ => ⟨by kernel_rfl, by kernel_rfl⟩
  | 5, _ => ⟨by kernel_rfl, by kernel_rfl⟩
  | 6, _ => ⟨by kernel_rfl, by kernel_rfl⟩
  | 7, _ => ⟨by kernel_rfl, by kernel_rfl⟩
  | 8, _ => ⟨by kernel_rfl, by kernel_rfl⟩
  | 9, _ => ⟨by kernel_rfl, by kernel_rfl⟩
  | 10, _ => ⟨by kernel_rfl, by kernel_rfl⟩
  | 11, _ => ⟨by kernel_rfl, by kernel_rfl⟩
  | 12, _ => ⟨by kernel_rfl, by kernel_rfl⟩
  | 13, _ => ⟨by kernel_rfl, by kernel_rfl⟩
  | 14, _ => ⟨by kernel_rfl, by kernel_rfl⟩
  | 15, _ => ⟨by kernel_rfl, by kernel_rfl⟩
  | k + 16, h => by omega
/-- A number's hexadecimal digits, of so many at most. -/
def hd : Nat → Nat → List UInt8
  | 0, _ => []
  | k + 1, n => if n < 16 then [hc n] else hd k (n / 16) ++ [hc (n % 16)]
theorem hd_ne : ∀ (k n : Nat), hd (k + 1) n ≠ [] := fun k n => by
  unfold hd
  split <;> simp
theorem hd_len : ∀ (k n : Nat), (hd k n).length ≤ k
  | 0, n => Nat.le_refl _
  | k + 1, n => by
    unfold hd
    split
    · simp
    · have := hd_len k (n / 16)
      simp only [List.length_append, List.length_cons, List.length_nil]
      omega
def valL : Int → List UInt8 → Int
  | a, [] => a
  | a, c :: l => valL (a * 16 + hexV (c.toNat : Int)) l
theorem valL_app : ∀ (l : List UInt8) (a : Int) (c : UInt8), valL a (l ++ [c]) = valL a l * 16 + hexV (c.toNat : Int)
  | [], a, c => rfl
  | d :: l, a, c => valL_app l _ c
theorem hd_val : ∀ (k n : Nat), n < 16 ^ k → valL 0 (hd k n) = (n : Int) ∧ ∀ c, c ∈ hd k n → hexV (c.toNat : Int) ≥ 0
  | 0, n, h => by
    simp at h
    subst h
    exact ⟨rfl, fun c hc => by cases hc⟩
  | k + 1, n, h => by
    unfold hd
    split
    · rename_i hn
      have := (enc_hex n hn).2
      refine ⟨by show (0 : Int) * 16 + hexV _ = _; rw [this]; omega, fun c hcc => ?_⟩
      rw [List.mem_singleton] at hcc
      subst hcc
      omega
    · obtain ⟨h1, h2⟩ := hd_val k (n / 16) (by rw [Nat.pow_succ] at h; omega)
      have h3 := (enc_hex (n % 16) (by omega)).2
      refine ⟨by rw [valL_app, h1, h3]; omega, fun c hcc => ?_⟩
      rw [List.mem_append, List.mem_singleton] at hcc
      rcases hcc with hcc | hcc
      · exact h2 c hcc
      · subst hcc; omega
theorem hexG_all (r : List Int) : ∀ (l : List UInt8) (m : Nat) (a : Int), l.length ≤ m → (∀ c, c ∈ l → hexV (c.toNat : Int) ≥ 0) → hexG m (nats l ++ 125 :: r) a = (valL a l, l.length)
  | [], 0, a, _, _ => rfl
  | [], m + 1, a, _, _ => by
    have hn : ¬ hexV 125 ≥ 0 := by decide
    show hexG (m + 1) (125 :: r) a = (a, 0)
    unfold hexG
    exact if_neg hn
  | c :: l, 0, a, h, _ => by simp at h
  | c :: l, m + 1, a, h, hx => by
    show (if hexV (c.toNat : Int) ≥ 0 then ((hexG m (nats l ++ 125 :: r) (a * 16 + hexV (c.toNat : Int))).1, (hexG m (nats l ++ 125 :: r) (a * 16 + hexV (c.toNat : Int))).2 + 1) else (a, 0)) = _
    rw [if_pos (hx c List.mem_cons_self), hexG_all r l m _ (by simpa using h) fun d hd => hx d (List.mem_cons_of_mem _ hd)]
    rfl
/-- What is read. -/
def txt (s : List UInt8) : List Int := 92 :: 120 :: 123 :: (nats s ++ [125])
theorem txt_len (s : List UInt8) : (txt s).length = s.length + 4 := by simp [txt, nats]
theorem atB_get {l : List Int} {j : Nat} {c : Int} (h : l[j]? = some c) : atB l (j : Int) = c := by
  obtain ⟨h1, h2⟩ := List.getElem?_eq_some_iff.1 h
  rw [atB_in h1, h2]
theorem atB_pre (pre l : List Int) (j : Nat) : atB (pre ++ l) ((pre.length + j : Nat) : Int) = atB l (j : Int) := by
  unfold atB
  by_cases h : j < l.length
  · rw [if_pos ⟨by omega, by rw [List.length_append]; omega⟩, if_pos ⟨by omega, by omega⟩, Int.toNat_natCast, Int.toNat_natCast]
    simp [List.getD_eq_getElem?_getD, List.getElem?_append_right]
  · rw [if_neg (by rw [List.length_append]; omega), if_neg (by omega)]
theorem esc_txt {s : List UInt8} (h : s ≠ []) (hl : s.length ≤ 6) (hx : ∀ c, c ∈ s → hexV (c.toNat : Int) ≥ 0) (hv : isSym (valL 0 s) = true) (pre post : List Int) : escS (pre ++ (txt s ++ post)) (pre.length : Int) false = .lit (valL 0 s) ((pre.length + s.length + 4 : Nat) : Int) := by
  have hpos : 0 < s.length := List.length_pos_iff.2 h
  have h0 : atB (pre ++ (txt s ++ post)) (pre.length : Int) = 92 := (atB_pre pre _ 0).trans (atB_get rfl)
  have h1 : atB (pre ++ (txt s ++ post)) ((pre.length + 1 : Nat) : Int) = 120 := (atB_pre pre _ 1).trans (atB_get rfl)
  have h2 : atB (pre ++ (txt s ++ post)) ((pre.length + 2 : Nat) : Int) = 123 := (atB_pre pre _ 2).trans (atB_get rfl)
  have hd : (pre ++ (txt s ++ post)).drop (pre.length + 2 + 1) = nats s ++ 125 :: post := by
    rw [show pre.length + 2 + 1 = pre.length + 3 from rfl, List.drop_append]
    rw [List.drop_eq_nil_of_le (by omega), Nat.add_sub_cancel_left]
    show (nats s ++ [125]) ++ post = _
    simp
  have hg := hexG_all post s 6 0 hl hx
  have h3 : atB (pre ++ (txt s ++ post)) ((pre.length + 2 + 1 + s.length : Nat) : Int) = 125 := by
    rw [show pre.length + 2 + 1 + s.length = pre.length + (s.length + 3) by omega, atB_pre]
    refine atB_get ?_
    show ((nats s ++ [125]) ++ post)[s.length]? = some 125
    rw [List.append_assoc, List.getElem?_append_right (by simp [nats])]
    simp [nats]
  have hc : codeS (pre ++ (txt s ++ post)) (pre.length + 2) = some (valL 0 s, pre.length + s.length + 4) := by
    unfold codeS
    rw [if_pos h2, hd, hg]
    dsimp only
    rw [h3, hv, if_neg (by rintro (e | e | e) <;> first | omega | exact e rfl | cases e), show pre.length + 2 + s.length + 2 = pre.length + s.length + 4 by omega]
  unfold escS
  rw [if_neg (fun q => q h0), Int.toNat_natCast]
  unfold simpleS
  rw [if_pos h1, hc]
/-- How many numbers an orbit has. -/
theorem row_top : ∀ r, r ∈ rowsL → 0 ≤ r.1 ∧ 0 ≤ r.2.2.2 ∧ r.2.1 + r.2.2.2 ≤ 1114367 := by decide
theorem sin_top : ∀ s, s ∈ sinL → (0 ≤ s.1 ∧ s.1 ≤ 1114367) ∧ 0 ≤ s.2 ∧ s.2 ≤ 1114367 := by decide
theorem W_top {x : Int} (hx : 0 ≤ x ∧ x ≤ 1114367) : 0 ≤ W x ∧ W x ≤ 1114367 := by
  rcases W_cases (y := x) (b := W x) rfl with h | ⟨r, h1, h2, h3⟩ | ⟨s, h1, h2, h3⟩
  · omega
  · have := row_top r h1
    have := up_range h2
    omega
  · have := sin_top s h1
    omega
theorem W_same_top {x z : Int} (hx : 0 ≤ x ∧ x ≤ 1114367) (h : W z = W x) : 0 ≤ z ∧ z ≤ 1114367 := by
  have hb := W_top hx
  rcases W_cases (y := z) (b := W x) h with h | ⟨r, h1, h2, h3⟩ | ⟨s, h1, h2, h3⟩
  · omega
  · have := row_top r h1
    have := up_range h2
    omega
  · have := sin_top s h1
    omega
theorem Q_nodup (b : Int) : (Q b).Nodup := by
  unfold Q
  have h0 : (fars.filterMap (g1 b)).Nodup := by
    have hf : fars.Nodup := by decide
    refine List.Pairwise.filterMap (g1 b) (fun a a' haa c hc c' hc' => ?_) hf
    unfold g1 at hc hc'
    split at hc
    · split at hc'
      · have e1 := Option.some.inj hc
        have e2 := Option.some.inj hc'
        omega
      · cases hc'
    · cases hc
  generalize fars.filterMap (g1 b) = acc at h0
  generalize symL = l
  induction l generalizing acc with
  | nil => exact h0
  | cons y l ih =>
    rw [List.foldl_cons]
    refine ih _ ?_
    unfold g3
    split
    · rename_i hc
      rw [List.nodup_append]
      refine ⟨h0, by simp, fun a ha c hc' e => ?_⟩
      rw [List.mem_singleton] at hc'
      have := List.all_eq_true.1 hc.2 a ha
      rw [e, hc'] at this
      simp at this
    · exact h0
theorem orbit_cnt {x : Int} (hx : 0 ≤ x ∧ x ≤ 1114367) {L : List Int} (hL : L.Perm (Q (W x))) : cntL (closeR (mk [(x, x)])) = (L.length : Int) := by
  refine cnt_len (mk_least _) (hL.nodup_iff.2 (Q_nodup _)) fun z => ?_
  have hw := W_top hx
  have h1 : z ∈ L ↔ W z = W x := by rw [hL.mem_iff, ← P_Q hw.1 (W_W x) z, P_W]
  have h2 := close_has (mk [(x, x)]) z
  rw [h1]
  have h3 : hasB (closeR (mk [(x, x)])) z = true ↔ 0 ≤ z ∧ z ≤ 1114367 ∧ hasP (closeR (mk [(x, x)])) z := hasB_iff _ _
  have h4 : hasP (closeR (mk [(x, x)])) z → 0 ≤ z ∧ z ≤ 1114367 := fun ⟨r, r1, r2, r3⟩ => by
    have := (mk_least _).1 r r1
    unfold okR at this
    omega
  have h5 : (orbL z).any (hasB (mk [(x, x)])) = true ↔ (0 ≤ z ∧ z ≤ 1114367) ∧ W z = W x := by
    rw [List.any_eq_true]
    constructor
    · rintro ⟨y, y1, y2⟩
      rw [mk_hasB, hasB_iff] at y2
      obtain ⟨-, -, r, r1, r2, r3⟩ := y2
      rw [List.mem_singleton] at r1
      subst r1
      have : y = x := by have a : x ≤ y := r2; have c : y ≤ x := r3; omega
      subst this
      rw [mem_orbL] at y1
      exact ⟨y1.1, y1.2.symm⟩
    · rintro ⟨z1, z2⟩
      refine ⟨x, by rw [mem_orbL]; exact ⟨z1, z2.symm⟩, ?_⟩
      rw [mk_hasB, hasB_iff]
      exact ⟨hx.1, hx.2, (x, x), by simp, Int.le_refl _, Int.le_refl _⟩
  rw [h2, h5] at h3
  constructor
  · intro h
    exact (h3.1 ⟨W_same_top hx h, h⟩).2.2
  · intro h
    have := h4 h
    exact (h3.2 ⟨this.1, this.2, h⟩).2
theorem orbit_has {x : Int} (hx : 0 ≤ x ∧ x ≤ 1114367) : hasB (closeR (mk [(x, x)])) x = true := by
  rw [close_has, List.any_eq_true]
  refine ⟨x, by rw [mem_orbL]; exact ⟨hx, rfl⟩, ?_⟩
  rw [mk_hasB, hasB_iff]
  exact ⟨hx.1, hx.2, (x, x), by simp, Int.le_refl _, Int.le_refl _⟩
end Go.Proofs.YtlofoifcdmeopaaGreatDoor.V
namespace Go.Proofs.YtlofoifcdmeopaaGreatDoor.V
open Go Go.Ev Go.RowKit
set_option linter.unusedVariables false
set_option linter.unusedSimpArgs false
end Go.Proofs.YtlofoifcdmeopaaGreatDoor.V
namespace Go.Proofs.YtlofoifcdmeopaaGreatDoor.V
open Go Go.Ev Go.RowKit
set_option linter.unusedVariables false
set_option linter.unusedSimpArgs false
inductive PT where
  | mk : Nd → List PT → PT
def PT.nd : PT → Nd | .mk n _ => n
def PT.kids : PT → List PT | .mk _ ks => ks
mutual
def ptDat : PT → Dat
  | .mk n ks => ptD n (ptsDat ks)
def ptsDat : List PT → List Dat
  | [] => []
  | x :: l => ptDat x :: ptsDat l
end
mutual
def szP : PT → Nat
  | .mk _ ks => 1 + szsP ks
def szsP : List PT → Nat
  | [] => 0
  | x :: l => szP x + szsP l
end
def kidsAt : Nat → List PT → List Int
  | _, [] => []
  | m, x :: l => (m : Int) :: kidsAt (m + szP x) l
mutual
def flat : Nat → PT → List Nd
  | m, .mk n ks => { n with kids := kidsAt (m + 1) ks } :: flats (m + 1) ks
def flats : Nat → List PT → List Nd
  | _, [] => []
  | m, x :: l => flat m x ++ flats (m + szP x) l
end
mutual
theorem flat_len : ∀ (m : Nat) (x : PT), (flat m x).length = szP x
  | m, .mk n ks => by rw [flat, szP, List.length_cons, flats_len (m + 1) ks]; omega
theorem flats_len : ∀ (m : Nat) (l : List PT), (flats m l).length = szsP l
  | m, [] => rfl
  | m, x :: l => by rw [flats, szsP, List.length_append, flat_len m x, flats_len (m + szP x) l]
end
theorem szP_pos : ∀ x : PT, 1 ≤ szP x
  | .mk n ks => by rw [szP]; omega
theorem ptsDat_len : ∀ l : List PT, (ptsDat l).length = l.length
  | [] => rfl
  | x :: l => by rw [ptsDat, List.length_cons, List.length_cons, ptsDat_len l]
theorem ptsDat_rd : ∀ (pre : List PT) (x : PT) (rest : List PT), rd (ptsDat (pre ++ x :: rest)) pre.length = ptDat x
  | [], x, rest => rfl
  | y :: pre, x, rest => ptsDat_rd pre x rest
theorem len_szs : ∀ l : List PT, l.length ≤ szsP l
  | [] => Nat.le_refl _
  | x :: l => by have := szP_pos x; have := len_szs l; rw [szsP, List.length_cons]; omega
theorem cap120t : capB 120 = 1172812402961 := by decide
theorem cap8t : capB 8 = 17592186044416 := by decide
theorem fin_setT (out rest : List Dat) (x : Nd) (ks : List Int) (kk : List Dat) (hk : kk = ks.map .int) : ((bif decide (0 ≤ (out.length : Int)) then (bif decide ((out.length : Int) < ((out ++ nodeD x :: rest).length : Int)) then (bif decide ((out.length : Int).toNat < (out ++ nodeD x :: rest).length) then (some [.list ((out ++ nodeD x :: rest).set (out.length : Int).toNat (.agg [(rd (out ++ nodeD x :: rest) (out.length : Int).toNat).C 0, (rd (out ++ nodeD x :: rest) (out.length : Int).toNat).C 1, (rd (out ++ nodeD x :: rest) (out.length : Int).toNat).C 2, (rd (out ++ nodeD x :: rest) (out.length : Int).toNat).C 3, (rd (out ++ nodeD x :: rest) (out.length : Int).toNat).C 4, (rd (out ++ nodeD x :: rest) (out.length : Int).toNat).C 5, (rd (out ++ nodeD x :: rest) (out.length : Int).toNat).C 6, (rd (out ++ nodeD x :: rest) (out.length : Int).toNat).C 7, (rd (out ++ nodeD x :: rest) (out.length : Int).toNat).C 8, .list kk]))]) else none) else none) else none) : R) = some [.list (out ++ nodeD { x with kids := ks } :: rest)] := by
  subst hk
  rw [ixT ⟨by omega, by simp; omega⟩, Int.toNat_natCast, show rd (out ++ nodeD x :: rest) out.length = nodeD x by simp [rd, List.getD_eq_getElem?_getD], List.set_append_right _ _ (Nat.le_refl _), Nat.sub_self]
  rfl
/-- What number answers at a part. -/
def NumE (x : PT) : Prop := ∀ out : List Dat, out.length + szP x ≤ 1000000 → E C 69 [ptV x.nd (ptsDat x.kids), .own 1 0 38 out] = some [.list (out ++ nsD (flat out.length x))]
theorem num_loopT (n : Nd) (ks : List PT) (hall : ∀ x, x ∈ ks → NumE x) (out : List Dat) (hsz : out.length + 1 + szsP ks ≤ 1000000) (z : List Dat) : ∀ (rest pre : List PT) (acc : List Dat) (kk : List Int), ks = pre ++ rest → acc.length = szsP pre → kk.length = pre.length → szsP pre + szsP rest = szsP ks →
    M69_1 n.kind n.frm n.to n.num n.min n.max n.mode n.name (rs n.set) (n.kids.map .int) (ptsDat ks) (out ++ nodeD n :: acc) n.kind n.frm n.to n.num n.min n.max n.mode n.name (rs n.set) (n.kids.map .int) (ptsDat ks) z (out.length : Int) (kk.map .int) (ptsDat ks) ((ptsDat ks).length : Int) (pre.length : Int) = some [.list (out ++ nodeD { n with kids := kk ++ kidsAt (out.length + 1 + acc.length) rest } :: (acc ++ nsD (flats (out.length + 1 + acc.length) rest)))]
  | [], pre, acc, kk, e, ha, hk, hs => by
    rw [List.append_nil] at e
    apply M69_1_of
    rw [e, ptsDat_len, dF (by omega)]
    refine (fin_setT out acc n kk _ rfl).trans ?_
    rw [kidsAt, List.append_nil, flats]
    simp [nsD]
  | .mk m ms :: rest, pre, acc, kk, e, ha, hk, hs => by
    have hx := hall (.mk m ms) (by rw [e]; simp)
    have hp := len_szs pre
    have hz1 := szP_pos (.mk m ms)
    rw [szsP] at hs
    have hE := hx (out ++ nodeD n :: acc) (by rw [List.length_append, List.length_cons, ha]; omega)
    have hlen : (out ++ nodeD n :: acc).length = out.length + 1 + acc.length := by rw [List.length_append, List.length_cons]; omega
    have hrec := num_loopT n ks hall out hsz z rest (pre ++ [.mk m ms]) (acc ++ nsD (flat (out.length + 1 + acc.length) (.mk m ms))) (kk ++ [((out.length + 1 + acc.length : Nat) : Int)]) (by rw [e, List.append_assoc]; rfl) (by rw [List.length_append, nsD_len, flat_len, ha, szs_app, szsP, szsP]; omega) (by rw [List.length_append, List.length_append, hk]; rfl) (by rw [szs_app, szsP, szsP]; omega)
    have hks : ks.length = pre.length + (rest.length + 1) := by rw [e, List.length_append, List.length_cons]
    have hks2 := len_szs ks
    apply M69_1_of
    rw [dT (by rw [ptsDat_len]; omega), ixT ⟨by omega, by rw [ptsDat_len]; omega⟩, cap8t, dT (by rw [List.length_map, hk]; show _ + 1 ≤ _; omega), Int.toNat_natCast]
    have hr : rd (ptsDat ks) pre.length = ptD m (ptsDat ms) := by rw [e, ptsDat_rd]; rfl
    rw [hr]
    simp only [rd0, rd1, rd2, rd3, pt0, pt1, pt2, pt3, pt4, pt5, pt6, pt7, pt8, pt9, pt10, aggC0, aggC1, aggC2, aggC3, aggC4, aggC5, datL, datI, datB, datS]
    refine (bT hE).trans ?_
    simp only [rd0, rd1, rd2, rd3, pt0, pt1, pt2, pt3, pt4, pt5, pt6, pt7, pt8, pt9, pt10, aggC0, aggC1, aggC2, aggC3, aggC4, aggC5, datL, datI, datB, datS]
    rw [hlen, upT (n := ks.length) (by omega) (by omega)]
    rw [List.length_append, List.length_cons, List.length_nil] at hrec
    rw [List.length_append, nsD_len, flat_len] at hrec
    have e1 : kk.map Dat.int ++ [Dat.int ((out.length + 1 + acc.length : Nat) : Int)] = (kk ++ [((out.length + 1 + acc.length : Nat) : Int)]).map .int := by simp
    have e2 : out ++ nodeD n :: acc ++ nsD (flat (out.length + 1 + acc.length) (.mk m ms)) = out ++ nodeD n :: (acc ++ nsD (flat (out.length + 1 + acc.length) (.mk m ms))) := by simp
    rw [e1, e2]
    refine hrec.trans ?_
    rw [kidsAt, flats, ← Nat.add_assoc]
    simp [nsD, List.append_assoc]
where
  szs_app : ∀ (a b : List PT), szsP (a ++ b) = szsP a + szsP b
    | [], b => by rw [List.nil_append, szsP]; omega
    | x :: a, b => by rw [List.cons_append, szsP, szsP, szs_app a b]; omega
  upT {k n : Nat} (h : k < n) (hn : n ≤ 20000000000000) : IntKind.i64.wrap ((k : Int) + 1) = ((k + 1 : Nat) : Int) := by rw [w64 (by omega) (by omega)]; omega
mutual
theorem number_T : ∀ x : PT, NumE x
  | .mk n ks => fun out ho => by
    rw [szP] at ho
    have hl := len_szs ks
    apply o69
    rw [cap120t, dT (by show out.length + 1 ≤ _; omega)]
    have := num_loopT n ks (numbers_T ks) out (by omega) [] ks [] [] [] rfl rfl rfl (by rw [szsP]; omega)
    refine this.trans ?_
    rw [flat]
    rfl
theorem numbers_T : ∀ (ks : List PT), ∀ x, x ∈ ks → NumE x
  | [], x, h => by cases h
  | y :: l, x, h => by
    rw [List.mem_cons] at h
    rcases h with rfl | h
    · exact number_T x
    · exact numbers_T l x h
end
/-! What is numbered is laid. -/
/-! A property of each node, with as many kids as it has. -/
end Go.Proofs.YtlofoifcdmeopaaGreatDoor.V
namespace Go.Proofs.YtlofoifcdmeopaaGreatDoor.V
open Go Go.Ev Go.RowKit
set_option linter.unusedVariables false
set_option linter.unusedSimpArgs false
def OkS (s : List UInt8) : Prop := s ≠ [] ∧ s.length ≤ 6 ∧ (∀ c, c ∈ s → hexV (c.toNat : Int) ≥ 0) ∧ isSym (valL 0 s) = true
def sN (k : Nat) (fo : Bool) : PS := ⟨(k : Int), fo, false, false, false, 0, [ByteArray.empty], 0, 0⟩
def setX (fo : Bool) (x : Int) : List (Int × Int) := bif fo then closeR (mk [(x, x)]) else mk [(x, x)]
def ndX (fo : Bool) (k : Nat) (s : List UInt8) : Nd := ⟨2, (k : Int), ((k + s.length + 4 : Nat) : Int), 0, 0, 0, 0, ByteArray.empty, setX fo (valL 0 s), []⟩
def ptsX (fo : Bool) : Nat → List (List UInt8) → List PT
  | _, [] => []
  | k, s :: r => .mk (ndX fo k s) [] :: ptsX fo (k + s.length + 4) r
def bodyX (ss : List (List UInt8)) : List Int := ss.flatMap txt
theorem bodyX_cons (s : List UInt8) (r : List (List UInt8)) : bodyX (s :: r) = txt s ++ bodyX r := List.flatMap_cons
theorem cnt_none {b : List Int} {i : Int} (h : atB b i = 92 ∨ atB b i = 0 ∨ atB b i = 40) : cntQ b i = none := by
  unfold cntQ
  rw [if_neg (by omega), if_neg (by omega), if_neg (by omega), if_neg (by omega)]
theorem body_head {post : List Int} (hp : post = [] ∨ ∃ r, post = 92 :: r) (pre : List Int) : atB (pre ++ post) (pre.length : Int) = 92 ∨ atB (pre ++ post) (pre.length : Int) = 0 := by
  rcases hp with rfl | ⟨r, rfl⟩
  · right
    exact atB_out (by simp)
  · left
    exact (atB_pre pre _ 0).trans (atB_get rfl)
theorem bodyX_post (ss : List (List UInt8)) : bodyX ss = [] ∨ ∃ r, bodyX ss = 92 :: r := by
  cases ss with
  | nil => exact .inl rfl
  | cons s r => exact .inr ⟨_, by rw [bodyX_cons]; rfl⟩
theorem skip_sN (b : List Int) (k : Nat) (fo : Bool) : skipS b (sN k fo) = sN k fo := rfl
theorem piece_num {s : List UInt8} (h : OkS s) (fo : Bool) (pre post : List Int) (hb : isBytes (pre ++ (txt s ++ post)) = true) (hl : (pre ++ (txt s ++ post)).length ≤ 4096) (hp : post = [] ∨ ∃ r, post = 92 :: r) : E C 148 [pv (pre ++ (txt s ++ post)) (sN pre.length fo), .int .i64 0] = some [.list [ptD (ndX fo pre.length s) []], pd (pre ++ (txt s ++ post)) (sN (pre.length + s.length + 4) fo)] := by
  have h0 : atB (pre ++ (txt s ++ post)) ((pre.length : Nat) : Int) = 92 := (atB_pre pre _ 0).trans (atB_get rfl)
  have hk1 : atB (pre ++ (txt s ++ post)) ((pre.length + s.length + 4 : Nat) : Int) = 92 ∨ atB (pre ++ (txt s ++ post)) ((pre.length + s.length + 4 : Nat) : Int) = 0 := by
    have := body_head hp (pre ++ txt s)
    rw [List.append_assoc, List.length_append, txt_len, ← Nat.add_assoc] at this
    exact this
  have hesc := esc_txt h.1 h.2.1 h.2.2.1 h.2.2.2 pre post
  have hE := escape_E (pre ++ (txt s ++ post)) hb (by omega) (sN pre.length fo) (fun e he => by
    have he' : escS (pre ++ (txt s ++ post)) (pre.length : Int) false = .err e := he
    rw [hesc] at he'
    cases he')
  have hP : escP (pre ++ (txt s ++ post)) (sN pre.length fo) = (ndX fo pre.length s, sN (pre.length + s.length + 4) fo) := by
    unfold escP
    show (match escS (pre ++ (txt s ++ post)) (pre.length : Int) false with
      | .lit n to => _
      | .cls c to => _
      | .hld n to => _
      | .ref n to => _
      | .key a to => _
      | .err e => _) = _
    rw [hesc]
    rfl
  rw [hP] at hE
  have hat : E C 179 [pv (pre ++ (txt s ++ post)) (sN pre.length fo), .int .i64 0] = some [ptD (ndX fo pre.length s) [], .bool true, pd (pre ++ (txt s ++ post)) (sN (pre.length + s.length + 4) fo)] := by
    apply o179
    rw [bT (byteAt_E _ (sN pre.length fo) (sN pre.length fo).k (show (0 : Int) ≤ (pre.length : Int) by omega)), show atB (pre ++ (txt s ++ post)) (sN pre.length fo).k = 92 from h0]
    simp only [stP, agA]
    rw [eF (by decide), eF (by decide), eF (by decide), eF (by decide), eF (by decide), eT rfl]
    refine (bT hE).trans ?_
    rfl
  exact pc_ok _ (by omega) (sN pre.length fo) 0 rfl (cnt_none (.inl h0)) hat rfl (by show i64P ((pre.length + s.length + 4 : Nat) : Int); (have ht := txt_len s; simp only [List.length_append, ht] at hl; unfold i64P; omega)) (by rw [skip_sN]; exact cnt_none (by rcases hk1 with q | q; exact .inl q; exact .inr (.inl q))) (show (2 : Int) ≠ 0 by decide)
theorem ptsX_len (fo : Bool) : ∀ (ss : List (List UInt8)) (k : Nat), (ptsX fo k ss).length = ss.length
  | [], k => rfl
  | s :: r, k => by rw [ptsX, List.length_cons, List.length_cons, ptsX_len fo r]
theorem numDat_app : ∀ (a c : List PT), ptsDat (a ++ c) = ptsDat a ++ ptsDat c
  | [], c => rfl
  | x :: a, c => by rw [List.cons_append, ptsDat, ptsDat, numDat_app a c]; rfl
theorem num_last {α : Type} (x : α) (m : List α) : ∃ pre y, x :: m = pre ++ [y] := ⟨(x :: m).dropLast, (x :: m).getLast (by simp), (List.dropLast_concat_getLast (by simp)).symm⟩
/-- A row of such symbols. -/
theorem row_num (fo : Bool) (b : List Int) (hb : isBytes b = true) (hl : b.length ≤ 4096) (v5 : Int) (x y : PT) (r : List PT) (hr : r.length ≤ 1000) : ∀ (rest : List (List UInt8)) (pre : List Int) (l : List PT), b = pre ++ bodyX rest → (∀ s, s ∈ rest → OkS s) → l ++ ptsX fo pre.length rest = x :: y :: r → l.length + rest.length ≤ 2000 → ∃ z pr, x :: y :: r = pr ++ [z] ∧
    M108_1 (b.map .int) ((pre.length : Nat) : Int) fo false false false 0 ([ByteArray.empty].map .str) 0 0 0 0 0 0 0 0 0 0 ByteArray.empty [] [] [] v5 (ptsDat l) = some [ptDat (.mk ⟨5, x.nd.frm, z.nd.to, 0, 0, 0, 0, ByteArray.empty, [], []⟩ (x :: y :: r)), pd b (sN b.length fo)]
  | [], pre, l, e, hok, hx, hll => by
    rw [show bodyX [] = [] from rfl, List.append_nil] at e
    rw [ptsX, List.append_nil] at hx
    subst hx
    subst e
    obtain ⟨pr, z, hz⟩ := num_last x (y :: r)
    refine ⟨z, pr, hz, ?_⟩
    have hE : endsB b (sN b.length fo) = true := by
      unfold endsB overB
      rw [skip_sN, decide_eq_true (show (sN b.length fo).k ≥ (b.length : Int) from Int.le_refl _), Bool.or_true]
      rfl
    have e1 := ends_E b (by omega) (sN b.length fo) (by show i64P (b.length : Int); unfold i64P; omega) (by show (0 : Int) ≤ (b.length : Int); omega)
    rw [hE, skip_sN] at e1
    have hlen : (ptsDat (x :: y :: r)).length = r.length + 2 := by rw [ptsDat_len]; rfl
    have hpre : pr.length = r.length + 1 := by
      have := congrArg List.length hz
      simp at this
      omega
    have hlast : rd (ptsDat (x :: y :: r)) (r.length + 1) = ptDat z := by
      rw [hz, ← hpre]
      exact ptsDat_rd pr z []
    have hfirst : rd (ptsDat (x :: y :: r)) 0 = ptDat x := by rw [ptsDat]; rfl
    apply M108_1_of
    refine (bT e1).trans ?_
    simp only [stP, agA]
    rw [nF rfl, hlen, eF (show ((r.length + 2 : Nat) : Int) ≠ 0 by omega), eF (show ((r.length + 2 : Nat) : Int) ≠ 1 by omega), dT (by omega), dT (by omega), w64 (n := ((r.length + 2 : Nat) : Int) - 1) (by omega) (by omega), dT (by omega), dT (by omega), dT (by omega), show (((r.length + 2 : Nat) : Int) - 1).toNat = r.length + 1 by omega, hlast, hfirst]
    obtain ⟨xn, xk⟩ := x
    obtain ⟨zn, zk⟩ := z
    rw [ptDat, ptDat, ptDat]
    rfl
  | s :: rest, pre, l, e, hok, hx, hll => by
    rw [bodyX_cons] at e
    have ht := txt_len s
    have hs := hok s List.mem_cons_self
    have hsub : pre ++ (txt s ++ bodyX rest) = b := e.symm
    have pE := piece_num hs fo pre (bodyX rest) (by rw [hsub]; exact hb) (by rw [hsub]; exact hl) (bodyX_post rest)
    rw [hsub] at pE
    have h0 : atB b ((pre.length : Nat) : Int) = 92 := by rw [e]; exact (atB_pre pre _ 0).trans (atB_get rfl)
    have hin := atB_some (b := b) (i := ((pre.length : Nat) : Int)) (by rw [h0]; decide)
    have hE : endsB b (sN pre.length fo) = false := by
      unfold endsB overB
      rw [skip_sN, decide_eq_false (show ¬ (sN pre.length fo).k ≥ (b.length : Int) from by show ¬ ((pre.length : Nat) : Int) ≥ _; omega), show atB b (sN pre.length fo).k = 92 from h0]
      rfl
    have e1 := ends_E b (by omega) (sN pre.length fo) (by show i64P ((pre.length : Nat) : Int); unfold i64P; omega) (by show (0 : Int) ≤ ((pre.length : Nat) : Int); omega)
    rw [hE, skip_sN] at e1
    rw [List.length_cons] at hll
    obtain ⟨z, pr, z1, z2⟩ := row_num fo b hb hl v5 x y r hr rest (pre ++ txt s) (l ++ [.mk (ndX fo pre.length s) []]) (by rw [e, List.append_assoc]) (fun q hq => hok q (List.mem_cons_of_mem _ hq)) (by rw [← hx, List.length_append, ht, List.append_assoc, ptsX]; rfl) (by rw [List.length_append, List.length_cons, List.length_nil]; omega)
    refine ⟨z, pr, z1, ?_⟩
    rw [numDat_app, ptsDat, ptsDat, ptDat, ptsDat, List.length_append, ht] at z2
    apply M108_1_of
    refine (bT e1).trans ?_
    simp only [stP, agA]
    rw [row_one.nF' rfl]
    refine (bT pE).trans ?_
    simp only [stP, agA]
    rw [cap144, dT (by rw [ptsDat_len]; show _ + 1 ≤ _; omega)]
    exact z2
/-- The flag ahead of them. -/
theorem piece_flag (r : List Int) (hb : isBytes (40 :: 63 :: 105 :: 41 :: 92 :: r) = true) (hl : (40 :: 63 :: 105 :: 41 :: 92 :: r).length ≤ 4096) : E C 148 [pv (40 :: 63 :: 105 :: 41 :: 92 :: r) (sN 0 false), .int .i64 0] = some [.list [], pd (40 :: 63 :: 105 :: 41 :: 92 :: r) (sN 4 true)] := by
  generalize hbb : (40 :: 63 :: 105 :: 41 :: 92 :: r : List Int) = b at *
  have a0 : atB b 0 = 40 := by rw [← hbb]; exact atB_get (j := 0) rfl
  have a1 : atB b 1 = 63 := by rw [← hbb]; exact atB_get (j := 1) rfl
  have a2 : atB b 2 = 105 := by rw [← hbb]; exact atB_get (j := 2) rfl
  have a3 : atB b 3 = 41 := by rw [← hbb]; exact atB_get (j := 3) rfl
  have a4 : atB b 4 = 92 := by rw [← hbb]; exact atB_get (j := 4) rfl
  have t3 : M247_1 (b.map .int) 3 false false false false 0 ([ByteArray.empty].map .str) 0 0 0 0 ByteArray.empty true false false false false true true = some [.agg [.int 0, .int 0, .str ByteArray.empty, .bool true, .bool false, .bool false, .bool false, .bool true], pd b (sN 4 false)] := by
    apply M247_1_of
    refine (bT (byteAt_E b (sN 3 false) 3 (by decide))).trans ?_
    rw [a3]
    simp only [stP, agA]
    refine (bT (o266 _ _ _ _ _ _ ((eF (by decide)).trans ((eF (by decide)).trans ((eF (by decide)).trans ((eF (by decide)).trans rfl)))))).trans ?_
    rfl
  have tE : E C 247 [pv b (sN 2 false)] = some [.agg [.int 0, .int 0, .str ByteArray.empty, .bool true, .bool false, .bool false, .bool false, .bool true], pd b (sN 4 false)] := by
    apply o247
    apply M247_1_of
    refine (bT (byteAt_E b (sN 2 false) 2 (by decide))).trans ?_
    rw [a2]
    simp only [stP, agA]
    refine (bT (o266 _ _ _ _ _ _ (eT rfl))).trans ?_
    exact t3
  have oE : E C 229 [pv b (sN 0 false), .int .i64 0] = some [.agg [.int 0, .int 0, .str ByteArray.empty, .bool true, .bool false, .bool false, .bool false, .bool true], pd b (sN 4 false)] := by
    apply o229
    rw [show IntKind.i64.wrap ((0 : Int) + 1) = 1 from rfl, show IntKind.i64.wrap ((0 : Int) + 2) = 2 from rfl, show IntKind.i64.wrap ((0 : Int) + 3) = 3 from rfl, bT (byteAt_E b (sN 0 false) 1 (by decide)), a1]
    simp only [stP, agA]
    rw [neF rfl, bT (byteAt_E b (sN 0 false) 2 (by decide)), a2]
    simp only [stP, agA]
    rw [bT (byteAt_E b (sN 0 false) 3 (by decide)), a3]
    simp only [stP, agA]
    rw [eF (by decide), eF (by decide), eF (by decide), eF (by decide), eF (by decide), eF (by decide), eF (by decide)]
    refine (bT tE).trans ?_
    rfl
  have gE : E C 206 [pv b (sN 0 false), .int .i64 1] = some [ptD nd0P [], .bool false, pd b (sN 4 true)] := by
    apply o206
    rw [dF (by decide)]
    refine (bT oE).trans ?_
    rfl
  have atE := atom_par b (sN 0 false) 0 (by decide) (Int.le_refl 0) a0 gE
  apply o148
  rw [bT (count_no b (by omega) (sN 0 false) (cnt_none (.inr (.inr a0))))]
  simp only [stP, agA]
  rw [cond_false, neF (show (sN 0 false).e = 0 from rfl), bT atE]
  simp only [stP, agA]
  rw [neF (show (sN 4 true).e = 0 from rfl), bT (skip_E b (by omega) (sN 4 true) (by show i64P 4; unfold i64P; omega))]
  simp only [stP, agA]
  rw [skip_sN, bT (count_no b (by omega) (sN 4 true) (cnt_none (.inl a4)))]
  simp only [stP, agA]
  rfl
/-! The nodes of such a tree. -/
def nodesX (fo : Bool) : Nat → List (List UInt8) → List Nd
  | _, [] => []
  | k, s :: r => ndX fo k s :: nodesX fo (k + s.length + 4) r
theorem flats_X (fo : Bool) : ∀ (ss : List (List UInt8)) (k i : Nat), flats i (ptsX fo k ss) = nodesX fo k ss
  | [], k, i => rfl
  | s :: r, k, i => by
    rw [ptsX, flats, flats_X fo r, nodesX]
    rfl
theorem nodesX_len (fo : Bool) : ∀ (ss : List (List UInt8)) (k : Nat), (nodesX fo k ss).length = ss.length
  | [], k => rfl
  | s :: r, k => by rw [nodesX, List.length_cons, List.length_cons, nodesX_len fo r]
theorem nodesX_get (fo : Bool) : ∀ (ss : List (List UInt8)) (k j : Nat) (h : j < ss.length), ∃ k', (nodesX fo k ss)[j]? = some (ndX fo k' ss[j])
  | s :: r, k, 0, h => ⟨k, rfl⟩
  | s :: r, k, j + 1, h => by
    obtain ⟨k', hk⟩ := nodesX_get fo r (k + s.length + 4) j (by rw [List.length_cons] at h; omega)
    exact ⟨k', by rw [nodesX, List.getElem?_cons_succ, hk]; rfl⟩
theorem loop_X (b : List Int) (tot : Nat) (htot : tot ≤ 1000000) (ns : List Nd) (hns : ns.length = tot) (hk : ∀ n, n ∈ ns → n.kind ≠ 4) (v0 v2_0 : List Dat) (v2_1 : Int) (v2_2 : List Dat) (v3 v4 v6_0 v6_1 v6_2 v6_3 v6_4 v6_5 v6_6 : Int) (v6_7 : ByteArray) (v6_8 v6_9 v6_10 : List Dat) (v7_1 : Int) (v7_2 v17_0 : List Dat) (v17_1 : Int) (v17_2 v17_3 v17_4 v17_5 : Bool) (v17_6 : Int) (v17_7 : List Dat) (v17_8 v17_9 : Int) : ∀ (d i : Nat), i + d = tot → M26_1 v0 v2_0 v2_1 v2_2 v3 v4 v6_0 v6_1 v6_2 v6_3 v6_4 v6_5 v6_6 v6_7 v6_8 v6_9 v6_10 (nsD ns) v7_1 v7_2 v17_0 v17_1 v17_2 v17_3 v17_4 v17_5 v17_6 v17_7 v17_8 v17_9 (tot : Int) (i : Int) = some [.agg [.list (nsD ns), .int v7_1, .list v7_2], .int 0, .int 0]
  | 0, i, h => by
    apply M26_1_of
    rw [dF (by omega)]
  | d + 1, i, h => by
    have hr := loop_X b tot htot ns hns hk v0 v2_0 v2_1 v2_2 v3 v4 v6_0 v6_1 v6_2 v6_3 v6_4 v6_5 v6_6 v6_7 v6_8 v6_9 v6_10 v7_1 v7_2 v17_0 v17_1 v17_2 v17_3 v17_4 v17_5 v17_6 v17_7 v17_8 v17_9 d (i + 1) (by omega)
    have hi : i < ns.length := by omega
    have hw : IntKind.i64.wrap ((i : Int) + 1) = ((i + 1 : Nat) : Int) := by rw [w64 (by omega) (by omega)]; omega
    apply M26_1_of
    rw [dT (by omega), nsD_len, ixT ⟨by omega, by omega⟩, Int.toNat_natCast, nsD_rd hi, hw]
    simp only [nd0, datI]
    rw [eF (hk _ (List.getElem_mem hi))]
    exact hr
theorem nodesX_kind (fo : Bool) : ∀ (ss : List (List UInt8)) (k : Nat), ∀ n, n ∈ nodesX fo k ss → n.kind = 2
  | [], k, n, h => by cases h
  | s :: r, k, n, h => by
    rw [nodesX, List.mem_cons] at h
    rcases h with rfl | h
    · rfl
    · exact nodesX_kind fo r _ n h
/-- Parse of such symbols, two or more. -/
theorem Parse_num (fo : Bool) (s t : List UInt8) (r : List (List UInt8)) (hr : r.length ≤ 98) (hok : ∀ q, q ∈ s :: t :: r → OkS q) (hb : isBytes ((bif fo then [40, 63, 105, 41] else []) ++ bodyX (s :: t :: r)) = true) (hl : ((bif fo then [40, 63, 105, 41] else []) ++ bodyX (s :: t :: r) : List Int).length ≤ 4096) : ∃ n k, n.kind = 5 ∧
    E C 26 [.shr 5 (((bif fo then [40, 63, 105, 41] else []) ++ bodyX (s :: t :: r) : List Int).map .int)] = some [.agg [.list (nsD (n :: nodesX fo k (s :: t :: r))), .int 0, .list ([ByteArray.empty].map .str)], .int 0, .int 0] := by
  generalize hbb : ((bif fo then [40, 63, 105, 41] else []) ++ bodyX (s :: t :: r) : List Int) = b at *
  have hlr : (ptsX fo 0 (s :: t :: r)).length = r.length + 2 := by rw [ptsX_len]; rfl
  -- the row
  have rE : ∃ n : Nd, ∃ k : Nat, n.kind = 5 ∧ n.name = ByteArray.empty ∧ E C 108 [pv b (sN 0 false), .int .i64 0] = some [ptDat (.mk n (ptsX fo k (s :: t :: r))), pd b (sN b.length fo)] := by
    cases fo with
    | false =>
      have hb0 : b = bodyX (s :: t :: r) := hbb.symm
      obtain ⟨z, pr, -, z2⟩ := row_num false b hb hl 0 (.mk (ndX false 0 s) []) (.mk (ndX false (0 + s.length + 4) t) []) (ptsX false (0 + s.length + 4 + t.length + 4) r) (by rw [ptsX_len]; omega) (s :: t :: r) [] [] (by rw [hb0]; rfl) hok rfl (by simp; omega)
      refine ⟨⟨5, (PT.mk (ndX false 0 s) []).nd.frm, z.nd.to, 0, 0, 0, 0, ByteArray.empty, [], []⟩, 0, rfl, rfl, ?_⟩
      apply o108
      exact z2
    | true =>
      have hb0 : b = [40, 63, 105, 41] ++ bodyX (s :: t :: r) := hbb.symm
      obtain ⟨z, pr, -, z2⟩ := row_num true b hb hl 0 (.mk (ndX true 4 s) []) (.mk (ndX true (4 + s.length + 4) t) []) (ptsX true (4 + s.length + 4 + t.length + 4) r) (by rw [ptsX_len]; omega) (s :: t :: r) [40, 63, 105, 41] [] hb0 hok rfl (by simp; omega)
      refine ⟨⟨5, (PT.mk (ndX true 4 s) []).nd.frm, z.nd.to, 0, 0, 0, 0, ByteArray.empty, [], []⟩, 4, rfl, rfl, ?_⟩
      obtain ⟨r', hr'⟩ : ∃ r', b = 40 :: 63 :: 105 :: 41 :: 92 :: r' := by
        rcases bodyX_post (s :: t :: r) with h | ⟨q, h⟩
        · rw [bodyX_cons] at h; cases h
        · exact ⟨q, by rw [hb0, h]; rfl⟩
      have pf := piece_flag r' (by rw [← hr']; exact hb) (by rw [← hr']; exact hl)
      rw [← hr'] at pf
      have a0 : atB b 0 = 40 := by rw [hr']; exact atB_get (j := 0) rfl
      have hin := atB_some (b := b) (i := 0) (by rw [a0]; decide)
      have hE : endsB b (sN 0 false) = false := by
        unfold endsB overB
        rw [skip_sN, decide_eq_false (show ¬ (sN 0 false).k ≥ (b.length : Int) from by show ¬ (0 : Int) ≥ _; omega), show atB b (sN 0 false).k = 40 from a0]
        rfl
      have e1 := ends_E b (by omega) (sN 0 false) (by show i64P 0; unfold i64P; omega) (Int.le_refl 0)
      rw [hE, skip_sN] at e1
      apply o108
      apply M108_1_of
      refine (bT e1).trans ?_
      simp only [stP, agA]
      rw [row_one.nF' rfl]
      refine (bT pf).trans ?_
      simp only [stP, agA]
      rw [cap144, dT (by decide)]
      exact z2
  obtain ⟨n, k, nk5, n0, rE⟩ := rE
  rw [ptDat] at rE
  have ho : overB b (sN b.length fo) = true := by
    unfold overB
    rw [decide_eq_true (show (sN b.length fo).k ≥ (b.length : Int) from Int.le_refl _), Bool.or_true]
  have aE := alt_one b (sN 0 false) 0 rE (by show (0 : Int) ≤ (b.length : Int); omega) (.inl ho)
  have hsz : szP (.mk n (ptsX fo k (s :: t :: r))) = r.length + 3 := by
    rw [← flat_len 0, flat, flats_X, List.length_cons, nodesX_len]
    rfl
  have hN := number_T (.mk n (ptsX fo k (s :: t :: r))) [] (by rw [hsz]; simp; omega)
  rw [List.nil_append, List.length_nil, flat, flats_X] at hN
  refine ⟨{ n with kids := kidsAt (0 + 1) (ptsX fo k (s :: t :: r)) }, k, nk5, ?_⟩
  have hlen : ({ n with kids := kidsAt (0 + 1) (ptsX fo k (s :: t :: r)) } :: nodesX fo k (s :: t :: r)).length = r.length + 3 := by rw [List.length_cons, nodesX_len]; rfl
  apply o26
  rw [List.length_map, dF (by omega)]
  refine (bT aE).trans ?_
  simp only [stP, agA]
  rw [bT (over_E b (sN b.length fo)), ho]
  simp only [stP, agA]
  rw [nF rfl, neF (show (sN b.length fo).e = 0 from rfl)]
  refine (bT hN).trans ?_
  simp only [stP, agA]
  rw [nsD_len, hlen]
  exact loop_X b (r.length + 3) (by omega) _ hlen (fun m hm => by
    rw [List.mem_cons] at hm
    rcases hm with rfl | hm
    · show n.kind ≠ 4
      omega
    · have := nodesX_kind fo _ _ m hm
      omega) _ _ _ _ _ _ _ _ _ _ _ _ _ _ _ _ _ _ _ _ _ _ _ _ _ _ _ _ _ (r.length + 3) 0 (by omega)
end Go.Proofs.YtlofoifcdmeopaaGreatDoor.V
namespace Go.Proofs.YtlofoifcdmeopaaGreatDoor.V
open Go Go.Ev Go.RowKit
def tree81 : Dat := .agg [.list [nodeD ⟨6, 0, 7, 0, 0, 0, 0, ByteArray.empty, [], [1, 2]⟩, nodeD ⟨2, 0, 1, 0, 0, 0, 0, ByteArray.empty, [(97, 97)], []⟩, nodeD ⟨9, 2, 7, 0, 0, 0, 0, ByteArray.empty, [], [3]⟩, nodeD ⟨8, 2, 7, 0, 0, -1, 0, ByteArray.empty, [], [4]⟩, nodeD ⟨7, 2, 5, 1, 0, 0, 0, ByteArray.empty, [], [5]⟩, nodeD ⟨2, 3, 4, 0, 0, 0, 0, ByteArray.empty, [(98, 98)], []⟩], .int 1, .list [.str ByteArray.empty, .str ByteArray.empty]]
theorem parse81 : E C 26 [.shr 5 ([.int 97, .int 124, .int 40, .int 98, .int 41, .int 42, .int 43] : List Dat)] = some [tree81, .int 0, .int 0] := E_from 60 fun n => by kernel_rfl
end Go.Proofs.YtlofoifcdmeopaaGreatDoor.V
namespace Go.Proofs.YtlofoifcdmeopaaGreatDoor.V
open Go Go.Ev Go.RowKit
set_option linter.unusedVariables false
set_option linter.unusedSimpArgs false
def pat82 : List Int := [40, 63, 105, 41, 75]
def s820 : PS := ⟨0, false, false, false, false, 0, [ByteArray.empty], 0, 0⟩
def s821 : PS := ⟨4, true, false, false, false, 0, [ByteArray.empty], 0, 0⟩
def s822 : PS := ⟨5, true, false, false, false, 0, [ByteArray.empty], 0, 0⟩
def n82 : Nd := ⟨2, 4, 5, 0, 0, 0, 0, ByteArray.empty, [(75, 75), (107, 107), (8490, 8490)], []⟩
def tree82 : Dat := .agg [.list [nodeD n82], .int 0, .list [.str ByteArray.empty]]
theorem group82 : E C 206 [pv pat82 s820, .int .i64 (0 + 1)] = some [ptD nd0P [], .bool false, pd pat82 s821] := E_from 60 fun n => by kernel_rfl
theorem piece_none (b : List Int) (hb : b.length ≤ 140737488351232) (s : PS) (d : Int) (he : s.e = 0) (h1 : cntQ b s.k = none) {n : Nd} {ks : List Dat} {may : Bool} {s1 : PS} (hat : E C 179 [pv b s, .int .i64 d] = some [ptD n ks, .bool may, pd b s1]) (e1 : s1.e = 0) (hk1 : i64P s1.k) (h2 : cntQ b (skipS b s1).k = none) (hk : n.kind = 0) : E C 148 [pv b s, .int .i64 d] = some [.list [], pd b (skipS b s1)] := by
  apply o148
  rw [bT (count_no b hb s h1)]
  simp only [stP, agA]
  rw [cond_false, neF he, bT hat]
  simp only [stP, agA]
  rw [neF e1, bT (skip_E b hb s1 hk1)]
  simp only [stP, agA]
  rw [bT (count_no b hb (skipS b s1) h2)]
  simp only [stP, agA]
  rw [cond_false, eT hk]
  rfl
theorem piece82a : E C 148 [pv pat82 s820, .int .i64 0] = some [.list [], pd pat82 s821] :=
  piece_none pat82 (by decide) s820 0 rfl (by decide) (atom_par pat82 s820 0 (by decide) (by decide) (by decide) group82) rfl (by unfold i64P s821; decide) (by decide) rfl
theorem sym82 : symR pat82 s821.k = (75, 1) := by kernel_rfl
theorem piece82b : E C 148 [pv pat82 s821, .int .i64 0] = some [.list [ptD n82 []], pd pat82 s822] := by
  have h := atom_lit pat82 (by decide) (by decide) s821 0 (by decide) (by decide) (by rw [sym82]; decide)
  rw [sym82] at h
  rw [show (bif s821.fo then closeR (mk [(((75, 1) : Int × Int).1, ((75, 1) : Int × Int).1)]) else mk [(((75, 1) : Int × Int).1, ((75, 1) : Int × Int).1)]) = [(75, 75), (107, 107), (8490, 8490)] by kernel_rfl] at h
  exact pc_ok pat82 (by decide) s821 0 rfl (by decide) h rfl (by unfold i64P s821; decide) (by decide) (by decide)
theorem row82 : E C 108 [pv pat82 s820, .int .i64 0] = some [ptD n82 [], pd pat82 s822] := by
  apply o108
  apply M108_1_of
  refine (bT (ends_E pat82 (by decide) s820 (by unfold i64P s820; decide) (by decide))).trans ?_
  rw [show skipS pat82 s820 = s820 from rfl, show endsB pat82 s820 = false by decide]
  simp only [stP, agA]
  refine (nT rfl).trans ?_
  refine (bT piece82a).trans ?_
  simp only [stP, agA]
  rw [cap144, dT (by decide)]
  apply M108_1_of
  refine (bT (ends_E pat82 (by decide) s821 (by unfold i64P s821; decide) (by decide))).trans ?_
  rw [show skipS pat82 s821 = s821 from rfl, show endsB pat82 s821 = false by decide]
  simp only [stP, agA]
  refine (nT rfl).trans ?_
  refine (bT piece82b).trans ?_
  simp only [stP, agA]
  rw [cap144, dT (by decide)]
  apply M108_1_of
  refine (bT (ends_E pat82 (by decide) s822 (by unfold i64P s822; decide) (by decide))).trans ?_
  rw [show skipS pat82 s822 = s822 from rfl, show endsB pat82 s822 = true by decide]
  simp only [stP, agA]
  rfl
theorem number82 : E C 69 [ptV n82 [], .own 1 0 38 []] = some [.list [nodeD n82]] := E_from 60 fun n => by kernel_rfl
theorem parse82 : E C 26 [.shr 5 ([.int 40, .int 63, .int 105, .int 41, .int 75] : List Dat)] = some [tree82, .int 0, .int 0] := by
  have h := alt_one pat82 s820 0 row82 (by decide) (.inl (by decide))
  apply o26
  rw [dF (by decide)]
  refine (bT h).trans ?_
  simp only [stP, agA]
  refine (bT (over_E pat82 s822)).trans ?_
  simp only [stP, agA]
  rw [show overB pat82 s822 = true by decide, nF rfl, neF (show s822.e = 0 from rfl)]
  refine (bT number82).trans ?_
  simp only [stP, agA]
  apply M26_1_of
  rw [dT (by decide), ixT ⟨by decide, by decide⟩]
  rw [show rd [nodeD n82] (0 : Int).toNat = nodeD n82 from rfl]
  simp only [nd0, datI]
  rw [eF (by decide), show IntKind.i64.wrap (0 + 1) = 1 by decide]
  apply M26_1_of
  rw [dF (by decide)]
  rfl
end Go.Proofs.YtlofoifcdmeopaaGreatDoor.V
namespace Go.Proofs.YtlofoifcdmeopaaGreatDoor.V
open Go Go.Ev
set_option maxRecDepth 100000
set_option linter.unusedVariables false
/-- clew/clewlaw08.anchor -/
noncomputable def f28 : Func := Tryz.f28
def kp28 : List Nat := [0, 1, 2, 4, 5]
noncomputable def c28 (p : List Nat) : Code := pick f28 p
noncomputable def J28_7 (n : Nat)  (v0 : Bool) (v1_0 : List Dat) (v1_1 : Int) (v1_2 : List Dat) (v2 : Int) (v3 : AV) (v4_0 : List Dat) (v4_1 : Int) (v4_2 : List Dat) (v5 : Int) (v6 v7 v8 v9 v10 v11 v12 v13 v14 v15 v16 v17 v18 v19 v20 v21 v22 v23 v24 v25 v26 v27 v28 v29 v30 v31 v32 v33 v34 v35 v36 v37 v38 v39 v40 v41 v42 v43 v44 v45 v46 v47 v48 v49 v50 v51 v52 v53 v54 v55 v56 v57 v58 v59 v60 v61 : AV) (v62 : Bool) : R := jn fun _ => evOps C (ev C n) (ropsOf (c28 [1, 1, 1, 0])) ((ropsOf (c28 [1, 1, 1, 0])).drop 42) [.bool v0, .box 25 [.shr 38 v1_0, .int .i64 v1_1, .shr 9 v1_2], .int .i64 v2, v3, .box 25 [.shr 38 v4_0, .int .i64 v4_1, .shr 9 v4_2], .int .i64 v5, v6, v7, v8, v9, v10, v11, v12, v13, v14, v15, v16, v17, v18, v19, v20, v21, v22, v23, v24, v25, v26, v27, v28, v29, v30, v31, v32, v33, v34, v35, v36, v37, v38, v39, v40, v41, v42, v43, v44, v45, v46, v47, v48, v49, v50, v51, v52, v53, v54, v55, v56, v57, v58, v59, v60, v61, .bool v62, .und, .und, .und, .und, .und, .und, .und, .und, .und] ((Kseq C (ev C n) n kp28 (c28 [1, 1, 1, 1]) (Ktop C 28 f28 [])) .normal)
noncomputable def J28_6 (n : Nat)  (v0 : Bool) (v1_0 : List Dat) (v1_1 : Int) (v1_2 : List Dat) (v2 : Int) (v3 : AV) (v4_0 : List Dat) (v4_1 : Int) (v4_2 : List Dat) (v5 : Int) (v6 v7 v8 v9 v10 v11 v12 v13 v14 v15 v16 v17 v18 v19 v20 v21 v22 v23 v24 v25 v26 v27 v28 v29 v30 v31 v32 v33 v34 v35 v36 v37 v38 v39 v40 v41 v42 v43 v44 v45 v46 v47 v48 v49 v50 v51 v52 v53 v54 v55 : AV) (v56 : Bool) : R := jn fun _ => evOps C (ev C n) (ropsOf (c28 [1, 1, 1, 0])) ((ropsOf (c28 [1, 1, 1, 0])).drop 36) [.bool v0, .box 25 [.shr 38 v1_0, .int .i64 v1_1, .shr 9 v1_2], .int .i64 v2, v3, .box 25 [.shr 38 v4_0, .int .i64 v4_1, .shr 9 v4_2], .int .i64 v5, v6, v7, v8, v9, v10, v11, v12, v13, v14, v15, v16, v17, v18, v19, v20, v21, v22, v23, v24, v25, v26, v27, v28, v29, v30, v31, v32, v33, v34, v35, v36, v37, v38, v39, v40, v41, v42, v43, v44, v45, v46, v47, v48, v49, v50, v51, v52, v53, v54, v55, .bool v56, .und, .und, .und, .und, .und, .und, .und, .und, .und, .und, .und, .und, .und, .und, .und] ((Kseq C (ev C n) n kp28 (c28 [1, 1, 1, 1]) (Ktop C 28 f28 [])) .normal)
noncomputable def J28_5 (n : Nat)  (v0 : Bool) (v1_0 : List Dat) (v1_1 : Int) (v1_2 : List Dat) (v2 : Int) (v3 : AV) (v4_0 : List Dat) (v4_1 : Int) (v4_2 : List Dat) (v5 : Int) (v6 v7 v8 v9 v10 v11 v12 v13 v14 v15 v16 v17 v18 v19 v20 v21 v22 v23 v24 v25 v26 v27 v28 v29 v30 v31 v32 v33 v34 v35 v36 v37 v38 v39 v40 v41 v42 v43 v44 v45 v46 v47 : AV) (v48 : Bool) : R := jn fun _ => evOps C (ev C n) (ropsOf (c28 [1, 1, 1, 0])) ((ropsOf (c28 [1, 1, 1, 0])).drop 28) [.bool v0, .box 25 [.shr 38 v1_0, .int .i64 v1_1, .shr 9 v1_2], .int .i64 v2, v3, .box 25 [.shr 38 v4_0, .int .i64 v4_1, .shr 9 v4_2], .int .i64 v5, v6, v7, v8, v9, v10, v11, v12, v13, v14, v15, v16, v17, v18, v19, v20, v21, v22, v23, v24, v25, v26, v27, v28, v29, v30, v31, v32, v33, v34, v35, v36, v37, v38, v39, v40, v41, v42, v43, v44, v45, v46, v47, .bool v48, .und, .und, .und, .und, .und, .und, .und, .und, .und, .und, .und, .und, .und, .und, .und, .und, .und, .und, .und, .und, .und, .und, .und] ((Kseq C (ev C n) n kp28 (c28 [1, 1, 1, 1]) (Ktop C 28 f28 [])) .normal)
noncomputable def J28_4 (n : Nat)  (v0 : Bool) (v1_0 : List Dat) (v1_1 : Int) (v1_2 : List Dat) (v2 : Int) (v3 : AV) (v4_0 : List Dat) (v4_1 : Int) (v4_2 : List Dat) (v5 : Int) (v6 v7 v8 v9 v10 v11 v12 v13 v14 v15 v16 v17 v18 v19 v20 v21 v22 v23 v24 v25 v26 v27 v28 v29 v30 v31 v32 v33 v34 v35 v36 v37 v38 v39 : AV) (v40 : Bool) : R := jn fun _ => evOps C (ev C n) (ropsOf (c28 [1, 1, 1, 0])) ((ropsOf (c28 [1, 1, 1, 0])).drop 20) [.bool v0, .box 25 [.shr 38 v1_0, .int .i64 v1_1, .shr 9 v1_2], .int .i64 v2, v3, .box 25 [.shr 38 v4_0, .int .i64 v4_1, .shr 9 v4_2], .int .i64 v5, v6, v7, v8, v9, v10, v11, v12, v13, v14, v15, v16, v17, v18, v19, v20, v21, v22, v23, v24, v25, v26, v27, v28, v29, v30, v31, v32, v33, v34, v35, v36, v37, v38, v39, .bool v40, .und, .und, .und, .und, .und, .und, .und, .und, .und, .und, .und, .und, .und, .und, .und, .und, .und, .und, .und, .und, .und, .und, .und, .und, .und, .und, .und, .und, .und, .und, .und] ((Kseq C (ev C n) n kp28 (c28 [1, 1, 1, 1]) (Ktop C 28 f28 [])) .normal)
noncomputable def J28_3 (n : Nat)  (v0 : Bool) (v1_0 : List Dat) (v1_1 : Int) (v1_2 : List Dat) (v2 : Int) (v3 : AV) (v4_0 : List Dat) (v4_1 : Int) (v4_2 : List Dat) (v5 : Int) (v6 v7 v8 v9 v10 v11 v12 v13 v14 v15 v16 v17 v18 v19 v20 v21 v22 v23 v24 v25 v26 v27 v28 v29 v30 v31 : AV) (v32 : Bool) : R := jn fun _ => evOps C (ev C n) (ropsOf (c28 [1, 1, 1, 0])) ((ropsOf (c28 [1, 1, 1, 0])).drop 12) [.bool v0, .box 25 [.shr 38 v1_0, .int .i64 v1_1, .shr 9 v1_2], .int .i64 v2, v3, .box 25 [.shr 38 v4_0, .int .i64 v4_1, .shr 9 v4_2], .int .i64 v5, v6, v7, v8, v9, v10, v11, v12, v13, v14, v15, v16, v17, v18, v19, v20, v21, v22, v23, v24, v25, v26, v27, v28, v29, v30, v31, .bool v32, .und, .und, .und, .und, .und, .und, .und, .und, .und, .und, .und, .und, .und, .und, .und, .und, .und, .und, .und, .und, .und, .und, .und, .und, .und, .und, .und, .und, .und, .und, .und, .und, .und, .und, .und, .und, .und, .und, .und] ((Kseq C (ev C n) n kp28 (c28 [1, 1, 1, 1]) (Ktop C 28 f28 [])) .normal)
noncomputable def J28_2 (n : Nat)  (v0 : Bool) (v1_0 : List Dat) (v1_1 : Int) (v1_2 : List Dat) (v2 : Int) (v3 : AV) (v4_0 : List Dat) (v4_1 : Int) (v4_2 : List Dat) (v5 : Int) (v6 v7 v8 v9 v10 v11 v12 v13 v14 v15 v16 v17 v18 v19 v20 v21 v22 v23 v24 v25 : AV) (v26 : Bool) : R := jn fun _ => evOps C (ev C n) (ropsOf (c28 [1, 1, 1, 0])) ((ropsOf (c28 [1, 1, 1, 0])).drop 6) [.bool v0, .box 25 [.shr 38 v1_0, .int .i64 v1_1, .shr 9 v1_2], .int .i64 v2, v3, .box 25 [.shr 38 v4_0, .int .i64 v4_1, .shr 9 v4_2], .int .i64 v5, v6, v7, v8, v9, v10, v11, v12, v13, v14, v15, v16, v17, v18, v19, v20, v21, v22, v23, v24, v25, .bool v26, .und, .und, .und, .und, .und, .und, .und, .und, .und, .und, .und, .und, .und, .und, .und, .und, .und, .und, .und, .und, .und, .und, .und, .und, .und, .und, .und, .und, .und, .und, .und, .und, .und, .und, .und, .und, .und, .und, .und, .und, .und, .und, .und, .und, .und] ((Kseq C (ev C n) n kp28 (c28 [1, 1, 1, 1]) (Ktop C 28 f28 [])) .normal)
noncomputable def J28_1 (n : Nat)  (v0 : Bool) (v1_0 : List Dat) (v1_1 : Int) (v1_2 : List Dat) (v2 : Int) (v3 : AV) (v4_0 : List Dat) (v4_1 : Int) (v4_2 : List Dat) (v5 : Int) (v6 v7 v8 v9 v10 v11 v12 v13 v14 v15 v16 v17 v18 v19 v20 : AV) : R := jn fun _ => evOps C (ev C n) (ropsOf (c28 [1, 1, 1, 0])) ((ropsOf (c28 [1, 1, 1, 0])).drop 0) [.bool v0, .box 25 [.shr 38 v1_0, .int .i64 v1_1, .shr 9 v1_2], .int .i64 v2, v3, .box 25 [.shr 38 v4_0, .int .i64 v4_1, .shr 9 v4_2], .int .i64 v5, v6, v7, v8, v9, v10, v11, v12, v13, v14, v15, v16, v17, v18, v19, v20, .und, .und, .und, .und, .und, .und, .und, .und, .und, .und, .und, .und, .und, .und, .und, .und, .und, .und, .und, .und, .und, .und, .und, .und, .und, .und, .und, .und, .und, .und, .und, .und, .und, .und, .und, .und, .und, .und, .und, .und, .und, .und, .und, .und, .und, .und, .und, .und, .und, .und, .und] ((Kseq C (ev C n) n kp28 (c28 [1, 1, 1, 1]) (Ktop C 28 f28 [])) .normal)
noncomputable def N28_7 (v4_0 : List Dat) (v62 : Bool) : R := bif v62 then (bif decide (0 < (v4_0.length : Int)) then (bif decide (0 < v4_0.length) then (some [.bool (((((rd v4_0 0).C 8).L).length : Int) == 3)]) else none) else none) else (some [.bool false])
theorem N28_7_c (v0 : Bool) (v1_0 : List Dat) (v1_1 : Int) (v1_2 : List Dat) (v2 : Int) (v3 : AV) (v4_0 : List Dat) (v4_1 : Int) (v4_2 : List Dat) (v5 : Int) (v6 v7 v8 v9 v10 v11 v12 v13 v14 v15 v16 v17 v18 v19 v20 v21 v22 v23 v24 v25 v26 v27 v28 v29 v30 v31 v32 v33 v34 v35 v36 v37 v38 v39 v40 v41 v42 v43 v44 v45 v46 v47 v48 v49 v50 v51 v52 v53 v54 v55 v56 v57 v58 v59 v60 v61 : AV) (v62 : Bool) : Cont (fun φ => J28_7 (φ 0)  v0 v1_0 v1_1 v1_2 v2 v3 v4_0 v4_1 v4_2 v5 v6 v7 v8 v9 v10 v11 v12 v13 v14 v15 v16 v17 v18 v19 v20 v21 v22 v23 v24 v25 v26 v27 v28 v29 v30 v31 v32 v33 v34 v35 v36 v37 v38 v39 v40 v41 v42 v43 v44 v45 v46 v47 v48 v49 v50 v51 v52 v53 v54 v55 v56 v57 v58 v59 v60 v61 v62) (N28_7 v4_0 v62) := Cont.eq2 (Cont.bif (Cont.bif (Cont.bif (Cont.const _) Cont.nn) Cont.nn) (Cont.const _)) fun φ => by kernel_rfl
theorem J28_6_g (n : Nat)  (v0 : Bool) (v1_0 : List Dat) (v1_1 : Int) (v1_2 : List Dat) (v2 : Int) (v3 : AV) (v4_0 : List Dat) (v4_1 : Int) (v4_2 : List Dat) (v5 : Int) (v6 v7 v8 v9 v10 v11 v12 v13 v14 v15 v16 v17 v18 v19 v20 v21 v22 v23 v24 v25 v26 v27 v28 v29 v30 v31 v32 v33 v34 v35 v36 v37 v38 v39 v40 v41 v42 v43 v44 v45 v46 v47 v48 v49 v50 v51 v52 v53 v54 v55 : AV) (v56 : Bool) (G : Env → R) : evOps C (ev C n) (ropsOf (c28 [1, 1, 1, 0])) (((ropsOf (c28 [1, 1, 1, 0])).drop 36).take 6) [.bool v0, .box 25 [.shr 38 v1_0, .int .i64 v1_1, .shr 9 v1_2], .int .i64 v2, v3, .box 25 [.shr 38 v4_0, .int .i64 v4_1, .shr 9 v4_2], .int .i64 v5, v6, v7, v8, v9, v10, v11, v12, v13, v14, v15, v16, v17, v18, v19, v20, v21, v22, v23, v24, v25, v26, v27, v28, v29, v30, v31, v32, v33, v34, v35, v36, v37, v38, v39, v40, v41, v42, v43, v44, v45, v46, v47, v48, v49, v50, v51, v52, v53, v54, v55, .bool v56, .und, .und, .und, .und, .und, .und, .und, .und, .und, .und, .und, .und, .und, .und, .und] G = bif v56 then (G [.bool v0, .box 25 [.shr 38 v1_0, .int .i64 v1_1, .shr 9 v1_2], .int .i64 v2, v3, .box 25 [.shr 38 v4_0, .int .i64 v4_1, .shr 9 v4_2], .int .i64 v5, v6, v7, v8, v9, v10, v11, v12, v13, v14, v15, v16, v17, v18, v19, v20, v21, v22, v23, v24, v25, v26, v27, v28, v29, v30, v31, v32, v33, v34, v35, v36, v37, v38, v39, v40, v41, v42, v43, v44, v45, v46, v47, v48, v49, v50, v51, v52, v53, v54, v55, .bool v56, .bool true, .ref 4 0, .shr 38 v4_0, .int .i64 (v4_0.length : Int), .dead, .bool ((v4_0.length : Int) == 1), .und, .und, .und, .und, .und, .und, .und, .und, .und]) else (G [.bool v0, .box 25 [.shr 38 v1_0, .int .i64 v1_1, .shr 9 v1_2], .int .i64 v2, v3, .box 25 [.shr 38 v4_0, .int .i64 v4_1, .shr 9 v4_2], .int .i64 v5, v6, v7, v8, v9, v10, v11, v12, v13, v14, v15, v16, v17, v18, v19, v20, v21, v22, v23, v24, v25, v26, v27, v28, v29, v30, v31, v32, v33, v34, v35, v36, v37, v38, v39, v40, v41, v42, v43, v44, v45, v46, v47, v48, v49, v50, v51, v52, v53, v54, v55, .bool v56, .bool false, .skp, .skp, .skp, .dead, .bool false, .und, .und, .und, .und, .und, .und, .und, .und, .und]) := by kernel_rfl
noncomputable def N28_6 (v4_0 : List Dat) (v56 : Bool) : R := bif v56 then (N28_7 v4_0 ((v4_0.length : Int) == 1)) else (N28_7 v4_0 false)
theorem N28_6_c (v0 : Bool) (v1_0 : List Dat) (v1_1 : Int) (v1_2 : List Dat) (v2 : Int) (v3 : AV) (v4_0 : List Dat) (v4_1 : Int) (v4_2 : List Dat) (v5 : Int) (v6 v7 v8 v9 v10 v11 v12 v13 v14 v15 v16 v17 v18 v19 v20 v21 v22 v23 v24 v25 v26 v27 v28 v29 v30 v31 v32 v33 v34 v35 v36 v37 v38 v39 v40 v41 v42 v43 v44 v45 v46 v47 v48 v49 v50 v51 v52 v53 v54 v55 : AV) (v56 : Bool) : Cont (fun φ => J28_6 (φ 0)  v0 v1_0 v1_1 v1_2 v2 v3 v4_0 v4_1 v4_2 v5 v6 v7 v8 v9 v10 v11 v12 v13 v14 v15 v16 v17 v18 v19 v20 v21 v22 v23 v24 v25 v26 v27 v28 v29 v30 v31 v32 v33 v34 v35 v36 v37 v38 v39 v40 v41 v42 v43 v44 v45 v46 v47 v48 v49 v50 v51 v52 v53 v54 v55 v56) (N28_6 v4_0 v56) := Cont.eq2 (Cont.bif (N28_7_c v0 v1_0 v1_1 v1_2 v2 v3 _ v4_1 v4_2 v5 v6 v7 v8 v9 v10 v11 v12 v13 v14 v15 v16 v17 v18 v19 v20 v21 v22 v23 v24 v25 v26 v27 v28 v29 v30 v31 v32 v33 v34 v35 v36 v37 v38 v39 v40 v41 v42 v43 v44 v45 v46 v47 v48 v49 v50 v51 v52 v53 v54 v55 (.bool v56) (.bool true) (.ref 4 0) (.shr 38 v4_0) (.int .i64 (v4_0.length : Int)) .dead _) (N28_7_c v0 v1_0 v1_1 v1_2 v2 v3 _ v4_1 v4_2 v5 v6 v7 v8 v9 v10 v11 v12 v13 v14 v15 v16 v17 v18 v19 v20 v21 v22 v23 v24 v25 v26 v27 v28 v29 v30 v31 v32 v33 v34 v35 v36 v37 v38 v39 v40 v41 v42 v43 v44 v45 v46 v47 v48 v49 v50 v51 v52 v53 v54 v55 (.bool v56) (.bool false) .skp .skp .skp .dead _)) fun φ => by
  delta J28_6 J28_7
  exact (evOps_cut 36 6 42 rfl).trans (J28_6_g (φ 0)  v0 v1_0 v1_1 v1_2 v2 v3 v4_0 v4_1 v4_2 v5 v6 v7 v8 v9 v10 v11 v12 v13 v14 v15 v16 v17 v18 v19 v20 v21 v22 v23 v24 v25 v26 v27 v28 v29 v30 v31 v32 v33 v34 v35 v36 v37 v38 v39 v40 v41 v42 v43 v44 v45 v46 v47 v48 v49 v50 v51 v52 v53 v54 v55 v56 (fun E => jn fun _ => evOps C (ev C (φ 0)) (ropsOf (c28 [1, 1, 1, 0])) ((ropsOf (c28 [1, 1, 1, 0])).drop 42) E ((Kseq C (ev C (φ 0)) (φ 0) kp28 (c28 [1, 1, 1, 1]) (Ktop C 28 f28 [])) .normal)))
theorem J28_5_g (n : Nat)  (v0 : Bool) (v1_0 : List Dat) (v1_1 : Int) (v1_2 : List Dat) (v2 : Int) (v3 : AV) (v4_0 : List Dat) (v4_1 : Int) (v4_2 : List Dat) (v5 : Int) (v6 v7 v8 v9 v10 v11 v12 v13 v14 v15 v16 v17 v18 v19 v20 v21 v22 v23 v24 v25 v26 v27 v28 v29 v30 v31 v32 v33 v34 v35 v36 v37 v38 v39 v40 v41 v42 v43 v44 v45 v46 v47 : AV) (v48 : Bool) (G : Env → R) : evOps C (ev C n) (ropsOf (c28 [1, 1, 1, 0])) (((ropsOf (c28 [1, 1, 1, 0])).drop 28).take 8) [.bool v0, .box 25 [.shr 38 v1_0, .int .i64 v1_1, .shr 9 v1_2], .int .i64 v2, v3, .box 25 [.shr 38 v4_0, .int .i64 v4_1, .shr 9 v4_2], .int .i64 v5, v6, v7, v8, v9, v10, v11, v12, v13, v14, v15, v16, v17, v18, v19, v20, v21, v22, v23, v24, v25, v26, v27, v28, v29, v30, v31, v32, v33, v34, v35, v36, v37, v38, v39, v40, v41, v42, v43, v44, v45, v46, v47, .bool v48, .und, .und, .und, .und, .und, .und, .und, .und, .und, .und, .und, .und, .und, .und, .und, .und, .und, .und, .und, .und, .und, .und, .und] G = bif v48 then (bif decide (4 < (v1_0.length : Int)) then (bif decide (4 < v1_0.length) then (G [.bool v0, .box 25 [.shr 38 v1_0, .int .i64 v1_1, .shr 9 v1_2], .int .i64 v2, v3, .box 25 [.shr 38 v4_0, .int .i64 v4_1, .shr 9 v4_2], .int .i64 v5, v6, v7, v8, v9, v10, v11, v12, v13, v14, v15, v16, v17, v18, v19, v20, v21, v22, v23, v24, v25, v26, v27, v28, v29, v30, v31, v32, v33, v34, v35, v36, v37, v38, v39, v40, v41, v42, v43, v44, v45, v46, v47, .bool v48, .bool true, .ref 1 0, .shr 38 v1_0, .sref 38 v1_0 4 0, .sref 38 v1_0 4 0, .int .i64 (((rd v1_0 4).C 0).I), .dead, .bool ((((rd v1_0 4).C 0).I) == 7), .und, .und, .und, .und, .und, .und, .und, .und, .und, .und, .und, .und, .und, .und, .und]) else none) else none) else (G [.bool v0, .box 25 [.shr 38 v1_0, .int .i64 v1_1, .shr 9 v1_2], .int .i64 v2, v3, .box 25 [.shr 38 v4_0, .int .i64 v4_1, .shr 9 v4_2], .int .i64 v5, v6, v7, v8, v9, v10, v11, v12, v13, v14, v15, v16, v17, v18, v19, v20, v21, v22, v23, v24, v25, v26, v27, v28, v29, v30, v31, v32, v33, v34, v35, v36, v37, v38, v39, v40, v41, v42, v43, v44, v45, v46, v47, .bool v48, .bool false, .skp, .skp, .skp, .skp, .skp, .dead, .bool false, .und, .und, .und, .und, .und, .und, .und, .und, .und, .und, .und, .und, .und, .und, .und]) := by kernel_rfl
noncomputable def N28_5 (v1_0 v4_0 : List Dat) (v48 : Bool) : R := bif v48 then (bif decide (4 < (v1_0.length : Int)) then (bif decide (4 < v1_0.length) then (N28_6 v4_0 ((((rd v1_0 4).C 0).I) == 7)) else none) else none) else (N28_6 v4_0 false)
theorem N28_5_c (v0 : Bool) (v1_0 : List Dat) (v1_1 : Int) (v1_2 : List Dat) (v2 : Int) (v3 : AV) (v4_0 : List Dat) (v4_1 : Int) (v4_2 : List Dat) (v5 : Int) (v6 v7 v8 v9 v10 v11 v12 v13 v14 v15 v16 v17 v18 v19 v20 v21 v22 v23 v24 v25 v26 v27 v28 v29 v30 v31 v32 v33 v34 v35 v36 v37 v38 v39 v40 v41 v42 v43 v44 v45 v46 v47 : AV) (v48 : Bool) : Cont (fun φ => J28_5 (φ 0)  v0 v1_0 v1_1 v1_2 v2 v3 v4_0 v4_1 v4_2 v5 v6 v7 v8 v9 v10 v11 v12 v13 v14 v15 v16 v17 v18 v19 v20 v21 v22 v23 v24 v25 v26 v27 v28 v29 v30 v31 v32 v33 v34 v35 v36 v37 v38 v39 v40 v41 v42 v43 v44 v45 v46 v47 v48) (N28_5 v1_0 v4_0 v48) := Cont.eq2 (Cont.bif (Cont.bif (Cont.bif (N28_6_c v0 v1_0 v1_1 v1_2 v2 v3 _ v4_1 v4_2 v5 v6 v7 v8 v9 v10 v11 v12 v13 v14 v15 v16 v17 v18 v19 v20 v21 v22 v23 v24 v25 v26 v27 v28 v29 v30 v31 v32 v33 v34 v35 v36 v37 v38 v39 v40 v41 v42 v43 v44 v45 v46 v47 (.bool v48) (.bool true) (.ref 1 0) (.shr 38 v1_0) (.sref 38 v1_0 4 0) (.sref 38 v1_0 4 0) (.int .i64 (((rd v1_0 4).C 0).I)) .dead _) Cont.nn) Cont.nn) (N28_6_c v0 v1_0 v1_1 v1_2 v2 v3 _ v4_1 v4_2 v5 v6 v7 v8 v9 v10 v11 v12 v13 v14 v15 v16 v17 v18 v19 v20 v21 v22 v23 v24 v25 v26 v27 v28 v29 v30 v31 v32 v33 v34 v35 v36 v37 v38 v39 v40 v41 v42 v43 v44 v45 v46 v47 (.bool v48) (.bool false) .skp .skp .skp .skp .skp .dead _)) fun φ => by
  delta J28_5 J28_6
  exact (evOps_cut 28 8 36 rfl).trans (J28_5_g (φ 0)  v0 v1_0 v1_1 v1_2 v2 v3 v4_0 v4_1 v4_2 v5 v6 v7 v8 v9 v10 v11 v12 v13 v14 v15 v16 v17 v18 v19 v20 v21 v22 v23 v24 v25 v26 v27 v28 v29 v30 v31 v32 v33 v34 v35 v36 v37 v38 v39 v40 v41 v42 v43 v44 v45 v46 v47 v48 (fun E => jn fun _ => evOps C (ev C (φ 0)) (ropsOf (c28 [1, 1, 1, 0])) ((ropsOf (c28 [1, 1, 1, 0])).drop 36) E ((Kseq C (ev C (φ 0)) (φ 0) kp28 (c28 [1, 1, 1, 1]) (Ktop C 28 f28 [])) .normal)))
theorem J28_4_g (n : Nat)  (v0 : Bool) (v1_0 : List Dat) (v1_1 : Int) (v1_2 : List Dat) (v2 : Int) (v3 : AV) (v4_0 : List Dat) (v4_1 : Int) (v4_2 : List Dat) (v5 : Int) (v6 v7 v8 v9 v10 v11 v12 v13 v14 v15 v16 v17 v18 v19 v20 v21 v22 v23 v24 v25 v26 v27 v28 v29 v30 v31 v32 v33 v34 v35 v36 v37 v38 v39 : AV) (v40 : Bool) (G : Env → R) : evOps C (ev C n) (ropsOf (c28 [1, 1, 1, 0])) (((ropsOf (c28 [1, 1, 1, 0])).drop 20).take 8) [.bool v0, .box 25 [.shr 38 v1_0, .int .i64 v1_1, .shr 9 v1_2], .int .i64 v2, v3, .box 25 [.shr 38 v4_0, .int .i64 v4_1, .shr 9 v4_2], .int .i64 v5, v6, v7, v8, v9, v10, v11, v12, v13, v14, v15, v16, v17, v18, v19, v20, v21, v22, v23, v24, v25, v26, v27, v28, v29, v30, v31, v32, v33, v34, v35, v36, v37, v38, v39, .bool v40, .und, .und, .und, .und, .und, .und, .und, .und, .und, .und, .und, .und, .und, .und, .und, .und, .und, .und, .und, .und, .und, .und, .und, .und, .und, .und, .und, .und, .und, .und, .und] G = bif v40 then (bif decide (3 < (v1_0.length : Int)) then (bif decide (3 < v1_0.length) then (G [.bool v0, .box 25 [.shr 38 v1_0, .int .i64 v1_1, .shr 9 v1_2], .int .i64 v2, v3, .box 25 [.shr 38 v4_0, .int .i64 v4_1, .shr 9 v4_2], .int .i64 v5, v6, v7, v8, v9, v10, v11, v12, v13, v14, v15, v16, v17, v18, v19, v20, v21, v22, v23, v24, v25, v26, v27, v28, v29, v30, v31, v32, v33, v34, v35, v36, v37, v38, v39, .bool v40, .bool true, .ref 1 0, .shr 38 v1_0, .sref 38 v1_0 3 0, .sref 38 v1_0 3 0, .int .i64 (((rd v1_0 3).C 0).I), .dead, .bool ((((rd v1_0 3).C 0).I) == 8), .und, .und, .und, .und, .und, .und, .und, .und, .und, .und, .und, .und, .und, .und, .und, .und, .und, .und, .und, .und, .und, .und, .und]) else none) else none) else (G [.bool v0, .box 25 [.shr 38 v1_0, .int .i64 v1_1, .shr 9 v1_2], .int .i64 v2, v3, .box 25 [.shr 38 v4_0, .int .i64 v4_1, .shr 9 v4_2], .int .i64 v5, v6, v7, v8, v9, v10, v11, v12, v13, v14, v15, v16, v17, v18, v19, v20, v21, v22, v23, v24, v25, v26, v27, v28, v29, v30, v31, v32, v33, v34, v35, v36, v37, v38, v39, .bool v40, .bool false, .skp, .skp, .skp, .skp, .skp, .dead, .bool false, .und, .und, .und, .und, .und, .und, .und, .und, .und, .und, .und, .und, .und, .und, .und, .und, .und, .und, .und, .und, .und, .und, .und]) := by kernel_rfl
noncomputable def N28_4 (v1_0 v4_0 : List Dat) (v40 : Bool) : R := bif v40 then (bif decide (3 < (v1_0.length : Int)) then (bif decide (3 < v1_0.length) then (N28_5 v1_0 v4_0 ((((rd v1_0 3).C 0).I) == 8)) else none) else none) else (N28_5 v1_0 v4_0 false)
theorem N28_4_c (v0 : Bool) (v1_0 : List Dat) (v1_1 : Int) (v1_2 : List Dat) (v2 : Int) (v3 : AV) (v4_0 : List Dat) (v4_1 : Int) (v4_2 : List Dat) (v5 : Int) (v6 v7 v8 v9 v10 v11 v12 v13 v14 v15 v16 v17 v18 v19 v20 v21 v22 v23 v24 v25 v26 v27 v28 v29 v30 v31 v32 v33 v34 v35 v36 v37 v38 v39 : AV) (v40 : Bool) : Cont (fun φ => J28_4 (φ 0)  v0 v1_0 v1_1 v1_2 v2 v3 v4_0 v4_1 v4_2 v5 v6 v7 v8 v9 v10 v11 v12 v13 v14 v15 v16 v17 v18 v19 v20 v21 v22 v23 v24 v25 v26 v27 v28 v29 v30 v31 v32 v33 v34 v35 v36 v37 v38 v39 v40) (N28_4 v1_0 v4_0 v40) := Cont.eq2 (Cont.bif (Cont.bif (Cont.bif (N28_5_c v0 _ v1_1 v1_2 v2 v3 _ v4_1 v4_2 v5 v6 v7 v8 v9 v10 v11 v12 v13 v14 v15 v16 v17 v18 v19 v20 v21 v22 v23 v24 v25 v26 v27 v28 v29 v30 v31 v32 v33 v34 v35 v36 v37 v38 v39 (.bool v40) (.bool true) (.ref 1 0) (.shr 38 v1_0) (.sref 38 v1_0 3 0) (.sref 38 v1_0 3 0) (.int .i64 (((rd v1_0 3).C 0).I)) .dead _) Cont.nn) Cont.nn) (N28_5_c v0 _ v1_1 v1_2 v2 v3 _ v4_1 v4_2 v5 v6 v7 v8 v9 v10 v11 v12 v13 v14 v15 v16 v17 v18 v19 v20 v21 v22 v23 v24 v25 v26 v27 v28 v29 v30 v31 v32 v33 v34 v35 v36 v37 v38 v39 (.bool v40) (.bool false) .skp .skp .skp .skp .skp .dead _)) fun φ => by
  delta J28_4 J28_5
  exact (evOps_cut 20 8 28 rfl).trans (J28_4_g (φ 0)  v0 v1_0 v1_1 v1_2 v2 v3 v4_0 v4_1 v4_2 v5 v6 v7 v8 v9 v10 v11 v12 v13 v14 v15 v16 v17 v18 v19 v20 v21 v22 v23 v24 v25 v26 v27 v28 v29 v30 v31 v32 v33 v34 v35 v36 v37 v38 v39 v40 (fun E => jn fun _ => evOps C (ev C (φ 0)) (ropsOf (c28 [1, 1, 1, 0])) ((ropsOf (c28 [1, 1, 1, 0])).drop 28) E ((Kseq C (ev C (φ 0)) (φ 0) kp28 (c28 [1, 1, 1, 1]) (Ktop C 28 f28 [])) .normal)))
theorem J28_3_g (n : Nat)  (v0 : Bool) (v1_0 : List Dat) (v1_1 : Int) (v1_2 : List Dat) (v2 : Int) (v3 : AV) (v4_0 : List Dat) (v4_1 : Int) (v4_2 : List Dat) (v5 : Int) (v6 v7 v8 v9 v10 v11 v12 v13 v14 v15 v16 v17 v18 v19 v20 v21 v22 v23 v24 v25 v26 v27 v28 v29 v30 v31 : AV) (v32 : Bool) (G : Env → R) : evOps C (ev C n) (ropsOf (c28 [1, 1, 1, 0])) (((ropsOf (c28 [1, 1, 1, 0])).drop 12).take 8) [.bool v0, .box 25 [.shr 38 v1_0, .int .i64 v1_1, .shr 9 v1_2], .int .i64 v2, v3, .box 25 [.shr 38 v4_0, .int .i64 v4_1, .shr 9 v4_2], .int .i64 v5, v6, v7, v8, v9, v10, v11, v12, v13, v14, v15, v16, v17, v18, v19, v20, v21, v22, v23, v24, v25, v26, v27, v28, v29, v30, v31, .bool v32, .und, .und, .und, .und, .und, .und, .und, .und, .und, .und, .und, .und, .und, .und, .und, .und, .und, .und, .und, .und, .und, .und, .und, .und, .und, .und, .und, .und, .und, .und, .und, .und, .und, .und, .und, .und, .und, .und, .und] G = bif v32 then (bif decide (2 < (v1_0.length : Int)) then (bif decide (2 < v1_0.length) then (G [.bool v0, .box 25 [.shr 38 v1_0, .int .i64 v1_1, .shr 9 v1_2], .int .i64 v2, v3, .box 25 [.shr 38 v4_0, .int .i64 v4_1, .shr 9 v4_2], .int .i64 v5, v6, v7, v8, v9, v10, v11, v12, v13, v14, v15, v16, v17, v18, v19, v20, v21, v22, v23, v24, v25, v26, v27, v28, v29, v30, v31, .bool v32, .bool true, .ref 1 0, .shr 38 v1_0, .sref 38 v1_0 2 0, .sref 38 v1_0 2 0, .int .i64 (((rd v1_0 2).C 0).I), .dead, .bool ((((rd v1_0 2).C 0).I) == 9), .und, .und, .und, .und, .und, .und, .und, .und, .und, .und, .und, .und, .und, .und, .und, .und, .und, .und, .und, .und, .und, .und, .und, .und, .und, .und, .und, .und, .und, .und, .und]) else none) else none) else (G [.bool v0, .box 25 [.shr 38 v1_0, .int .i64 v1_1, .shr 9 v1_2], .int .i64 v2, v3, .box 25 [.shr 38 v4_0, .int .i64 v4_1, .shr 9 v4_2], .int .i64 v5, v6, v7, v8, v9, v10, v11, v12, v13, v14, v15, v16, v17, v18, v19, v20, v21, v22, v23, v24, v25, v26, v27, v28, v29, v30, v31, .bool v32, .bool false, .skp, .skp, .skp, .skp, .skp, .dead, .bool false, .und, .und, .und, .und, .und, .und, .und, .und, .und, .und, .und, .und, .und, .und, .und, .und, .und, .und, .und, .und, .und, .und, .und, .und, .und, .und, .und, .und, .und, .und, .und]) := by kernel_rfl
noncomputable def N28_3 (v1_0 v4_0 : List Dat) (v32 : Bool) : R := bif v32 then (bif decide (2 < (v1_0.length : Int)) then (bif decide (2 < v1_0.length) then (N28_4 v1_0 v4_0 ((((rd v1_0 2).C 0).I) == 9)) else none) else none) else (N28_4 v1_0 v4_0 false)
theorem N28_3_c (v0 : Bool) (v1_0 : List Dat) (v1_1 : Int) (v1_2 : List Dat) (v2 : Int) (v3 : AV) (v4_0 : List Dat) (v4_1 : Int) (v4_2 : List Dat) (v5 : Int) (v6 v7 v8 v9 v10 v11 v12 v13 v14 v15 v16 v17 v18 v19 v20 v21 v22 v23 v24 v25 v26 v27 v28 v29 v30 v31 : AV) (v32 : Bool) : Cont (fun φ => J28_3 (φ 0)  v0 v1_0 v1_1 v1_2 v2 v3 v4_0 v4_1 v4_2 v5 v6 v7 v8 v9 v10 v11 v12 v13 v14 v15 v16 v17 v18 v19 v20 v21 v22 v23 v24 v25 v26 v27 v28 v29 v30 v31 v32) (N28_3 v1_0 v4_0 v32) := Cont.eq2 (Cont.bif (Cont.bif (Cont.bif (N28_4_c v0 _ v1_1 v1_2 v2 v3 _ v4_1 v4_2 v5 v6 v7 v8 v9 v10 v11 v12 v13 v14 v15 v16 v17 v18 v19 v20 v21 v22 v23 v24 v25 v26 v27 v28 v29 v30 v31 (.bool v32) (.bool true) (.ref 1 0) (.shr 38 v1_0) (.sref 38 v1_0 2 0) (.sref 38 v1_0 2 0) (.int .i64 (((rd v1_0 2).C 0).I)) .dead _) Cont.nn) Cont.nn) (N28_4_c v0 _ v1_1 v1_2 v2 v3 _ v4_1 v4_2 v5 v6 v7 v8 v9 v10 v11 v12 v13 v14 v15 v16 v17 v18 v19 v20 v21 v22 v23 v24 v25 v26 v27 v28 v29 v30 v31 (.bool v32) (.bool false) .skp .skp .skp .skp .skp .dead _)) fun φ => by
  delta J28_3 J28_4
  exact (evOps_cut 12 8 20 rfl).trans (J28_3_g (φ 0)  v0 v1_0 v1_1 v1_2 v2 v3 v4_0 v4_1 v4_2 v5 v6 v7 v8 v9 v10 v11 v12 v13 v14 v15 v16 v17 v18 v19 v20 v21 v22 v23 v24 v25 v26 v27 v28 v29 v30 v31 v32 (fun E => jn fun _ => evOps C (ev C (φ 0)) (ropsOf (c28 [1, 1, 1, 0])) ((ropsOf (c28 [1, 1, 1, 0])).drop 20) E ((Kseq C (ev C (φ 0)) (φ 0) kp28 (c28 [1, 1, 1, 1]) (Ktop C 28 f28 [])) .normal)))
theorem J28_2_g (n : Nat)  (v0 : Bool) (v1_0 : List Dat) (v1_1 : Int) (v1_2 : List Dat) (v2 : Int) (v3 : AV) (v4_0 : List Dat) (v4_1 : Int) (v4_2 : List Dat) (v5 : Int) (v6 v7 v8 v9 v10 v11 v12 v13 v14 v15 v16 v17 v18 v19 v20 v21 v22 v23 v24 v25 : AV) (v26 : Bool) (G : Env → R) : evOps C (ev C n) (ropsOf (c28 [1, 1, 1, 0])) (((ropsOf (c28 [1, 1, 1, 0])).drop 6).take 6) [.bool v0, .box 25 [.shr 38 v1_0, .int .i64 v1_1, .shr 9 v1_2], .int .i64 v2, v3, .box 25 [.shr 38 v4_0, .int .i64 v4_1, .shr 9 v4_2], .int .i64 v5, v6, v7, v8, v9, v10, v11, v12, v13, v14, v15, v16, v17, v18, v19, v20, v21, v22, v23, v24, v25, .bool v26, .und, .und, .und, .und, .und, .und, .und, .und, .und, .und, .und, .und, .und, .und, .und, .und, .und, .und, .und, .und, .und, .und, .und, .und, .und, .und, .und, .und, .und, .und, .und, .und, .und, .und, .und, .und, .und, .und, .und, .und, .und, .und, .und, .und, .und] G = bif v26 then (G [.bool v0, .box 25 [.shr 38 v1_0, .int .i64 v1_1, .shr 9 v1_2], .int .i64 v2, v3, .box 25 [.shr 38 v4_0, .int .i64 v4_1, .shr 9 v4_2], .int .i64 v5, v6, v7, v8, v9, v10, v11, v12, v13, v14, v15, v16, v17, v18, v19, v20, v21, v22, v23, v24, v25, .bool v26, .bool true, .ref 1 0, .shr 38 v1_0, .int .i64 (v1_0.length : Int), .dead, .bool ((v1_0.length : Int) == 6), .und, .und, .und, .und, .und, .und, .und, .und, .und, .und, .und, .und, .und, .und, .und, .und, .und, .und, .und, .und, .und, .und, .und, .und, .und, .und, .und, .und, .und, .und, .und, .und, .und, .und, .und, .und, .und, .und, .und]) else (G [.bool v0, .box 25 [.shr 38 v1_0, .int .i64 v1_1, .shr 9 v1_2], .int .i64 v2, v3, .box 25 [.shr 38 v4_0, .int .i64 v4_1, .shr 9 v4_2], .int .i64 v5, v6, v7, v8, v9, v10, v11, v12, v13, v14, v15, v16, v17, v18, v19, v20, v21, v22, v23, v24, v25, .bool v26, .bool false, .skp, .skp, .skp, .dead, .bool false, .und, .und, .und, .und, .und, .und, .und, .und, .und, .und, .und, .und, .und, .und, .und, .und, .und, .und, .und, .und, .und, .und, .und, .und, .und, .und, .und, .und, .und, .und, .und, .und, .und, .und, .und, .und, .und, .und, .und]) := by kernel_rfl
noncomputable def N28_2 (v1_0 v4_0 : List Dat) (v26 : Bool) : R := bif v26 then (N28_3 v1_0 v4_0 ((v1_0.length : Int) == 6)) else (N28_3 v1_0 v4_0 false)
theorem N28_2_c (v0 : Bool) (v1_0 : List Dat) (v1_1 : Int) (v1_2 : List Dat) (v2 : Int) (v3 : AV) (v4_0 : List Dat) (v4_1 : Int) (v4_2 : List Dat) (v5 : Int) (v6 v7 v8 v9 v10 v11 v12 v13 v14 v15 v16 v17 v18 v19 v20 v21 v22 v23 v24 v25 : AV) (v26 : Bool) : Cont (fun φ => J28_2 (φ 0)  v0 v1_0 v1_1 v1_2 v2 v3 v4_0 v4_1 v4_2 v5 v6 v7 v8 v9 v10 v11 v12 v13 v14 v15 v16 v17 v18 v19 v20 v21 v22 v23 v24 v25 v26) (N28_2 v1_0 v4_0 v26) := Cont.eq2 (Cont.bif (N28_3_c v0 _ v1_1 v1_2 v2 v3 _ v4_1 v4_2 v5 v6 v7 v8 v9 v10 v11 v12 v13 v14 v15 v16 v17 v18 v19 v20 v21 v22 v23 v24 v25 (.bool v26) (.bool true) (.ref 1 0) (.shr 38 v1_0) (.int .i64 (v1_0.length : Int)) .dead _) (N28_3_c v0 _ v1_1 v1_2 v2 v3 _ v4_1 v4_2 v5 v6 v7 v8 v9 v10 v11 v12 v13 v14 v15 v16 v17 v18 v19 v20 v21 v22 v23 v24 v25 (.bool v26) (.bool false) .skp .skp .skp .dead _)) fun φ => by
  delta J28_2 J28_3
  exact (evOps_cut 6 6 12 rfl).trans (J28_2_g (φ 0)  v0 v1_0 v1_1 v1_2 v2 v3 v4_0 v4_1 v4_2 v5 v6 v7 v8 v9 v10 v11 v12 v13 v14 v15 v16 v17 v18 v19 v20 v21 v22 v23 v24 v25 v26 (fun E => jn fun _ => evOps C (ev C (φ 0)) (ropsOf (c28 [1, 1, 1, 0])) ((ropsOf (c28 [1, 1, 1, 0])).drop 12) E ((Kseq C (ev C (φ 0)) (φ 0) kp28 (c28 [1, 1, 1, 1]) (Ktop C 28 f28 [])) .normal)))
theorem J28_1_g (n : Nat)  (v0 : Bool) (v1_0 : List Dat) (v1_1 : Int) (v1_2 : List Dat) (v2 : Int) (v3 : AV) (v4_0 : List Dat) (v4_1 : Int) (v4_2 : List Dat) (v5 : Int) (v6 v7 v8 v9 v10 v11 v12 v13 v14 v15 v16 v17 v18 v19 v20 : AV) (G : Env → R) : evOps C (ev C n) (ropsOf (c28 [1, 1, 1, 0])) (((ropsOf (c28 [1, 1, 1, 0])).drop 0).take 6) [.bool v0, .box 25 [.shr 38 v1_0, .int .i64 v1_1, .shr 9 v1_2], .int .i64 v2, v3, .box 25 [.shr 38 v4_0, .int .i64 v4_1, .shr 9 v4_2], .int .i64 v5, v6, v7, v8, v9, v10, v11, v12, v13, v14, v15, v16, v17, v18, v19, v20, .und, .und, .und, .und, .und, .und, .und, .und, .und, .und, .und, .und, .und, .und, .und, .und, .und, .und, .und, .und, .und, .und, .und, .und, .und, .und, .und, .und, .und, .und, .und, .und, .und, .und, .und, .und, .und, .und, .und, .und, .und, .und, .und, .und, .und, .und, .und, .und, .und, .und, .und] G = bif v2 == 0 then (G [.bool v0, .box 25 [.shr 38 v1_0, .int .i64 v1_1, .shr 9 v1_2], .int .i64 v2, v3, .box 25 [.shr 38 v4_0, .int .i64 v4_1, .shr 9 v4_2], .int .i64 v5, v6, v7, v8, v9, v10, v11, v12, v13, v14, v15, v16, v17, v18, v19, v20, .int .i64 v2, .bool (v2 == 0), .bool true, .int .i64 v5, .dead, .bool (v5 == 0), .und, .und, .und, .und, .und, .und, .und, .und, .und, .und, .und, .und, .und, .und, .und, .und, .und, .und, .und, .und, .und, .und, .und, .und, .und, .und, .und, .und, .und, .und, .und, .und, .und, .und, .und, .und, .und, .und, .und, .und, .und, .und, .und, .und, .und]) else (G [.bool v0, .box 25 [.shr 38 v1_0, .int .i64 v1_1, .shr 9 v1_2], .int .i64 v2, v3, .box 25 [.shr 38 v4_0, .int .i64 v4_1, .shr 9 v4_2], .int .i64 v5, v6, v7, v8, v9, v10, v11, v12, v13, v14, v15, v16, v17, v18, v19, v20, .int .i64 v2, .bool (v2 == 0), .bool false, .skp, .dead, .bool false, .und, .und, .und, .und, .und, .und, .und, .und, .und, .und, .und, .und, .und, .und, .und, .und, .und, .und, .und, .und, .und, .und, .und, .und, .und, .und, .und, .und, .und, .und, .und, .und, .und, .und, .und, .und, .und, .und, .und, .und, .und, .und, .und, .und, .und]) := by kernel_rfl
noncomputable def N28_1 (v1_0 : List Dat) (v2 : Int) (v4_0 : List Dat) (v5 : Int) : R := bif v2 == 0 then (N28_2 v1_0 v4_0 (v5 == 0)) else (N28_2 v1_0 v4_0 false)
theorem N28_1_c (v0 : Bool) (v1_0 : List Dat) (v1_1 : Int) (v1_2 : List Dat) (v2 : Int) (v3 : AV) (v4_0 : List Dat) (v4_1 : Int) (v4_2 : List Dat) (v5 : Int) (v6 v7 v8 v9 v10 v11 v12 v13 v14 v15 v16 v17 v18 v19 v20 : AV) : Cont (fun φ => J28_1 (φ 0)  v0 v1_0 v1_1 v1_2 v2 v3 v4_0 v4_1 v4_2 v5 v6 v7 v8 v9 v10 v11 v12 v13 v14 v15 v16 v17 v18 v19 v20) (N28_1 v1_0 v2 v4_0 v5) := Cont.eq2 (Cont.bif (N28_2_c v0 _ v1_1 v1_2 v2 v3 _ v4_1 v4_2 v5 v6 v7 v8 v9 v10 v11 v12 v13 v14 v15 v16 v17 v18 v19 v20 (.int .i64 v2) (.bool (v2 == 0)) (.bool true) (.int .i64 v5) .dead _) (N28_2_c v0 _ v1_1 v1_2 v2 v3 _ v4_1 v4_2 v5 v6 v7 v8 v9 v10 v11 v12 v13 v14 v15 v16 v17 v18 v19 v20 (.int .i64 v2) (.bool (v2 == 0)) (.bool false) .skp .dead _)) fun φ => by
  delta J28_1 J28_2
  exact (evOps_cut 0 6 6 rfl).trans (J28_1_g (φ 0)  v0 v1_0 v1_1 v1_2 v2 v3 v4_0 v4_1 v4_2 v5 v6 v7 v8 v9 v10 v11 v12 v13 v14 v15 v16 v17 v18 v19 v20 (fun E => jn fun _ => evOps C (ev C (φ 0)) (ropsOf (c28 [1, 1, 1, 0])) ((ropsOf (c28 [1, 1, 1, 0])).drop 6) E ((Kseq C (ev C (φ 0)) (φ 0) kp28 (c28 [1, 1, 1, 1]) (Ktop C 28 f28 [])) .normal)))
theorem o28 {r : List Dat} (h : (bif decide (0 < ([.int 97, .int 124, .int 40, .int 98, .int 41, .int 42, .int 43] : List Dat).length) then ((E C 26 [.shr 5 ([.int 97, .int 124, .int 40, .int 98, .int 41, .int 42, .int 43] : List Dat)]).bind fun d1 => (bif decide (0 < ([.int 40, .int 63, .int 105, .int 41, .int 75] : List Dat).length) then ((E C 26 [.shr 5 ([.int 40, .int 63, .int 105, .int 41, .int 75] : List Dat)]).bind fun d2 => (N28_1 (((rd d1 0).C 0).L) ((rd d1 1).I) (((rd d2 0).C 0).L) ((rd d2 1).I))) else none)) else none : R) = some r) : E C 28 [] = some r := E_st h (Cont.bif (Cont.bind (Cont.call C 26 _) fun d1 => (Cont.bif (Cont.bind (Cont.call C 26 _) fun d2 => (N28_1_c false _ (((rd d1 0).C 1).I) (((rd d1 0).C 2).L) _ (.int .i64 ((rd d1 2).I)) _ (((rd d2 0).C 1).I) (((rd d2 0).C 2).L) _ (.int .i64 ((rd d2 2).I)) (.tup [.agg [.shr 38 (((rd d1 0).C 0).L), .int .i64 (((rd d1 0).C 1).I), .shr 9 (((rd d1 0).C 2).L)], .int .i64 ((rd d1 1).I), .int .i64 ((rd d1 2).I)]) (.shr 5 ([.int 97, .int 124, .int 40, .int 98, .int 41, .int 42, .int 43] : List Dat)) (.view 8 0 8 0) .dead (.agg [.shr 38 (((rd d1 0).C 0).L), .int .i64 (((rd d1 0).C 1).I), .shr 9 (((rd d1 0).C 2).L)]) (.int .i64 ((rd d1 1).I)) (.int .i64 ((rd d1 2).I)) (.tup [.agg [.shr 38 (((rd d2 0).C 0).L), .int .i64 (((rd d2 0).C 1).I), .shr 9 (((rd d2 0).C 2).L)], .int .i64 ((rd d2 1).I), .int .i64 ((rd d2 2).I)]) (.shr 5 ([.int 40, .int 63, .int 105, .int 41, .int 75] : List Dat)) (.view 15 0 15 0) .dead (.agg [.shr 38 (((rd d2 0).C 0).L), .int .i64 (((rd d2 0).C 1).I), .shr 9 (((rd d2 0).C 2).L)]) (.int .i64 ((rd d2 1).I)) (.int .i64 ((rd d2 2).I)))) Cont.nn)) Cont.nn) fun φ => by kernel_rfl
end Go.Proofs.YtlofoifcdmeopaaGreatDoor.V
namespace Go.Proofs.YtlofoifcdmeopaaGreatDoor.V
open Go Go.Ev Go.RowKit
theorem anchor08_E : E C 28 [] = some [.bool true] := by
  apply o28
  rw [dT (by decide), bT parse81, dT (by decide), bT parse82]
  kernel_rfl
end Go.Proofs.YtlofoifcdmeopaaGreatDoor.V
namespace Go.Proofs.YtlofoifcdmeopaaGreatDoor.V
open Go Go.Ev
set_option maxRecDepth 100000
set_option linter.unusedVariables false
/-- clew/clewlaw08.ParseNumbers -/
noncomputable def f6 : Func := Tryz.f6
def kp6 : List Nat := [0, 1, 4, 5, 7, 8, 9, 11, 12, 13, 14, 26, 27, 28, 66, 67, 68]
noncomputable def c6 (p : List Nat) : Code := pick f6 p
noncomputable def L6_2 (n : Nat) (m1 : Nat) (v0 : List Dat) (v1 v4 : Bool) (v5 : ByteArray) (v8_0 : List Dat) (v8_1 : Int) (v8_2 : List Dat) (v9 : Int) (v26 : List Dat) (v27 v28 : Int) (v66 : List Dat) (v67 v68 : Int) : R := loopIter (fun E K => evCode C (ev C n) n kp6 (c6 [1, 1, 1, 1, 1, 1, 1, 1, 0, 1, 0, 0]) E K) [0, 1, 4, 5, 8, 9, 26, 27, 28, 66, 67, 68] (Kblk 2 (Kseq C (ev C n) n kp6 (c6 [1, 1, 1, 1, 1, 1, 1, 1, 1]) (Ktop C 6 f6 [.und, .und]))) m1 [.shr 3 v0, .bool v1, .und, .und, .bool v4, .str v5, .und, .und, .box 25 [.shr 38 v8_0, .int .i64 v8_1, .shr 9 v8_2], .int .i64 v9, .und, .und, .und, .und, .und, .und, .und, .und, .und, .und, .und, .und, .und, .und, .und, .und, .shr 3 v26, .int .i64 v27, .int .i64 v28, .und, .und, .und, .und, .und, .und, .und, .und, .und, .und, .und, .und, .und, .und, .und, .und, .und, .und, .und, .und, .und, .und, .und, .und, .und, .und, .und, .und, .und, .und, .und, .und, .und, .und, .und, .und, .und, .shr 3 v66, .int .i64 v67, .int .i64 v68, .und, .und, .und, .und, .und, .und, .und, .und, .und, .und, .und, .und, .und, .und, .und, .und, .und, .und, .und, .und, .und, .und, .und, .und, .und, .und, .und, .und, .und, .und, .und, .und]
noncomputable def M6_2 (v0 : List Dat) (v1 v4 : Bool) (v5 : ByteArray) (v8_0 : List Dat) (v8_1 : Int) (v8_2 : List Dat) (v9 : Int) (v26 : List Dat) (v27 v28 : Int) (v66 : List Dat) (v67 v68 : Int) : R := lim fun φ => L6_2 (φ 0) (φ 1) v0 v1 v4 v5 v8_0 v8_1 v8_2 v9 v26 v27 v28 v66 v67 v68
theorem M6_2_c (v0 : List Dat) (v1 v4 : Bool) (v5 : ByteArray) (v8_0 : List Dat) (v8_1 : Int) (v8_2 : List Dat) (v9 : Int) (v26 : List Dat) (v27 v28 : Int) (v66 : List Dat) (v67 v68 : Int) : Cont (fun φ => L6_2 (φ 0) (φ 1) v0 v1 v4 v5 v8_0 v8_1 v8_2 v9 v26 v27 v28 v66 v67 v68) (M6_2 v0 v1 v4 v5 v8_0 v8_1 v8_2 v9 v26 v27 v28 v66 v67 v68) := Cont.re id _
theorem M6_2_e (v0 : List Dat) (v1 v4 : Bool) (v5 : ByteArray) (v8_0 : List Dat) (v8_1 : Int) (v8_2 : List Dat) (v9 : Int) (v26 : List Dat) (v27 v28 : Int) (v66 : List Dat) (v67 v68 : Int) : Cont (fun φ => L6_2 (φ 0) (φ 0) v0 v1 v4 v5 v8_0 v8_1 v8_2 v9 v26 v27 v28 v66 v67 v68) (M6_2 v0 v1 v4 v5 v8_0 v8_1 v8_2 v9 v26 v27 v28 v66 v67 v68) := Cont.re (toZ 1) fun φ => L6_2 (φ 0) (φ 1) v0 v1 v4 v5 v8_0 v8_1 v8_2 v9 v26 v27 v28 v66 v67 v68
noncomputable def L6_1 (n : Nat) (m1 : Nat) (v0 : List Dat) (v1 v4 : Bool) (v5 : ByteArray) (v26 : List Dat) (v27 v28 : Int) : R := loopIter (fun E K => evCode C (ev C n) n kp6 (c6 [1, 1, 1, 1, 1, 0, 1, 0, 0]) E K) [0, 1, 4, 5, 26, 27, 28] (Kblk 0 (Kseq C (ev C n) n kp6 (c6 [1, 1, 1, 1, 1, 1]) (Ktop C 6 f6 [.und, .und]))) m1 [.shr 3 v0, .bool v1, .und, .und, .bool v4, .str v5, .und, .und, .und, .und, .und, .und, .und, .und, .und, .und, .und, .und, .und, .und, .und, .und, .und, .und, .und, .und, .shr 3 v26, .int .i64 v27, .int .i64 v28, .und, .und, .und, .und, .und, .und, .und, .und, .und, .und, .und, .und, .und, .und, .und, .und, .und, .und, .und, .und, .und, .und, .und, .und, .und, .und, .und, .und, .und, .und, .und, .und, .und, .und, .und, .und, .und, .und, .und, .und, .und, .und, .und, .und, .und, .und, .und, .und, .und, .und, .und, .und, .und, .und, .und, .und, .und, .und, .und, .und, .und, .und, .und, .und, .und, .und, .und, .und, .und, .und, .und, .und]
noncomputable def M6_1 (v0 : List Dat) (v1 v4 : Bool) (v5 : ByteArray) (v26 : List Dat) (v27 v28 : Int) : R := lim fun φ => L6_1 (φ 0) (φ 1) v0 v1 v4 v5 v26 v27 v28
theorem M6_1_c (v0 : List Dat) (v1 v4 : Bool) (v5 : ByteArray) (v26 : List Dat) (v27 v28 : Int) : Cont (fun φ => L6_1 (φ 0) (φ 1) v0 v1 v4 v5 v26 v27 v28) (M6_1 v0 v1 v4 v5 v26 v27 v28) := Cont.re id _
theorem M6_1_e (v0 : List Dat) (v1 v4 : Bool) (v5 : ByteArray) (v26 : List Dat) (v27 v28 : Int) : Cont (fun φ => L6_1 (φ 0) (φ 0) v0 v1 v4 v5 v26 v27 v28) (M6_1 v0 v1 v4 v5 v26 v27 v28) := Cont.re (toZ 1) fun φ => L6_1 (φ 0) (φ 1) v0 v1 v4 v5 v26 v27 v28
theorem M6_2_of (v0 : List Dat) (v1 v4 : Bool) (v5 : ByteArray) (v8_0 : List Dat) (v8_1 : Int) (v8_2 : List Dat) (v9 : Int) (v26 : List Dat) (v27 v28 : Int) (v66 : List Dat) (v67 v68 : Int) {r : List Dat} (h : (bif decide (v68 < v67) then (bif decide (0 ≤ v68) then (bif decide (v68 < (v66.length : Int)) then (bif decide (v68.toNat < v66.length) then (bif decide (0 ≤ (IntKind.i64.wrap (v68 + 1))) then (bif decide ((IntKind.i64.wrap (v68 + 1)) < (v8_0.length : Int)) then (bif decide ((IntKind.i64.wrap (v68 + 1)).toNat < v8_0.length) then (bif v1 then ((E C 31 [.int .i64 ((rd v66 v68.toNat).I)]).bind fun d5 => (bif (((rd v8_0 ((IntKind.i64.wrap (v68 + 1)).toNat)).C 0).I) != 2 then (some [.bool false]) else ((E C 32 [.shr 82 (((rd v8_0 ((IntKind.i64.wrap (v68 + 1)).toNat)).C 8).L), .int .i64 ((rd v66 v68.toNat).I)]).bind fun d6 => (bif !((rd d6 0).B) then (some [.bool false]) else ((E C 33 [.shr 82 (((rd v8_0 ((IntKind.i64.wrap (v68 + 1)).toNat)).C 8).L)]).bind fun d7 => (bif ((rd d7 0).I) != (((rd d5 0).L).length : Int) then (some [.bool false]) else (M6_2 v0 v1 v4 v5 v8_0 v8_1 v8_2 v9 v26 v27 v28 v66 v67 (IntKind.i64.wrap (v68 + 1))))))))) else (bif (((rd v8_0 ((IntKind.i64.wrap (v68 + 1)).toNat)).C 0).I) != 2 then (some [.bool false]) else ((E C 32 [.shr 82 (((rd v8_0 ((IntKind.i64.wrap (v68 + 1)).toNat)).C 8).L), .int .i64 ((rd v66 v68.toNat).I)]).bind fun d8 => (bif !((rd d8 0).B) then (some [.bool false]) else ((E C 33 [.shr 82 (((rd v8_0 ((IntKind.i64.wrap (v68 + 1)).toNat)).C 8).L)]).bind fun d9 => (bif ((rd d9 0).I) != 1 then (some [.bool false]) else (M6_2 v0 v1 v4 v5 v8_0 v8_1 v8_2 v9 v26 v27 v28 v66 v67 (IntKind.i64.wrap (v68 + 1))))))))) else none) else none) else none) else none) else none) else none) else (some [.bool true]) : R) = some r) : M6_2 v0 v1 v4 v5 v8_0 v8_1 v8_2 v9 v26 v27 v28 v66 v67 v68 = some r := lim_st (g := fun φ => L6_2 (φ 0) (φ 1) v0 v1 v4 v5 v8_0 v8_1 v8_2 v9 v26 v27 v28 v66 v67 v68) 1 h (Cont.bif (Cont.bif (Cont.bif (Cont.bif (Cont.bif (Cont.bif (Cont.bif (Cont.bif (Cont.bind (Cont.call C 31 _) fun _ => (Cont.bif (Cont.const _) (Cont.bind (Cont.call C 32 _) fun _ => (Cont.bif (Cont.const _) (Cont.bind (Cont.call C 33 _) fun _ => (Cont.bif (Cont.const _) (M6_2_c _ _ _ _ _ _ _ _ _ _ _ _ _ _))))))) (Cont.bif (Cont.const _) (Cont.bind (Cont.call C 32 _) fun _ => (Cont.bif (Cont.const _) (Cont.bind (Cont.call C 33 _) fun _ => (Cont.bif (Cont.const _) (M6_2_c _ _ _ _ _ _ _ _ _ _ _ _ _ _))))))) Cont.nn) Cont.nn) Cont.nn) Cont.nn) Cont.nn) Cont.nn) (Cont.const _)) fun φ m hm => (congrArg (fun q => L6_2 (φ 0) q v0 v1 v4 v5 v8_0 v8_1 v8_2 v9 v26 v27 v28 v66 v67 v68) hm).trans (by kernel_rfl)
theorem M6_1_of (v0 : List Dat) (v1 v4 : Bool) (v5 : ByteArray) (v26 : List Dat) (v27 v28 : Int) {r : List Dat} (h : (bif decide (v28 < v27) then (bif decide (0 ≤ v28) then (bif decide (v28 < (v26.length : Int)) then (bif decide (v28.toNat < v26.length) then ((E C 29 [.int .i64 ((rd v26 v28.toNat).I)]).bind fun d2 => (bif !((rd d2 0).B) then (some [.bool true]) else ((E C 30 [.int .i64 ((rd v26 v28.toNat).I)]).bind fun d3 => (bif decide (v5.size + ((rd d3 0).S).size ≤ 9223372036854775807) then (M6_1 v0 v1 v4 (v5 ++ ((rd d3 0).S)) v26 v27 (IntKind.i64.wrap (v28 + 1))) else none)))) else none) else none) else none) else (bif decide (v5.size ≤ capB 1) then ((E C 26 [.shr 5 (strD v5)]).bind fun d4 => (bif ((rd d4 1).I) != 0 then (some [.bool false]) else (bif ((((rd d4 0).C 0).L).length : Int) != (IntKind.i64.wrap ((v0.length : Int) + 1)) then (some [.bool false]) else (bif decide (0 < ((((rd d4 0).C 0).L).length : Int)) then (bif decide (0 < (((rd d4 0).C 0).L).length) then (bif (((rd (((rd d4 0).C 0).L) 0).C 0).I) != 5 then (some [.bool false]) else (M6_2 v0 v1 v4 v5 (((rd d4 0).C 0).L) (((rd d4 0).C 1).I) (((rd d4 0).C 2).L) ((rd d4 1).I) v26 v27 v28 v0 (v0.length : Int) 0)) else none) else none)))) else none) : R) = some r) : M6_1 v0 v1 v4 v5 v26 v27 v28 = some r := lim_st (g := fun φ => L6_1 (φ 0) (φ 1) v0 v1 v4 v5 v26 v27 v28) 1 h (Cont.bif (Cont.bif (Cont.bif (Cont.bif (Cont.bind (Cont.call C 29 _) fun _ => (Cont.bif (Cont.const _) (Cont.bind (Cont.call C 30 _) fun _ => (Cont.bif (M6_1_c _ _ _ _ _ _ _) Cont.nn)))) Cont.nn) Cont.nn) Cont.nn) (Cont.bif (Cont.bind (Cont.call C 26 _) fun _ => (Cont.bif (Cont.const _) (Cont.bif (Cont.const _) (Cont.bif (Cont.bif (Cont.bif (Cont.const _) (M6_2_e _ _ _ _ _ _ _ _ _ _ _ _ _ _)) Cont.nn) Cont.nn)))) Cont.nn)) fun φ m hm => (congrArg (fun q => L6_1 (φ 0) q v0 v1 v4 v5 v26 v27 v28) hm).trans (by kernel_rfl)
theorem o6 (a0 : List Dat) (a1 : Bool) {r : List Dat} (h : ((E C 28 []).bind fun d1 => (bif !((rd d1 0).B) then (some [.bool false]) else (bif decide ((a0.length : Int) < 2) then (some [.bool true]) else (bif decide ((a0.length : Int) > 100) then (some [.bool true]) else (bif a1 then (M6_1 a0 a1 false (bs [40, 63, 105, 41]) a0 (a0.length : Int) 0) else (M6_1 a0 a1 false ByteArray.empty a0 (a0.length : Int) 0))))) : R) = some r) : E C 6 [.shr 3 a0, .bool a1] = some r := E_st h (Cont.bind (Cont.call C 28 _) fun _ => (Cont.bif (Cont.const _) (Cont.bif (Cont.const _) (Cont.bif (Cont.const _) (Cont.bif (M6_1_e _ _ _ _ _ _ _) (M6_1_e _ _ _ _ _ _ _)))))) fun φ => by kernel_rfl
end Go.Proofs.YtlofoifcdmeopaaGreatDoor.V
namespace Go.Proofs.YtlofoifcdmeopaaGreatDoor.V
open Go Go.Ev
set_option maxRecDepth 100000
set_option linter.unusedVariables false
/-- clew/clewlaw08.hexes -/
noncomputable def f30 : Func := Tryz.f30
def kp30 : List Nat := [0, 2, 3, 4]
noncomputable def c30 (p : List Nat) : Code := pick f30 p
noncomputable def L30_1 (n : Nat) (m1 : Nat) (v0 : Int) (v2 v3 : ByteArray) (v4 : Int) : R := loopIter (fun E K => evCode C (ev C n) n kp30 (c30 [1, 1, 0, 1, 0, 0]) E K) [0, 2, 3, 4] (Kblk 0 (Kseq C (ev C n) n kp30 (c30 [1, 1, 1]) (Ktop C 30 f30 [.und]))) m1 [.int .i64 v0, .und, .str v2, .str v3, .int .i64 v4, .und, .und, .und, .und, .und, .und, .und, .und, .und, .und, .und, .und, .und, .und, .und, .und, .und, .und]
noncomputable def M30_1 (v0 : Int) (v2 v3 : ByteArray) (v4 : Int) : R := lim fun φ => L30_1 (φ 0) (φ 1) v0 v2 v3 v4
theorem M30_1_c (v0 : Int) (v2 v3 : ByteArray) (v4 : Int) : Cont (fun φ => L30_1 (φ 0) (φ 1) v0 v2 v3 v4) (M30_1 v0 v2 v3 v4) := Cont.re id _
theorem M30_1_e (v0 : Int) (v2 v3 : ByteArray) (v4 : Int) : Cont (fun φ => L30_1 (φ 0) (φ 0) v0 v2 v3 v4) (M30_1 v0 v2 v3 v4) := Cont.re (toZ 1) fun φ => L30_1 (φ 0) (φ 1) v0 v2 v3 v4
theorem M30_1_of (v0 : Int) (v2 v3 : ByteArray) (v4 : Int) {r : List Dat} (h : (bif decide (v4 > 0) then (bif decide (0 ≤ (v4.tmod 16)) then (bif decide ((v4.tmod 16) < ((bs [48, 49, 50, 51, 52, 53, 54, 55, 56, 57, 97, 98, 99, 100, 101, 102]).size : Int)) then (bif decide ((Utf8.encode (bt (bs [48, 49, 50, 51, 52, 53, 54, 55, 56, 57, 97, 98, 99, 100, 101, 102]) ((v4.tmod 16).toNat))).size + v3.size ≤ 9223372036854775807) then (M30_1 v0 v2 ((Utf8.encode (bt (bs [48, 49, 50, 51, 52, 53, 54, 55, 56, 57, 97, 98, 99, 100, 101, 102]) ((v4.tmod 16).toNat))) ++ v3) (IntKind.i64.wrap (v4.tdiv 16))) else none) else none) else none) else (bif v3.toList == ByteArray.empty.toList then (bif decide (0 ≤ (v4.tmod 16)) then (bif decide ((v4.tmod 16) < ((bs [48, 49, 50, 51, 52, 53, 54, 55, 56, 57, 97, 98, 99, 100, 101, 102]).size : Int)) then (bif decide ((Utf8.encode (bt (bs [48, 49, 50, 51, 52, 53, 54, 55, 56, 57, 97, 98, 99, 100, 101, 102]) ((v4.tmod 16).toNat))).size + v3.size ≤ 9223372036854775807) then (M30_1 v0 v2 ((Utf8.encode (bt (bs [48, 49, 50, 51, 52, 53, 54, 55, 56, 57, 97, 98, 99, 100, 101, 102]) ((v4.tmod 16).toNat))) ++ v3) (IntKind.i64.wrap (v4.tdiv 16))) else none) else none) else none) else (bif decide ((bs [92, 120, 123]).size + v3.size ≤ 9223372036854775807) then (bif decide (((bs [92, 120, 123]) ++ v3).size + (bs [125]).size ≤ 9223372036854775807) then (some [.str (((bs [92, 120, 123]) ++ v3) ++ (bs [125]))]) else none) else none)) : R) = some r) : M30_1 v0 v2 v3 v4 = some r := lim_st (g := fun φ => L30_1 (φ 0) (φ 1) v0 v2 v3 v4) 1 h (Cont.bif (Cont.bif (Cont.bif (Cont.bif (M30_1_c _ _ _ _) Cont.nn) Cont.nn) Cont.nn) (Cont.bif (Cont.bif (Cont.bif (Cont.bif (M30_1_c _ _ _ _) Cont.nn) Cont.nn) Cont.nn) (Cont.bif (Cont.bif (Cont.const _) Cont.nn) Cont.nn))) fun φ m hm => (congrArg (fun q => L30_1 (φ 0) q v0 v2 v3 v4) hm).trans (by kernel_rfl)
theorem o30 (a0 : Int) {r : List Dat} (h : (M30_1 a0 ByteArray.empty ByteArray.empty a0 : R) = some r) : E C 30 [.int .i64 a0] = some r := E_st h (M30_1_e _ _ _ _) fun φ => by kernel_rfl
end Go.Proofs.YtlofoifcdmeopaaGreatDoor.V
