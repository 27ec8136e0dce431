/- Told functions: what each answers, as plain trees; written by a program of this session (tell.py). The parser's state, and what its small functions answer. The parser, where no quantifiers, flags or alternatives are: pieces, rows, groups. Symbols by their numbers: hexadecimal digits, the program's and the document's. Names: the program's reader and the document's. A stand-in: this seat has not the document of chapter 05. Told functions: what each answers, as plain trees; written by a program of this session (tell.py). Package class, and the document's sets with names and letters. What a backslash makes: the program's and the document's. The parser's escapes, classes and other leaves. What a backslash makes, in the document. Told functions: what each answers, as plain trees; written by a program of this session (tell.py). Told functions: what each answers, as plain trees; written by a program of this session (tell.py). What stands at a place within a class: the program's and the document's. What an escape's answer may be. What stands at a place within a class: both readers say the same. One place within a class, the program's reader and the document's. A class: parts till the closing bracket, the program's sets and the document's parts. A class as the document reads it; which numbers its parts hold. Classes, and atoms without parentheses. Atoms without parentheses: what is known of their parts. What a parenthesis opens. -/
import Derived.Test.YtlofoifcdmeopaaGreatDoorMWOC
import Derived.KernelRfl
import Derived.Test.YtlofoifcdmeopaaGreatDoorMWOD
namespace Go.Proofs.YtlofoifcdmeopaaGreatDoor.V
open Go Go.Ev
set_option maxRecDepth 100000
set_option linter.unusedVariables false
/-- clew/parse.Parse -/
noncomputable def f26 : Func := Tryz.f26
def kp26 : List Nat := [0, 2, 3, 4, 5, 6, 7, 8, 9, 17, 55, 56, 57]
noncomputable def c26 (p : List Nat) : Code := pick f26 p
noncomputable def L26_1 (n : Nat) (m1 : Nat) (v0 v2_0 : List Dat) (v2_1 : Int) (v2_2 : List Dat) (v3 v4 v6_0 v6_1 v6_2 v6_3 v6_4 v6_5 v6_6 : Int) (v6_7 : ByteArray) (v6_8 v6_9 v6_10 v7_0 : List Dat) (v7_1 : Int) (v7_2 v17_0 : List Dat) (v17_1 : Int) (v17_2 v17_3 v17_4 v17_5 : Bool) (v17_6 : Int) (v17_7 : List Dat) (v17_8 v17_9 v56 v57 : Int) : R := loopIter (fun E K => evCode C (ev C n) n kp26 (c26 [1, 1, 1, 1, 1, 1, 1, 0, 1, 0, 0]) E K) [0, 2, 3, 4, 5, 6, 7, 17, 55, 56, 57] (Kblk 0 (Kseq C (ev C n) n kp26 (c26 [1, 1, 1, 1, 1, 1, 1, 1]) (Ktop C 26 f26 [.und]))) m1 [.shr 5 v0, .und, .box 25 [.own 2 1 38 v2_0, .int .i64 v2_1, .own 2 3 9 v2_2], .int .i64 v3, .int .i64 v4, .ref 17 0, .box 103 [.int .i64 v6_0, .int .i64 v6_1, .int .i64 v6_2, .int .i64 v6_3, .int .i64 v6_4, .int .i64 v6_5, .int .i64 v6_6, .str v6_7, .shr 82 v6_8, .shr 3 v6_9, .shr 103 v6_10], .box 25 [.own 7 1 38 v7_0, .int .i64 v7_1, .shr 9 v7_2], .und, .und, .und, .und, .und, .und, .und, .und, .und, .box 100 [.shr 5 v17_0, .int .i64 v17_1, .bool v17_2, .bool v17_3, .bool v17_4, .bool v17_5, .int .i64 v17_6, .shr 9 v17_7, .int .i64 v17_8, .int .i64 v17_9], .und, .und, .und, .und, .und, .und, .und, .und, .und, .und, .und, .und, .und, .und, .und, .und, .und, .und, .und, .und, .und, .und, .und, .und, .und, .und, .und, .und, .und, .und, .und, .und, .und, .und, .und, .und, .und, .view 7 0 7 1, .int .i64 v56, .int .i64 v57, .und, .und, .und, .und, .und, .und, .und, .und, .und, .und, .und, .und, .und, .und, .und, .und, .und, .und, .und, .und, .und, .und, .und, .und, .und, .und, .und]
noncomputable def M26_1 (v0 v2_0 : List Dat) (v2_1 : Int) (v2_2 : List Dat) (v3 v4 v6_0 v6_1 v6_2 v6_3 v6_4 v6_5 v6_6 : Int) (v6_7 : ByteArray) (v6_8 v6_9 v6_10 v7_0 : List Dat) (v7_1 : Int) (v7_2 v17_0 : List Dat) (v17_1 : Int) (v17_2 v17_3 v17_4 v17_5 : Bool) (v17_6 : Int) (v17_7 : List Dat) (v17_8 v17_9 v56 v57 : Int) : R := lim fun φ => L26_1 (φ 0) (φ 1) v0 v2_0 v2_1 v2_2 v3 v4 v6_0 v6_1 v6_2 v6_3 v6_4 v6_5 v6_6 v6_7 v6_8 v6_9 v6_10 v7_0 v7_1 v7_2 v17_0 v17_1 v17_2 v17_3 v17_4 v17_5 v17_6 v17_7 v17_8 v17_9 v56 v57
theorem M26_1_c (v0 v2_0 : List Dat) (v2_1 : Int) (v2_2 : List Dat) (v3 v4 v6_0 v6_1 v6_2 v6_3 v6_4 v6_5 v6_6 : Int) (v6_7 : ByteArray) (v6_8 v6_9 v6_10 v7_0 : List Dat) (v7_1 : Int) (v7_2 v17_0 : List Dat) (v17_1 : Int) (v17_2 v17_3 v17_4 v17_5 : Bool) (v17_6 : Int) (v17_7 : List Dat) (v17_8 v17_9 v56 v57 : Int) : Cont (fun φ => L26_1 (φ 0) (φ 1) v0 v2_0 v2_1 v2_2 v3 v4 v6_0 v6_1 v6_2 v6_3 v6_4 v6_5 v6_6 v6_7 v6_8 v6_9 v6_10 v7_0 v7_1 v7_2 v17_0 v17_1 v17_2 v17_3 v17_4 v17_5 v17_6 v17_7 v17_8 v17_9 v56 v57) (M26_1 v0 v2_0 v2_1 v2_2 v3 v4 v6_0 v6_1 v6_2 v6_3 v6_4 v6_5 v6_6 v6_7 v6_8 v6_9 v6_10 v7_0 v7_1 v7_2 v17_0 v17_1 v17_2 v17_3 v17_4 v17_5 v17_6 v17_7 v17_8 v17_9 v56 v57) := Cont.re id _
theorem M26_1_e (v0 v2_0 : List Dat) (v2_1 : Int) (v2_2 : List Dat) (v3 v4 v6_0 v6_1 v6_2 v6_3 v6_4 v6_5 v6_6 : Int) (v6_7 : ByteArray) (v6_8 v6_9 v6_10 v7_0 : List Dat) (v7_1 : Int) (v7_2 v17_0 : List Dat) (v17_1 : Int) (v17_2 v17_3 v17_4 v17_5 : Bool) (v17_6 : Int) (v17_7 : List Dat) (v17_8 v17_9 v56 v57 : Int) : Cont (fun φ => L26_1 (φ 0) (φ 0) v0 v2_0 v2_1 v2_2 v3 v4 v6_0 v6_1 v6_2 v6_3 v6_4 v6_5 v6_6 v6_7 v6_8 v6_9 v6_10 v7_0 v7_1 v7_2 v17_0 v17_1 v17_2 v17_3 v17_4 v17_5 v17_6 v17_7 v17_8 v17_9 v56 v57) (M26_1 v0 v2_0 v2_1 v2_2 v3 v4 v6_0 v6_1 v6_2 v6_3 v6_4 v6_5 v6_6 v6_7 v6_8 v6_9 v6_10 v7_0 v7_1 v7_2 v17_0 v17_1 v17_2 v17_3 v17_4 v17_5 v17_6 v17_7 v17_8 v17_9 v56 v57) := Cont.re (toZ 1) fun φ => L26_1 (φ 0) (φ 1) v0 v2_0 v2_1 v2_2 v3 v4 v6_0 v6_1 v6_2 v6_3 v6_4 v6_5 v6_6 v6_7 v6_8 v6_9 v6_10 v7_0 v7_1 v7_2 v17_0 v17_1 v17_2 v17_3 v17_4 v17_5 v17_6 v17_7 v17_8 v17_9 v56 v57
theorem M26_1_of (v0 v2_0 : List Dat) (v2_1 : Int) (v2_2 : List Dat) (v3 v4 v6_0 v6_1 v6_2 v6_3 v6_4 v6_5 v6_6 : Int) (v6_7 : ByteArray) (v6_8 v6_9 v6_10 v7_0 : List Dat) (v7_1 : Int) (v7_2 v17_0 : List Dat) (v17_1 : Int) (v17_2 v17_3 v17_4 v17_5 : Bool) (v17_6 : Int) (v17_7 : List Dat) (v17_8 v17_9 v56 v57 : Int) {r : List Dat} (h : (bif decide (v57 < v56) then (bif decide (0 ≤ v57) then (bif decide (v57 < (v7_0.length : Int)) then (bif decide (v57.toNat < v7_0.length) then (bif (((rd v7_0 v57.toNat).C 0).I) == 4 then (bif !((((rd v7_0 v57.toNat).C 7).S).toList == ByteArray.empty.toList) then ((E C 70 [.shr 9 v17_7, .str (((rd v7_0 v57.toNat).C 7).S)]).bind fun d5 => (bif decide (0 ≤ v57) then (bif decide (v57 < (v7_0.length : Int)) then (bif decide (v57.toNat < v7_0.length) then (M26_1 v0 v2_0 v2_1 v2_2 v3 v4 v6_0 v6_1 v6_2 v6_3 v6_4 v6_5 v6_6 v6_7 v6_8 v6_9 v6_10 (v7_0.set v57.toNat (.agg [(rd v7_0 v57.toNat).C 0, (rd v7_0 v57.toNat).C 1, (rd v7_0 v57.toNat).C 2, .int (if 0 > ((rd d5 0).I) then 0 else ((rd d5 0).I)), (rd v7_0 v57.toNat).C 4, (rd v7_0 v57.toNat).C 5, (rd v7_0 v57.toNat).C 6, (rd v7_0 v57.toNat).C 7, (rd v7_0 v57.toNat).C 8, (rd v7_0 v57.toNat).C 9])) v7_1 v7_2 v17_0 v17_1 v17_2 v17_3 v17_4 v17_5 v17_6 v17_7 v17_8 v17_9 v56 (IntKind.i64.wrap (v57 + 1))) else none) else none) else none)) else (M26_1 v0 v2_0 v2_1 v2_2 v3 v4 v6_0 v6_1 v6_2 v6_3 v6_4 v6_5 v6_6 v6_7 v6_8 v6_9 v6_10 v7_0 v7_1 v7_2 v17_0 v17_1 v17_2 v17_3 v17_4 v17_5 v17_6 v17_7 v17_8 v17_9 v56 (IntKind.i64.wrap (v57 + 1)))) else (M26_1 v0 v2_0 v2_1 v2_2 v3 v4 v6_0 v6_1 v6_2 v6_3 v6_4 v6_5 v6_6 v6_7 v6_8 v6_9 v6_10 v7_0 v7_1 v7_2 v17_0 v17_1 v17_2 v17_3 v17_4 v17_5 v17_6 v17_7 v17_8 v17_9 v56 (IntKind.i64.wrap (v57 + 1)))) else none) else none) else none) else (some [.agg [.list v7_0, .int v7_1, .list v7_2], .int 0, .int 0]) : R) = some r) : M26_1 v0 v2_0 v2_1 v2_2 v3 v4 v6_0 v6_1 v6_2 v6_3 v6_4 v6_5 v6_6 v6_7 v6_8 v6_9 v6_10 v7_0 v7_1 v7_2 v17_0 v17_1 v17_2 v17_3 v17_4 v17_5 v17_6 v17_7 v17_8 v17_9 v56 v57 = some r := lim_st (g := fun φ => L26_1 (φ 0) (φ 1) v0 v2_0 v2_1 v2_2 v3 v4 v6_0 v6_1 v6_2 v6_3 v6_4 v6_5 v6_6 v6_7 v6_8 v6_9 v6_10 v7_0 v7_1 v7_2 v17_0 v17_1 v17_2 v17_3 v17_4 v17_5 v17_6 v17_7 v17_8 v17_9 v56 v57) 1 h (Cont.bif (Cont.bif (Cont.bif (Cont.bif (Cont.bif (Cont.bif (Cont.bind (Cont.call C 70 _) fun _ => (Cont.bif (Cont.bif (Cont.bif (M26_1_c _ _ _ _ _ _ _ _ _ _ _ _ _ _ _ _ _ _ _ _ _ _ _ _ _ _ _ _ _ _ _ _) Cont.nn) Cont.nn) Cont.nn)) (M26_1_c _ _ _ _ _ _ _ _ _ _ _ _ _ _ _ _ _ _ _ _ _ _ _ _ _ _ _ _ _ _ _ _)) (M26_1_c _ _ _ _ _ _ _ _ _ _ _ _ _ _ _ _ _ _ _ _ _ _ _ _ _ _ _ _ _ _ _ _)) Cont.nn) Cont.nn) Cont.nn) (Cont.const _)) fun φ m hm => (congrArg (fun q => L26_1 (φ 0) q v0 v2_0 v2_1 v2_2 v3 v4 v6_0 v6_1 v6_2 v6_3 v6_4 v6_5 v6_6 v6_7 v6_8 v6_9 v6_10 v7_0 v7_1 v7_2 v17_0 v17_1 v17_2 v17_3 v17_4 v17_5 v17_6 v17_7 v17_8 v17_9 v56 v57) hm).trans (by kernel_rfl)
theorem o26 (a0 : List Dat) {r : List Dat} (h : (bif decide ((a0.length : Int) > 4096) then (some [.agg [.list ([] : List Dat), .int 0, .list ([] : List Dat)], .int 15, .int 0]) else ((E C 66 [.pbox [.shr 5 a0, .int .i64 0, .bool false, .bool false, .bool false, .bool false, .int .i64 0, .own 0 8 9 ([.str ByteArray.empty] : List Dat), .int .i64 0, .int .i64 0], .int .i64 0]).bind fun d1 => ((E C 67 [.pbox [.shr 5 (((rd d1 1).C 0).L), .int .i64 (((rd d1 1).C 1).I), .bool (((rd d1 1).C 2).B), .bool (((rd d1 1).C 3).B), .bool (((rd d1 1).C 4).B), .bool (((rd d1 1).C 5).B), .int .i64 (((rd d1 1).C 6).I), .own 0 8 9 (((rd d1 1).C 7).L), .int .i64 (((rd d1 1).C 8).I), .int .i64 (((rd d1 1).C 9).I)]]).bind fun d2 => (bif !((rd d2 0).B) then ((E C 68 [.pbox [.shr 5 (((rd d2 1).C 0).L), .int .i64 (((rd d2 1).C 1).I), .bool (((rd d2 1).C 2).B), .bool (((rd d2 1).C 3).B), .bool (((rd d2 1).C 4).B), .bool (((rd d2 1).C 5).B), .int .i64 (((rd d2 1).C 6).I), .own 0 8 9 (((rd d2 1).C 7).L), .int .i64 (((rd d2 1).C 8).I), .int .i64 (((rd d2 1).C 9).I)], .int .i64 30, .int .i64 (((rd d2 1).C 1).I)]).bind fun d3 => (bif (((rd d3 0).C 8).I) != 0 then (some [.agg [.list ([] : List Dat), .int 0, .list ([] : List Dat)], .int (((rd d3 0).C 8).I), .int (((rd d3 0).C 9).I)]) else ((E C 69 [.agg [.int .i64 (((rd d1 0).C 0).I), .int .i64 (((rd d1 0).C 1).I), .int .i64 (((rd d1 0).C 2).I), .int .i64 (((rd d1 0).C 3).I), .int .i64 (((rd d1 0).C 4).I), .int .i64 (((rd d1 0).C 5).I), .int .i64 (((rd d1 0).C 6).I), .str (((rd d1 0).C 7).S), .shr 82 (((rd d1 0).C 8).L), .shr 3 (((rd d1 0).C 9).L), .shr 103 (((rd d1 0).C 10).L)], .own 1 0 38 ([] : List Dat)]).bind fun d4 => (M26_1 a0 ([] : List Dat) 0 ([] : List Dat) 0 0 (((rd d1 0).C 0).I) (((rd d1 0).C 1).I) (((rd d1 0).C 2).I) (((rd d1 0).C 3).I) (((rd d1 0).C 4).I) (((rd d1 0).C 5).I) (((rd d1 0).C 6).I) (((rd d1 0).C 7).S) (((rd d1 0).C 8).L) (((rd d1 0).C 9).L) (((rd d1 0).C 10).L) ((rd d4 0).L) (((rd d3 0).C 6).I) (((rd d3 0).C 7).L) (((rd d3 0).C 0).L) (((rd d3 0).C 1).I) (((rd d3 0).C 2).B) (((rd d3 0).C 3).B) (((rd d3 0).C 4).B) (((rd d3 0).C 5).B) (((rd d3 0).C 6).I) (((rd d3 0).C 7).L) (((rd d3 0).C 8).I) (((rd d3 0).C 9).I) (((rd d4 0).L).length : Int) 0)))) else (bif (((rd d2 1).C 8).I) != 0 then (some [.agg [.list ([] : List Dat), .int 0, .list ([] : List Dat)], .int (((rd d2 1).C 8).I), .int (((rd d2 1).C 9).I)]) else ((E C 69 [.agg [.int .i64 (((rd d1 0).C 0).I), .int .i64 (((rd d1 0).C 1).I), .int .i64 (((rd d1 0).C 2).I), .int .i64 (((rd d1 0).C 3).I), .int .i64 (((rd d1 0).C 4).I), .int .i64 (((rd d1 0).C 5).I), .int .i64 (((rd d1 0).C 6).I), .str (((rd d1 0).C 7).S), .shr 82 (((rd d1 0).C 8).L), .shr 3 (((rd d1 0).C 9).L), .shr 103 (((rd d1 0).C 10).L)], .own 1 0 38 ([] : List Dat)]).bind fun d6 => (M26_1 a0 ([] : List Dat) 0 ([] : List Dat) 0 0 (((rd d1 0).C 0).I) (((rd d1 0).C 1).I) (((rd d1 0).C 2).I) (((rd d1 0).C 3).I) (((rd d1 0).C 4).I) (((rd d1 0).C 5).I) (((rd d1 0).C 6).I) (((rd d1 0).C 7).S) (((rd d1 0).C 8).L) (((rd d1 0).C 9).L) (((rd d1 0).C 10).L) ((rd d6 0).L) (((rd d2 1).C 6).I) (((rd d2 1).C 7).L) (((rd d2 1).C 0).L) (((rd d2 1).C 1).I) (((rd d2 1).C 2).B) (((rd d2 1).C 3).B) (((rd d2 1).C 4).B) (((rd d2 1).C 5).B) (((rd d2 1).C 6).I) (((rd d2 1).C 7).L) (((rd d2 1).C 8).I) (((rd d2 1).C 9).I) (((rd d6 0).L).length : Int) 0)))))) : R) = some r) : E C 26 [.shr 5 a0] = some r := E_st h (Cont.bif (Cont.const _) (Cont.bind (Cont.call C 66 _) fun _ => (Cont.bind (Cont.call C 67 _) fun _ => (Cont.bif (Cont.bind (Cont.call C 68 _) fun _ => (Cont.bif (Cont.const _) (Cont.bind (Cont.call C 69 _) fun _ => (M26_1_e _ _ _ _ _ _ _ _ _ _ _ _ _ _ _ _ _ _ _ _ _ _ _ _ _ _ _ _ _ _ _ _)))) (Cont.bif (Cont.const _) (Cont.bind (Cont.call C 69 _) fun _ => (M26_1_e _ _ _ _ _ _ _ _ _ _ _ _ _ _ _ _ _ _ _ _ _ _ _ _ _ _ _ _ _ _ _ _))))))) fun φ => by kernel_rfl
/-- (*clew/parse.parser).alt -/
noncomputable def f66 : Func := Tryz.f66
def kp66 : List Nat := [0, 1, 4, 5, 6]
noncomputable def c66 (p : List Nat) : Code := pick f66 p
noncomputable def L66_1 (n : Nat) (m1 : Nat) (v0_0 : List Dat) (v0_1 : Int) (v0_2 v0_3 v0_4 v0_5 : Bool) (v0_6 : Int) (v0_7 : List Dat) (v0_8 v0_9 v1 v4_0 v4_1 v4_2 v4_3 v4_4 v4_5 v4_6 : Int) (v4_7 : ByteArray) (v4_8 v4_9 v4_10 : List Dat) (v5 : Int) (v6 : List Dat) : R := loopIter (fun E K => evCode C (ev C n) n kp66 (c66 [1, 1, 1, 0, 0, 0]) E K) [0, 1, 4, 5, 6] (Kblk 0 (Kseq C (ev C n) n kp66 (c66 [1, 1, 1, 1]) (Ktop C 66 f66 [.pbox [], .und]))) m1 [.pbox [.shr 5 v0_0, .int .i64 v0_1, .bool v0_2, .bool v0_3, .bool v0_4, .bool v0_5, .int .i64 v0_6, .own 0 8 9 v0_7, .int .i64 v0_8, .int .i64 v0_9], .int .i64 v1, .und, .und, .box 103 [.int .i64 v4_0, .int .i64 v4_1, .int .i64 v4_2, .int .i64 v4_3, .int .i64 v4_4, .int .i64 v4_5, .int .i64 v4_6, .str v4_7, .own 4 9 82 v4_8, .own 4 10 3 v4_9, .own 4 11 103 v4_10], .int .i64 v5, .own 6 0 103 v6, .und, .und, .und, .und, .und, .und, .und, .und, .und, .und, .und, .und, .und, .und, .und, .und, .und, .und, .und, .und, .und, .und, .und, .und, .und, .und, .und, .und, .und, .und, .und, .und, .und, .und, .und, .und, .und, .und, .und, .und, .und, .und, .und, .und, .und, .und, .und]
noncomputable def M66_1 (v0_0 : List Dat) (v0_1 : Int) (v0_2 v0_3 v0_4 v0_5 : Bool) (v0_6 : Int) (v0_7 : List Dat) (v0_8 v0_9 v1 v4_0 v4_1 v4_2 v4_3 v4_4 v4_5 v4_6 : Int) (v4_7 : ByteArray) (v4_8 v4_9 v4_10 : List Dat) (v5 : Int) (v6 : List Dat) : R := lim fun φ => L66_1 (φ 0) (φ 1) v0_0 v0_1 v0_2 v0_3 v0_4 v0_5 v0_6 v0_7 v0_8 v0_9 v1 v4_0 v4_1 v4_2 v4_3 v4_4 v4_5 v4_6 v4_7 v4_8 v4_9 v4_10 v5 v6
theorem M66_1_c (v0_0 : List Dat) (v0_1 : Int) (v0_2 v0_3 v0_4 v0_5 : Bool) (v0_6 : Int) (v0_7 : List Dat) (v0_8 v0_9 v1 v4_0 v4_1 v4_2 v4_3 v4_4 v4_5 v4_6 : Int) (v4_7 : ByteArray) (v4_8 v4_9 v4_10 : List Dat) (v5 : Int) (v6 : List Dat) : Cont (fun φ => L66_1 (φ 0) (φ 1) v0_0 v0_1 v0_2 v0_3 v0_4 v0_5 v0_6 v0_7 v0_8 v0_9 v1 v4_0 v4_1 v4_2 v4_3 v4_4 v4_5 v4_6 v4_7 v4_8 v4_9 v4_10 v5 v6) (M66_1 v0_0 v0_1 v0_2 v0_3 v0_4 v0_5 v0_6 v0_7 v0_8 v0_9 v1 v4_0 v4_1 v4_2 v4_3 v4_4 v4_5 v4_6 v4_7 v4_8 v4_9 v4_10 v5 v6) := Cont.re id _
theorem M66_1_e (v0_0 : List Dat) (v0_1 : Int) (v0_2 v0_3 v0_4 v0_5 : Bool) (v0_6 : Int) (v0_7 : List Dat) (v0_8 v0_9 v1 v4_0 v4_1 v4_2 v4_3 v4_4 v4_5 v4_6 : Int) (v4_7 : ByteArray) (v4_8 v4_9 v4_10 : List Dat) (v5 : Int) (v6 : List Dat) : Cont (fun φ => L66_1 (φ 0) (φ 0) v0_0 v0_1 v0_2 v0_3 v0_4 v0_5 v0_6 v0_7 v0_8 v0_9 v1 v4_0 v4_1 v4_2 v4_3 v4_4 v4_5 v4_6 v4_7 v4_8 v4_9 v4_10 v5 v6) (M66_1 v0_0 v0_1 v0_2 v0_3 v0_4 v0_5 v0_6 v0_7 v0_8 v0_9 v1 v4_0 v4_1 v4_2 v4_3 v4_4 v4_5 v4_6 v4_7 v4_8 v4_9 v4_10 v5 v6) := Cont.re (toZ 1) fun φ => L66_1 (φ 0) (φ 1) v0_0 v0_1 v0_2 v0_3 v0_4 v0_5 v0_6 v0_7 v0_8 v0_9 v1 v4_0 v4_1 v4_2 v4_3 v4_4 v4_5 v4_6 v4_7 v4_8 v4_9 v4_10 v5 v6
theorem M66_1_of (v0_0 : List Dat) (v0_1 : Int) (v0_2 v0_3 v0_4 v0_5 : Bool) (v0_6 : Int) (v0_7 : List Dat) (v0_8 v0_9 v1 v4_0 v4_1 v4_2 v4_3 v4_4 v4_5 v4_6 : Int) (v4_7 : ByteArray) (v4_8 v4_9 v4_10 : List Dat) (v5 : Int) (v6 : List Dat) {r : List Dat} (h : ((E C 67 [.pbox [.shr 5 v0_0, .int .i64 v0_1, .bool v0_2, .bool v0_3, .bool v0_4, .bool v0_5, .int .i64 v0_6, .own 0 8 9 v0_7, .int .i64 v0_8, .int .i64 v0_9]]).bind fun d2 => (bif !((rd d2 0).B) then ((E C 109 [.pbox [.shr 5 (((rd d2 1).C 0).L), .int .i64 (((rd d2 1).C 1).I), .bool (((rd d2 1).C 2).B), .bool (((rd d2 1).C 3).B), .bool (((rd d2 1).C 4).B), .bool (((rd d2 1).C 5).B), .int .i64 (((rd d2 1).C 6).I), .own 0 8 9 (((rd d2 1).C 7).L), .int .i64 (((rd d2 1).C 8).I), .int .i64 (((rd d2 1).C 9).I)], .int .i64 (((rd d2 1).C 1).I)]).bind fun d3 => (bif ((rd d3 0).I) == 124 then ((E C 108 [.pbox [.shr 5 (((rd d3 1).C 0).L), .int .i64 (IntKind.i64.wrap ((((rd d3 1).C 1).I) + 1)), .bool (((rd d3 1).C 2).B), .bool (((rd d3 1).C 3).B), .bool (((rd d3 1).C 4).B), .bool (((rd d3 1).C 5).B), .int .i64 (((rd d3 1).C 6).I), .own 0 8 9 (((rd d3 1).C 7).L), .int .i64 (((rd d3 1).C 8).I), .int .i64 (((rd d3 1).C 9).I)], .int .i64 v1]).bind fun d4 => (bif decide (v6.length + ([.agg [.int (((rd d4 0).C 0).I), .int (((rd d4 0).C 1).I), .int (((rd d4 0).C 2).I), .int (((rd d4 0).C 3).I), .int (((rd d4 0).C 4).I), .int (((rd d4 0).C 5).I), .int (((rd d4 0).C 6).I), .str (((rd d4 0).C 7).S), .list (((rd d4 0).C 8).L), .list (((rd d4 0).C 9).L), .list (((rd d4 0).C 10).L)]] : List Dat).length ≤ capB 144) then (M66_1 (((rd d4 1).C 0).L) (((rd d4 1).C 1).I) (((rd d4 1).C 2).B) (((rd d4 1).C 3).B) (((rd d4 1).C 4).B) (((rd d4 1).C 5).B) (((rd d4 1).C 6).I) (((rd d4 1).C 7).L) (((rd d4 1).C 8).I) (((rd d4 1).C 9).I) v1 v4_0 v4_1 v4_2 v4_3 v4_4 v4_5 v4_6 v4_7 v4_8 v4_9 v4_10 v5 (v6 ++ ([.agg [.int (((rd d4 0).C 0).I), .int (((rd d4 0).C 1).I), .int (((rd d4 0).C 2).I), .int (((rd d4 0).C 3).I), .int (((rd d4 0).C 4).I), .int (((rd d4 0).C 5).I), .int (((rd d4 0).C 6).I), .str (((rd d4 0).C 7).S), .list (((rd d4 0).C 8).L), .list (((rd d4 0).C 9).L), .list (((rd d4 0).C 10).L)]] : List Dat))) else none)) else (bif (v6.length : Int) == 1 then (bif decide (0 < (v6.length : Int)) then (bif decide (0 < v6.length) then (some [.agg [.int (((rd v6 0).C 0).I), .int (((rd v6 0).C 1).I), .int (((rd v6 0).C 2).I), .int (((rd v6 0).C 3).I), .int (((rd v6 0).C 4).I), .int (((rd v6 0).C 5).I), .int (((rd v6 0).C 6).I), .str (((rd v6 0).C 7).S), .list (((rd v6 0).C 8).L), .list (((rd v6 0).C 9).L), .list (((rd v6 0).C 10).L)], .agg [.list (((rd d3 1).C 0).L), .int (((rd d3 1).C 1).I), .bool (((rd d3 1).C 2).B), .bool (((rd d3 1).C 3).B), .bool (((rd d3 1).C 4).B), .bool (((rd d3 1).C 5).B), .int (((rd d3 1).C 6).I), .list (((rd d3 1).C 7).L), .int (((rd d3 1).C 8).I), .int (((rd d3 1).C 9).I)]]) else none) else none) else (some [.agg [.int 6, .int v5, .int (((rd d3 1).C 1).I), .int 0, .int 0, .int 0, .int 0, .str ByteArray.empty, .list ([] : List Dat), .list ([] : List Dat), .list v6], .agg [.list (((rd d3 1).C 0).L), .int (((rd d3 1).C 1).I), .bool (((rd d3 1).C 2).B), .bool (((rd d3 1).C 3).B), .bool (((rd d3 1).C 4).B), .bool (((rd d3 1).C 5).B), .int (((rd d3 1).C 6).I), .list (((rd d3 1).C 7).L), .int (((rd d3 1).C 8).I), .int (((rd d3 1).C 9).I)]])))) else (bif (v6.length : Int) == 1 then (bif decide (0 < (v6.length : Int)) then (bif decide (0 < v6.length) then (some [.agg [.int (((rd v6 0).C 0).I), .int (((rd v6 0).C 1).I), .int (((rd v6 0).C 2).I), .int (((rd v6 0).C 3).I), .int (((rd v6 0).C 4).I), .int (((rd v6 0).C 5).I), .int (((rd v6 0).C 6).I), .str (((rd v6 0).C 7).S), .list (((rd v6 0).C 8).L), .list (((rd v6 0).C 9).L), .list (((rd v6 0).C 10).L)], .agg [.list (((rd d2 1).C 0).L), .int (((rd d2 1).C 1).I), .bool (((rd d2 1).C 2).B), .bool (((rd d2 1).C 3).B), .bool (((rd d2 1).C 4).B), .bool (((rd d2 1).C 5).B), .int (((rd d2 1).C 6).I), .list (((rd d2 1).C 7).L), .int (((rd d2 1).C 8).I), .int (((rd d2 1).C 9).I)]]) else none) else none) else (some [.agg [.int 6, .int v5, .int (((rd d2 1).C 1).I), .int 0, .int 0, .int 0, .int 0, .str ByteArray.empty, .list ([] : List Dat), .list ([] : List Dat), .list v6], .agg [.list (((rd d2 1).C 0).L), .int (((rd d2 1).C 1).I), .bool (((rd d2 1).C 2).B), .bool (((rd d2 1).C 3).B), .bool (((rd d2 1).C 4).B), .bool (((rd d2 1).C 5).B), .int (((rd d2 1).C 6).I), .list (((rd d2 1).C 7).L), .int (((rd d2 1).C 8).I), .int (((rd d2 1).C 9).I)]]))) : R) = some r) : M66_1 v0_0 v0_1 v0_2 v0_3 v0_4 v0_5 v0_6 v0_7 v0_8 v0_9 v1 v4_0 v4_1 v4_2 v4_3 v4_4 v4_5 v4_6 v4_7 v4_8 v4_9 v4_10 v5 v6 = some r := lim_st (g := fun φ => L66_1 (φ 0) (φ 1) v0_0 v0_1 v0_2 v0_3 v0_4 v0_5 v0_6 v0_7 v0_8 v0_9 v1 v4_0 v4_1 v4_2 v4_3 v4_4 v4_5 v4_6 v4_7 v4_8 v4_9 v4_10 v5 v6) 1 h (Cont.bind (Cont.call C 67 _) fun _ => (Cont.bif (Cont.bind (Cont.call C 109 _) fun _ => (Cont.bif (Cont.bind (Cont.call C 108 _) fun _ => (Cont.bif (M66_1_c _ _ _ _ _ _ _ _ _ _ _ _ _ _ _ _ _ _ _ _ _ _ _ _) Cont.nn)) (Cont.bif (Cont.bif (Cont.bif (Cont.const _) Cont.nn) Cont.nn) (Cont.const _)))) (Cont.bif (Cont.bif (Cont.bif (Cont.const _) Cont.nn) Cont.nn) (Cont.const _)))) fun φ m hm => (congrArg (fun q => L66_1 (φ 0) q v0_0 v0_1 v0_2 v0_3 v0_4 v0_5 v0_6 v0_7 v0_8 v0_9 v1 v4_0 v4_1 v4_2 v4_3 v4_4 v4_5 v4_6 v4_7 v4_8 v4_9 v4_10 v5 v6) hm).trans (by kernel_rfl)
theorem o66 (p0_0 : List Dat) (p0_1 : Int) (p0_2 p0_3 p0_4 p0_5 : Bool) (p0_6 : Int) (p0_7 : List Dat) (p0_8 p0_9 a1 : Int) {r : List Dat} (h : ((E C 108 [.pbox [.shr 5 p0_0, .int .i64 p0_1, .bool p0_2, .bool p0_3, .bool p0_4, .bool p0_5, .int .i64 p0_6, .own 0 8 9 p0_7, .int .i64 p0_8, .int .i64 p0_9], .int .i64 a1]).bind fun d1 => (M66_1 (((rd d1 1).C 0).L) (((rd d1 1).C 1).I) (((rd d1 1).C 2).B) (((rd d1 1).C 3).B) (((rd d1 1).C 4).B) (((rd d1 1).C 5).B) (((rd d1 1).C 6).I) (((rd d1 1).C 7).L) (((rd d1 1).C 8).I) (((rd d1 1).C 9).I) a1 0 0 0 0 0 0 0 ByteArray.empty ([] : List Dat) ([] : List Dat) ([] : List Dat) p0_1 ([.agg [.int (((rd d1 0).C 0).I), .int (((rd d1 0).C 1).I), .int (((rd d1 0).C 2).I), .int (((rd d1 0).C 3).I), .int (((rd d1 0).C 4).I), .int (((rd d1 0).C 5).I), .int (((rd d1 0).C 6).I), .str (((rd d1 0).C 7).S), .list (((rd d1 0).C 8).L), .list (((rd d1 0).C 9).L), .list (((rd d1 0).C 10).L)]] : List Dat)) : R) = some r) : E C 66 [.pbox [.shr 5 p0_0, .int .i64 p0_1, .bool p0_2, .bool p0_3, .bool p0_4, .bool p0_5, .int .i64 p0_6, .own 0 8 9 p0_7, .int .i64 p0_8, .int .i64 p0_9], .int .i64 a1] = some r := E_st h (Cont.bind (Cont.call C 108 _) fun _ => (M66_1_e _ _ _ _ _ _ _ _ _ _ _ _ _ _ _ _ _ _ _ _ _ _ _ _)) fun φ => by kernel_rfl
theorem o67 (p0_0 : List Dat) (p0_1 : Int) (p0_2 p0_3 p0_4 p0_5 : Bool) (p0_6 : Int) (p0_7 : List Dat) (p0_8 p0_9 : Int) {r : List Dat} (h : (bif p0_8 != 0 then (some [.bool true, .agg [.list p0_0, .int p0_1, .bool p0_2, .bool p0_3, .bool p0_4, .bool p0_5, .int p0_6, .list p0_7, .int p0_8, .int p0_9]]) else (some [.bool (decide (p0_1 ≥ (p0_0.length : Int))), .agg [.list p0_0, .int p0_1, .bool p0_2, .bool p0_3, .bool p0_4, .bool p0_5, .int p0_6, .list p0_7, .int p0_8, .int p0_9]]) : R) = some r) : E C 67 [.pbox [.shr 5 p0_0, .int .i64 p0_1, .bool p0_2, .bool p0_3, .bool p0_4, .bool p0_5, .int .i64 p0_6, .own 0 8 9 p0_7, .int .i64 p0_8, .int .i64 p0_9]] = some r := E_st h (Cont.bif (Cont.const _) (Cont.const _)) fun φ => by kernel_rfl
theorem o68 (p0_0 : List Dat) (p0_1 : Int) (p0_2 p0_3 p0_4 p0_5 : Bool) (p0_6 : Int) (p0_7 : List Dat) (p0_8 p0_9 a1 a2 : Int) {r : List Dat} (h : (bif p0_8 == 0 then (some [.agg [.list p0_0, .int p0_1, .bool p0_2, .bool p0_3, .bool p0_4, .bool p0_5, .int p0_6, .list p0_7, .int a1, .int a2]]) else (some [.agg [.list p0_0, .int p0_1, .bool p0_2, .bool p0_3, .bool p0_4, .bool p0_5, .int p0_6, .list p0_7, .int p0_8, .int p0_9]]) : R) = some r) : E C 68 [.pbox [.shr 5 p0_0, .int .i64 p0_1, .bool p0_2, .bool p0_3, .bool p0_4, .bool p0_5, .int .i64 p0_6, .own 0 8 9 p0_7, .int .i64 p0_8, .int .i64 p0_9], .int .i64 a1, .int .i64 a2] = some r := E_st h (Cont.bif (Cont.const _) (Cont.const _)) fun φ => by kernel_rfl
/-- clew/parse.number -/
noncomputable def f69 : Func := Tryz.f69
def kp69 : List Nat := [0, 1, 2, 4, 5, 6, 8, 17, 18, 19]
noncomputable def c69 (p : List Nat) : Code := pick f69 p
noncomputable def L69_1 (n : Nat) (m1 : Nat) (v0_0 v0_1 v0_2 v0_3 v0_4 v0_5 v0_6 : Int) (v0_7 : ByteArray) (v0_8 v0_9 v0_10 v1 : List Dat) (v2_0 v2_1 v2_2 v2_3 v2_4 v2_5 v2_6 : Int) (v2_7 : ByteArray) (v2_8 v2_9 v2_10 v4 : List Dat) (v5 : Int) (v6 v17 : List Dat) (v18 v19 : Int) : R := loopIter (fun E K => evCode C (ev C n) n kp69 (c69 [1, 1, 1, 1, 0, 1, 0, 0]) E K) [0, 1, 2, 4, 5, 6, 17, 18, 19] (Kblk 0 (Kseq C (ev C n) n kp69 (c69 [1, 1, 1, 1, 1]) (Ktop C 69 f69 [.und, .und]))) m1 [.agg [.int .i64 v0_0, .int .i64 v0_1, .int .i64 v0_2, .int .i64 v0_3, .int .i64 v0_4, .int .i64 v0_5, .int .i64 v0_6, .str v0_7, .shr 82 v0_8, .shr 3 v0_9, .shr 103 v0_10], .own 1 0 38 v1, .box 103 [.int .i64 v2_0, .int .i64 v2_1, .int .i64 v2_2, .int .i64 v2_3, .int .i64 v2_4, .int .i64 v2_5, .int .i64 v2_6, .str v2_7, .shr 82 v2_8, .shr 3 v2_9, .shr 103 v2_10], .und, .own 4 0 38 v4, .int .i64 v5, .own 6 0 3 v6, .und, .und, .und, .und, .und, .und, .und, .und, .und, .und, .shr 103 v17, .int .i64 v18, .int .i64 v19, .und, .und, .und, .und, .und, .und, .und, .und, .und, .und, .und, .und, .und, .und, .und, .und, .und, .und]
noncomputable def M69_1 (v0_0 v0_1 v0_2 v0_3 v0_4 v0_5 v0_6 : Int) (v0_7 : ByteArray) (v0_8 v0_9 v0_10 v1 : List Dat) (v2_0 v2_1 v2_2 v2_3 v2_4 v2_5 v2_6 : Int) (v2_7 : ByteArray) (v2_8 v2_9 v2_10 v4 : List Dat) (v5 : Int) (v6 v17 : List Dat) (v18 v19 : Int) : R := lim fun φ => L69_1 (φ 0) (φ 1) v0_0 v0_1 v0_2 v0_3 v0_4 v0_5 v0_6 v0_7 v0_8 v0_9 v0_10 v1 v2_0 v2_1 v2_2 v2_3 v2_4 v2_5 v2_6 v2_7 v2_8 v2_9 v2_10 v4 v5 v6 v17 v18 v19
theorem M69_1_c (v0_0 v0_1 v0_2 v0_3 v0_4 v0_5 v0_6 : Int) (v0_7 : ByteArray) (v0_8 v0_9 v0_10 v1 : List Dat) (v2_0 v2_1 v2_2 v2_3 v2_4 v2_5 v2_6 : Int) (v2_7 : ByteArray) (v2_8 v2_9 v2_10 v4 : List Dat) (v5 : Int) (v6 v17 : List Dat) (v18 v19 : Int) : Cont (fun φ => L69_1 (φ 0) (φ 1) v0_0 v0_1 v0_2 v0_3 v0_4 v0_5 v0_6 v0_7 v0_8 v0_9 v0_10 v1 v2_0 v2_1 v2_2 v2_3 v2_4 v2_5 v2_6 v2_7 v2_8 v2_9 v2_10 v4 v5 v6 v17 v18 v19) (M69_1 v0_0 v0_1 v0_2 v0_3 v0_4 v0_5 v0_6 v0_7 v0_8 v0_9 v0_10 v1 v2_0 v2_1 v2_2 v2_3 v2_4 v2_5 v2_6 v2_7 v2_8 v2_9 v2_10 v4 v5 v6 v17 v18 v19) := Cont.re id _
theorem M69_1_e (v0_0 v0_1 v0_2 v0_3 v0_4 v0_5 v0_6 : Int) (v0_7 : ByteArray) (v0_8 v0_9 v0_10 v1 : List Dat) (v2_0 v2_1 v2_2 v2_3 v2_4 v2_5 v2_6 : Int) (v2_7 : ByteArray) (v2_8 v2_9 v2_10 v4 : List Dat) (v5 : Int) (v6 v17 : List Dat) (v18 v19 : Int) : Cont (fun φ => L69_1 (φ 0) (φ 0) v0_0 v0_1 v0_2 v0_3 v0_4 v0_5 v0_6 v0_7 v0_8 v0_9 v0_10 v1 v2_0 v2_1 v2_2 v2_3 v2_4 v2_5 v2_6 v2_7 v2_8 v2_9 v2_10 v4 v5 v6 v17 v18 v19) (M69_1 v0_0 v0_1 v0_2 v0_3 v0_4 v0_5 v0_6 v0_7 v0_8 v0_9 v0_10 v1 v2_0 v2_1 v2_2 v2_3 v2_4 v2_5 v2_6 v2_7 v2_8 v2_9 v2_10 v4 v5 v6 v17 v18 v19) := Cont.re (toZ 1) fun φ => L69_1 (φ 0) (φ 1) v0_0 v0_1 v0_2 v0_3 v0_4 v0_5 v0_6 v0_7 v0_8 v0_9 v0_10 v1 v2_0 v2_1 v2_2 v2_3 v2_4 v2_5 v2_6 v2_7 v2_8 v2_9 v2_10 v4 v5 v6 v17 v18 v19
theorem M69_1_of (v0_0 v0_1 v0_2 v0_3 v0_4 v0_5 v0_6 : Int) (v0_7 : ByteArray) (v0_8 v0_9 v0_10 v1 : List Dat) (v2_0 v2_1 v2_2 v2_3 v2_4 v2_5 v2_6 : Int) (v2_7 : ByteArray) (v2_8 v2_9 v2_10 v4 : List Dat) (v5 : Int) (v6 v17 : List Dat) (v18 v19 : Int) {r : List Dat} (h : (bif decide (v19 < v18) then (bif decide (0 ≤ v19) then (bif decide (v19 < (v17.length : Int)) then (bif decide (v19.toNat < v17.length) then (bif decide (v6.length + ([.int (v1.length : Int)] : List Dat).length ≤ capB 8) then ((E C 69 [.agg [.int .i64 (((rd v17 v19.toNat).C 0).I), .int .i64 (((rd v17 v19.toNat).C 1).I), .int .i64 (((rd v17 v19.toNat).C 2).I), .int .i64 (((rd v17 v19.toNat).C 3).I), .int .i64 (((rd v17 v19.toNat).C 4).I), .int .i64 (((rd v17 v19.toNat).C 5).I), .int .i64 (((rd v17 v19.toNat).C 6).I), .str (((rd v17 v19.toNat).C 7).S), .shr 82 (((rd v17 v19.toNat).C 8).L), .shr 3 (((rd v17 v19.toNat).C 9).L), .shr 103 (((rd v17 v19.toNat).C 10).L)], .own 1 0 38 v1]).bind fun d1 => (M69_1 v0_0 v0_1 v0_2 v0_3 v0_4 v0_5 v0_6 v0_7 v0_8 v0_9 v0_10 ((rd d1 0).L) v2_0 v2_1 v2_2 v2_3 v2_4 v2_5 v2_6 v2_7 v2_8 v2_9 v2_10 v4 v5 (v6 ++ ([.int (v1.length : Int)] : List Dat)) v17 v18 (IntKind.i64.wrap (v19 + 1)))) else none) else none) else none) else none) else (bif decide (0 ≤ v5) then (bif decide (v5 < (v1.length : Int)) then (bif decide (v5.toNat < v1.length) then (some [.list (v1.set v5.toNat (.agg [(rd v1 v5.toNat).C 0, (rd v1 v5.toNat).C 1, (rd v1 v5.toNat).C 2, (rd v1 v5.toNat).C 3, (rd v1 v5.toNat).C 4, (rd v1 v5.toNat).C 5, (rd v1 v5.toNat).C 6, (rd v1 v5.toNat).C 7, (rd v1 v5.toNat).C 8, .list v6]))]) else none) else none) else none) : R) = some r) : M69_1 v0_0 v0_1 v0_2 v0_3 v0_4 v0_5 v0_6 v0_7 v0_8 v0_9 v0_10 v1 v2_0 v2_1 v2_2 v2_3 v2_4 v2_5 v2_6 v2_7 v2_8 v2_9 v2_10 v4 v5 v6 v17 v18 v19 = some r := lim_st (g := fun φ => L69_1 (φ 0) (φ 1) v0_0 v0_1 v0_2 v0_3 v0_4 v0_5 v0_6 v0_7 v0_8 v0_9 v0_10 v1 v2_0 v2_1 v2_2 v2_3 v2_4 v2_5 v2_6 v2_7 v2_8 v2_9 v2_10 v4 v5 v6 v17 v18 v19) 1 h (Cont.bif (Cont.bif (Cont.bif (Cont.bif (Cont.bif (Cont.bind (Cont.call C 69 _) fun _ => (M69_1_c _ _ _ _ _ _ _ _ _ _ _ _ _ _ _ _ _ _ _ _ _ _ _ _ _ _ _ _ _)) Cont.nn) Cont.nn) Cont.nn) Cont.nn) (Cont.bif (Cont.bif (Cont.bif (Cont.const _) Cont.nn) Cont.nn) Cont.nn)) fun φ m hm => (congrArg (fun q => L69_1 (φ 0) q v0_0 v0_1 v0_2 v0_3 v0_4 v0_5 v0_6 v0_7 v0_8 v0_9 v0_10 v1 v2_0 v2_1 v2_2 v2_3 v2_4 v2_5 v2_6 v2_7 v2_8 v2_9 v2_10 v4 v5 v6 v17 v18 v19) hm).trans (by kernel_rfl)
theorem o69 (a0_0 a0_1 a0_2 a0_3 a0_4 a0_5 a0_6 : Int) (a0_7 : ByteArray) (a0_8 a0_9 a0_10 a1 : List Dat) {r : List Dat} (h : (bif decide (a1.length + ([.agg [.int a0_0, .int a0_1, .int a0_2, .int a0_3, .int a0_4, .int a0_5, .int a0_6, .str a0_7, .list a0_8, .list a0_9]] : List Dat).length ≤ capB 120) then (M69_1 a0_0 a0_1 a0_2 a0_3 a0_4 a0_5 a0_6 a0_7 a0_8 a0_9 a0_10 (a1 ++ ([.agg [.int a0_0, .int a0_1, .int a0_2, .int a0_3, .int a0_4, .int a0_5, .int a0_6, .str a0_7, .list a0_8, .list a0_9]] : List Dat)) a0_0 a0_1 a0_2 a0_3 a0_4 a0_5 a0_6 a0_7 a0_8 a0_9 a0_10 ([] : List Dat) (a1.length : Int) ([] : List Dat) a0_10 (a0_10.length : Int) 0) else none : R) = some r) : E C 69 [.agg [.int .i64 a0_0, .int .i64 a0_1, .int .i64 a0_2, .int .i64 a0_3, .int .i64 a0_4, .int .i64 a0_5, .int .i64 a0_6, .str a0_7, .shr 82 a0_8, .shr 3 a0_9, .shr 103 a0_10], .own 1 0 38 a1] = some r := E_st h (Cont.bif (M69_1_e _ _ _ _ _ _ _ _ _ _ _ _ _ _ _ _ _ _ _ _ _ _ _ _ _ _ _ _ _) Cont.nn) fun φ => by kernel_rfl
/-- (*clew/parse.parser).row -/
noncomputable def f108 : Func := Tryz.f108
def kp108 : List Nat := [0, 1, 4, 5, 6, 20]
noncomputable def c108 (p : List Nat) : Code := pick f108 p
noncomputable def L108_1 (n : Nat) (m1 : Nat) (v0_0 : List Dat) (v0_1 : Int) (v0_2 v0_3 v0_4 v0_5 : Bool) (v0_6 : Int) (v0_7 : List Dat) (v0_8 v0_9 v1 v4_0 v4_1 v4_2 v4_3 v4_4 v4_5 v4_6 : Int) (v4_7 : ByteArray) (v4_8 v4_9 v4_10 : List Dat) (v5 : Int) (v6 : List Dat) : R := loopIter (fun E K => evCode C (ev C n) n kp108 (c108 [1, 1, 1, 0, 0, 0]) E K) [0, 1, 4, 5, 6] (Kblk 0 (Kseq C (ev C n) n kp108 (c108 [1, 1, 1, 1]) (Ktop C 108 f108 [.pbox [], .und]))) m1 [.pbox [.shr 5 v0_0, .int .i64 v0_1, .bool v0_2, .bool v0_3, .bool v0_4, .bool v0_5, .int .i64 v0_6, .own 0 8 9 v0_7, .int .i64 v0_8, .int .i64 v0_9], .int .i64 v1, .und, .und, .box 103 [.int .i64 v4_0, .int .i64 v4_1, .int .i64 v4_2, .int .i64 v4_3, .int .i64 v4_4, .int .i64 v4_5, .int .i64 v4_6, .str v4_7, .own 4 9 82 v4_8, .own 4 10 3 v4_9, .own 4 11 103 v4_10], .int .i64 v5, .own 6 0 103 v6, .und, .und, .und, .und, .und, .und, .und, .und, .und, .und, .und, .und, .und, .und, .und, .und, .und, .und, .und, .und, .und, .und, .und, .und, .und, .und, .und, .und, .und, .und, .und, .und, .und, .und, .und, .und, .und, .und, .und, .und, .und]
noncomputable def M108_1 (v0_0 : List Dat) (v0_1 : Int) (v0_2 v0_3 v0_4 v0_5 : Bool) (v0_6 : Int) (v0_7 : List Dat) (v0_8 v0_9 v1 v4_0 v4_1 v4_2 v4_3 v4_4 v4_5 v4_6 : Int) (v4_7 : ByteArray) (v4_8 v4_9 v4_10 : List Dat) (v5 : Int) (v6 : List Dat) : R := lim fun φ => L108_1 (φ 0) (φ 1) v0_0 v0_1 v0_2 v0_3 v0_4 v0_5 v0_6 v0_7 v0_8 v0_9 v1 v4_0 v4_1 v4_2 v4_3 v4_4 v4_5 v4_6 v4_7 v4_8 v4_9 v4_10 v5 v6
theorem M108_1_c (v0_0 : List Dat) (v0_1 : Int) (v0_2 v0_3 v0_4 v0_5 : Bool) (v0_6 : Int) (v0_7 : List Dat) (v0_8 v0_9 v1 v4_0 v4_1 v4_2 v4_3 v4_4 v4_5 v4_6 : Int) (v4_7 : ByteArray) (v4_8 v4_9 v4_10 : List Dat) (v5 : Int) (v6 : List Dat) : Cont (fun φ => L108_1 (φ 0) (φ 1) v0_0 v0_1 v0_2 v0_3 v0_4 v0_5 v0_6 v0_7 v0_8 v0_9 v1 v4_0 v4_1 v4_2 v4_3 v4_4 v4_5 v4_6 v4_7 v4_8 v4_9 v4_10 v5 v6) (M108_1 v0_0 v0_1 v0_2 v0_3 v0_4 v0_5 v0_6 v0_7 v0_8 v0_9 v1 v4_0 v4_1 v4_2 v4_3 v4_4 v4_5 v4_6 v4_7 v4_8 v4_9 v4_10 v5 v6) := Cont.re id _
theorem M108_1_e (v0_0 : List Dat) (v0_1 : Int) (v0_2 v0_3 v0_4 v0_5 : Bool) (v0_6 : Int) (v0_7 : List Dat) (v0_8 v0_9 v1 v4_0 v4_1 v4_2 v4_3 v4_4 v4_5 v4_6 : Int) (v4_7 : ByteArray) (v4_8 v4_9 v4_10 : List Dat) (v5 : Int) (v6 : List Dat) : Cont (fun φ => L108_1 (φ 0) (φ 0) v0_0 v0_1 v0_2 v0_3 v0_4 v0_5 v0_6 v0_7 v0_8 v0_9 v1 v4_0 v4_1 v4_2 v4_3 v4_4 v4_5 v4_6 v4_7 v4_8 v4_9 v4_10 v5 v6) (M108_1 v0_0 v0_1 v0_2 v0_3 v0_4 v0_5 v0_6 v0_7 v0_8 v0_9 v1 v4_0 v4_1 v4_2 v4_3 v4_4 v4_5 v4_6 v4_7 v4_8 v4_9 v4_10 v5 v6) := Cont.re (toZ 1) fun φ => L108_1 (φ 0) (φ 1) v0_0 v0_1 v0_2 v0_3 v0_4 v0_5 v0_6 v0_7 v0_8 v0_9 v1 v4_0 v4_1 v4_2 v4_3 v4_4 v4_5 v4_6 v4_7 v4_8 v4_9 v4_10 v5 v6
theorem M108_1_of (v0_0 : List Dat) (v0_1 : Int) (v0_2 v0_3 v0_4 v0_5 : Bool) (v0_6 : Int) (v0_7 : List Dat) (v0_8 v0_9 v1 v4_0 v4_1 v4_2 v4_3 v4_4 v4_5 v4_6 : Int) (v4_7 : ByteArray) (v4_8 v4_9 v4_10 : List Dat) (v5 : Int) (v6 : List Dat) {r : List Dat} (h : ((E C 147 [.pbox [.shr 5 v0_0, .int .i64 v0_1, .bool v0_2, .bool v0_3, .bool v0_4, .bool v0_5, .int .i64 v0_6, .own 0 8 9 v0_7, .int .i64 v0_8, .int .i64 v0_9]]).bind fun d1 => (bif !((rd d1 0).B) then ((E C 148 [.pbox [.shr 5 (((rd d1 1).C 0).L), .int .i64 (((rd d1 1).C 1).I), .bool (((rd d1 1).C 2).B), .bool (((rd d1 1).C 3).B), .bool (((rd d1 1).C 4).B), .bool (((rd d1 1).C 5).B), .int .i64 (((rd d1 1).C 6).I), .own 0 8 9 (((rd d1 1).C 7).L), .int .i64 (((rd d1 1).C 8).I), .int .i64 (((rd d1 1).C 9).I)], .int .i64 v1]).bind fun d2 => (bif decide (v6.length + ((rd d2 0).L).length ≤ capB 144) then (M108_1 (((rd d2 1).C 0).L) (((rd d2 1).C 1).I) (((rd d2 1).C 2).B) (((rd d2 1).C 3).B) (((rd d2 1).C 4).B) (((rd d2 1).C 5).B) (((rd d2 1).C 6).I) (((rd d2 1).C 7).L) (((rd d2 1).C 8).I) (((rd d2 1).C 9).I) v1 v4_0 v4_1 v4_2 v4_3 v4_4 v4_5 v4_6 v4_7 v4_8 v4_9 v4_10 v5 (v6 ++ ((rd d2 0).L))) else none)) else (bif (v6.length : Int) == 0 then (some [.agg [.int 1, .int v5, .int v5, .int 0, .int 0, .int 0, .int 0, .str ByteArray.empty, .list ([] : List Dat), .list ([] : List Dat), .list ([] : List Dat)], .agg [.list (((rd d1 1).C 0).L), .int (((rd d1 1).C 1).I), .bool (((rd d1 1).C 2).B), .bool (((rd d1 1).C 3).B), .bool (((rd d1 1).C 4).B), .bool (((rd d1 1).C 5).B), .int (((rd d1 1).C 6).I), .list (((rd d1 1).C 7).L), .int (((rd d1 1).C 8).I), .int (((rd d1 1).C 9).I)]]) else (bif (v6.length : Int) == 1 then (bif decide (0 < (v6.length : Int)) then (bif decide (0 < v6.length) then (some [.agg [.int (((rd v6 0).C 0).I), .int (((rd v6 0).C 1).I), .int (((rd v6 0).C 2).I), .int (((rd v6 0).C 3).I), .int (((rd v6 0).C 4).I), .int (((rd v6 0).C 5).I), .int (((rd v6 0).C 6).I), .str (((rd v6 0).C 7).S), .list (((rd v6 0).C 8).L), .list (((rd v6 0).C 9).L), .list (((rd v6 0).C 10).L)], .agg [.list (((rd d1 1).C 0).L), .int (((rd d1 1).C 1).I), .bool (((rd d1 1).C 2).B), .bool (((rd d1 1).C 3).B), .bool (((rd d1 1).C 4).B), .bool (((rd d1 1).C 5).B), .int (((rd d1 1).C 6).I), .list (((rd d1 1).C 7).L), .int (((rd d1 1).C 8).I), .int (((rd d1 1).C 9).I)]]) else none) else none) else (bif decide (0 < (v6.length : Int)) then (bif decide (0 < v6.length) then (bif decide (0 ≤ (IntKind.i64.wrap ((v6.length : Int) - 1))) then (bif decide ((IntKind.i64.wrap ((v6.length : Int) - 1)) < (v6.length : Int)) then (bif decide ((IntKind.i64.wrap ((v6.length : Int) - 1)).toNat < v6.length) then (some [.agg [.int 5, .int (((rd v6 0).C 1).I), .int (((rd v6 ((IntKind.i64.wrap ((v6.length : Int) - 1)).toNat)).C 2).I), .int 0, .int 0, .int 0, .int 0, .str ByteArray.empty, .list ([] : List Dat), .list ([] : List Dat), .list v6], .agg [.list (((rd d1 1).C 0).L), .int (((rd d1 1).C 1).I), .bool (((rd d1 1).C 2).B), .bool (((rd d1 1).C 3).B), .bool (((rd d1 1).C 4).B), .bool (((rd d1 1).C 5).B), .int (((rd d1 1).C 6).I), .list (((rd d1 1).C 7).L), .int (((rd d1 1).C 8).I), .int (((rd d1 1).C 9).I)]]) else none) else none) else none) else none) else none)))) : R) = some r) : M108_1 v0_0 v0_1 v0_2 v0_3 v0_4 v0_5 v0_6 v0_7 v0_8 v0_9 v1 v4_0 v4_1 v4_2 v4_3 v4_4 v4_5 v4_6 v4_7 v4_8 v4_9 v4_10 v5 v6 = some r := lim_st (g := fun φ => L108_1 (φ 0) (φ 1) v0_0 v0_1 v0_2 v0_3 v0_4 v0_5 v0_6 v0_7 v0_8 v0_9 v1 v4_0 v4_1 v4_2 v4_3 v4_4 v4_5 v4_6 v4_7 v4_8 v4_9 v4_10 v5 v6) 1 h (Cont.bind (Cont.call C 147 _) fun _ => (Cont.bif (Cont.bind (Cont.call C 148 _) fun _ => (Cont.bif (M108_1_c _ _ _ _ _ _ _ _ _ _ _ _ _ _ _ _ _ _ _ _ _ _ _ _) Cont.nn)) (Cont.bif (Cont.const _) (Cont.bif (Cont.bif (Cont.bif (Cont.const _) Cont.nn) Cont.nn) (Cont.bif (Cont.bif (Cont.bif (Cont.bif (Cont.bif (Cont.const _) Cont.nn) Cont.nn) Cont.nn) Cont.nn) Cont.nn))))) fun φ m hm => (congrArg (fun q => L108_1 (φ 0) q v0_0 v0_1 v0_2 v0_3 v0_4 v0_5 v0_6 v0_7 v0_8 v0_9 v1 v4_0 v4_1 v4_2 v4_3 v4_4 v4_5 v4_6 v4_7 v4_8 v4_9 v4_10 v5 v6) hm).trans (by kernel_rfl)
theorem o108 (p0_0 : List Dat) (p0_1 : Int) (p0_2 p0_3 p0_4 p0_5 : Bool) (p0_6 : Int) (p0_7 : List Dat) (p0_8 p0_9 a1 : Int) {r : List Dat} (h : (M108_1 p0_0 p0_1 p0_2 p0_3 p0_4 p0_5 p0_6 p0_7 p0_8 p0_9 a1 0 0 0 0 0 0 0 ByteArray.empty ([] : List Dat) ([] : List Dat) ([] : List Dat) p0_1 ([] : List Dat) : R) = some r) : E C 108 [.pbox [.shr 5 p0_0, .int .i64 p0_1, .bool p0_2, .bool p0_3, .bool p0_4, .bool p0_5, .int .i64 p0_6, .own 0 8 9 p0_7, .int .i64 p0_8, .int .i64 p0_9], .int .i64 a1] = some r := E_st h (M108_1_e _ _ _ _ _ _ _ _ _ _ _ _ _ _ _ _ _ _ _ _ _ _ _ _) fun φ => by kernel_rfl
theorem o109 (p0_0 : List Dat) (p0_1 : Int) (p0_2 p0_3 p0_4 p0_5 : Bool) (p0_6 : Int) (p0_7 : List Dat) (p0_8 p0_9 a1 : Int) {r : List Dat} (h : (bif decide (a1 ≥ (p0_0.length : Int)) then (some [.int 0, .agg [.list p0_0, .int p0_1, .bool p0_2, .bool p0_3, .bool p0_4, .bool p0_5, .int p0_6, .list p0_7, .int p0_8, .int p0_9]]) else (bif decide (0 ≤ a1) then (bif decide (a1 < (p0_0.length : Int)) then (bif decide (a1.toNat < p0_0.length) then (some [.int ((rd p0_0 a1.toNat).I), .agg [.list p0_0, .int p0_1, .bool p0_2, .bool p0_3, .bool p0_4, .bool p0_5, .int p0_6, .list p0_7, .int p0_8, .int p0_9]]) else none) else none) else none) : R) = some r) : E C 109 [.pbox [.shr 5 p0_0, .int .i64 p0_1, .bool p0_2, .bool p0_3, .bool p0_4, .bool p0_5, .int .i64 p0_6, .own 0 8 9 p0_7, .int .i64 p0_8, .int .i64 p0_9], .int .i64 a1] = some r := E_st h (Cont.bif (Cont.const _) (Cont.bif (Cont.bif (Cont.bif (Cont.const _) Cont.nn) Cont.nn) Cont.nn)) fun φ => by kernel_rfl
theorem o147 (p0_0 : List Dat) (p0_1 : Int) (p0_2 p0_3 p0_4 p0_5 : Bool) (p0_6 : Int) (p0_7 : List Dat) (p0_8 p0_9 : Int) {r : List Dat} (h : ((E C 177 [.pbox [.shr 5 p0_0, .int .i64 p0_1, .bool p0_2, .bool p0_3, .bool p0_4, .bool p0_5, .int .i64 p0_6, .own 0 8 9 p0_7, .int .i64 p0_8, .int .i64 p0_9]]).bind fun d1 => ((E C 67 [.pbox [.shr 5 (((rd d1 0).C 0).L), .int .i64 (((rd d1 0).C 1).I), .bool (((rd d1 0).C 2).B), .bool (((rd d1 0).C 3).B), .bool (((rd d1 0).C 4).B), .bool (((rd d1 0).C 5).B), .int .i64 (((rd d1 0).C 6).I), .own 0 8 9 (((rd d1 0).C 7).L), .int .i64 (((rd d1 0).C 8).I), .int .i64 (((rd d1 0).C 9).I)]]).bind fun d2 => (bif (rd d2 0).B then (some [.bool true, .agg [.list (((rd d2 1).C 0).L), .int (((rd d2 1).C 1).I), .bool (((rd d2 1).C 2).B), .bool (((rd d2 1).C 3).B), .bool (((rd d2 1).C 4).B), .bool (((rd d2 1).C 5).B), .int (((rd d2 1).C 6).I), .list (((rd d2 1).C 7).L), .int (((rd d2 1).C 8).I), .int (((rd d2 1).C 9).I)]]) else ((E C 109 [.pbox [.shr 5 (((rd d2 1).C 0).L), .int .i64 (((rd d2 1).C 1).I), .bool (((rd d2 1).C 2).B), .bool (((rd d2 1).C 3).B), .bool (((rd d2 1).C 4).B), .bool (((rd d2 1).C 5).B), .int .i64 (((rd d2 1).C 6).I), .own 0 8 9 (((rd d2 1).C 7).L), .int .i64 (((rd d2 1).C 8).I), .int .i64 (((rd d2 1).C 9).I)], .int .i64 (((rd d2 1).C 1).I)]).bind fun d3 => (bif ((rd d3 0).I) == 124 then (some [.bool true, .agg [.list (((rd d3 1).C 0).L), .int (((rd d3 1).C 1).I), .bool (((rd d3 1).C 2).B), .bool (((rd d3 1).C 3).B), .bool (((rd d3 1).C 4).B), .bool (((rd d3 1).C 5).B), .int (((rd d3 1).C 6).I), .list (((rd d3 1).C 7).L), .int (((rd d3 1).C 8).I), .int (((rd d3 1).C 9).I)]]) else ((E C 109 [.pbox [.shr 5 (((rd d3 1).C 0).L), .int .i64 (((rd d3 1).C 1).I), .bool (((rd d3 1).C 2).B), .bool (((rd d3 1).C 3).B), .bool (((rd d3 1).C 4).B), .bool (((rd d3 1).C 5).B), .int .i64 (((rd d3 1).C 6).I), .own 0 8 9 (((rd d3 1).C 7).L), .int .i64 (((rd d3 1).C 8).I), .int .i64 (((rd d3 1).C 9).I)], .int .i64 (((rd d3 1).C 1).I)]).bind fun d4 => (some [.bool (((rd d4 0).I) == 41), .agg [.list (((rd d4 1).C 0).L), .int (((rd d4 1).C 1).I), .bool (((rd d4 1).C 2).B), .bool (((rd d4 1).C 3).B), .bool (((rd d4 1).C 4).B), .bool (((rd d4 1).C 5).B), .int (((rd d4 1).C 6).I), .list (((rd d4 1).C 7).L), .int (((rd d4 1).C 8).I), .int (((rd d4 1).C 9).I)]])))))) : R) = some r) : E C 147 [.pbox [.shr 5 p0_0, .int .i64 p0_1, .bool p0_2, .bool p0_3, .bool p0_4, .bool p0_5, .int .i64 p0_6, .own 0 8 9 p0_7, .int .i64 p0_8, .int .i64 p0_9]] = some r := E_st h (Cont.bind (Cont.call C 177 _) fun _ => (Cont.bind (Cont.call C 67 _) fun _ => (Cont.bif (Cont.const _) (Cont.bind (Cont.call C 109 _) fun _ => (Cont.bif (Cont.const _) (Cont.bind (Cont.call C 109 _) fun _ => (Cont.const _))))))) fun φ => by kernel_rfl
theorem o148 (p0_0 : List Dat) (p0_1 : Int) (p0_2 p0_3 p0_4 p0_5 : Bool) (p0_6 : Int) (p0_7 : List Dat) (p0_8 p0_9 a1 : Int) {r : List Dat} (h : ((E C 178 [.pbox [.shr 5 p0_0, .int .i64 p0_1, .bool p0_2, .bool p0_3, .bool p0_4, .bool p0_5, .int .i64 p0_6, .own 0 8 9 p0_7, .int .i64 p0_8, .int .i64 p0_9]]).bind fun d1 => (bif (rd d1 1).B then ((E C 68 [.pbox [.shr 5 (((rd d1 2).C 0).L), .int .i64 (((rd d1 2).C 1).I), .bool (((rd d1 2).C 2).B), .bool (((rd d1 2).C 3).B), .bool (((rd d1 2).C 4).B), .bool (((rd d1 2).C 5).B), .int .i64 (((rd d1 2).C 6).I), .own 0 8 9 (((rd d1 2).C 7).L), .int .i64 (((rd d1 2).C 8).I), .int .i64 (((rd d1 2).C 9).I)], .int .i64 31, .int .i64 p0_1]).bind fun d2 => (bif (((rd d2 0).C 8).I) != 0 then (some [.list ([] : List Dat), .agg [.list (((rd d2 0).C 0).L), .int (((rd d2 0).C 1).I), .bool (((rd d2 0).C 2).B), .bool (((rd d2 0).C 3).B), .bool (((rd d2 0).C 4).B), .bool (((rd d2 0).C 5).B), .int (((rd d2 0).C 6).I), .list (((rd d2 0).C 7).L), .int (((rd d2 0).C 8).I), .int (((rd d2 0).C 9).I)]]) else ((E C 179 [.pbox [.shr 5 (((rd d2 0).C 0).L), .int .i64 (((rd d2 0).C 1).I), .bool (((rd d2 0).C 2).B), .bool (((rd d2 0).C 3).B), .bool (((rd d2 0).C 4).B), .bool (((rd d2 0).C 5).B), .int .i64 (((rd d2 0).C 6).I), .own 0 8 9 (((rd d2 0).C 7).L), .int .i64 (((rd d2 0).C 8).I), .int .i64 (((rd d2 0).C 9).I)], .int .i64 a1]).bind fun d3 => (bif (((rd d3 2).C 8).I) != 0 then (some [.list ([] : List Dat), .agg [.list (((rd d3 2).C 0).L), .int (((rd d3 2).C 1).I), .bool (((rd d3 2).C 2).B), .bool (((rd d3 2).C 3).B), .bool (((rd d3 2).C 4).B), .bool (((rd d3 2).C 5).B), .int (((rd d3 2).C 6).I), .list (((rd d3 2).C 7).L), .int (((rd d3 2).C 8).I), .int (((rd d3 2).C 9).I)]]) else ((E C 177 [.pbox [.shr 5 (((rd d3 2).C 0).L), .int .i64 (((rd d3 2).C 1).I), .bool (((rd d3 2).C 2).B), .bool (((rd d3 2).C 3).B), .bool (((rd d3 2).C 4).B), .bool (((rd d3 2).C 5).B), .int .i64 (((rd d3 2).C 6).I), .own 0 8 9 (((rd d3 2).C 7).L), .int .i64 (((rd d3 2).C 8).I), .int .i64 (((rd d3 2).C 9).I)]]).bind fun d4 => ((E C 178 [.pbox [.shr 5 (((rd d4 0).C 0).L), .int .i64 (((rd d4 0).C 1).I), .bool (((rd d4 0).C 2).B), .bool (((rd d4 0).C 3).B), .bool (((rd d4 0).C 4).B), .bool (((rd d4 0).C 5).B), .int .i64 (((rd d4 0).C 6).I), .own 0 8 9 (((rd d4 0).C 7).L), .int .i64 (((rd d4 0).C 8).I), .int .i64 (((rd d4 0).C 9).I)]]).bind fun d5 => (bif (rd d5 1).B then (bif !((rd d3 1).B) then ((E C 68 [.pbox [.shr 5 (((rd d5 2).C 0).L), .int .i64 (((rd d5 2).C 1).I), .bool (((rd d5 2).C 2).B), .bool (((rd d5 2).C 3).B), .bool (((rd d5 2).C 4).B), .bool (((rd d5 2).C 5).B), .int .i64 (((rd d5 2).C 6).I), .own 0 8 9 (((rd d5 2).C 7).L), .int .i64 (((rd d5 2).C 8).I), .int .i64 (((rd d5 2).C 9).I)], .int .i64 31, .int .i64 (((rd d5 2).C 1).I)]).bind fun d6 => (some [.list ([] : List Dat), .agg [.list (((rd d6 0).C 0).L), .int (((rd d6 0).C 1).I), .bool (((rd d6 0).C 2).B), .bool (((rd d6 0).C 3).B), .bool (((rd d6 0).C 4).B), .bool (((rd d6 0).C 5).B), .int (((rd d6 0).C 6).I), .list (((rd d6 0).C 7).L), .int (((rd d6 0).C 8).I), .int (((rd d6 0).C 9).I)]])) else ((E C 180 [.agg [.int .i64 (((rd d3 0).C 0).I), .int .i64 (((rd d3 0).C 1).I), .int .i64 (((rd d3 0).C 2).I), .int .i64 (((rd d3 0).C 3).I), .int .i64 (((rd d3 0).C 4).I), .int .i64 (((rd d3 0).C 5).I), .int .i64 (((rd d3 0).C 6).I), .str (((rd d3 0).C 7).S), .shr 82 (((rd d3 0).C 8).L), .shr 3 (((rd d3 0).C 9).L), .shr 103 (((rd d3 0).C 10).L)], .int .i64 p0_1, .agg [.int .i64 (((rd d5 0).C 0).I), .int .i64 (((rd d5 0).C 1).I), .int .i64 (((rd d5 0).C 2).I), .int .i64 (((rd d5 0).C 3).I)]]).bind fun d7 => ((E C 177 [.pbox [.shr 5 (((rd d5 2).C 0).L), .int .i64 (((rd d5 0).C 3).I), .bool (((rd d5 2).C 2).B), .bool (((rd d5 2).C 3).B), .bool (((rd d5 2).C 4).B), .bool (((rd d5 2).C 5).B), .int .i64 (((rd d5 2).C 6).I), .own 0 8 9 (((rd d5 2).C 7).L), .int .i64 (((rd d5 2).C 8).I), .int .i64 (((rd d5 2).C 9).I)]]).bind fun d8 => ((E C 181 [.shr 5 (((rd d8 0).C 0).L), .int .i64 (((rd d8 0).C 1).I)]).bind fun d9 => (bif (rd d9 1).B then ((E C 68 [.pbox [.shr 5 (((rd d8 0).C 0).L), .int .i64 (((rd d8 0).C 1).I), .bool (((rd d8 0).C 2).B), .bool (((rd d8 0).C 3).B), .bool (((rd d8 0).C 4).B), .bool (((rd d8 0).C 5).B), .int .i64 (((rd d8 0).C 6).I), .own 0 8 9 (((rd d8 0).C 7).L), .int .i64 (((rd d8 0).C 8).I), .int .i64 (((rd d8 0).C 9).I)], .int .i64 31, .int .i64 (((rd d8 0).C 1).I)]).bind fun d10 => (bif (((rd d7 0).C 0).I) == 0 then (some [.list ([] : List Dat), .agg [.list (((rd d10 0).C 0).L), .int (((rd d10 0).C 1).I), .bool (((rd d10 0).C 2).B), .bool (((rd d10 0).C 3).B), .bool (((rd d10 0).C 4).B), .bool (((rd d10 0).C 5).B), .int (((rd d10 0).C 6).I), .list (((rd d10 0).C 7).L), .int (((rd d10 0).C 8).I), .int (((rd d10 0).C 9).I)]]) else (some [.list ([.agg [.int (((rd d7 0).C 0).I), .int (((rd d7 0).C 1).I), .int (((rd d7 0).C 2).I), .int (((rd d7 0).C 3).I), .int (((rd d7 0).C 4).I), .int (((rd d7 0).C 5).I), .int (((rd d7 0).C 6).I), .str (((rd d7 0).C 7).S), .list (((rd d7 0).C 8).L), .list (((rd d7 0).C 9).L), .list (((rd d7 0).C 10).L)]] : List Dat), .agg [.list (((rd d10 0).C 0).L), .int (((rd d10 0).C 1).I), .bool (((rd d10 0).C 2).B), .bool (((rd d10 0).C 3).B), .bool (((rd d10 0).C 4).B), .bool (((rd d10 0).C 5).B), .int (((rd d10 0).C 6).I), .list (((rd d10 0).C 7).L), .int (((rd d10 0).C 8).I), .int (((rd d10 0).C 9).I)]]))) else (bif ((rd d9 2).I) != 0 then ((E C 68 [.pbox [.shr 5 (((rd d8 0).C 0).L), .int .i64 (((rd d8 0).C 1).I), .bool (((rd d8 0).C 2).B), .bool (((rd d8 0).C 3).B), .bool (((rd d8 0).C 4).B), .bool (((rd d8 0).C 5).B), .int .i64 (((rd d8 0).C 6).I), .own 0 8 9 (((rd d8 0).C 7).L), .int .i64 (((rd d8 0).C 8).I), .int .i64 (((rd d8 0).C 9).I)], .int .i64 31, .int .i64 (((rd d8 0).C 1).I)]).bind fun d11 => (bif (((rd d7 0).C 0).I) == 0 then (some [.list ([] : List Dat), .agg [.list (((rd d11 0).C 0).L), .int (((rd d11 0).C 1).I), .bool (((rd d11 0).C 2).B), .bool (((rd d11 0).C 3).B), .bool (((rd d11 0).C 4).B), .bool (((rd d11 0).C 5).B), .int (((rd d11 0).C 6).I), .list (((rd d11 0).C 7).L), .int (((rd d11 0).C 8).I), .int (((rd d11 0).C 9).I)]]) else (some [.list ([.agg [.int (((rd d7 0).C 0).I), .int (((rd d7 0).C 1).I), .int (((rd d7 0).C 2).I), .int (((rd d7 0).C 3).I), .int (((rd d7 0).C 4).I), .int (((rd d7 0).C 5).I), .int (((rd d7 0).C 6).I), .str (((rd d7 0).C 7).S), .list (((rd d7 0).C 8).L), .list (((rd d7 0).C 9).L), .list (((rd d7 0).C 10).L)]] : List Dat), .agg [.list (((rd d11 0).C 0).L), .int (((rd d11 0).C 1).I), .bool (((rd d11 0).C 2).B), .bool (((rd d11 0).C 3).B), .bool (((rd d11 0).C 4).B), .bool (((rd d11 0).C 5).B), .int (((rd d11 0).C 6).I), .list (((rd d11 0).C 7).L), .int (((rd d11 0).C 8).I), .int (((rd d11 0).C 9).I)]]))) else (bif (((rd d7 0).C 0).I) == 0 then (some [.list ([] : List Dat), .agg [.list (((rd d8 0).C 0).L), .int (((rd d8 0).C 1).I), .bool (((rd d8 0).C 2).B), .bool (((rd d8 0).C 3).B), .bool (((rd d8 0).C 4).B), .bool (((rd d8 0).C 5).B), .int (((rd d8 0).C 6).I), .list (((rd d8 0).C 7).L), .int (((rd d8 0).C 8).I), .int (((rd d8 0).C 9).I)]]) else (some [.list ([.agg [.int (((rd d7 0).C 0).I), .int (((rd d7 0).C 1).I), .int (((rd d7 0).C 2).I), .int (((rd d7 0).C 3).I), .int (((rd d7 0).C 4).I), .int (((rd d7 0).C 5).I), .int (((rd d7 0).C 6).I), .str (((rd d7 0).C 7).S), .list (((rd d7 0).C 8).L), .list (((rd d7 0).C 9).L), .list (((rd d7 0).C 10).L)]] : List Dat), .agg [.list (((rd d8 0).C 0).L), .int (((rd d8 0).C 1).I), .bool (((rd d8 0).C 2).B), .bool (((rd d8 0).C 3).B), .bool (((rd d8 0).C 4).B), .bool (((rd d8 0).C 5).B), .int (((rd d8 0).C 6).I), .list (((rd d8 0).C 7).L), .int (((rd d8 0).C 8).I), .int (((rd d8 0).C 9).I)]])))))))) else (bif (((rd d3 0).C 0).I) == 0 then (some [.list ([] : List Dat), .agg [.list (((rd d5 2).C 0).L), .int (((rd d5 2).C 1).I), .bool (((rd d5 2).C 2).B), .bool (((rd d5 2).C 3).B), .bool (((rd d5 2).C 4).B), .bool (((rd d5 2).C 5).B), .int (((rd d5 2).C 6).I), .list (((rd d5 2).C 7).L), .int (((rd d5 2).C 8).I), .int (((rd d5 2).C 9).I)]]) else (some [.list ([.agg [.int (((rd d3 0).C 0).I), .int (((rd d3 0).C 1).I), .int (((rd d3 0).C 2).I), .int (((rd d3 0).C 3).I), .int (((rd d3 0).C 4).I), .int (((rd d3 0).C 5).I), .int (((rd d3 0).C 6).I), .str (((rd d3 0).C 7).S), .list (((rd d3 0).C 8).L), .list (((rd d3 0).C 9).L), .list (((rd d3 0).C 10).L)]] : List Dat), .agg [.list (((rd d5 2).C 0).L), .int (((rd d5 2).C 1).I), .bool (((rd d5 2).C 2).B), .bool (((rd d5 2).C 3).B), .bool (((rd d5 2).C 4).B), .bool (((rd d5 2).C 5).B), .int (((rd d5 2).C 6).I), .list (((rd d5 2).C 7).L), .int (((rd d5 2).C 8).I), .int (((rd d5 2).C 9).I)]]))))))))) else (bif (((rd d1 2).C 8).I) != 0 then (some [.list ([] : List Dat), .agg [.list (((rd d1 2).C 0).L), .int (((rd d1 2).C 1).I), .bool (((rd d1 2).C 2).B), .bool (((rd d1 2).C 3).B), .bool (((rd d1 2).C 4).B), .bool (((rd d1 2).C 5).B), .int (((rd d1 2).C 6).I), .list (((rd d1 2).C 7).L), .int (((rd d1 2).C 8).I), .int (((rd d1 2).C 9).I)]]) else ((E C 179 [.pbox [.shr 5 (((rd d1 2).C 0).L), .int .i64 (((rd d1 2).C 1).I), .bool (((rd d1 2).C 2).B), .bool (((rd d1 2).C 3).B), .bool (((rd d1 2).C 4).B), .bool (((rd d1 2).C 5).B), .int .i64 (((rd d1 2).C 6).I), .own 0 8 9 (((rd d1 2).C 7).L), .int .i64 (((rd d1 2).C 8).I), .int .i64 (((rd d1 2).C 9).I)], .int .i64 a1]).bind fun d12 => (bif (((rd d12 2).C 8).I) != 0 then (some [.list ([] : List Dat), .agg [.list (((rd d12 2).C 0).L), .int (((rd d12 2).C 1).I), .bool (((rd d12 2).C 2).B), .bool (((rd d12 2).C 3).B), .bool (((rd d12 2).C 4).B), .bool (((rd d12 2).C 5).B), .int (((rd d12 2).C 6).I), .list (((rd d12 2).C 7).L), .int (((rd d12 2).C 8).I), .int (((rd d12 2).C 9).I)]]) else ((E C 177 [.pbox [.shr 5 (((rd d12 2).C 0).L), .int .i64 (((rd d12 2).C 1).I), .bool (((rd d12 2).C 2).B), .bool (((rd d12 2).C 3).B), .bool (((rd d12 2).C 4).B), .bool (((rd d12 2).C 5).B), .int .i64 (((rd d12 2).C 6).I), .own 0 8 9 (((rd d12 2).C 7).L), .int .i64 (((rd d12 2).C 8).I), .int .i64 (((rd d12 2).C 9).I)]]).bind fun d13 => ((E C 178 [.pbox [.shr 5 (((rd d13 0).C 0).L), .int .i64 (((rd d13 0).C 1).I), .bool (((rd d13 0).C 2).B), .bool (((rd d13 0).C 3).B), .bool (((rd d13 0).C 4).B), .bool (((rd d13 0).C 5).B), .int .i64 (((rd d13 0).C 6).I), .own 0 8 9 (((rd d13 0).C 7).L), .int .i64 (((rd d13 0).C 8).I), .int .i64 (((rd d13 0).C 9).I)]]).bind fun d14 => (bif (rd d14 1).B then (bif !((rd d12 1).B) then ((E C 68 [.pbox [.shr 5 (((rd d14 2).C 0).L), .int .i64 (((rd d14 2).C 1).I), .bool (((rd d14 2).C 2).B), .bool (((rd d14 2).C 3).B), .bool (((rd d14 2).C 4).B), .bool (((rd d14 2).C 5).B), .int .i64 (((rd d14 2).C 6).I), .own 0 8 9 (((rd d14 2).C 7).L), .int .i64 (((rd d14 2).C 8).I), .int .i64 (((rd d14 2).C 9).I)], .int .i64 31, .int .i64 (((rd d14 2).C 1).I)]).bind fun d15 => (some [.list ([] : List Dat), .agg [.list (((rd d15 0).C 0).L), .int (((rd d15 0).C 1).I), .bool (((rd d15 0).C 2).B), .bool (((rd d15 0).C 3).B), .bool (((rd d15 0).C 4).B), .bool (((rd d15 0).C 5).B), .int (((rd d15 0).C 6).I), .list (((rd d15 0).C 7).L), .int (((rd d15 0).C 8).I), .int (((rd d15 0).C 9).I)]])) else ((E C 180 [.agg [.int .i64 (((rd d12 0).C 0).I), .int .i64 (((rd d12 0).C 1).I), .int .i64 (((rd d12 0).C 2).I), .int .i64 (((rd d12 0).C 3).I), .int .i64 (((rd d12 0).C 4).I), .int .i64 (((rd d12 0).C 5).I), .int .i64 (((rd d12 0).C 6).I), .str (((rd d12 0).C 7).S), .shr 82 (((rd d12 0).C 8).L), .shr 3 (((rd d12 0).C 9).L), .shr 103 (((rd d12 0).C 10).L)], .int .i64 p0_1, .agg [.int .i64 (((rd d14 0).C 0).I), .int .i64 (((rd d14 0).C 1).I), .int .i64 (((rd d14 0).C 2).I), .int .i64 (((rd d14 0).C 3).I)]]).bind fun d16 => ((E C 177 [.pbox [.shr 5 (((rd d14 2).C 0).L), .int .i64 (((rd d14 0).C 3).I), .bool (((rd d14 2).C 2).B), .bool (((rd d14 2).C 3).B), .bool (((rd d14 2).C 4).B), .bool (((rd d14 2).C 5).B), .int .i64 (((rd d14 2).C 6).I), .own 0 8 9 (((rd d14 2).C 7).L), .int .i64 (((rd d14 2).C 8).I), .int .i64 (((rd d14 2).C 9).I)]]).bind fun d17 => ((E C 181 [.shr 5 (((rd d17 0).C 0).L), .int .i64 (((rd d17 0).C 1).I)]).bind fun d18 => (bif (rd d18 1).B then ((E C 68 [.pbox [.shr 5 (((rd d17 0).C 0).L), .int .i64 (((rd d17 0).C 1).I), .bool (((rd d17 0).C 2).B), .bool (((rd d17 0).C 3).B), .bool (((rd d17 0).C 4).B), .bool (((rd d17 0).C 5).B), .int .i64 (((rd d17 0).C 6).I), .own 0 8 9 (((rd d17 0).C 7).L), .int .i64 (((rd d17 0).C 8).I), .int .i64 (((rd d17 0).C 9).I)], .int .i64 31, .int .i64 (((rd d17 0).C 1).I)]).bind fun d19 => (bif (((rd d16 0).C 0).I) == 0 then (some [.list ([] : List Dat), .agg [.list (((rd d19 0).C 0).L), .int (((rd d19 0).C 1).I), .bool (((rd d19 0).C 2).B), .bool (((rd d19 0).C 3).B), .bool (((rd d19 0).C 4).B), .bool (((rd d19 0).C 5).B), .int (((rd d19 0).C 6).I), .list (((rd d19 0).C 7).L), .int (((rd d19 0).C 8).I), .int (((rd d19 0).C 9).I)]]) else (some [.list ([.agg [.int (((rd d16 0).C 0).I), .int (((rd d16 0).C 1).I), .int (((rd d16 0).C 2).I), .int (((rd d16 0).C 3).I), .int (((rd d16 0).C 4).I), .int (((rd d16 0).C 5).I), .int (((rd d16 0).C 6).I), .str (((rd d16 0).C 7).S), .list (((rd d16 0).C 8).L), .list (((rd d16 0).C 9).L), .list (((rd d16 0).C 10).L)]] : List Dat), .agg [.list (((rd d19 0).C 0).L), .int (((rd d19 0).C 1).I), .bool (((rd d19 0).C 2).B), .bool (((rd d19 0).C 3).B), .bool (((rd d19 0).C 4).B), .bool (((rd d19 0).C 5).B), .int (((rd d19 0).C 6).I), .list (((rd d19 0).C 7).L), .int (((rd d19 0).C 8).I), .int (((rd d19 0).C 9).I)]]))) else (bif ((rd d18 2).I) != 0 then ((E C 68 [.pbox [.shr 5 (((rd d17 0).C 0).L), .int .i64 (((rd d17 0).C 1).I), .bool (((rd d17 0).C 2).B), .bool (((rd d17 0).C 3).B), .bool (((rd d17 0).C 4).B), .bool (((rd d17 0).C 5).B), .int .i64 (((rd d17 0).C 6).I), .own 0 8 9 (((rd d17 0).C 7).L), .int .i64 (((rd d17 0).C 8).I), .int .i64 (((rd d17 0).C 9).I)], .int .i64 31, .int .i64 (((rd d17 0).C 1).I)]).bind fun d20 => (bif (((rd d16 0).C 0).I) == 0 then (some [.list ([] : List Dat), .agg [.list (((rd d20 0).C 0).L), .int (((rd d20 0).C 1).I), .bool (((rd d20 0).C 2).B), .bool (((rd d20 0).C 3).B), .bool (((rd d20 0).C 4).B), .bool (((rd d20 0).C 5).B), .int (((rd d20 0).C 6).I), .list (((rd d20 0).C 7).L), .int (((rd d20 0).C 8).I), .int (((rd d20 0).C 9).I)]]) else (some [.list ([.agg [.int (((rd d16 0).C 0).I), .int (((rd d16 0).C 1).I), .int (((rd d16 0).C 2).I), .int (((rd d16 0).C 3).I), .int (((rd d16 0).C 4).I), .int (((rd d16 0).C 5).I), .int (((rd d16 0).C 6).I), .str (((rd d16 0).C 7).S), .list (((rd d16 0).C 8).L), .list (((rd d16 0).C 9).L), .list (((rd d16 0).C 10).L)]] : List Dat), .agg [.list (((rd d20 0).C 0).L), .int (((rd d20 0).C 1).I), .bool (((rd d20 0).C 2).B), .bool (((rd d20 0).C 3).B), .bool (((rd d20 0).C 4).B), .bool (((rd d20 0).C 5).B), .int (((rd d20 0).C 6).I), .list (((rd d20 0).C 7).L), .int (((rd d20 0).C 8).I), .int (((rd d20 0).C 9).I)]]))) else (bif (((rd d16 0).C 0).I) == 0 then (some [.list ([] : List Dat), .agg [.list (((rd d17 0).C 0).L), .int (((rd d17 0).C 1).I), .bool (((rd d17 0).C 2).B), .bool (((rd d17 0).C 3).B), .bool (((rd d17 0).C 4).B), .bool (((rd d17 0).C 5).B), .int (((rd d17 0).C 6).I), .list (((rd d17 0).C 7).L), .int (((rd d17 0).C 8).I), .int (((rd d17 0).C 9).I)]]) else (some [.list ([.agg [.int (((rd d16 0).C 0).I), .int (((rd d16 0).C 1).I), .int (((rd d16 0).C 2).I), .int (((rd d16 0).C 3).I), .int (((rd d16 0).C 4).I), .int (((rd d16 0).C 5).I), .int (((rd d16 0).C 6).I), .str (((rd d16 0).C 7).S), .list (((rd d16 0).C 8).L), .list (((rd d16 0).C 9).L), .list (((rd d16 0).C 10).L)]] : List Dat), .agg [.list (((rd d17 0).C 0).L), .int (((rd d17 0).C 1).I), .bool (((rd d17 0).C 2).B), .bool (((rd d17 0).C 3).B), .bool (((rd d17 0).C 4).B), .bool (((rd d17 0).C 5).B), .int (((rd d17 0).C 6).I), .list (((rd d17 0).C 7).L), .int (((rd d17 0).C 8).I), .int (((rd d17 0).C 9).I)]])))))))) else (bif (((rd d12 0).C 0).I) == 0 then (some [.list ([] : List Dat), .agg [.list (((rd d14 2).C 0).L), .int (((rd d14 2).C 1).I), .bool (((rd d14 2).C 2).B), .bool (((rd d14 2).C 3).B), .bool (((rd d14 2).C 4).B), .bool (((rd d14 2).C 5).B), .int (((rd d14 2).C 6).I), .list (((rd d14 2).C 7).L), .int (((rd d14 2).C 8).I), .int (((rd d14 2).C 9).I)]]) else (some [.list ([.agg [.int (((rd d12 0).C 0).I), .int (((rd d12 0).C 1).I), .int (((rd d12 0).C 2).I), .int (((rd d12 0).C 3).I), .int (((rd d12 0).C 4).I), .int (((rd d12 0).C 5).I), .int (((rd d12 0).C 6).I), .str (((rd d12 0).C 7).S), .list (((rd d12 0).C 8).L), .list (((rd d12 0).C 9).L), .list (((rd d12 0).C 10).L)]] : List Dat), .agg [.list (((rd d14 2).C 0).L), .int (((rd d14 2).C 1).I), .bool (((rd d14 2).C 2).B), .bool (((rd d14 2).C 3).B), .bool (((rd d14 2).C 4).B), .bool (((rd d14 2).C 5).B), .int (((rd d14 2).C 6).I), .list (((rd d14 2).C 7).L), .int (((rd d14 2).C 8).I), .int (((rd d14 2).C 9).I)]]))))))))) : R) = some r) : E C 148 [.pbox [.shr 5 p0_0, .int .i64 p0_1, .bool p0_2, .bool p0_3, .bool p0_4, .bool p0_5, .int .i64 p0_6, .own 0 8 9 p0_7, .int .i64 p0_8, .int .i64 p0_9], .int .i64 a1] = some r := E_st h (Cont.bind (Cont.call C 178 _) fun _ => (Cont.bif (Cont.bind (Cont.call C 68 _) fun _ => (Cont.bif (Cont.const _) (Cont.bind (Cont.call C 179 _) fun _ => (Cont.bif (Cont.const _) (Cont.bind (Cont.call C 177 _) fun _ => (Cont.bind (Cont.call C 178 _) fun _ => (Cont.bif (Cont.bif (Cont.bind (Cont.call C 68 _) fun _ => (Cont.const _)) (Cont.bind (Cont.call C 180 _) fun _ => (Cont.bind (Cont.call C 177 _) fun _ => (Cont.bind (Cont.call C 181 _) fun _ => (Cont.bif (Cont.bind (Cont.call C 68 _) fun _ => (Cont.bif (Cont.const _) (Cont.const _))) (Cont.bif (Cont.bind (Cont.call C 68 _) fun _ => (Cont.bif (Cont.const _) (Cont.const _))) (Cont.bif (Cont.const _) (Cont.const _)))))))) (Cont.bif (Cont.const _) (Cont.const _))))))))) (Cont.bif (Cont.const _) (Cont.bind (Cont.call C 179 _) fun _ => (Cont.bif (Cont.const _) (Cont.bind (Cont.call C 177 _) fun _ => (Cont.bind (Cont.call C 178 _) fun _ => (Cont.bif (Cont.bif (Cont.bind (Cont.call C 68 _) fun _ => (Cont.const _)) (Cont.bind (Cont.call C 180 _) fun _ => (Cont.bind (Cont.call C 177 _) fun _ => (Cont.bind (Cont.call C 181 _) fun _ => (Cont.bif (Cont.bind (Cont.call C 68 _) fun _ => (Cont.bif (Cont.const _) (Cont.const _))) (Cont.bif (Cont.bind (Cont.call C 68 _) fun _ => (Cont.bif (Cont.const _) (Cont.const _))) (Cont.bif (Cont.const _) (Cont.const _)))))))) (Cont.bif (Cont.const _) (Cont.const _)))))))))) fun φ => by kernel_rfl
theorem o177 (p0_0 : List Dat) (p0_1 : Int) (p0_2 p0_3 p0_4 p0_5 : Bool) (p0_6 : Int) (p0_7 : List Dat) (p0_8 p0_9 : Int) {r : List Dat} (h : (bif p0_5 then ((E C 205 [.shr 5 p0_0, .int .i64 p0_1]).bind fun d1 => (some [.agg [.list p0_0, .int ((rd d1 0).I), .bool p0_2, .bool p0_3, .bool p0_4, .bool p0_5, .int p0_6, .list p0_7, .int p0_8, .int p0_9]])) else (some [.agg [.list p0_0, .int p0_1, .bool p0_2, .bool p0_3, .bool p0_4, .bool p0_5, .int p0_6, .list p0_7, .int p0_8, .int p0_9]]) : R) = some r) : E C 177 [.pbox [.shr 5 p0_0, .int .i64 p0_1, .bool p0_2, .bool p0_3, .bool p0_4, .bool p0_5, .int .i64 p0_6, .own 0 8 9 p0_7, .int .i64 p0_8, .int .i64 p0_9]] = some r := E_st h (Cont.bif (Cont.bind (Cont.call C 205 _) fun _ => (Cont.const _)) (Cont.const _)) fun φ => by kernel_rfl
theorem o178 (p0_0 : List Dat) (p0_1 : Int) (p0_2 p0_3 p0_4 p0_5 : Bool) (p0_6 : Int) (p0_7 : List Dat) (p0_8 p0_9 : Int) {r : List Dat} (h : ((E C 181 [.shr 5 p0_0, .int .i64 p0_1]).bind fun d1 => (bif ((rd d1 2).I) != 0 then ((E C 68 [.pbox [.shr 5 p0_0, .int .i64 p0_1, .bool p0_2, .bool p0_3, .bool p0_4, .bool p0_5, .int .i64 p0_6, .own 0 8 9 p0_7, .int .i64 p0_8, .int .i64 p0_9], .int .i64 ((rd d1 2).I), .int .i64 p0_1]).bind fun d2 => (bif (rd d1 1).B then (some [.agg [.int (((rd d1 0).C 0).I), .int (((rd d1 0).C 1).I), .int (((rd d1 0).C 2).I), .int (((rd d1 0).C 3).I)], .bool ((((rd d2 0).C 8).I) == 0), .agg [.list (((rd d2 0).C 0).L), .int (((rd d2 0).C 1).I), .bool (((rd d2 0).C 2).B), .bool (((rd d2 0).C 3).B), .bool (((rd d2 0).C 4).B), .bool (((rd d2 0).C 5).B), .int (((rd d2 0).C 6).I), .list (((rd d2 0).C 7).L), .int (((rd d2 0).C 8).I), .int (((rd d2 0).C 9).I)]]) else (some [.agg [.int (((rd d1 0).C 0).I), .int (((rd d1 0).C 1).I), .int (((rd d1 0).C 2).I), .int (((rd d1 0).C 3).I)], .bool false, .agg [.list (((rd d2 0).C 0).L), .int (((rd d2 0).C 1).I), .bool (((rd d2 0).C 2).B), .bool (((rd d2 0).C 3).B), .bool (((rd d2 0).C 4).B), .bool (((rd d2 0).C 5).B), .int (((rd d2 0).C 6).I), .list (((rd d2 0).C 7).L), .int (((rd d2 0).C 8).I), .int (((rd d2 0).C 9).I)]]))) else (bif (rd d1 1).B then (some [.agg [.int (((rd d1 0).C 0).I), .int (((rd d1 0).C 1).I), .int (((rd d1 0).C 2).I), .int (((rd d1 0).C 3).I)], .bool (p0_8 == 0), .agg [.list p0_0, .int p0_1, .bool p0_2, .bool p0_3, .bool p0_4, .bool p0_5, .int p0_6, .list p0_7, .int p0_8, .int p0_9]]) else (some [.agg [.int (((rd d1 0).C 0).I), .int (((rd d1 0).C 1).I), .int (((rd d1 0).C 2).I), .int (((rd d1 0).C 3).I)], .bool false, .agg [.list p0_0, .int p0_1, .bool p0_2, .bool p0_3, .bool p0_4, .bool p0_5, .int p0_6, .list p0_7, .int p0_8, .int p0_9]]))) : R) = some r) : E C 178 [.pbox [.shr 5 p0_0, .int .i64 p0_1, .bool p0_2, .bool p0_3, .bool p0_4, .bool p0_5, .int .i64 p0_6, .own 0 8 9 p0_7, .int .i64 p0_8, .int .i64 p0_9]] = some r := E_st h (Cont.bind (Cont.call C 181 _) fun _ => (Cont.bif (Cont.bind (Cont.call C 68 _) fun _ => (Cont.bif (Cont.const _) (Cont.const _))) (Cont.bif (Cont.const _) (Cont.const _)))) fun φ => by kernel_rfl
theorem o179 (p0_0 : List Dat) (p0_1 : Int) (p0_2 p0_3 p0_4 p0_5 : Bool) (p0_6 : Int) (p0_7 : List Dat) (p0_8 p0_9 a1 : Int) {r : List Dat} (h : ((E C 109 [.pbox [.shr 5 p0_0, .int .i64 p0_1, .bool p0_2, .bool p0_3, .bool p0_4, .bool p0_5, .int .i64 p0_6, .own 0 8 9 p0_7, .int .i64 p0_8, .int .i64 p0_9], .int .i64 p0_1]).bind fun d1 => (bif ((rd d1 0).I) == 40 then ((E C 206 [.pbox [.shr 5 (((rd d1 1).C 0).L), .int .i64 (((rd d1 1).C 1).I), .bool (((rd d1 1).C 2).B), .bool (((rd d1 1).C 3).B), .bool (((rd d1 1).C 4).B), .bool (((rd d1 1).C 5).B), .int .i64 (((rd d1 1).C 6).I), .own 0 8 9 (((rd d1 1).C 7).L), .int .i64 (((rd d1 1).C 8).I), .int .i64 (((rd d1 1).C 9).I)], .int .i64 (IntKind.i64.wrap (a1 + 1))]).bind fun d2 => (some [.agg [.int (((rd d2 0).C 0).I), .int (((rd d2 0).C 1).I), .int (((rd d2 0).C 2).I), .int (((rd d2 0).C 3).I), .int (((rd d2 0).C 4).I), .int (((rd d2 0).C 5).I), .int (((rd d2 0).C 6).I), .str (((rd d2 0).C 7).S), .list (((rd d2 0).C 8).L), .list (((rd d2 0).C 9).L), .list (((rd d2 0).C 10).L)], .bool ((rd d2 1).B), .agg [.list (((rd d2 2).C 0).L), .int (((rd d2 2).C 1).I), .bool (((rd d2 2).C 2).B), .bool (((rd d2 2).C 3).B), .bool (((rd d2 2).C 4).B), .bool (((rd d2 2).C 5).B), .int (((rd d2 2).C 6).I), .list (((rd d2 2).C 7).L), .int (((rd d2 2).C 8).I), .int (((rd d2 2).C 9).I)]])) else (bif ((rd d1 0).I) == 91 then ((E C 207 [.shr 5 (((rd d1 1).C 0).L), .int .i64 p0_1, .bool (((rd d1 1).C 2).B)]).bind fun d3 => (bif ((rd d3 2).I) != 0 then ((E C 68 [.pbox [.shr 5 (((rd d1 1).C 0).L), .int .i64 (((rd d1 1).C 1).I), .bool (((rd d1 1).C 2).B), .bool (((rd d1 1).C 3).B), .bool (((rd d1 1).C 4).B), .bool (((rd d1 1).C 5).B), .int .i64 (((rd d1 1).C 6).I), .own 0 8 9 (((rd d1 1).C 7).L), .int .i64 (((rd d1 1).C 8).I), .int .i64 (((rd d1 1).C 9).I)], .int .i64 ((rd d3 2).I), .int .i64 ((rd d3 3).I)]).bind fun d4 => (some [.agg [.int 0, .int 0, .int 0, .int 0, .int 0, .int 0, .int 0, .str ByteArray.empty, .list ([] : List Dat), .list ([] : List Dat), .list ([] : List Dat)], .bool false, .agg [.list (((rd d4 0).C 0).L), .int (((rd d4 0).C 1).I), .bool (((rd d4 0).C 2).B), .bool (((rd d4 0).C 3).B), .bool (((rd d4 0).C 4).B), .bool (((rd d4 0).C 5).B), .int (((rd d4 0).C 6).I), .list (((rd d4 0).C 7).L), .int (((rd d4 0).C 8).I), .int (((rd d4 0).C 9).I)]])) else ((E C 208 [.pbox [.shr 5 (((rd d1 1).C 0).L), .int .i64 (((rd d1 1).C 1).I), .bool (((rd d1 1).C 2).B), .bool (((rd d1 1).C 3).B), .bool (((rd d1 1).C 4).B), .bool (((rd d1 1).C 5).B), .int .i64 (((rd d1 1).C 6).I), .own 0 8 9 (((rd d1 1).C 7).L), .int .i64 (((rd d1 1).C 8).I), .int .i64 (((rd d1 1).C 9).I)], .int .i64 p0_1, .int .i64 ((rd d3 1).I), .shr 82 ((rd d3 0).L)]).bind fun d5 => (some [.agg [.int (((rd d5 0).C 0).I), .int (((rd d5 0).C 1).I), .int (((rd d5 0).C 2).I), .int (((rd d5 0).C 3).I), .int (((rd d5 0).C 4).I), .int (((rd d5 0).C 5).I), .int (((rd d5 0).C 6).I), .str (((rd d5 0).C 7).S), .list (((rd d5 0).C 8).L), .list (((rd d5 0).C 9).L), .list (((rd d5 0).C 10).L)], .bool true, .agg [.list (((rd d5 1).C 0).L), .int (((rd d5 1).C 1).I), .bool (((rd d5 1).C 2).B), .bool (((rd d5 1).C 3).B), .bool (((rd d5 1).C 4).B), .bool (((rd d5 1).C 5).B), .int (((rd d5 1).C 6).I), .list (((rd d5 1).C 7).L), .int (((rd d5 1).C 8).I), .int (((rd d5 1).C 9).I)]])))) else (bif ((rd d1 0).I) == 46 then ((E C 209 [.bool (((rd d1 1).C 4).B)]).bind fun d6 => ((E C 208 [.pbox [.shr 5 (((rd d1 1).C 0).L), .int .i64 (((rd d1 1).C 1).I), .bool (((rd d1 1).C 2).B), .bool (((rd d1 1).C 3).B), .bool (((rd d1 1).C 4).B), .bool (((rd d1 1).C 5).B), .int .i64 (((rd d1 1).C 6).I), .own 0 8 9 (((rd d1 1).C 7).L), .int .i64 (((rd d1 1).C 8).I), .int .i64 (((rd d1 1).C 9).I)], .int .i64 p0_1, .int .i64 (IntKind.i64.wrap (p0_1 + 1)), .shr 82 ((rd d6 0).L)]).bind fun d7 => (some [.agg [.int (((rd d7 0).C 0).I), .int (((rd d7 0).C 1).I), .int (((rd d7 0).C 2).I), .int (((rd d7 0).C 3).I), .int (((rd d7 0).C 4).I), .int (((rd d7 0).C 5).I), .int (((rd d7 0).C 6).I), .str (((rd d7 0).C 7).S), .list (((rd d7 0).C 8).L), .list (((rd d7 0).C 9).L), .list (((rd d7 0).C 10).L)], .bool true, .agg [.list (((rd d7 1).C 0).L), .int (((rd d7 1).C 1).I), .bool (((rd d7 1).C 2).B), .bool (((rd d7 1).C 3).B), .bool (((rd d7 1).C 4).B), .bool (((rd d7 1).C 5).B), .int (((rd d7 1).C 6).I), .list (((rd d7 1).C 7).L), .int (((rd d7 1).C 8).I), .int (((rd d7 1).C 9).I)]]))) else (bif ((rd d1 0).I) == 94 then ((E C 211 [.bool (((rd d1 1).C 3).B), .int .i64 4, .int .i64 1]).bind fun d8 => ((E C 210 [.pbox [.shr 5 (((rd d1 1).C 0).L), .int .i64 (((rd d1 1).C 1).I), .bool (((rd d1 1).C 2).B), .bool (((rd d1 1).C 3).B), .bool (((rd d1 1).C 4).B), .bool (((rd d1 1).C 5).B), .int .i64 (((rd d1 1).C 6).I), .own 0 8 9 (((rd d1 1).C 7).L), .int .i64 (((rd d1 1).C 8).I), .int .i64 (((rd d1 1).C 9).I)], .int .i64 p0_1, .int .i64 (IntKind.i64.wrap (p0_1 + 1)), .int .i64 ((rd d8 0).I)]).bind fun d9 => (some [.agg [.int (((rd d9 0).C 0).I), .int (((rd d9 0).C 1).I), .int (((rd d9 0).C 2).I), .int (((rd d9 0).C 3).I), .int (((rd d9 0).C 4).I), .int (((rd d9 0).C 5).I), .int (((rd d9 0).C 6).I), .str (((rd d9 0).C 7).S), .list (((rd d9 0).C 8).L), .list (((rd d9 0).C 9).L), .list (((rd d9 0).C 10).L)], .bool false, .agg [.list (((rd d9 1).C 0).L), .int (((rd d9 1).C 1).I), .bool (((rd d9 1).C 2).B), .bool (((rd d9 1).C 3).B), .bool (((rd d9 1).C 4).B), .bool (((rd d9 1).C 5).B), .int (((rd d9 1).C 6).I), .list (((rd d9 1).C 7).L), .int (((rd d9 1).C 8).I), .int (((rd d9 1).C 9).I)]]))) else (bif ((rd d1 0).I) == 36 then ((E C 211 [.bool (((rd d1 1).C 3).B), .int .i64 5, .int .i64 2]).bind fun d10 => ((E C 210 [.pbox [.shr 5 (((rd d1 1).C 0).L), .int .i64 (((rd d1 1).C 1).I), .bool (((rd d1 1).C 2).B), .bool (((rd d1 1).C 3).B), .bool (((rd d1 1).C 4).B), .bool (((rd d1 1).C 5).B), .int .i64 (((rd d1 1).C 6).I), .own 0 8 9 (((rd d1 1).C 7).L), .int .i64 (((rd d1 1).C 8).I), .int .i64 (((rd d1 1).C 9).I)], .int .i64 p0_1, .int .i64 (IntKind.i64.wrap (p0_1 + 1)), .int .i64 ((rd d10 0).I)]).bind fun d11 => (some [.agg [.int (((rd d11 0).C 0).I), .int (((rd d11 0).C 1).I), .int (((rd d11 0).C 2).I), .int (((rd d11 0).C 3).I), .int (((rd d11 0).C 4).I), .int (((rd d11 0).C 5).I), .int (((rd d11 0).C 6).I), .str (((rd d11 0).C 7).S), .list (((rd d11 0).C 8).L), .list (((rd d11 0).C 9).L), .list (((rd d11 0).C 10).L)], .bool false, .agg [.list (((rd d11 1).C 0).L), .int (((rd d11 1).C 1).I), .bool (((rd d11 1).C 2).B), .bool (((rd d11 1).C 3).B), .bool (((rd d11 1).C 4).B), .bool (((rd d11 1).C 5).B), .int (((rd d11 1).C 6).I), .list (((rd d11 1).C 7).L), .int (((rd d11 1).C 8).I), .int (((rd d11 1).C 9).I)]]))) else (bif ((rd d1 0).I) == 92 then ((E C 212 [.pbox [.shr 5 (((rd d1 1).C 0).L), .int .i64 (((rd d1 1).C 1).I), .bool (((rd d1 1).C 2).B), .bool (((rd d1 1).C 3).B), .bool (((rd d1 1).C 4).B), .bool (((rd d1 1).C 5).B), .int .i64 (((rd d1 1).C 6).I), .own 0 8 9 (((rd d1 1).C 7).L), .int .i64 (((rd d1 1).C 8).I), .int .i64 (((rd d1 1).C 9).I)]]).bind fun d12 => (some [.agg [.int (((rd d12 0).C 0).I), .int (((rd d12 0).C 1).I), .int (((rd d12 0).C 2).I), .int (((rd d12 0).C 3).I), .int (((rd d12 0).C 4).I), .int (((rd d12 0).C 5).I), .int (((rd d12 0).C 6).I), .str (((rd d12 0).C 7).S), .list (((rd d12 0).C 8).L), .list (((rd d12 0).C 9).L), .list (((rd d12 0).C 10).L)], .bool ((((rd d12 0).C 0).I) != 3), .agg [.list (((rd d12 1).C 0).L), .int (((rd d12 1).C 1).I), .bool (((rd d12 1).C 2).B), .bool (((rd d12 1).C 3).B), .bool (((rd d12 1).C 4).B), .bool (((rd d12 1).C 5).B), .int (((rd d12 1).C 6).I), .list (((rd d12 1).C 7).L), .int (((rd d12 1).C 8).I), .int (((rd d12 1).C 9).I)]])) else ((E C 213 [.shr 5 (((rd d1 1).C 0).L), .int .i64 p0_1]).bind fun d13 => ((E C 215 [.int .i64 ((rd d13 0).I)]).bind fun d14 => ((E C 214 [.pbox [.shr 5 (((rd d1 1).C 0).L), .int .i64 (((rd d1 1).C 1).I), .bool (((rd d1 1).C 2).B), .bool (((rd d1 1).C 3).B), .bool (((rd d1 1).C 4).B), .bool (((rd d1 1).C 5).B), .int .i64 (((rd d1 1).C 6).I), .own 0 8 9 (((rd d1 1).C 7).L), .int .i64 (((rd d1 1).C 8).I), .int .i64 (((rd d1 1).C 9).I)], .shr 82 ((rd d14 0).L)]).bind fun d15 => ((E C 208 [.pbox [.shr 5 (((rd d15 1).C 0).L), .int .i64 (((rd d15 1).C 1).I), .bool (((rd d15 1).C 2).B), .bool (((rd d15 1).C 3).B), .bool (((rd d15 1).C 4).B), .bool (((rd d15 1).C 5).B), .int .i64 (((rd d15 1).C 6).I), .own 0 8 9 (((rd d15 1).C 7).L), .int .i64 (((rd d15 1).C 8).I), .int .i64 (((rd d15 1).C 9).I)], .int .i64 p0_1, .int .i64 (IntKind.i64.wrap (p0_1 + ((rd d13 1).I))), .shr 82 ((rd d15 0).L)]).bind fun d16 => (some [.agg [.int (((rd d16 0).C 0).I), .int (((rd d16 0).C 1).I), .int (((rd d16 0).C 2).I), .int (((rd d16 0).C 3).I), .int (((rd d16 0).C 4).I), .int (((rd d16 0).C 5).I), .int (((rd d16 0).C 6).I), .str (((rd d16 0).C 7).S), .list (((rd d16 0).C 8).L), .list (((rd d16 0).C 9).L), .list (((rd d16 0).C 10).L)], .bool true, .agg [.list (((rd d16 1).C 0).L), .int (((rd d16 1).C 1).I), .bool (((rd d16 1).C 2).B), .bool (((rd d16 1).C 3).B), .bool (((rd d16 1).C 4).B), .bool (((rd d16 1).C 5).B), .int (((rd d16 1).C 6).I), .list (((rd d16 1).C 7).L), .int (((rd d16 1).C 8).I), .int (((rd d16 1).C 9).I)]]))))))))))) : R) = some r) : E C 179 [.pbox [.shr 5 p0_0, .int .i64 p0_1, .bool p0_2, .bool p0_3, .bool p0_4, .bool p0_5, .int .i64 p0_6, .own 0 8 9 p0_7, .int .i64 p0_8, .int .i64 p0_9], .int .i64 a1] = some r := E_st h (Cont.bind (Cont.call C 109 _) fun _ => (Cont.bif (Cont.bind (Cont.call C 206 _) fun _ => (Cont.const _)) (Cont.bif (Cont.bind (Cont.call C 207 _) fun _ => (Cont.bif (Cont.bind (Cont.call C 68 _) fun _ => (Cont.const _)) (Cont.bind (Cont.call C 208 _) fun _ => (Cont.const _)))) (Cont.bif (Cont.bind (Cont.call C 209 _) fun _ => (Cont.bind (Cont.call C 208 _) fun _ => (Cont.const _))) (Cont.bif (Cont.bind (Cont.call C 211 _) fun _ => (Cont.bind (Cont.call C 210 _) fun _ => (Cont.const _))) (Cont.bif (Cont.bind (Cont.call C 211 _) fun _ => (Cont.bind (Cont.call C 210 _) fun _ => (Cont.const _))) (Cont.bif (Cont.bind (Cont.call C 212 _) fun _ => (Cont.const _)) (Cont.bind (Cont.call C 213 _) fun _ => (Cont.bind (Cont.call C 215 _) fun _ => (Cont.bind (Cont.call C 214 _) fun _ => (Cont.bind (Cont.call C 208 _) fun _ => (Cont.const _)))))))))))) fun φ => by kernel_rfl
theorem o180 (a0_0 a0_1 a0_2 a0_3 a0_4 a0_5 a0_6 : Int) (a0_7 : ByteArray) (a0_8 a0_9 a0_10 : List Dat) (a1 a2_0 a2_1 a2_2 a2_3 : Int) {r : List Dat} (h : ((E C 211 [.bool (a2_2 == 1), .int .i64 1, .int .i64 0]).bind fun d1 => (bif decide (a2_2 ≤ 1) then (some [.agg [.int 8, .int a1, .int a2_3, .int 0, .int a2_0, .int a2_1, .int ((rd d1 0).I), .str ByteArray.empty, .list ([] : List Dat), .list ([] : List Dat), .list ([.agg [.int a0_0, .int a0_1, .int a0_2, .int a0_3, .int a0_4, .int a0_5, .int a0_6, .str a0_7, .list a0_8, .list a0_9, .list a0_10]] : List Dat)]]) else (some [.agg [.int 9, .int a1, .int a2_3, .int 0, .int 0, .int 0, .int 0, .str ByteArray.empty, .list ([] : List Dat), .list ([] : List Dat), .list ([.agg [.int 8, .int a1, .int a2_3, .int 0, .int a2_0, .int a2_1, .int ((rd d1 0).I), .str ByteArray.empty, .list ([] : List Dat), .list ([] : List Dat), .list ([.agg [.int a0_0, .int a0_1, .int a0_2, .int a0_3, .int a0_4, .int a0_5, .int a0_6, .str a0_7, .list a0_8, .list a0_9, .list a0_10]] : List Dat)]] : List Dat)]])) : R) = some r) : E C 180 [.agg [.int .i64 a0_0, .int .i64 a0_1, .int .i64 a0_2, .int .i64 a0_3, .int .i64 a0_4, .int .i64 a0_5, .int .i64 a0_6, .str a0_7, .shr 82 a0_8, .shr 3 a0_9, .shr 103 a0_10], .int .i64 a1, .agg [.int .i64 a2_0, .int .i64 a2_1, .int .i64 a2_2, .int .i64 a2_3]] = some r := E_st h (Cont.bind (Cont.call C 211 _) fun _ => (Cont.bif (Cont.const _) (Cont.const _))) fun φ => by kernel_rfl
theorem o206 (p0_0 : List Dat) (p0_1 : Int) (p0_2 p0_3 p0_4 p0_5 : Bool) (p0_6 : Int) (p0_7 : List Dat) (p0_8 p0_9 a1 : Int) {r : List Dat} (h : (bif decide (a1 > 100) then ((E C 68 [.pbox [.shr 5 p0_0, .int .i64 p0_1, .bool p0_2, .bool p0_3, .bool p0_4, .bool p0_5, .int .i64 p0_6, .own 0 8 9 p0_7, .int .i64 p0_8, .int .i64 p0_9], .int .i64 39, .int .i64 p0_1]).bind fun d1 => (some [.agg [.int 0, .int 0, .int 0, .int 0, .int 0, .int 0, .int 0, .str ByteArray.empty, .list ([] : List Dat), .list ([] : List Dat), .list ([] : List Dat)], .bool false, .agg [.list (((rd d1 0).C 0).L), .int (((rd d1 0).C 1).I), .bool (((rd d1 0).C 2).B), .bool (((rd d1 0).C 3).B), .bool (((rd d1 0).C 4).B), .bool (((rd d1 0).C 5).B), .int (((rd d1 0).C 6).I), .list (((rd d1 0).C 7).L), .int (((rd d1 0).C 8).I), .int (((rd d1 0).C 9).I)]])) else ((E C 229 [.pbox [.shr 5 p0_0, .int .i64 p0_1, .bool p0_2, .bool p0_3, .bool p0_4, .bool p0_5, .int .i64 p0_6, .own 0 8 9 p0_7, .int .i64 p0_8, .int .i64 p0_9], .int .i64 p0_1]).bind fun d2 => (bif ((rd d2 0).C 7).B then (some [.agg [.int 0, .int 0, .int 0, .int 0, .int 0, .int 0, .int 0, .str ByteArray.empty, .list ([] : List Dat), .list ([] : List Dat), .list ([] : List Dat)], .bool false, .agg [.list (((rd d2 1).C 0).L), .int (((rd d2 1).C 1).I), .bool (((rd d2 0).C 3).B), .bool (((rd d2 0).C 4).B), .bool (((rd d2 0).C 5).B), .bool (((rd d2 0).C 6).B), .int (((rd d2 1).C 6).I), .list (((rd d2 1).C 7).L), .int (((rd d2 1).C 8).I), .int (((rd d2 1).C 9).I)]]) else (bif (((rd d2 1).C 8).I) != 0 then (some [.agg [.int 0, .int 0, .int 0, .int 0, .int 0, .int 0, .int 0, .str ByteArray.empty, .list ([] : List Dat), .list ([] : List Dat), .list ([] : List Dat)], .bool false, .agg [.list (((rd d2 1).C 0).L), .int (((rd d2 1).C 1).I), .bool (((rd d2 0).C 3).B), .bool (((rd d2 0).C 4).B), .bool (((rd d2 0).C 5).B), .bool (((rd d2 0).C 6).B), .int (((rd d2 1).C 6).I), .list (((rd d2 1).C 7).L), .int (((rd d2 1).C 8).I), .int (((rd d2 1).C 9).I)]]) else (bif (((rd d2 0).C 0).I) == 7 then (bif (((rd d2 1).C 6).I) == 99 then ((E C 68 [.pbox [.shr 5 (((rd d2 1).C 0).L), .int .i64 (((rd d2 1).C 1).I), .bool (((rd d2 1).C 2).B), .bool (((rd d2 1).C 3).B), .bool (((rd d2 1).C 4).B), .bool (((rd d2 1).C 5).B), .int .i64 (((rd d2 1).C 6).I), .own 0 8 9 (((rd d2 1).C 7).L), .int .i64 (((rd d2 1).C 8).I), .int .i64 (((rd d2 1).C 9).I)], .int .i64 40, .int .i64 p0_1]).bind fun d3 => (some [.agg [.int 0, .int 0, .int 0, .int 0, .int 0, .int 0, .int 0, .str ByteArray.empty, .list ([] : List Dat), .list ([] : List Dat), .list ([] : List Dat)], .bool false, .agg [.list (((rd d3 0).C 0).L), .int (((rd d3 0).C 1).I), .bool (((rd d3 0).C 2).B), .bool (((rd d3 0).C 3).B), .bool (((rd d3 0).C 4).B), .bool (((rd d3 0).C 5).B), .int (((rd d3 0).C 6).I), .list (((rd d3 0).C 7).L), .int (((rd d3 0).C 8).I), .int (((rd d3 0).C 9).I)]])) else (bif decide ((((rd d2 1).C 7).L).length + ([.str (((rd d2 0).C 2).S)] : List Dat).length ≤ capB 16) then ((E C 66 [.pbox [.shr 5 (((rd d2 1).C 0).L), .int .i64 (((rd d2 1).C 1).I), .bool (((rd d2 0).C 3).B), .bool (((rd d2 0).C 4).B), .bool (((rd d2 0).C 5).B), .bool (((rd d2 0).C 6).B), .int .i64 (IntKind.i64.wrap ((((rd d2 1).C 6).I) + 1)), .own 0 8 9 ((((rd d2 1).C 7).L) ++ ([.str (((rd d2 0).C 2).S)] : List Dat)), .int .i64 (((rd d2 1).C 8).I), .int .i64 (((rd d2 1).C 9).I)], .int .i64 a1]).bind fun d4 => ((E C 109 [.pbox [.shr 5 (((rd d4 1).C 0).L), .int .i64 (((rd d4 1).C 1).I), .bool (((rd d2 1).C 2).B), .bool (((rd d2 1).C 3).B), .bool (((rd d2 1).C 4).B), .bool (((rd d2 1).C 5).B), .int .i64 (((rd d4 1).C 6).I), .own 0 8 9 (((rd d4 1).C 7).L), .int .i64 (((rd d4 1).C 8).I), .int .i64 (((rd d4 1).C 9).I)], .int .i64 (((rd d4 1).C 1).I)]).bind fun d5 => (bif ((rd d5 0).I) != 41 then ((E C 68 [.pbox [.shr 5 (((rd d5 1).C 0).L), .int .i64 (((rd d5 1).C 1).I), .bool (((rd d5 1).C 2).B), .bool (((rd d5 1).C 3).B), .bool (((rd d5 1).C 4).B), .bool (((rd d5 1).C 5).B), .int .i64 (((rd d5 1).C 6).I), .own 0 8 9 (((rd d5 1).C 7).L), .int .i64 (((rd d5 1).C 8).I), .int .i64 (((rd d5 1).C 9).I)], .int .i64 30, .int .i64 p0_1]).bind fun d6 => (some [.agg [.int 0, .int 0, .int 0, .int 0, .int 0, .int 0, .int 0, .str ByteArray.empty, .list ([] : List Dat), .list ([] : List Dat), .list ([] : List Dat)], .bool false, .agg [.list (((rd d6 0).C 0).L), .int (((rd d6 0).C 1).I), .bool (((rd d6 0).C 2).B), .bool (((rd d6 0).C 3).B), .bool (((rd d6 0).C 4).B), .bool (((rd d6 0).C 5).B), .int (((rd d6 0).C 6).I), .list (((rd d6 0).C 7).L), .int (((rd d6 0).C 8).I), .int (((rd d6 0).C 9).I)]])) else ((E C 67 [.pbox [.shr 5 (((rd d5 1).C 0).L), .int .i64 (((rd d5 1).C 1).I), .bool (((rd d5 1).C 2).B), .bool (((rd d5 1).C 3).B), .bool (((rd d5 1).C 4).B), .bool (((rd d5 1).C 5).B), .int .i64 (((rd d5 1).C 6).I), .own 0 8 9 (((rd d5 1).C 7).L), .int .i64 (((rd d5 1).C 8).I), .int .i64 (((rd d5 1).C 9).I)]]).bind fun d7 => (bif (rd d7 0).B then ((E C 68 [.pbox [.shr 5 (((rd d7 1).C 0).L), .int .i64 (((rd d7 1).C 1).I), .bool (((rd d7 1).C 2).B), .bool (((rd d7 1).C 3).B), .bool (((rd d7 1).C 4).B), .bool (((rd d7 1).C 5).B), .int .i64 (((rd d7 1).C 6).I), .own 0 8 9 (((rd d7 1).C 7).L), .int .i64 (((rd d7 1).C 8).I), .int .i64 (((rd d7 1).C 9).I)], .int .i64 30, .int .i64 p0_1]).bind fun d8 => (some [.agg [.int 0, .int 0, .int 0, .int 0, .int 0, .int 0, .int 0, .str ByteArray.empty, .list ([] : List Dat), .list ([] : List Dat), .list ([] : List Dat)], .bool false, .agg [.list (((rd d8 0).C 0).L), .int (((rd d8 0).C 1).I), .bool (((rd d8 0).C 2).B), .bool (((rd d8 0).C 3).B), .bool (((rd d8 0).C 4).B), .bool (((rd d8 0).C 5).B), .int (((rd d8 0).C 6).I), .list (((rd d8 0).C 7).L), .int (((rd d8 0).C 8).I), .int (((rd d8 0).C 9).I)]])) else (bif (((rd d2 0).C 0).I) == 0 then (some [.agg [.int (((rd d4 0).C 0).I), .int (((rd d4 0).C 1).I), .int (((rd d4 0).C 2).I), .int (((rd d4 0).C 3).I), .int (((rd d4 0).C 4).I), .int (((rd d4 0).C 5).I), .int (((rd d4 0).C 6).I), .str (((rd d4 0).C 7).S), .list (((rd d4 0).C 8).L), .list (((rd d4 0).C 9).L), .list (((rd d4 0).C 10).L)], .bool true, .agg [.list (((rd d7 1).C 0).L), .int (IntKind.i64.wrap ((((rd d7 1).C 1).I) + 1)), .bool (((rd d7 1).C 2).B), .bool (((rd d7 1).C 3).B), .bool (((rd d7 1).C 4).B), .bool (((rd d7 1).C 5).B), .int (((rd d7 1).C 6).I), .list (((rd d7 1).C 7).L), .int (((rd d7 1).C 8).I), .int (((rd d7 1).C 9).I)]]) else (some [.agg [.int (((rd d2 0).C 0).I), .int p0_1, .int (IntKind.i64.wrap ((((rd d7 1).C 1).I) + 1)), .int (IntKind.i64.wrap ((((rd d2 1).C 6).I) + 1)), .int 0, .int 0, .int 0, .str (((rd d2 0).C 2).S), .list ([] : List Dat), .list ([] : List Dat), .list ([.agg [.int (((rd d4 0).C 0).I), .int (((rd d4 0).C 1).I), .int (((rd d4 0).C 2).I), .int (((rd d4 0).C 3).I), .int (((rd d4 0).C 4).I), .int (((rd d4 0).C 5).I), .int (((rd d4 0).C 6).I), .str (((rd d4 0).C 7).S), .list (((rd d4 0).C 8).L), .list (((rd d4 0).C 9).L), .list (((rd d4 0).C 10).L)]] : List Dat)], .bool true, .agg [.list (((rd d7 1).C 0).L), .int (IntKind.i64.wrap ((((rd d7 1).C 1).I) + 1)), .bool (((rd d7 1).C 2).B), .bool (((rd d7 1).C 3).B), .bool (((rd d7 1).C 4).B), .bool (((rd d7 1).C 5).B), .int (((rd d7 1).C 6).I), .list (((rd d7 1).C 7).L), .int (((rd d7 1).C 8).I), .int (((rd d7 1).C 9).I)]]))))))) else none)) else ((E C 66 [.pbox [.shr 5 (((rd d2 1).C 0).L), .int .i64 (((rd d2 1).C 1).I), .bool (((rd d2 0).C 3).B), .bool (((rd d2 0).C 4).B), .bool (((rd d2 0).C 5).B), .bool (((rd d2 0).C 6).B), .int .i64 (((rd d2 1).C 6).I), .own 0 8 9 (((rd d2 1).C 7).L), .int .i64 (((rd d2 1).C 8).I), .int .i64 (((rd d2 1).C 9).I)], .int .i64 a1]).bind fun d9 => ((E C 109 [.pbox [.shr 5 (((rd d9 1).C 0).L), .int .i64 (((rd d9 1).C 1).I), .bool (((rd d2 1).C 2).B), .bool (((rd d2 1).C 3).B), .bool (((rd d2 1).C 4).B), .bool (((rd d2 1).C 5).B), .int .i64 (((rd d9 1).C 6).I), .own 0 8 9 (((rd d9 1).C 7).L), .int .i64 (((rd d9 1).C 8).I), .int .i64 (((rd d9 1).C 9).I)], .int .i64 (((rd d9 1).C 1).I)]).bind fun d10 => (bif ((rd d10 0).I) != 41 then ((E C 68 [.pbox [.shr 5 (((rd d10 1).C 0).L), .int .i64 (((rd d10 1).C 1).I), .bool (((rd d10 1).C 2).B), .bool (((rd d10 1).C 3).B), .bool (((rd d10 1).C 4).B), .bool (((rd d10 1).C 5).B), .int .i64 (((rd d10 1).C 6).I), .own 0 8 9 (((rd d10 1).C 7).L), .int .i64 (((rd d10 1).C 8).I), .int .i64 (((rd d10 1).C 9).I)], .int .i64 30, .int .i64 p0_1]).bind fun d11 => (some [.agg [.int 0, .int 0, .int 0, .int 0, .int 0, .int 0, .int 0, .str ByteArray.empty, .list ([] : List Dat), .list ([] : List Dat), .list ([] : List Dat)], .bool false, .agg [.list (((rd d11 0).C 0).L), .int (((rd d11 0).C 1).I), .bool (((rd d11 0).C 2).B), .bool (((rd d11 0).C 3).B), .bool (((rd d11 0).C 4).B), .bool (((rd d11 0).C 5).B), .int (((rd d11 0).C 6).I), .list (((rd d11 0).C 7).L), .int (((rd d11 0).C 8).I), .int (((rd d11 0).C 9).I)]])) else ((E C 67 [.pbox [.shr 5 (((rd d10 1).C 0).L), .int .i64 (((rd d10 1).C 1).I), .bool (((rd d10 1).C 2).B), .bool (((rd d10 1).C 3).B), .bool (((rd d10 1).C 4).B), .bool (((rd d10 1).C 5).B), .int .i64 (((rd d10 1).C 6).I), .own 0 8 9 (((rd d10 1).C 7).L), .int .i64 (((rd d10 1).C 8).I), .int .i64 (((rd d10 1).C 9).I)]]).bind fun d12 => (bif (rd d12 0).B then ((E C 68 [.pbox [.shr 5 (((rd d12 1).C 0).L), .int .i64 (((rd d12 1).C 1).I), .bool (((rd d12 1).C 2).B), .bool (((rd d12 1).C 3).B), .bool (((rd d12 1).C 4).B), .bool (((rd d12 1).C 5).B), .int .i64 (((rd d12 1).C 6).I), .own 0 8 9 (((rd d12 1).C 7).L), .int .i64 (((rd d12 1).C 8).I), .int .i64 (((rd d12 1).C 9).I)], .int .i64 30, .int .i64 p0_1]).bind fun d13 => (some [.agg [.int 0, .int 0, .int 0, .int 0, .int 0, .int 0, .int 0, .str ByteArray.empty, .list ([] : List Dat), .list ([] : List Dat), .list ([] : List Dat)], .bool false, .agg [.list (((rd d13 0).C 0).L), .int (((rd d13 0).C 1).I), .bool (((rd d13 0).C 2).B), .bool (((rd d13 0).C 3).B), .bool (((rd d13 0).C 4).B), .bool (((rd d13 0).C 5).B), .int (((rd d13 0).C 6).I), .list (((rd d13 0).C 7).L), .int (((rd d13 0).C 8).I), .int (((rd d13 0).C 9).I)]])) else (bif (((rd d2 0).C 0).I) == 0 then (some [.agg [.int (((rd d9 0).C 0).I), .int (((rd d9 0).C 1).I), .int (((rd d9 0).C 2).I), .int (((rd d9 0).C 3).I), .int (((rd d9 0).C 4).I), .int (((rd d9 0).C 5).I), .int (((rd d9 0).C 6).I), .str (((rd d9 0).C 7).S), .list (((rd d9 0).C 8).L), .list (((rd d9 0).C 9).L), .list (((rd d9 0).C 10).L)], .bool true, .agg [.list (((rd d12 1).C 0).L), .int (IntKind.i64.wrap ((((rd d12 1).C 1).I) + 1)), .bool (((rd d12 1).C 2).B), .bool (((rd d12 1).C 3).B), .bool (((rd d12 1).C 4).B), .bool (((rd d12 1).C 5).B), .int (((rd d12 1).C 6).I), .list (((rd d12 1).C 7).L), .int (((rd d12 1).C 8).I), .int (((rd d12 1).C 9).I)]]) else (some [.agg [.int (((rd d2 0).C 0).I), .int p0_1, .int (IntKind.i64.wrap ((((rd d12 1).C 1).I) + 1)), .int (((rd d2 0).C 1).I), .int 0, .int 0, .int 0, .str (((rd d2 0).C 2).S), .list ([] : List Dat), .list ([] : List Dat), .list ([.agg [.int (((rd d9 0).C 0).I), .int (((rd d9 0).C 1).I), .int (((rd d9 0).C 2).I), .int (((rd d9 0).C 3).I), .int (((rd d9 0).C 4).I), .int (((rd d9 0).C 5).I), .int (((rd d9 0).C 6).I), .str (((rd d9 0).C 7).S), .list (((rd d9 0).C 8).L), .list (((rd d9 0).C 9).L), .list (((rd d9 0).C 10).L)]] : List Dat)], .bool true, .agg [.list (((rd d12 1).C 0).L), .int (IntKind.i64.wrap ((((rd d12 1).C 1).I) + 1)), .bool (((rd d12 1).C 2).B), .bool (((rd d12 1).C 3).B), .bool (((rd d12 1).C 4).B), .bool (((rd d12 1).C 5).B), .int (((rd d12 1).C 6).I), .list (((rd d12 1).C 7).L), .int (((rd d12 1).C 8).I), .int (((rd d12 1).C 9).I)]]))))))))))) : R) = some r) : E C 206 [.pbox [.shr 5 p0_0, .int .i64 p0_1, .bool p0_2, .bool p0_3, .bool p0_4, .bool p0_5, .int .i64 p0_6, .own 0 8 9 p0_7, .int .i64 p0_8, .int .i64 p0_9], .int .i64 a1] = some r := E_st h (Cont.bif (Cont.bind (Cont.call C 68 _) fun _ => (Cont.const _)) (Cont.bind (Cont.call C 229 _) fun _ => (Cont.bif (Cont.const _) (Cont.bif (Cont.const _) (Cont.bif (Cont.bif (Cont.bind (Cont.call C 68 _) fun _ => (Cont.const _)) (Cont.bif (Cont.bind (Cont.call C 66 _) fun _ => (Cont.bind (Cont.call C 109 _) fun _ => (Cont.bif (Cont.bind (Cont.call C 68 _) fun _ => (Cont.const _)) (Cont.bind (Cont.call C 67 _) fun _ => (Cont.bif (Cont.bind (Cont.call C 68 _) fun _ => (Cont.const _)) (Cont.bif (Cont.const _) (Cont.const _))))))) Cont.nn)) (Cont.bind (Cont.call C 66 _) fun _ => (Cont.bind (Cont.call C 109 _) fun _ => (Cont.bif (Cont.bind (Cont.call C 68 _) fun _ => (Cont.const _)) (Cont.bind (Cont.call C 67 _) fun _ => (Cont.bif (Cont.bind (Cont.call C 68 _) fun _ => (Cont.const _)) (Cont.bif (Cont.const _) (Cont.const _)))))))))))) fun φ => by kernel_rfl
theorem o208 (p0_0 : List Dat) (p0_1 : Int) (p0_2 p0_3 p0_4 p0_5 : Bool) (p0_6 : Int) (p0_7 : List Dat) (p0_8 p0_9 a1 a2 : Int) (a3 : List Dat) {r : List Dat} (h : (some [.agg [.int 2, .int a1, .int a2, .int 0, .int 0, .int 0, .int 0, .str ByteArray.empty, .list a3, .list ([] : List Dat), .list ([] : List Dat)], .agg [.list p0_0, .int a2, .bool p0_2, .bool p0_3, .bool p0_4, .bool p0_5, .int p0_6, .list p0_7, .int p0_8, .int p0_9]] : R) = some r) : E C 208 [.pbox [.shr 5 p0_0, .int .i64 p0_1, .bool p0_2, .bool p0_3, .bool p0_4, .bool p0_5, .int .i64 p0_6, .own 0 8 9 p0_7, .int .i64 p0_8, .int .i64 p0_9], .int .i64 a1, .int .i64 a2, .shr 82 a3] = some r := E_st h (Cont.const _) fun φ => by kernel_rfl
theorem o211 (a0 : Bool) (a1 a2 : Int) {r : List Dat} (h : (bif a0 then (some [.int a1]) else (some [.int a2]) : R) = some r) : E C 211 [.bool a0, .int .i64 a1, .int .i64 a2] = some r := E_st h (Cont.bif (Cont.const _) (Cont.const _)) fun φ => by kernel_rfl
theorem o210 (p0_0 : List Dat) (p0_1 : Int) (p0_2 p0_3 p0_4 p0_5 : Bool) (p0_6 : Int) (p0_7 : List Dat) (p0_8 p0_9 a1 a2 a3 : Int) {r : List Dat} (h : (some [.agg [.int 3, .int a1, .int a2, .int a3, .int 0, .int 0, .int 0, .str ByteArray.empty, .list ([] : List Dat), .list ([] : List Dat), .list ([] : List Dat)], .agg [.list p0_0, .int a2, .bool p0_2, .bool p0_3, .bool p0_4, .bool p0_5, .int p0_6, .list p0_7, .int p0_8, .int p0_9]] : R) = some r) : E C 210 [.pbox [.shr 5 p0_0, .int .i64 p0_1, .bool p0_2, .bool p0_3, .bool p0_4, .bool p0_5, .int .i64 p0_6, .own 0 8 9 p0_7, .int .i64 p0_8, .int .i64 p0_9], .int .i64 a1, .int .i64 a2, .int .i64 a3] = some r := E_st h (Cont.const _) fun φ => by kernel_rfl
theorem o212 (p0_0 : List Dat) (p0_1 : Int) (p0_2 p0_3 p0_4 p0_5 : Bool) (p0_6 : Int) (p0_7 : List Dat) (p0_8 p0_9 : Int) {r : List Dat} (h : ((E C 232 [.shr 5 p0_0, .int .i64 p0_1]).bind fun d1 => (bif ((rd d1 1).I) != 0 then ((E C 68 [.pbox [.shr 5 p0_0, .int .i64 p0_1, .bool p0_2, .bool p0_3, .bool p0_4, .bool p0_5, .int .i64 p0_6, .own 0 8 9 p0_7, .int .i64 p0_8, .int .i64 p0_9], .int .i64 ((rd d1 1).I), .int .i64 p0_1]).bind fun d2 => (some [.agg [.int 0, .int 0, .int 0, .int 0, .int 0, .int 0, .int 0, .str ByteArray.empty, .list ([] : List Dat), .list ([] : List Dat), .list ([] : List Dat)], .agg [.list (((rd d2 0).C 0).L), .int (((rd d2 0).C 1).I), .bool (((rd d2 0).C 2).B), .bool (((rd d2 0).C 3).B), .bool (((rd d2 0).C 4).B), .bool (((rd d2 0).C 5).B), .int (((rd d2 0).C 6).I), .list (((rd d2 0).C 7).L), .int (((rd d2 0).C 8).I), .int (((rd d2 0).C 9).I)]])) else (bif (((rd d1 0).C 0).I) == 1 then ((E C 215 [.int .i64 (((rd d1 0).C 2).I)]).bind fun d3 => ((E C 214 [.pbox [.shr 5 p0_0, .int .i64 p0_1, .bool p0_2, .bool p0_3, .bool p0_4, .bool p0_5, .int .i64 p0_6, .own 0 8 9 p0_7, .int .i64 p0_8, .int .i64 p0_9], .shr 82 ((rd d3 0).L)]).bind fun d4 => ((E C 208 [.pbox [.shr 5 (((rd d4 1).C 0).L), .int .i64 (((rd d4 1).C 1).I), .bool (((rd d4 1).C 2).B), .bool (((rd d4 1).C 3).B), .bool (((rd d4 1).C 4).B), .bool (((rd d4 1).C 5).B), .int .i64 (((rd d4 1).C 6).I), .own 0 8 9 (((rd d4 1).C 7).L), .int .i64 (((rd d4 1).C 8).I), .int .i64 (((rd d4 1).C 9).I)], .int .i64 p0_1, .int .i64 (((rd d1 0).C 1).I), .shr 82 ((rd d4 0).L)]).bind fun d5 => (some [.agg [.int (((rd d5 0).C 0).I), .int (((rd d5 0).C 1).I), .int (((rd d5 0).C 2).I), .int (((rd d5 0).C 3).I), .int (((rd d5 0).C 4).I), .int (((rd d5 0).C 5).I), .int (((rd d5 0).C 6).I), .str (((rd d5 0).C 7).S), .list (((rd d5 0).C 8).L), .list (((rd d5 0).C 9).L), .list (((rd d5 0).C 10).L)], .agg [.list (((rd d5 1).C 0).L), .int (((rd d5 1).C 1).I), .bool (((rd d5 1).C 2).B), .bool (((rd d5 1).C 3).B), .bool (((rd d5 1).C 4).B), .bool (((rd d5 1).C 5).B), .int (((rd d5 1).C 6).I), .list (((rd d5 1).C 7).L), .int (((rd d5 1).C 8).I), .int (((rd d5 1).C 9).I)]])))) else (bif (((rd d1 0).C 0).I) == 2 then ((E C 214 [.pbox [.shr 5 p0_0, .int .i64 p0_1, .bool p0_2, .bool p0_3, .bool p0_4, .bool p0_5, .int .i64 p0_6, .own 0 8 9 p0_7, .int .i64 p0_8, .int .i64 p0_9], .shr 82 (((rd d1 0).C 4).L)]).bind fun d6 => ((E C 208 [.pbox [.shr 5 (((rd d6 1).C 0).L), .int .i64 (((rd d6 1).C 1).I), .bool (((rd d6 1).C 2).B), .bool (((rd d6 1).C 3).B), .bool (((rd d6 1).C 4).B), .bool (((rd d6 1).C 5).B), .int .i64 (((rd d6 1).C 6).I), .own 0 8 9 (((rd d6 1).C 7).L), .int .i64 (((rd d6 1).C 8).I), .int .i64 (((rd d6 1).C 9).I)], .int .i64 p0_1, .int .i64 (((rd d1 0).C 1).I), .shr 82 ((rd d6 0).L)]).bind fun d7 => (some [.agg [.int (((rd d7 0).C 0).I), .int (((rd d7 0).C 1).I), .int (((rd d7 0).C 2).I), .int (((rd d7 0).C 3).I), .int (((rd d7 0).C 4).I), .int (((rd d7 0).C 5).I), .int (((rd d7 0).C 6).I), .str (((rd d7 0).C 7).S), .list (((rd d7 0).C 8).L), .list (((rd d7 0).C 9).L), .list (((rd d7 0).C 10).L)], .agg [.list (((rd d7 1).C 0).L), .int (((rd d7 1).C 1).I), .bool (((rd d7 1).C 2).B), .bool (((rd d7 1).C 3).B), .bool (((rd d7 1).C 4).B), .bool (((rd d7 1).C 5).B), .int (((rd d7 1).C 6).I), .list (((rd d7 1).C 7).L), .int (((rd d7 1).C 8).I), .int (((rd d7 1).C 9).I)]]))) else (bif (((rd d1 0).C 0).I) == 3 then ((E C 210 [.pbox [.shr 5 p0_0, .int .i64 p0_1, .bool p0_2, .bool p0_3, .bool p0_4, .bool p0_5, .int .i64 p0_6, .own 0 8 9 p0_7, .int .i64 p0_8, .int .i64 p0_9], .int .i64 p0_1, .int .i64 (((rd d1 0).C 1).I), .int .i64 (((rd d1 0).C 2).I)]).bind fun d8 => (some [.agg [.int (((rd d8 0).C 0).I), .int (((rd d8 0).C 1).I), .int (((rd d8 0).C 2).I), .int (((rd d8 0).C 3).I), .int (((rd d8 0).C 4).I), .int (((rd d8 0).C 5).I), .int (((rd d8 0).C 6).I), .str (((rd d8 0).C 7).S), .list (((rd d8 0).C 8).L), .list (((rd d8 0).C 9).L), .list (((rd d8 0).C 10).L)], .agg [.list (((rd d8 1).C 0).L), .int (((rd d8 1).C 1).I), .bool (((rd d8 1).C 2).B), .bool (((rd d8 1).C 3).B), .bool (((rd d8 1).C 4).B), .bool (((rd d8 1).C 5).B), .int (((rd d8 1).C 6).I), .list (((rd d8 1).C 7).L), .int (((rd d8 1).C 8).I), .int (((rd d8 1).C 9).I)]])) else ((E C 211 [.bool p0_2, .int .i64 1, .int .i64 0]).bind fun d9 => (some [.agg [.int 4, .int p0_1, .int (((rd d1 0).C 1).I), .int (((rd d1 0).C 2).I), .int 0, .int 0, .int ((rd d9 0).I), .str (((rd d1 0).C 3).S), .list ([] : List Dat), .list ([] : List Dat), .list ([] : List Dat)], .agg [.list p0_0, .int (((rd d1 0).C 1).I), .bool p0_2, .bool p0_3, .bool p0_4, .bool p0_5, .int p0_6, .list p0_7, .int p0_8, .int p0_9]])))))) : R) = some r) : E C 212 [.pbox [.shr 5 p0_0, .int .i64 p0_1, .bool p0_2, .bool p0_3, .bool p0_4, .bool p0_5, .int .i64 p0_6, .own 0 8 9 p0_7, .int .i64 p0_8, .int .i64 p0_9]] = some r := E_st h (Cont.bind (Cont.call C 232 _) fun _ => (Cont.bif (Cont.bind (Cont.call C 68 _) fun _ => (Cont.const _)) (Cont.bif (Cont.bind (Cont.call C 215 _) fun _ => (Cont.bind (Cont.call C 214 _) fun _ => (Cont.bind (Cont.call C 208 _) fun _ => (Cont.const _)))) (Cont.bif (Cont.bind (Cont.call C 214 _) fun _ => (Cont.bind (Cont.call C 208 _) fun _ => (Cont.const _))) (Cont.bif (Cont.bind (Cont.call C 210 _) fun _ => (Cont.const _)) (Cont.bind (Cont.call C 211 _) fun _ => (Cont.const _))))))) fun φ => by kernel_rfl
theorem o214 (p0_0 : List Dat) (p0_1 : Int) (p0_2 p0_3 p0_4 p0_5 : Bool) (p0_6 : Int) (p0_7 : List Dat) (p0_8 p0_9 : Int) (a1 : List Dat) {r : List Dat} (h : (bif p0_2 then ((E C 231 [.shr 82 a1]).bind fun d1 => (some [.list ((rd d1 0).L), .agg [.list p0_0, .int p0_1, .bool p0_2, .bool p0_3, .bool p0_4, .bool p0_5, .int p0_6, .list p0_7, .int p0_8, .int p0_9]])) else (some [.list a1, .agg [.list p0_0, .int p0_1, .bool p0_2, .bool p0_3, .bool p0_4, .bool p0_5, .int p0_6, .list p0_7, .int p0_8, .int p0_9]]) : R) = some r) : E C 214 [.pbox [.shr 5 p0_0, .int .i64 p0_1, .bool p0_2, .bool p0_3, .bool p0_4, .bool p0_5, .int .i64 p0_6, .own 0 8 9 p0_7, .int .i64 p0_8, .int .i64 p0_9], .shr 82 a1] = some r := E_st h (Cont.bif (Cont.bind (Cont.call C 231 _) fun _ => (Cont.const _)) (Cont.const _)) fun φ => by kernel_rfl
theorem o229 (p0_0 : List Dat) (p0_1 : Int) (p0_2 p0_3 p0_4 p0_5 : Bool) (p0_6 : Int) (p0_7 : List Dat) (p0_8 p0_9 a1 : Int) {r : List Dat} (h : ((E C 109 [.pbox [.shr 5 p0_0, .int .i64 p0_1, .bool p0_2, .bool p0_3, .bool p0_4, .bool p0_5, .int .i64 p0_6, .own 0 8 9 p0_7, .int .i64 p0_8, .int .i64 p0_9], .int .i64 (IntKind.i64.wrap (a1 + 1))]).bind fun d1 => (bif ((rd d1 0).I) != 63 then (some [.agg [.int 7, .int 0, .str ByteArray.empty, .bool (((rd d1 1).C 2).B), .bool (((rd d1 1).C 3).B), .bool (((rd d1 1).C 4).B), .bool (((rd d1 1).C 5).B), .bool false], .agg [.list (((rd d1 1).C 0).L), .int (IntKind.i64.wrap (a1 + 1)), .bool (((rd d1 1).C 2).B), .bool (((rd d1 1).C 3).B), .bool (((rd d1 1).C 4).B), .bool (((rd d1 1).C 5).B), .int (((rd d1 1).C 6).I), .list (((rd d1 1).C 7).L), .int (((rd d1 1).C 8).I), .int (((rd d1 1).C 9).I)]]) else ((E C 109 [.pbox [.shr 5 (((rd d1 1).C 0).L), .int .i64 (((rd d1 1).C 1).I), .bool (((rd d1 1).C 2).B), .bool (((rd d1 1).C 3).B), .bool (((rd d1 1).C 4).B), .bool (((rd d1 1).C 5).B), .int .i64 (((rd d1 1).C 6).I), .own 0 8 9 (((rd d1 1).C 7).L), .int .i64 (((rd d1 1).C 8).I), .int .i64 (((rd d1 1).C 9).I)], .int .i64 (IntKind.i64.wrap (a1 + 2))]).bind fun d2 => ((E C 109 [.pbox [.shr 5 (((rd d2 1).C 0).L), .int .i64 (((rd d2 1).C 1).I), .bool (((rd d2 1).C 2).B), .bool (((rd d2 1).C 3).B), .bool (((rd d2 1).C 4).B), .bool (((rd d2 1).C 5).B), .int .i64 (((rd d2 1).C 6).I), .own 0 8 9 (((rd d2 1).C 7).L), .int .i64 (((rd d2 1).C 8).I), .int .i64 (((rd d2 1).C 9).I)], .int .i64 (IntKind.i64.wrap (a1 + 3))]).bind fun d3 => (bif ((rd d2 0).I) == 58 then (some [.agg [.int 0, .int 0, .str ByteArray.empty, .bool (((rd d3 1).C 2).B), .bool (((rd d3 1).C 3).B), .bool (((rd d3 1).C 4).B), .bool (((rd d3 1).C 5).B), .bool false], .agg [.list (((rd d3 1).C 0).L), .int (IntKind.i64.wrap (a1 + 3)), .bool (((rd d3 1).C 2).B), .bool (((rd d3 1).C 3).B), .bool (((rd d3 1).C 4).B), .bool (((rd d3 1).C 5).B), .int (((rd d3 1).C 6).I), .list (((rd d3 1).C 7).L), .int (((rd d3 1).C 8).I), .int (((rd d3 1).C 9).I)]]) else (bif ((rd d2 0).I) == 62 then (some [.agg [.int 9, .int 0, .str ByteArray.empty, .bool (((rd d3 1).C 2).B), .bool (((rd d3 1).C 3).B), .bool (((rd d3 1).C 4).B), .bool (((rd d3 1).C 5).B), .bool false], .agg [.list (((rd d3 1).C 0).L), .int (IntKind.i64.wrap (a1 + 3)), .bool (((rd d3 1).C 2).B), .bool (((rd d3 1).C 3).B), .bool (((rd d3 1).C 4).B), .bool (((rd d3 1).C 5).B), .int (((rd d3 1).C 6).I), .list (((rd d3 1).C 7).L), .int (((rd d3 1).C 8).I), .int (((rd d3 1).C 9).I)]]) else (bif ((rd d2 0).I) == 61 then ((E C 244 [.int .u8 ((rd d2 0).I), .int .i64 1, .int .i64 2]).bind fun d4 => (some [.agg [.int 10, .int ((rd d4 0).I), .str ByteArray.empty, .bool (((rd d3 1).C 2).B), .bool (((rd d3 1).C 3).B), .bool (((rd d3 1).C 4).B), .bool (((rd d3 1).C 5).B), .bool false], .agg [.list (((rd d3 1).C 0).L), .int (IntKind.i64.wrap (a1 + 3)), .bool (((rd d3 1).C 2).B), .bool (((rd d3 1).C 3).B), .bool (((rd d3 1).C 4).B), .bool (((rd d3 1).C 5).B), .int (((rd d3 1).C 6).I), .list (((rd d3 1).C 7).L), .int (((rd d3 1).C 8).I), .int (((rd d3 1).C 9).I)]])) else (bif ((rd d2 0).I) == 33 then ((E C 244 [.int .u8 ((rd d2 0).I), .int .i64 1, .int .i64 2]).bind fun d5 => (some [.agg [.int 10, .int ((rd d5 0).I), .str ByteArray.empty, .bool (((rd d3 1).C 2).B), .bool (((rd d3 1).C 3).B), .bool (((rd d3 1).C 4).B), .bool (((rd d3 1).C 5).B), .bool false], .agg [.list (((rd d3 1).C 0).L), .int (IntKind.i64.wrap (a1 + 3)), .bool (((rd d3 1).C 2).B), .bool (((rd d3 1).C 3).B), .bool (((rd d3 1).C 4).B), .bool (((rd d3 1).C 5).B), .int (((rd d3 1).C 6).I), .list (((rd d3 1).C 7).L), .int (((rd d3 1).C 8).I), .int (((rd d3 1).C 9).I)]])) else (bif ((rd d2 0).I) == 35 then ((E C 245 [.pbox [.shr 5 (((rd d3 1).C 0).L), .int .i64 (IntKind.i64.wrap (a1 + 3)), .bool (((rd d3 1).C 2).B), .bool (((rd d3 1).C 3).B), .bool (((rd d3 1).C 4).B), .bool (((rd d3 1).C 5).B), .int .i64 (((rd d3 1).C 6).I), .own 0 8 9 (((rd d3 1).C 7).L), .int .i64 (((rd d3 1).C 8).I), .int .i64 (((rd d3 1).C 9).I)], .int .i64 a1]).bind fun d6 => (some [.agg [.int (((rd d6 0).C 0).I), .int (((rd d6 0).C 1).I), .str (((rd d6 0).C 2).S), .bool (((rd d6 0).C 3).B), .bool (((rd d6 0).C 4).B), .bool (((rd d6 0).C 5).B), .bool (((rd d6 0).C 6).B), .bool (((rd d6 0).C 7).B)], .agg [.list (((rd d6 1).C 0).L), .int (((rd d6 1).C 1).I), .bool (((rd d6 1).C 2).B), .bool (((rd d6 1).C 3).B), .bool (((rd d6 1).C 4).B), .bool (((rd d6 1).C 5).B), .int (((rd d6 1).C 6).I), .list (((rd d6 1).C 7).L), .int (((rd d6 1).C 8).I), .int (((rd d6 1).C 9).I)]])) else (bif ((rd d2 0).I) == 60 then (bif ((rd d3 0).I) == 61 then ((E C 244 [.int .u8 ((rd d3 0).I), .int .i64 3, .int .i64 4]).bind fun d7 => (some [.agg [.int 10, .int ((rd d7 0).I), .str ByteArray.empty, .bool (((rd d3 1).C 2).B), .bool (((rd d3 1).C 3).B), .bool (((rd d3 1).C 4).B), .bool (((rd d3 1).C 5).B), .bool false], .agg [.list (((rd d3 1).C 0).L), .int (IntKind.i64.wrap (a1 + 4)), .bool (((rd d3 1).C 2).B), .bool (((rd d3 1).C 3).B), .bool (((rd d3 1).C 4).B), .bool (((rd d3 1).C 5).B), .int (((rd d3 1).C 6).I), .list (((rd d3 1).C 7).L), .int (((rd d3 1).C 8).I), .int (((rd d3 1).C 9).I)]])) else (bif ((rd d3 0).I) == 33 then ((E C 244 [.int .u8 ((rd d3 0).I), .int .i64 3, .int .i64 4]).bind fun d8 => (some [.agg [.int 10, .int ((rd d8 0).I), .str ByteArray.empty, .bool (((rd d3 1).C 2).B), .bool (((rd d3 1).C 3).B), .bool (((rd d3 1).C 4).B), .bool (((rd d3 1).C 5).B), .bool false], .agg [.list (((rd d3 1).C 0).L), .int (IntKind.i64.wrap (a1 + 4)), .bool (((rd d3 1).C 2).B), .bool (((rd d3 1).C 3).B), .bool (((rd d3 1).C 4).B), .bool (((rd d3 1).C 5).B), .int (((rd d3 1).C 6).I), .list (((rd d3 1).C 7).L), .int (((rd d3 1).C 8).I), .int (((rd d3 1).C 9).I)]])) else (bif ((rd d2 0).I) == 60 then ((E C 246 [.pbox [.shr 5 (((rd d3 1).C 0).L), .int .i64 (IntKind.i64.wrap (a1 + 3)), .bool (((rd d3 1).C 2).B), .bool (((rd d3 1).C 3).B), .bool (((rd d3 1).C 4).B), .bool (((rd d3 1).C 5).B), .int .i64 (((rd d3 1).C 6).I), .own 0 8 9 (((rd d3 1).C 7).L), .int .i64 (((rd d3 1).C 8).I), .int .i64 (((rd d3 1).C 9).I)], .int .i64 (IntKind.i64.wrap (a1 + 3))]).bind fun d9 => (some [.agg [.int (((rd d9 0).C 0).I), .int (((rd d9 0).C 1).I), .str (((rd d9 0).C 2).S), .bool (((rd d9 0).C 3).B), .bool (((rd d9 0).C 4).B), .bool (((rd d9 0).C 5).B), .bool (((rd d9 0).C 6).B), .bool (((rd d9 0).C 7).B)], .agg [.list (((rd d9 1).C 0).L), .int (((rd d9 1).C 1).I), .bool (((rd d9 1).C 2).B), .bool (((rd d9 1).C 3).B), .bool (((rd d9 1).C 4).B), .bool (((rd d9 1).C 5).B), .int (((rd d9 1).C 6).I), .list (((rd d9 1).C 7).L), .int (((rd d9 1).C 8).I), .int (((rd d9 1).C 9).I)]])) else ((E C 247 [.pbox [.shr 5 (((rd d3 1).C 0).L), .int .i64 (IntKind.i64.wrap (a1 + 2)), .bool (((rd d3 1).C 2).B), .bool (((rd d3 1).C 3).B), .bool (((rd d3 1).C 4).B), .bool (((rd d3 1).C 5).B), .int .i64 (((rd d3 1).C 6).I), .own 0 8 9 (((rd d3 1).C 7).L), .int .i64 (((rd d3 1).C 8).I), .int .i64 (((rd d3 1).C 9).I)]]).bind fun d10 => (some [.agg [.int (((rd d10 0).C 0).I), .int (((rd d10 0).C 1).I), .str (((rd d10 0).C 2).S), .bool (((rd d10 0).C 3).B), .bool (((rd d10 0).C 4).B), .bool (((rd d10 0).C 5).B), .bool (((rd d10 0).C 6).B), .bool (((rd d10 0).C 7).B)], .agg [.list (((rd d10 1).C 0).L), .int (((rd d10 1).C 1).I), .bool (((rd d10 1).C 2).B), .bool (((rd d10 1).C 3).B), .bool (((rd d10 1).C 4).B), .bool (((rd d10 1).C 5).B), .int (((rd d10 1).C 6).I), .list (((rd d10 1).C 7).L), .int (((rd d10 1).C 8).I), .int (((rd d10 1).C 9).I)]]))))) else (bif ((rd d2 0).I) == 60 then ((E C 246 [.pbox [.shr 5 (((rd d3 1).C 0).L), .int .i64 (IntKind.i64.wrap (a1 + 3)), .bool (((rd d3 1).C 2).B), .bool (((rd d3 1).C 3).B), .bool (((rd d3 1).C 4).B), .bool (((rd d3 1).C 5).B), .int .i64 (((rd d3 1).C 6).I), .own 0 8 9 (((rd d3 1).C 7).L), .int .i64 (((rd d3 1).C 8).I), .int .i64 (((rd d3 1).C 9).I)], .int .i64 (IntKind.i64.wrap (a1 + 3))]).bind fun d11 => (some [.agg [.int (((rd d11 0).C 0).I), .int (((rd d11 0).C 1).I), .str (((rd d11 0).C 2).S), .bool (((rd d11 0).C 3).B), .bool (((rd d11 0).C 4).B), .bool (((rd d11 0).C 5).B), .bool (((rd d11 0).C 6).B), .bool (((rd d11 0).C 7).B)], .agg [.list (((rd d11 1).C 0).L), .int (((rd d11 1).C 1).I), .bool (((rd d11 1).C 2).B), .bool (((rd d11 1).C 3).B), .bool (((rd d11 1).C 4).B), .bool (((rd d11 1).C 5).B), .int (((rd d11 1).C 6).I), .list (((rd d11 1).C 7).L), .int (((rd d11 1).C 8).I), .int (((rd d11 1).C 9).I)]])) else ((E C 247 [.pbox [.shr 5 (((rd d3 1).C 0).L), .int .i64 (IntKind.i64.wrap (a1 + 2)), .bool (((rd d3 1).C 2).B), .bool (((rd d3 1).C 3).B), .bool (((rd d3 1).C 4).B), .bool (((rd d3 1).C 5).B), .int .i64 (((rd d3 1).C 6).I), .own 0 8 9 (((rd d3 1).C 7).L), .int .i64 (((rd d3 1).C 8).I), .int .i64 (((rd d3 1).C 9).I)]]).bind fun d12 => (some [.agg [.int (((rd d12 0).C 0).I), .int (((rd d12 0).C 1).I), .str (((rd d12 0).C 2).S), .bool (((rd d12 0).C 3).B), .bool (((rd d12 0).C 4).B), .bool (((rd d12 0).C 5).B), .bool (((rd d12 0).C 6).B), .bool (((rd d12 0).C 7).B)], .agg [.list (((rd d12 1).C 0).L), .int (((rd d12 1).C 1).I), .bool (((rd d12 1).C 2).B), .bool (((rd d12 1).C 3).B), .bool (((rd d12 1).C 4).B), .bool (((rd d12 1).C 5).B), .int (((rd d12 1).C 6).I), .list (((rd d12 1).C 7).L), .int (((rd d12 1).C 8).I), .int (((rd d12 1).C 9).I)]])))))))))))) : R) = some r) : E C 229 [.pbox [.shr 5 p0_0, .int .i64 p0_1, .bool p0_2, .bool p0_3, .bool p0_4, .bool p0_5, .int .i64 p0_6, .own 0 8 9 p0_7, .int .i64 p0_8, .int .i64 p0_9], .int .i64 a1] = some r := E_st h (Cont.bind (Cont.call C 109 _) fun _ => (Cont.bif (Cont.const _) (Cont.bind (Cont.call C 109 _) fun _ => (Cont.bind (Cont.call C 109 _) fun _ => (Cont.bif (Cont.const _) (Cont.bif (Cont.const _) (Cont.bif (Cont.bind (Cont.call C 244 _) fun _ => (Cont.const _)) (Cont.bif (Cont.bind (Cont.call C 244 _) fun _ => (Cont.const _)) (Cont.bif (Cont.bind (Cont.call C 245 _) fun _ => (Cont.const _)) (Cont.bif (Cont.bif (Cont.bind (Cont.call C 244 _) fun _ => (Cont.const _)) (Cont.bif (Cont.bind (Cont.call C 244 _) fun _ => (Cont.const _)) (Cont.bif (Cont.bind (Cont.call C 246 _) fun _ => (Cont.const _)) (Cont.bind (Cont.call C 247 _) fun _ => (Cont.const _))))) (Cont.bif (Cont.bind (Cont.call C 246 _) fun _ => (Cont.const _)) (Cont.bind (Cont.call C 247 _) fun _ => (Cont.const _))))))))))))) fun φ => by kernel_rfl
theorem o244 (a0 a1 a2 : Int) {r : List Dat} (h : ((E C 211 [.bool (a0 == 61), .int .i64 a1, .int .i64 a2]).bind fun d1 => (some [.int ((rd d1 0).I)]) : R) = some r) : E C 244 [.int .u8 a0, .int .i64 a1, .int .i64 a2] = some r := E_st h (Cont.bind (Cont.call C 211 _) fun _ => (Cont.const _)) fun φ => by kernel_rfl
theorem o245 (p0_0 : List Dat) (p0_1 : Int) (p0_2 p0_3 p0_4 p0_5 : Bool) (p0_6 : Int) (p0_7 : List Dat) (p0_8 p0_9 a1 : Int) {r : List Dat} (h : (bif decide (0 ≤ a1) then (bif decide (a1 ≤ (p0_0.length : Int)) then (bif decide ((p0_0.length : Int) ≤ (p0_0.length : Int)) then ((E C 264 [.shr 5 ((p0_0.take ((p0_0.length : Int).toNat)).drop a1.toNat), .int .u8 41]).bind fun d1 => (bif decide (((rd d1 0).I) < 0) then ((E C 68 [.pbox [.shr 5 p0_0, .int .i64 p0_1, .bool p0_2, .bool p0_3, .bool p0_4, .bool p0_5, .int .i64 p0_6, .own 0 8 9 p0_7, .int .i64 p0_8, .int .i64 p0_9], .int .i64 30, .int .i64 a1]).bind fun d2 => (some [.agg [.int 0, .int 0, .str ByteArray.empty, .bool (((rd d2 0).C 2).B), .bool (((rd d2 0).C 3).B), .bool (((rd d2 0).C 4).B), .bool (((rd d2 0).C 5).B), .bool true], .agg [.list (((rd d2 0).C 0).L), .int (IntKind.i64.wrap ((IntKind.i64.wrap (a1 + ((rd d1 0).I))) + 1)), .bool (((rd d2 0).C 2).B), .bool (((rd d2 0).C 3).B), .bool (((rd d2 0).C 4).B), .bool (((rd d2 0).C 5).B), .int (((rd d2 0).C 6).I), .list (((rd d2 0).C 7).L), .int (((rd d2 0).C 8).I), .int (((rd d2 0).C 9).I)]])) else (some [.agg [.int 0, .int 0, .str ByteArray.empty, .bool p0_2, .bool p0_3, .bool p0_4, .bool p0_5, .bool true], .agg [.list p0_0, .int (IntKind.i64.wrap ((IntKind.i64.wrap (a1 + ((rd d1 0).I))) + 1)), .bool p0_2, .bool p0_3, .bool p0_4, .bool p0_5, .int p0_6, .list p0_7, .int p0_8, .int p0_9]]))) else none) else none) else none : R) = some r) : E C 245 [.pbox [.shr 5 p0_0, .int .i64 p0_1, .bool p0_2, .bool p0_3, .bool p0_4, .bool p0_5, .int .i64 p0_6, .own 0 8 9 p0_7, .int .i64 p0_8, .int .i64 p0_9], .int .i64 a1] = some r := E_st h (Cont.bif (Cont.bif (Cont.bif (Cont.bind (Cont.call C 264 _) fun _ => (Cont.bif (Cont.bind (Cont.call C 68 _) fun _ => (Cont.const _)) (Cont.const _))) Cont.nn) Cont.nn) Cont.nn) fun φ => by kernel_rfl
theorem o246 (p0_0 : List Dat) (p0_1 : Int) (p0_2 p0_3 p0_4 p0_5 : Bool) (p0_6 : Int) (p0_7 : List Dat) (p0_8 p0_9 a1 : Int) {r : List Dat} (h : ((E C 256 [.shr 5 p0_0, .int .i64 a1]).bind fun d1 => (bif ((rd d1 2).I) == 0 then ((E C 265 [.shr 9 p0_7, .str ((rd d1 0).S)]).bind fun d2 => (bif (rd d2 0).B then ((E C 68 [.pbox [.shr 5 p0_0, .int .i64 p0_1, .bool p0_2, .bool p0_3, .bool p0_4, .bool p0_5, .int .i64 p0_6, .own 0 8 9 p0_7, .int .i64 p0_8, .int .i64 p0_9], .int .i64 37, .int .i64 a1]).bind fun d3 => (some [.agg [.int 7, .int 0, .str ((rd d1 0).S), .bool (((rd d3 0).C 2).B), .bool (((rd d3 0).C 3).B), .bool (((rd d3 0).C 4).B), .bool (((rd d3 0).C 5).B), .bool false], .agg [.list (((rd d3 0).C 0).L), .int ((rd d1 1).I), .bool (((rd d3 0).C 2).B), .bool (((rd d3 0).C 3).B), .bool (((rd d3 0).C 4).B), .bool (((rd d3 0).C 5).B), .int (((rd d3 0).C 6).I), .list (((rd d3 0).C 7).L), .int (((rd d3 0).C 8).I), .int (((rd d3 0).C 9).I)]])) else (bif ((rd d1 2).I) != 0 then ((E C 68 [.pbox [.shr 5 p0_0, .int .i64 p0_1, .bool p0_2, .bool p0_3, .bool p0_4, .bool p0_5, .int .i64 p0_6, .own 0 8 9 p0_7, .int .i64 p0_8, .int .i64 p0_9], .int .i64 ((rd d1 2).I), .int .i64 a1]).bind fun d4 => (some [.agg [.int 7, .int 0, .str ((rd d1 0).S), .bool (((rd d4 0).C 2).B), .bool (((rd d4 0).C 3).B), .bool (((rd d4 0).C 4).B), .bool (((rd d4 0).C 5).B), .bool false], .agg [.list (((rd d4 0).C 0).L), .int ((rd d1 1).I), .bool (((rd d4 0).C 2).B), .bool (((rd d4 0).C 3).B), .bool (((rd d4 0).C 4).B), .bool (((rd d4 0).C 5).B), .int (((rd d4 0).C 6).I), .list (((rd d4 0).C 7).L), .int (((rd d4 0).C 8).I), .int (((rd d4 0).C 9).I)]])) else (some [.agg [.int 7, .int 0, .str ((rd d1 0).S), .bool p0_2, .bool p0_3, .bool p0_4, .bool p0_5, .bool false], .agg [.list p0_0, .int ((rd d1 1).I), .bool p0_2, .bool p0_3, .bool p0_4, .bool p0_5, .int p0_6, .list p0_7, .int p0_8, .int p0_9]])))) else (bif ((rd d1 2).I) != 0 then ((E C 68 [.pbox [.shr 5 p0_0, .int .i64 p0_1, .bool p0_2, .bool p0_3, .bool p0_4, .bool p0_5, .int .i64 p0_6, .own 0 8 9 p0_7, .int .i64 p0_8, .int .i64 p0_9], .int .i64 ((rd d1 2).I), .int .i64 a1]).bind fun d5 => (some [.agg [.int 7, .int 0, .str ((rd d1 0).S), .bool (((rd d5 0).C 2).B), .bool (((rd d5 0).C 3).B), .bool (((rd d5 0).C 4).B), .bool (((rd d5 0).C 5).B), .bool false], .agg [.list (((rd d5 0).C 0).L), .int ((rd d1 1).I), .bool (((rd d5 0).C 2).B), .bool (((rd d5 0).C 3).B), .bool (((rd d5 0).C 4).B), .bool (((rd d5 0).C 5).B), .int (((rd d5 0).C 6).I), .list (((rd d5 0).C 7).L), .int (((rd d5 0).C 8).I), .int (((rd d5 0).C 9).I)]])) else (some [.agg [.int 7, .int 0, .str ((rd d1 0).S), .bool p0_2, .bool p0_3, .bool p0_4, .bool p0_5, .bool false], .agg [.list p0_0, .int ((rd d1 1).I), .bool p0_2, .bool p0_3, .bool p0_4, .bool p0_5, .int p0_6, .list p0_7, .int p0_8, .int p0_9]]))) : R) = some r) : E C 246 [.pbox [.shr 5 p0_0, .int .i64 p0_1, .bool p0_2, .bool p0_3, .bool p0_4, .bool p0_5, .int .i64 p0_6, .own 0 8 9 p0_7, .int .i64 p0_8, .int .i64 p0_9], .int .i64 a1] = some r := E_st h (Cont.bind (Cont.call C 256 _) fun _ => (Cont.bif (Cont.bind (Cont.call C 265 _) fun _ => (Cont.bif (Cont.bind (Cont.call C 68 _) fun _ => (Cont.const _)) (Cont.bif (Cont.bind (Cont.call C 68 _) fun _ => (Cont.const _)) (Cont.const _)))) (Cont.bif (Cont.bind (Cont.call C 68 _) fun _ => (Cont.const _)) (Cont.const _)))) fun φ => by kernel_rfl
/-- (*clew/parse.parser).toggles -/
noncomputable def f247 : Func := Tryz.f247
def kp247 : List Nat := [0, 2, 3, 4, 5, 6]
noncomputable def c247 (p : List Nat) : Code := pick f247 p
noncomputable def L247_1 (n : Nat) (m1 : Nat) (v0_0 : List Dat) (v0_1 : Int) (v0_2 v0_3 v0_4 v0_5 : Bool) (v0_6 : Int) (v0_7 : List Dat) (v0_8 v0_9 v3_0 v3_1 : Int) (v3_2 : ByteArray) (v3_3 v3_4 v3_5 v3_6 v3_7 v4 v5 : Bool) : R := loopIter (fun E K => evCode C (ev C n) n kp247 (c247 [1, 1, 1, 0, 0]) E K) [0, 2, 3, 4, 5] (Kblk 0 (Ktop C 247 f247 [.pbox []])) m1 [.pbox [.shr 5 v0_0, .int .i64 v0_1, .bool v0_2, .bool v0_3, .bool v0_4, .bool v0_5, .int .i64 v0_6, .own 0 8 9 v0_7, .int .i64 v0_8, .int .i64 v0_9], .und, .box 268 [.int .i64 0, .int .i64 0, .str ByteArray.empty, .bool false, .bool false, .bool false, .bool false, .bool false], .box 268 [.int .i64 v3_0, .int .i64 v3_1, .str v3_2, .bool v3_3, .bool v3_4, .bool v3_5, .bool v3_6, .bool v3_7], .bool v4, .bool v5, .und, .und, .und, .und, .und, .und, .und, .und, .und, .und, .und, .und, .und, .und, .und, .und, .und, .und, .und, .und, .und, .und, .und, .und, .und, .und, .und, .und, .und, .und, .und, .und, .und, .und, .und, .und, .und, .und, .und, .und, .und, .und, .und, .und, .und, .und, .und, .und, .und, .und, .und, .und, .und, .und, .und, .und, .und, .und]
noncomputable def M247_1 (v0_0 : List Dat) (v0_1 : Int) (v0_2 v0_3 v0_4 v0_5 : Bool) (v0_6 : Int) (v0_7 : List Dat) (v0_8 v0_9 v3_0 v3_1 : Int) (v3_2 : ByteArray) (v3_3 v3_4 v3_5 v3_6 v3_7 v4 v5 : Bool) : R := lim fun φ => L247_1 (φ 0) (φ 1) v0_0 v0_1 v0_2 v0_3 v0_4 v0_5 v0_6 v0_7 v0_8 v0_9 v3_0 v3_1 v3_2 v3_3 v3_4 v3_5 v3_6 v3_7 v4 v5
theorem M247_1_c (v0_0 : List Dat) (v0_1 : Int) (v0_2 v0_3 v0_4 v0_5 : Bool) (v0_6 : Int) (v0_7 : List Dat) (v0_8 v0_9 v3_0 v3_1 : Int) (v3_2 : ByteArray) (v3_3 v3_4 v3_5 v3_6 v3_7 v4 v5 : Bool) : Cont (fun φ => L247_1 (φ 0) (φ 1) v0_0 v0_1 v0_2 v0_3 v0_4 v0_5 v0_6 v0_7 v0_8 v0_9 v3_0 v3_1 v3_2 v3_3 v3_4 v3_5 v3_6 v3_7 v4 v5) (M247_1 v0_0 v0_1 v0_2 v0_3 v0_4 v0_5 v0_6 v0_7 v0_8 v0_9 v3_0 v3_1 v3_2 v3_3 v3_4 v3_5 v3_6 v3_7 v4 v5) := Cont.re id _
theorem M247_1_e (v0_0 : List Dat) (v0_1 : Int) (v0_2 v0_3 v0_4 v0_5 : Bool) (v0_6 : Int) (v0_7 : List Dat) (v0_8 v0_9 v3_0 v3_1 : Int) (v3_2 : ByteArray) (v3_3 v3_4 v3_5 v3_6 v3_7 v4 v5 : Bool) : Cont (fun φ => L247_1 (φ 0) (φ 0) v0_0 v0_1 v0_2 v0_3 v0_4 v0_5 v0_6 v0_7 v0_8 v0_9 v3_0 v3_1 v3_2 v3_3 v3_4 v3_5 v3_6 v3_7 v4 v5) (M247_1 v0_0 v0_1 v0_2 v0_3 v0_4 v0_5 v0_6 v0_7 v0_8 v0_9 v3_0 v3_1 v3_2 v3_3 v3_4 v3_5 v3_6 v3_7 v4 v5) := Cont.re (toZ 1) fun φ => L247_1 (φ 0) (φ 1) v0_0 v0_1 v0_2 v0_3 v0_4 v0_5 v0_6 v0_7 v0_8 v0_9 v3_0 v3_1 v3_2 v3_3 v3_4 v3_5 v3_6 v3_7 v4 v5
theorem M247_1_of (v0_0 : List Dat) (v0_1 : Int) (v0_2 v0_3 v0_4 v0_5 : Bool) (v0_6 : Int) (v0_7 : List Dat) (v0_8 v0_9 v3_0 v3_1 : Int) (v3_2 : ByteArray) (v3_3 v3_4 v3_5 v3_6 v3_7 v4 v5 : Bool) {r : List Dat} (h : ((E C 109 [.pbox [.shr 5 v0_0, .int .i64 v0_1, .bool v0_2, .bool v0_3, .bool v0_4, .bool v0_5, .int .i64 v0_6, .own 0 8 9 v0_7, .int .i64 v0_8, .int .i64 v0_9], .int .i64 v0_1]).bind fun d1 => ((E C 266 [.pbox [.bool v3_3, .bool v3_4, .bool v3_5, .bool v3_6], .int .u8 ((rd d1 0).I), .bool v4]).bind fun d2 => (bif (rd d2 0).B then (M247_1 (((rd d1 1).C 0).L) (IntKind.i64.wrap ((((rd d1 1).C 1).I) + 1)) (((rd d1 1).C 2).B) (((rd d1 1).C 3).B) (((rd d1 1).C 4).B) (((rd d1 1).C 5).B) (((rd d1 1).C 6).I) (((rd d1 1).C 7).L) (((rd d1 1).C 8).I) (((rd d1 1).C 9).I) v3_0 v3_1 v3_2 (((rd d2 1).C 0).B) (((rd d2 1).C 1).B) (((rd d2 1).C 2).B) (((rd d2 1).C 3).B) v3_7 v4 true) else (bif ((rd d1 0).I) == 45 then (bif v4 then (M247_1 (((rd d1 1).C 0).L) (IntKind.i64.wrap ((((rd d1 1).C 1).I) + 1)) (((rd d1 1).C 2).B) (((rd d1 1).C 3).B) (((rd d1 1).C 4).B) (((rd d1 1).C 5).B) (((rd d1 1).C 6).I) (((rd d1 1).C 7).L) (((rd d1 1).C 8).I) (((rd d1 1).C 9).I) v3_0 v3_1 v3_2 (((rd d2 1).C 0).B) (((rd d2 1).C 1).B) (((rd d2 1).C 2).B) (((rd d2 1).C 3).B) v3_7 false false) else (bif v5 then (bif ((rd d1 0).I) == 58 then (some [.agg [.int v3_0, .int v3_1, .str v3_2, .bool (((rd d2 1).C 0).B), .bool (((rd d2 1).C 1).B), .bool (((rd d2 1).C 2).B), .bool (((rd d2 1).C 3).B), .bool (((rd d1 0).I) == 41)], .agg [.list (((rd d1 1).C 0).L), .int (IntKind.i64.wrap ((((rd d1 1).C 1).I) + 1)), .bool (((rd d1 1).C 2).B), .bool (((rd d1 1).C 3).B), .bool (((rd d1 1).C 4).B), .bool (((rd d1 1).C 5).B), .int (((rd d1 1).C 6).I), .list (((rd d1 1).C 7).L), .int (((rd d1 1).C 8).I), .int (((rd d1 1).C 9).I)]]) else (bif ((rd d1 0).I) == 41 then (some [.agg [.int v3_0, .int v3_1, .str v3_2, .bool (((rd d2 1).C 0).B), .bool (((rd d2 1).C 1).B), .bool (((rd d2 1).C 2).B), .bool (((rd d2 1).C 3).B), .bool (((rd d1 0).I) == 41)], .agg [.list (((rd d1 1).C 0).L), .int (IntKind.i64.wrap ((((rd d1 1).C 1).I) + 1)), .bool (((rd d1 1).C 2).B), .bool (((rd d1 1).C 3).B), .bool (((rd d1 1).C 4).B), .bool (((rd d1 1).C 5).B), .int (((rd d1 1).C 6).I), .list (((rd d1 1).C 7).L), .int (((rd d1 1).C 8).I), .int (((rd d1 1).C 9).I)]]) else ((E C 68 [.pbox [.shr 5 (((rd d1 1).C 0).L), .int .i64 (((rd d1 1).C 1).I), .bool (((rd d1 1).C 2).B), .bool (((rd d1 1).C 3).B), .bool (((rd d1 1).C 4).B), .bool (((rd d1 1).C 5).B), .int .i64 (((rd d1 1).C 6).I), .own 0 8 9 (((rd d1 1).C 7).L), .int .i64 (((rd d1 1).C 8).I), .int .i64 (((rd d1 1).C 9).I)], .int .i64 35, .int .i64 (((rd d1 1).C 1).I)]).bind fun d3 => (some [.agg [.int v3_0, .int v3_1, .str v3_2, .bool (((rd d2 1).C 0).B), .bool (((rd d2 1).C 1).B), .bool (((rd d2 1).C 2).B), .bool (((rd d2 1).C 3).B), .bool v3_7], .agg [.list (((rd d3 0).C 0).L), .int (((rd d3 0).C 1).I), .bool (((rd d3 0).C 2).B), .bool (((rd d3 0).C 3).B), .bool (((rd d3 0).C 4).B), .bool (((rd d3 0).C 5).B), .int (((rd d3 0).C 6).I), .list (((rd d3 0).C 7).L), .int (((rd d3 0).C 8).I), .int (((rd d3 0).C 9).I)]])))) else ((E C 68 [.pbox [.shr 5 (((rd d1 1).C 0).L), .int .i64 (((rd d1 1).C 1).I), .bool (((rd d1 1).C 2).B), .bool (((rd d1 1).C 3).B), .bool (((rd d1 1).C 4).B), .bool (((rd d1 1).C 5).B), .int .i64 (((rd d1 1).C 6).I), .own 0 8 9 (((rd d1 1).C 7).L), .int .i64 (((rd d1 1).C 8).I), .int .i64 (((rd d1 1).C 9).I)], .int .i64 35, .int .i64 (((rd d1 1).C 1).I)]).bind fun d4 => (some [.agg [.int v3_0, .int v3_1, .str v3_2, .bool (((rd d2 1).C 0).B), .bool (((rd d2 1).C 1).B), .bool (((rd d2 1).C 2).B), .bool (((rd d2 1).C 3).B), .bool v3_7], .agg [.list (((rd d4 0).C 0).L), .int (((rd d4 0).C 1).I), .bool (((rd d4 0).C 2).B), .bool (((rd d4 0).C 3).B), .bool (((rd d4 0).C 4).B), .bool (((rd d4 0).C 5).B), .int (((rd d4 0).C 6).I), .list (((rd d4 0).C 7).L), .int (((rd d4 0).C 8).I), .int (((rd d4 0).C 9).I)]])))) else (bif v5 then (bif ((rd d1 0).I) == 58 then (some [.agg [.int v3_0, .int v3_1, .str v3_2, .bool (((rd d2 1).C 0).B), .bool (((rd d2 1).C 1).B), .bool (((rd d2 1).C 2).B), .bool (((rd d2 1).C 3).B), .bool (((rd d1 0).I) == 41)], .agg [.list (((rd d1 1).C 0).L), .int (IntKind.i64.wrap ((((rd d1 1).C 1).I) + 1)), .bool (((rd d1 1).C 2).B), .bool (((rd d1 1).C 3).B), .bool (((rd d1 1).C 4).B), .bool (((rd d1 1).C 5).B), .int (((rd d1 1).C 6).I), .list (((rd d1 1).C 7).L), .int (((rd d1 1).C 8).I), .int (((rd d1 1).C 9).I)]]) else (bif ((rd d1 0).I) == 41 then (some [.agg [.int v3_0, .int v3_1, .str v3_2, .bool (((rd d2 1).C 0).B), .bool (((rd d2 1).C 1).B), .bool (((rd d2 1).C 2).B), .bool (((rd d2 1).C 3).B), .bool (((rd d1 0).I) == 41)], .agg [.list (((rd d1 1).C 0).L), .int (IntKind.i64.wrap ((((rd d1 1).C 1).I) + 1)), .bool (((rd d1 1).C 2).B), .bool (((rd d1 1).C 3).B), .bool (((rd d1 1).C 4).B), .bool (((rd d1 1).C 5).B), .int (((rd d1 1).C 6).I), .list (((rd d1 1).C 7).L), .int (((rd d1 1).C 8).I), .int (((rd d1 1).C 9).I)]]) else ((E C 68 [.pbox [.shr 5 (((rd d1 1).C 0).L), .int .i64 (((rd d1 1).C 1).I), .bool (((rd d1 1).C 2).B), .bool (((rd d1 1).C 3).B), .bool (((rd d1 1).C 4).B), .bool (((rd d1 1).C 5).B), .int .i64 (((rd d1 1).C 6).I), .own 0 8 9 (((rd d1 1).C 7).L), .int .i64 (((rd d1 1).C 8).I), .int .i64 (((rd d1 1).C 9).I)], .int .i64 35, .int .i64 (((rd d1 1).C 1).I)]).bind fun d5 => (some [.agg [.int v3_0, .int v3_1, .str v3_2, .bool (((rd d2 1).C 0).B), .bool (((rd d2 1).C 1).B), .bool (((rd d2 1).C 2).B), .bool (((rd d2 1).C 3).B), .bool v3_7], .agg [.list (((rd d5 0).C 0).L), .int (((rd d5 0).C 1).I), .bool (((rd d5 0).C 2).B), .bool (((rd d5 0).C 3).B), .bool (((rd d5 0).C 4).B), .bool (((rd d5 0).C 5).B), .int (((rd d5 0).C 6).I), .list (((rd d5 0).C 7).L), .int (((rd d5 0).C 8).I), .int (((rd d5 0).C 9).I)]])))) else ((E C 68 [.pbox [.shr 5 (((rd d1 1).C 0).L), .int .i64 (((rd d1 1).C 1).I), .bool (((rd d1 1).C 2).B), .bool (((rd d1 1).C 3).B), .bool (((rd d1 1).C 4).B), .bool (((rd d1 1).C 5).B), .int .i64 (((rd d1 1).C 6).I), .own 0 8 9 (((rd d1 1).C 7).L), .int .i64 (((rd d1 1).C 8).I), .int .i64 (((rd d1 1).C 9).I)], .int .i64 35, .int .i64 (((rd d1 1).C 1).I)]).bind fun d6 => (some [.agg [.int v3_0, .int v3_1, .str v3_2, .bool (((rd d2 1).C 0).B), .bool (((rd d2 1).C 1).B), .bool (((rd d2 1).C 2).B), .bool (((rd d2 1).C 3).B), .bool v3_7], .agg [.list (((rd d6 0).C 0).L), .int (((rd d6 0).C 1).I), .bool (((rd d6 0).C 2).B), .bool (((rd d6 0).C 3).B), .bool (((rd d6 0).C 4).B), .bool (((rd d6 0).C 5).B), .int (((rd d6 0).C 6).I), .list (((rd d6 0).C 7).L), .int (((rd d6 0).C 8).I), .int (((rd d6 0).C 9).I)]])))))) : R) = some r) : M247_1 v0_0 v0_1 v0_2 v0_3 v0_4 v0_5 v0_6 v0_7 v0_8 v0_9 v3_0 v3_1 v3_2 v3_3 v3_4 v3_5 v3_6 v3_7 v4 v5 = some r := lim_st (g := fun φ => L247_1 (φ 0) (φ 1) v0_0 v0_1 v0_2 v0_3 v0_4 v0_5 v0_6 v0_7 v0_8 v0_9 v3_0 v3_1 v3_2 v3_3 v3_4 v3_5 v3_6 v3_7 v4 v5) 1 h (Cont.bind (Cont.call C 109 _) fun _ => (Cont.bind (Cont.call C 266 _) fun _ => (Cont.bif (M247_1_c _ _ _ _ _ _ _ _ _ _ _ _ _ _ _ _ _ _ _ _) (Cont.bif (Cont.bif (M247_1_c _ _ _ _ _ _ _ _ _ _ _ _ _ _ _ _ _ _ _ _) (Cont.bif (Cont.bif (Cont.const _) (Cont.bif (Cont.const _) (Cont.bind (Cont.call C 68 _) fun _ => (Cont.const _)))) (Cont.bind (Cont.call C 68 _) fun _ => (Cont.const _)))) (Cont.bif (Cont.bif (Cont.const _) (Cont.bif (Cont.const _) (Cont.bind (Cont.call C 68 _) fun _ => (Cont.const _)))) (Cont.bind (Cont.call C 68 _) fun _ => (Cont.const _))))))) fun φ m hm => (congrArg (fun q => L247_1 (φ 0) q v0_0 v0_1 v0_2 v0_3 v0_4 v0_5 v0_6 v0_7 v0_8 v0_9 v3_0 v3_1 v3_2 v3_3 v3_4 v3_5 v3_6 v3_7 v4 v5) hm).trans (by kernel_rfl)
theorem o247 (p0_0 : List Dat) (p0_1 : Int) (p0_2 p0_3 p0_4 p0_5 : Bool) (p0_6 : Int) (p0_7 : List Dat) (p0_8 p0_9 : Int) {r : List Dat} (h : (M247_1 p0_0 p0_1 p0_2 p0_3 p0_4 p0_5 p0_6 p0_7 p0_8 p0_9 0 0 ByteArray.empty p0_2 p0_3 p0_4 p0_5 false true false : R) = some r) : E C 247 [.pbox [.shr 5 p0_0, .int .i64 p0_1, .bool p0_2, .bool p0_3, .bool p0_4, .bool p0_5, .int .i64 p0_6, .own 0 8 9 p0_7, .int .i64 p0_8, .int .i64 p0_9]] = some r := E_st h (M247_1_e _ _ _ _ _ _ _ _ _ _ _ _ _ _ _ _ _ _ _ _) fun φ => by kernel_rfl
/-- (*clew/parse.flags).letter -/
noncomputable def f266 : Func := Tryz.f266
theorem o266 (p0_0 p0_1 p0_2 p0_3 : Bool) (a1 : Int) (a2 : Bool) {r : List Dat} (h : (bif a1 == 105 then (some [.bool true, .agg [.bool a2, .bool p0_1, .bool p0_2, .bool p0_3]]) else (bif a1 == 109 then (some [.bool true, .agg [.bool p0_0, .bool a2, .bool p0_2, .bool p0_3]]) else (bif a1 == 115 then (some [.bool true, .agg [.bool p0_0, .bool p0_1, .bool a2, .bool p0_3]]) else (bif a1 == 120 then (some [.bool true, .agg [.bool p0_0, .bool p0_1, .bool p0_2, .bool a2]]) else (some [.bool false, .agg [.bool p0_0, .bool p0_1, .bool p0_2, .bool p0_3]])))) : R) = some r) : E C 266 [.pbox [.bool p0_0, .bool p0_1, .bool p0_2, .bool p0_3], .int .u8 a1, .bool a2] = some r := E_st h (Cont.bif (Cont.const _) (Cont.bif (Cont.const _) (Cont.bif (Cont.const _) (Cont.bif (Cont.const _) (Cont.const _))))) fun φ => by kernel_rfl
end Go.Proofs.YtlofoifcdmeopaaGreatDoor.V
namespace Go.Proofs.YtlofoifcdmeopaaGreatDoor.V
open Go Go.Ev Go.RowKit
set_option linter.unusedVariables false
set_option linter.unusedSimpArgs false
/-- What a parser holds, but for its pattern. -/
structure PS where
  k : Int
  fo : Bool
  li : Bool
  al : Bool
  wi : Bool
  gr : Int
  nm : List ByteArray
  e : Int
  wh : Int
abbrev pv (b : List Int) (s : PS) : AV := .pbox [.shr 5 (b.map .int), .int .i64 s.k, .bool s.fo, .bool s.li, .bool s.al, .bool s.wi, .int .i64 s.gr, .own 0 8 9 (s.nm.map .str), .int .i64 s.e, .int .i64 s.wh]
def pd (b : List Int) (s : PS) : Dat := .agg [.list (b.map .int), .int s.k, .bool s.fo, .bool s.li, .bool s.al, .bool s.wi, .int s.gr, .list (s.nm.map .str), .int s.e, .int s.wh]
theorem pd0 (b : List Int) (s : PS) : (pd b s).C 0 = .list (b.map .int) := (rfl)
theorem pd1 (b : List Int) (s : PS) : (pd b s).C 1 = .int s.k := (rfl)
theorem pd2 (b : List Int) (s : PS) : (pd b s).C 2 = .bool s.fo := (rfl)
theorem pd3 (b : List Int) (s : PS) : (pd b s).C 3 = .bool s.li := (rfl)
theorem pd4 (b : List Int) (s : PS) : (pd b s).C 4 = .bool s.al := (rfl)
theorem pd5 (b : List Int) (s : PS) : (pd b s).C 5 = .bool s.wi := (rfl)
theorem pd6 (b : List Int) (s : PS) : (pd b s).C 6 = .int s.gr := (rfl)
theorem pd7 (b : List Int) (s : PS) : (pd b s).C 7 = .list (s.nm.map .str) := (rfl)
theorem pd8 (b : List Int) (s : PS) : (pd b s).C 8 = .int s.e := (rfl)
theorem pd9 (b : List Int) (s : PS) : (pd b s).C 9 = .int s.wh := (rfl)
/-- A part: its node, and its kids. -/
def ptD (n : Nd) (ks : List Dat) : Dat := .agg [.int n.kind, .int n.frm, .int n.to, .int n.num, .int n.min, .int n.max, .int n.mode, .str n.name, .list (rs n.set), .list (n.kids.map .int), .list ks]
abbrev ptV (n : Nd) (ks : List Dat) : AV := .agg [.int .i64 n.kind, .int .i64 n.frm, .int .i64 n.to, .int .i64 n.num, .int .i64 n.min, .int .i64 n.max, .int .i64 n.mode, .str n.name, .shr 82 (rs n.set), .shr 3 (n.kids.map .int), .shr 103 ks]
theorem pt0 (n : Nd) (ks : List Dat) : (ptD n ks).C 0 = .int n.kind := (rfl)
theorem pt1 (n : Nd) (ks : List Dat) : (ptD n ks).C 1 = .int n.frm := (rfl)
theorem pt2 (n : Nd) (ks : List Dat) : (ptD n ks).C 2 = .int n.to := (rfl)
theorem pt3 (n : Nd) (ks : List Dat) : (ptD n ks).C 3 = .int n.num := (rfl)
theorem pt4 (n : Nd) (ks : List Dat) : (ptD n ks).C 4 = .int n.min := (rfl)
theorem pt5 (n : Nd) (ks : List Dat) : (ptD n ks).C 5 = .int n.max := (rfl)
theorem pt6 (n : Nd) (ks : List Dat) : (ptD n ks).C 6 = .int n.mode := (rfl)
theorem pt7 (n : Nd) (ks : List Dat) : (ptD n ks).C 7 = .str n.name := (rfl)
theorem pt8 (n : Nd) (ks : List Dat) : (ptD n ks).C 8 = .list (rs n.set) := (rfl)
theorem pt9 (n : Nd) (ks : List Dat) : (ptD n ks).C 9 = .list (n.kids.map .int) := (rfl)
theorem pt10 (n : Nd) (ks : List Dat) : (ptD n ks).C 10 = .list ks := (rfl)
theorem stP : (∀ (a : Dat) (l : List Dat), rd (a :: l) 0 = a) ∧ (∀ (a b : Dat) (l : List Dat), rd (a :: b :: l) 1 = b) ∧ (∀ (a b c : Dat) (l : List Dat), rd (a :: b :: c :: l) 2 = c) ∧ (∀ (a b c d : Dat) (l : List Dat), rd (a :: b :: c :: d :: l) 3 = d) ∧ (∀ (b : List Int) (s : PS), (pd b s).C 0 = .list (b.map .int)) ∧ (∀ (b : List Int) (s : PS), (pd b s).C 1 = .int s.k) ∧ (∀ (b : List Int) (s : PS), (pd b s).C 2 = .bool s.fo) ∧ (∀ (b : List Int) (s : PS), (pd b s).C 3 = .bool s.li) ∧ (∀ (b : List Int) (s : PS), (pd b s).C 4 = .bool s.al) ∧ (∀ (b : List Int) (s : PS), (pd b s).C 5 = .bool s.wi) ∧ (∀ (b : List Int) (s : PS), (pd b s).C 6 = .int s.gr) ∧ (∀ (b : List Int) (s : PS), (pd b s).C 7 = .list (s.nm.map .str)) ∧ (∀ (b : List Int) (s : PS), (pd b s).C 8 = .int s.e) ∧ (∀ (b : List Int) (s : PS), (pd b s).C 9 = .int s.wh) ∧ (∀ (n : Nd) (ks : List Dat), (ptD n ks).C 0 = .int n.kind) ∧ (∀ (n : Nd) (ks : List Dat), (ptD n ks).C 1 = .int n.frm) ∧ (∀ (n : Nd) (ks : List Dat), (ptD n ks).C 2 = .int n.to) ∧ (∀ (n : Nd) (ks : List Dat), (ptD n ks).C 3 = .int n.num) ∧ (∀ (n : Nd) (ks : List Dat), (ptD n ks).C 4 = .int n.min) ∧ (∀ (n : Nd) (ks : List Dat), (ptD n ks).C 5 = .int n.max) ∧ (∀ (n : Nd) (ks : List Dat), (ptD n ks).C 6 = .int n.mode) ∧ (∀ (n : Nd) (ks : List Dat), (ptD n ks).C 7 = .str n.name) ∧ (∀ (n : Nd) (ks : List Dat), (ptD n ks).C 8 = .list (rs n.set)) ∧ (∀ (n : Nd) (ks : List Dat), (ptD n ks).C 9 = .list (n.kids.map .int)) ∧ (∀ (n : Nd) (ks : List Dat), (ptD n ks).C 10 = .list ks) ∧ (∀ l : List Dat, (Dat.list l).L = l) ∧ (∀ n : Int, (Dat.int n).I = n) ∧ (∀ b : Bool, (Dat.bool b).B = b) ∧ (∀ s : ByteArray, (Dat.str s).S = s) := ⟨rd0, rd1, rd2, rd3, pd0, pd1, pd2, pd3, pd4, pd5, pd6, pd7, pd8, pd9, pt0, pt1, pt2, pt3, pt4, pt5, pt6, pt7, pt8, pt9, pt10, datL, datI, datB, datS⟩
theorem agA : (∀ (a : Dat) (l : List Dat), (Dat.agg (a :: l)).C 0 = a) ∧ (∀ (a b : Dat) (l : List Dat), (Dat.agg (a :: b :: l)).C 1 = b) ∧ (∀ (a b c : Dat) (l : List Dat), (Dat.agg (a :: b :: c :: l)).C 2 = c) ∧ (∀ (a b c d : Dat) (l : List Dat), (Dat.agg (a :: b :: c :: d :: l)).C 3 = d) ∧ (∀ (a b c d e : Dat) (l : List Dat), (Dat.agg (a :: b :: c :: d :: e :: l)).C 4 = e) ∧ (∀ (a b c d e f : Dat) (l : List Dat), (Dat.agg (a :: b :: c :: d :: e :: f :: l)).C 5 = f) := ⟨aggC0, aggC1, aggC2, aggC3, aggC4, aggC5⟩
def nd0P : Nd := ⟨0, 0, 0, 0, 0, 0, 0, ByteArray.empty, [], []⟩
def overB (b : List Int) (s : PS) : Bool := s.e != 0 || decide (s.k ≥ (b.length : Int))
def failS (s : PS) (e at_ : Int) : PS := if s.e = 0 then { s with e := e, wh := at_ } else s
def skipS (b : List Int) (s : PS) : PS := bif s.wi then { s with k := blankR b s.k } else s
def endsB (b : List Int) (s : PS) : Bool := overB b (skipS b s) || atB b (skipS b s).k == 124 || atB b (skipS b s).k == 41
theorem over_E (b : List Int) (s : PS) : E C 67 [pv b s] = some [.bool (overB b s), pd b s] := by
  apply o67
  unfold overB
  by_cases h : s.e = 0
  · rw [neF h, List.length_map, show (s.e != 0) = false by simp [h], Bool.false_or]; rfl
  · rw [neT h, show (s.e != 0) = true by simp [h], Bool.true_or]; rfl
theorem fail_E (b : List Int) (s : PS) (e a : Int) : E C 68 [pv b s, .int .i64 e, .int .i64 a] = some [pd b (failS s e a)] := by
  apply o68
  unfold failS
  by_cases h : s.e = 0
  · rw [eT h, if_pos h]; rfl
  · rw [eF h, if_neg h]; rfl
theorem byteAt_E (b : List Int) (s : PS) (i : Int) (hi : 0 ≤ i) : E C 109 [pv b s, .int .i64 i] = some [.int (atB b i), pd b s] := by
  apply o109
  rw [List.length_map]
  by_cases h : i ≥ (b.length : Int)
  · rw [dT h, atB_out (by omega)]; rfl
  · rw [dF h, ixT ⟨hi, by omega⟩, rdA ⟨hi, by omega⟩]; rfl
theorem skip_E (b : List Int) (hb : b.length ≤ 140737488351232) (s : PS) (hk : i64P s.k) : E C 177 [pv b s] = some [pd b (skipS b s)] := by
  apply o177
  unfold skipS
  cases hw : s.wi with
  | true => rw [cond_true, cond_true, bT (Blank_E b hb s.k hk)]; rfl
  | false => rw [cond_false, cond_false, ← hw]; rfl
theorem ends_E (b : List Int) (hb : b.length ≤ 140737488351232) (s : PS) (hk : i64P s.k) (h0 : 0 ≤ (skipS b s).k) : E C 147 [pv b s] = some [.bool (endsB b s), pd b (skipS b s)] := by
  apply o147
  rw [bT (skip_E b hb s hk)]
  simp only [rd0, pd0, pd1, pd2, pd3, pd4, pd5, pd6, pd7, pd8, pd9, datL, datI, datB]
  rw [bT (over_E b (skipS b s))]
  simp only [rd0, rd1, pd0, pd1, pd2, pd3, pd4, pd5, pd6, pd7, pd8, pd9, datL, datI, datB]
  unfold endsB
  cases overB b (skipS b s) with
  | true => rfl
  | false =>
  rw [cond_false, Bool.false_or, bT (byteAt_E b (skipS b s) _ h0)]
  simp only [rd0, rd1, pd0, pd1, pd2, pd3, pd4, pd5, pd6, pd7, pd8, pd9, datL, datI, datB]
  by_cases h : atB b (skipS b s).k = 124
  · rw [eT h, show (atB b (skipS b s).k == 124) = true by simp [h], Bool.true_or]; rfl
  rw [eF h, show (atB b (skipS b s).k == 124) = false by simp [h], Bool.false_or, bT (byteAt_E b (skipS b s) _ h0)]
  rfl
theorem set_E (b : List Int) (s : PS) (f t : Int) (l : List (Int × Int)) : E C 208 [pv b s, .int .i64 f, .int .i64 t, .shr 82 (rs l)] = some [ptD ⟨2, f, t, 0, 0, 0, 0, ByteArray.empty, l, []⟩ [], pd b { s with k := t }] := by
  apply o208
  rfl
theorem hold_E (b : List Int) (s : PS) (f t w : Int) : E C 210 [pv b s, .int .i64 f, .int .i64 t, .int .i64 w] = some [ptD ⟨3, f, t, w, 0, 0, 0, ByteArray.empty, [], []⟩ [], pd b { s with k := t }] := by
  apply o210
  rfl
theorem closed_E (b : List Int) (s : PS) (l : List (Int × Int)) (hl : l.length ≤ 1000000) : E C 214 [pv b s, .shr 82 (rs l)] = some [.list (rs (bif s.fo then closeR l else l)), pd b s] := by
  apply o214
  cases hf : s.fo with
  | true => rw [cond_true, cond_true, bT (Close_E l hl), ← hf]; rfl
  | false => rw [cond_false, cond_false, ← hf]; rfl
theorem either_E (c : Bool) (x y : Int) : E C 211 [.bool c, .int .i64 x, .int .i64 y] = some [.int (bif c then x else y)] := by
  apply o211
  cases c <;> rfl
theorem look_E (c x y : Int) : E C 244 [.int .u8 c, .int .i64 x, .int .i64 y] = some [.int (bif c == 61 then x else y)] := by
  apply o244
  rw [bT (either_E _ _ _)]
  rfl
theorem Of1_E (x : Int) : E C 215 [.int .i64 x] = some [.list (rs (mk [(x, x)]))] := by
  apply o215
  rw [show ([.agg [.int x, .int x]] : List Dat) = rs [(x, x)] from rfl, bT (Make_E [(x, x)] (show 1 < 8796093022208 by decide))]
  rfl
/-- The quantifier at a place: what is found, whether it counts, the state behind. -/
def countS (b : List Int) (s : PS) : PS := let c := ((rd (countR b s.k) 2).I); if c = 0 then s else failS s c s.k
theorem countR_len (b : List Int) (i : Int) : ∃ q0 q1 q2 q3 : Int, ∃ ok : Bool, ∃ e : Int, countR b i = [.agg [.int q0, .int q1, .int q2, .int q3], .bool ok, .int e] ∧ (e ≠ 0 → ok = false ∧ e = 34) := by
  unfold countR
  split
  · exact ⟨_, _, _, _, _, _, rfl, fun h => absurd rfl h⟩
  · unfold finC
    split
    · exact ⟨_, _, _, _, _, _, rfl, fun h => ⟨rfl, rfl⟩⟩
    · split
      · exact ⟨_, _, _, _, _, _, rfl, fun h => absurd rfl h⟩
      · split
        · exact ⟨_, _, _, _, _, _, rfl, fun h => absurd rfl h⟩
        · exact ⟨_, _, _, _, _, _, rfl, fun h => absurd rfl h⟩
theorem count_E (b : List Int) (hb : b.length ≤ 140737488351232) (s : PS) : E C 178 [pv b s] = some [rd (countR b s.k) 0, .bool ((rd (countR b s.k) 1).B && (s.e == 0)), pd b (countS b s)] := by
  obtain ⟨q0, q1, q2, q3, ok, e, hq, he⟩ := countR_len b s.k
  apply o178
  rw [bT (Count_E b hb s.k)]
  unfold countS
  rw [hq]
  simp only [rd0, rd1, rd2, aggC0, aggC1, aggC2, aggC3, datI, datB]
  by_cases h : e = 0
  · rw [neF h, if_pos h]
    cases ok with
    | true => rw [cond_true, Bool.true_and]; rfl
    | false => rfl
  · obtain ⟨rfl, rfl⟩ := he h
    rw [neT h, if_neg h, bT (fail_E b s _ _)]
    rfl
end Go.Proofs.YtlofoifcdmeopaaGreatDoor.V
namespace Go.Proofs.YtlofoifcdmeopaaGreatDoor.V
open Go Go.Ev Go.RowKit
set_option linter.unusedVariables false
set_option linter.unusedSimpArgs false
theorem atom_par (b : List Int) (s : PS) (d : Int) (hd : 0 ≤ d ∧ d ≤ 1000) (h0 : 0 ≤ s.k) (hc : atB b s.k = 40) {n : Nd} {ks : List Dat} {may : Bool} {s1 : PS} (hg : E C 206 [pv b s, .int .i64 (d + 1)] = some [ptD n ks, .bool may, pd b s1]) : E C 179 [pv b s, .int .i64 d] = some [ptD n ks, .bool may, pd b s1] := by
  apply o179
  rw [bT (byteAt_E b s _ h0)]
  simp only [stP, agA]
  rw [eT hc, w64 (by omega) (by omega), bT hg]
  rfl
theorem atom_lit (b : List Int) (hbb : isBytes b = true) (hb : b.length ≤ 140737488351232) (s : PS) (d : Int) (h0 : 0 ≤ s.k ∧ s.k ≤ 140737488351232) (hc : atB b s.k ≠ 40 ∧ atB b s.k ≠ 91 ∧ atB b s.k ≠ 46 ∧ atB b s.k ≠ 94 ∧ atB b s.k ≠ 36 ∧ atB b s.k ≠ 92) (hs : 0 ≤ (symR b s.k).2 ∧ (symR b s.k).2 ≤ 4) : E C 179 [pv b s, .int .i64 d] = some [ptD ⟨2, s.k, s.k + (symR b s.k).2, 0, 0, 0, 0, ByteArray.empty, bif s.fo then closeR (mk [((symR b s.k).1, (symR b s.k).1)]) else mk [((symR b s.k).1, (symR b s.k).1)], []⟩ [], .bool true, pd b { s with k := s.k + (symR b s.k).2 }] := by
  obtain ⟨c1, c2, c3, c4, c5, c6⟩ := hc
  apply o179
  rw [bT (byteAt_E b s _ h0.1)]
  simp only [stP, agA]
  rw [eF c1, eF c2, eF c3, eF c4, eF c5, eF c6, bT (At_E b hbb hb s.k)]
  simp only [stP, agA]
  rw [bT (Of1_E _)]
  simp only [stP, agA]
  rw [bT (closed_E b s _ (mk1_len _))]
  simp only [stP, agA]
  rw [w64 (by omega) (by omega), bT (set_E b s _ _ _)]
  rfl
where
  mk1_len (x : Int) : (mk [(x, x)]).length ≤ 1000000 := Nat.le_trans (mk_length [(x, x)]) (show 1 ≤ 1000000 by decide)
theorem open_E (b : List Int) (s : PS) (f : Int) (hf : 0 ≤ f ∧ f ≤ 140737488351232) (hq : atB b (f + 1) ≠ 63) : E C 229 [pv b s, .int .i64 f] = some [.agg [.int 7, .int 0, .str ByteArray.empty, .bool s.fo, .bool s.li, .bool s.al, .bool s.wi, .bool false], pd b { s with k := f + 1 }] := by
  apply o229
  rw [w64 (n := f + 1) (by omega) (by omega), bT (byteAt_E b s _ (by omega))]
  simp only [stP, agA]
  rw [neT hq]
  rfl
theorem cap144 : capB 144 = 977343669134 := by decide
/-- A row of one piece. -/
theorem row_one (b : List Int) (hb : b.length ≤ 140737488351232) (s : PS) (d : Int) (hw : s.wi = false) (hk : i64P s.k) (h0 : 0 ≤ s.k) (hn : endsB b s = false) {x : Dat} {l : List Dat} {s1 : PS} (hp : E C 148 [pv b s, .int .i64 d] = some [.list l, pd b s1]) (hl : l.length ≤ 1) (w1 : s1.wi = false) (k1 : i64P s1.k) (h1 : 0 ≤ s1.k) (he : endsB b s1 = true) : E C 108 [pv b s, .int .i64 d] = some [(match l with | [] => ptD ⟨1, s.k, s.k, 0, 0, 0, 0, ByteArray.empty, [], []⟩ [] | x :: _ => .agg [.int (x.C 0).I, .int (x.C 1).I, .int (x.C 2).I, .int (x.C 3).I, .int (x.C 4).I, .int (x.C 5).I, .int (x.C 6).I, .str (x.C 7).S, .list (x.C 8).L, .list (x.C 9).L, .list (x.C 10).L]), pd b s1] := by
  have sk : skipS b s = s := by unfold skipS; rw [hw]; rfl
  have sk1 : skipS b s1 = s1 := by unfold skipS; rw [w1]; rfl
  apply o108
  apply M108_1_of
  have e0 := ends_E b hb s hk (by rw [sk]; exact h0)
  rw [sk, hn] at e0
  rw [bT e0]
  simp only [stP, agA]
  rw [nF' rfl, bT hp]
  simp only [stP, agA]
  rw [cap144, dT (by show 0 + l.length ≤ _; omega)]
  apply M108_1_of
  have e1 := ends_E b hb s1 k1 (by rw [sk1]; exact h1)
  rw [sk1, he] at e1
  rw [bT e1]
  simp only [stP, agA]
  rw [nF rfl]
  match l, hl with
  | [], _ => rfl
  | [x], _ => rfl
where
  nF' {α : Type} {b : Bool} {x y : α} (h : b = false) : (bif !b then x else y) = x := nT h
end Go.Proofs.YtlofoifcdmeopaaGreatDoor.V
namespace Go.Proofs.YtlofoifcdmeopaaGreatDoor.V
open Go Go.Ev Go.RowKit
set_option linter.unusedVariables false
set_option linter.unusedSimpArgs false
def isSym (x : Int) : Bool := decide ((0 ≤ x ∧ x ≤ 55295) ∨ (57344 ≤ x ∧ x ≤ 1114111) ∨ (1114240 ≤ x ∧ x ≤ 1114367))
theorem isSym_iff (x : Int) : isSym x = true ↔ (0 ≤ x ∧ x ≤ 55295) ∨ (57344 ≤ x ∧ x ≤ 1114111) ∨ (1114240 ≤ x ∧ x ≤ 1114367) := by
  unfold isSym
  rw [decide_eq_true_eq]
theorem isSym_dec {x : Int} {c : Prop} [Decidable c] (h : c ↔ (0 ≤ x ∧ x ≤ 55295) ∨ (57344 ≤ x ∧ x ≤ 1114111) ∨ (1114240 ≤ x ∧ x ≤ 1114367)) : decide c = isSym x := by
  unfold isSym
  exact decide_eq_decide.2 h
theorem isSym_true {x : Int} (h : (0 ≤ x ∧ x ≤ 55295) ∨ (57344 ≤ x ∧ x ≤ 1114111) ∨ (1114240 ≤ x ∧ x ≤ 1114367)) : true = isSym x := ((isSym_iff x).mpr h).symm
theorem isSym_false {x : Int} (h : ¬ ((0 ≤ x ∧ x ≤ 55295) ∨ (57344 ≤ x ∧ x ≤ 1114111) ∨ (1114240 ≤ x ∧ x ≤ 1114367))) : false = isSym x := (Bool.eq_false_iff.mpr (fun e => h ((isSym_iff x).mp e))).symm
/-- A hexadecimal digit's number; -1: it is none. -/
def hexV (c : Int) : Int := if 48 ≤ c ∧ c ≤ 57 then c - 48 else if 97 ≤ c ∧ c ≤ 102 then c - 87 else if 65 ≤ c ∧ c ≤ 70 then c - 55 else -1
theorem hexV_in (c : Int) : -1 ≤ hexV c ∧ hexV c ≤ 15 := by
  unfold hexV
  split
  · omega
  split
  · omega
  split <;> omega
theorem hex_E (c : Int) : E C 302 [.int .u8 c] = some [.int (hexV c)] := by
  apply o302
  rw [bT (digit_E c)]
  simp only [rd0, datB]
  unfold hexV
  cases hd : digB c with
  | true =>
    have h := digB_iff.1 hd
    rw [cT rfl, w8 (by omega) (by omega), w64 (by omega) (by omega), if_pos h]
  | false =>
    have h := digB_no.1 hd
    rw [cF rfl, if_neg h]
    by_cases c1 : c ≥ 97
    · by_cases c2 : c ≤ 102
      · rw [dT c1, dT c2, w8 (by omega) (by omega), w64 (n := c - 97) (by omega) (by omega), w64 (by omega) (by omega), if_pos ⟨c1, c2⟩, show c - 97 + 10 = c - 87 by omega]
      · rw [dT c1, dF c2, dT (by omega), dF (by omega), if_neg (by omega), if_neg (by omega)]
    · rw [dF c1, if_neg (by omega)]
      by_cases c3 : c ≥ 65
      · by_cases c4 : c ≤ 70
        · rw [dT c3, dT c4, w8 (by omega) (by omega), w64 (n := c - 65) (by omega) (by omega), w64 (by omega) (by omega), if_pos ⟨c3, c4⟩, show c - 65 + 10 = c - 55 by omega]
        · rw [dT c3, dF c4, if_neg (by omega)]
      · rw [dF c3, if_neg (by omega)]
theorem bs_size (s : List UInt8) : (bs s).size = s.length := by
  show s.toArray.size = _
  simp
/-- A number of at most so many hexadecimal digits; how many they are. -/
def hexG : Nat → List Int → Int → Int × Nat
  | 0, _, a => (a, 0)
  | m + 1, l, a => match l with
    | [] => (a, 0)
    | c :: l => if hexV c ≥ 0 then ((hexG m l (a * 16 + hexV c)).1, (hexG m l (a * 16 + hexV c)).2 + 1) else (a, 0)
theorem hexG_le : ∀ (m : Nat) (l : List Int) (a : Int), (hexG m l a).2 ≤ m ∧ (hexG m l a).2 ≤ l.length
  | 0, l, a => ⟨Nat.le_refl _, Nat.zero_le _⟩
  | m + 1, [], a => ⟨Nat.zero_le _, Nat.le_refl _⟩
  | m + 1, c :: l, a => by
    have := hexG_le m l (a * 16 + hexV c)
    unfold hexG
    dsimp only
    split
    · simp only [List.length_cons]; omega
    · simp
theorem hexG_drop {b : List Int} {k : Nat} (m : Nat) (a : Int) : hexG (m + 1) (b.drop k) a = if hexV (atB b (k : Int)) ≥ 0 then ((hexG m (b.drop (k + 1)) (a * 16 + hexV (atB b (k : Int)))).1, (hexG m (b.drop (k + 1)) (a * 16 + hexV (atB b (k : Int)))).2 + 1) else (a, 0) := by
  by_cases h : k < b.length
  · rw [List.drop_eq_getElem_cons h, hexG, atB_in h]
  · rw [List.drop_of_length_le (by omega), atB_out (by omega), if_neg (by decide)]
    rfl
theorem pow16 {k : Nat} (h : k ≤ 6) : (16 : Int) ^ k ≤ 16777216 := by
  have : k = 0 ∨ k = 1 ∨ k = 2 ∨ k = 3 ∨ k = 4 ∨ k = 5 ∨ k = 6 := by omega
  rcases this with rfl | rfl | rfl | rfl | rfl | rfl | rfl <;> decide
theorem hexes_loop (b : List Int) (hb : b.length ≤ 140737488351232) (i : Nat) (hi : i ≤ b.length + 10) (most : Nat) (hm : most ≤ 6) (v6 v7 : Int) : ∀ (m k : Nat) (a : Int), k + m = most → 0 ≤ a → a + 1 ≤ 16 ^ k →
    M284_1 (b.map .int) (i : Int) (most : Int) v6 v7 a (k : Int) = some [.int (hexG m (b.drop (i + k)) a).1, .int (((k + (hexG m (b.drop (i + k)) a).2 : Nat)) : Int)] := by
  intro m
  induction m with
  | zero =>
    intro k a hk h0 h1
    apply M284_1_of
    rw [dF (by omega)]
    rfl
  | succ m ih =>
    intro k a hk h0 h1
    have hp := pow16 (k := k) (by omega)
    have ew : IntKind.i64.wrap ((i : Int) + (k : Int)) = ((i + k : Nat) : Int) := by rw [w64 (by omega) (by omega)]; omega
    have hh := hexV_in (atB b ((i + k : Nat) : Int))
    apply M284_1_of
    rw [dT (by omega), ew, bT (at_E b _)]
    simp only [rd0, datI]
    rw [bT (hex_E _)]
    simp only [rd0, datI]
    rw [hexG_drop]
    by_cases h : hexV (atB b ((i + k : Nat) : Int)) ≥ 0
    · have hin : i + k < b.length := Classical.byContradiction fun hn => by
        rw [atB_out (by omega)] at h
        exact absurd h (by decide)
      rw [dT h, if_pos h, List.length_map, ixT ⟨by omega, by omega⟩, rdA ⟨by omega, by omega⟩, bT (hex_E _)]
      simp only [rd0, datI]
      rw [w64 (n := a * 16) (by omega) (by omega), w64 (n := a * 16 + hexV (atB b ((i + k : Nat) : Int))) (by omega) (by omega), show IntKind.i64.wrap ((k : Int) + 1) = ((k + 1 : Nat) : Int) from by rw [w64 (by omega) (by omega)]; omega]
      have hps : (16 : Int) ^ (k + 1) = 16 ^ k * 16 := Int.pow_succ 16 k
      refine (ih (k + 1) _ (by omega) (by omega) (by rw [hps]; omega)).trans ?_
      rw [show i + (k + 1) = i + k + 1 from rfl]
      have e : ∀ n : Nat, ((k + 1 + n : Nat) : Int) = ((k + (n + 1) : Nat) : Int) := fun n => by omega
      rw [e]
    · rw [dF h, if_neg h]
      rfl
theorem hexes_E (b : List Int) (hb : b.length ≤ 140737488351232) (i : Nat) (hi : i ≤ b.length + 10) (most : Nat) (hm : most ≤ 6) : E C 284 [.shr 5 (b.map .int), .int .i64 (i : Int), .int .i64 (most : Int)] = some [.int (hexG most (b.drop i) 0).1, .int (((hexG most (b.drop i) 0).2 : Nat) : Int)] := by
  apply o284
  refine (hexes_loop b hb i hi most hm 0 0 most 0 0 (by omega) (by omega) (by decide)).trans ?_
  rw [Nat.add_zero, Nat.zero_add]
theorem hexes6_E (b : List Int) (hb : b.length ≤ 140737488351232) (i : Nat) (hi : i ≤ b.length + 10) : E C 284 [.shr 5 (b.map .int), .int .i64 (i : Int), .int .i64 6] = some [.int (hexG 6 (b.drop i) 0).1, .int (((hexG 6 (b.drop i) 0).2 : Nat) : Int)] := hexes_E b hb i hi 6 (by omega)
theorem hexes2_E (b : List Int) (hb : b.length ≤ 140737488351232) (i : Nat) (hi : i ≤ b.length + 10) : E C 284 [.shr 5 (b.map .int), .int .i64 (i : Int), .int .i64 2] = some [.int (hexG 2 (b.drop i) 0).1, .int (((hexG 2 (b.drop i) 0).2 : Nat) : Int)] := hexes_E b hb i hi 2 (by omega)
theorem Is_E (x : Int) : E C 97 [.int .i64 x] = some [.bool (isSym x)] := by
  apply o97
  by_cases h0 : x < 0
  · rw [dT h0, isSym_false (x := x) (by omega)]
  rw [dF h0]
  by_cases h1 : x > 1114367
  · rw [dT h1, isSym_false (x := x) (by omega)]
  rw [dF h1]
  by_cases h2 : x > 1114111
  · rw [dT h2, isSym_dec (x := x) (by omega)]
  rw [dF h2]
  by_cases h3 : x < 55296
  · rw [dT h3, isSym_true (x := x) (by omega)]
  · rw [dF h3, isSym_dec (x := x) (by omega)]
/-- A symbol by its number, behind the x: the number, and behind it. -/
def codeS (b : List Int) (j : Nat) : Option (Int × Nat) :=
  if atB b (j : Int) = 123 then
    if (hexG 6 (b.drop (j + 1)) 0).2 = 0 ∨ atB b ((j + 1 + (hexG 6 (b.drop (j + 1)) 0).2 : Nat) : Int) ≠ 125 ∨ isSym (hexG 6 (b.drop (j + 1)) 0).1 = false then none
    else some ((hexG 6 (b.drop (j + 1)) 0).1, j + (hexG 6 (b.drop (j + 1)) 0).2 + 2)
  else if (hexG 2 (b.drop j) 0).2 < 2 then none
  else some ((hexG 2 (b.drop j) 0).1, j + 2)
def itemP (kind to num : Int) (s : ByteArray) (l : List Dat) (e : Int) : List Dat := [.agg [.int kind, .int to, .int num, .str s, .list l], .int e]
def codeP : Option (Int × Nat) → List Dat
  | none => itemP 0 0 0 ByteArray.empty [] 32
  | some p => itemP 1 (p.2 : Int) p.1 ByteArray.empty [] 0
theorem code_E (b : List Int) (hb : b.length ≤ 140737488351232) (j : Nat) (hj : j ≤ b.length + 5) : E C 274 [.shr 5 (b.map .int), .int .i64 (j : Int)] = some (codeP (codeS b j)) := by
  apply o274
  rw [bT (at_E b _)]
  simp only [rd0, datI]
  unfold codeS
  by_cases h : atB b (j : Int) = 123
  · have g := hexG_le 6 (b.drop (j + 1)) 0
    rw [eT h, if_pos h, show IntKind.i64.wrap ((j : Int) + 1) = ((j + 1 : Nat) : Int) from by rw [w64 (by omega) (by omega)]; omega, bT (hexes6_E b hb (j + 1) (by omega))]
    simp only [rd0, rd1, datI]
    by_cases c1 : (hexG 6 (b.drop (j + 1)) 0).2 = 0
    · rw [eT (by omega), if_pos (.inl c1)]; rfl
    rw [eF (by omega), show IntKind.i64.wrap (((j + 1 : Nat) : Int) + (((hexG 6 (b.drop (j + 1)) 0).2 : Nat) : Int)) = ((j + 1 + (hexG 6 (b.drop (j + 1)) 0).2 : Nat) : Int) from by rw [w64 (by omega) (by omega)]; omega, bT (at_E b _)]
    simp only [rd0, datI]
    by_cases c2 : atB b ((j + 1 + (hexG 6 (b.drop (j + 1)) 0).2 : Nat) : Int) = 125
    · rw [neF c2, bT (Is_E _)]
      simp only [rd0, datB]
      cases c3 : isSym (hexG 6 (b.drop (j + 1)) 0).1 with
      | false => rw [nT rfl, if_pos (.inr (.inr rfl))]; rfl
      | true =>
        rw [nF rfl, if_neg (by rintro (h | h | h) <;> first | exact c1 h | exact h c2 | cases h), show IntKind.i64.wrap (IntKind.i64.wrap ((j : Int) + (((hexG 6 (b.drop (j + 1)) 0).2 : Nat) : Int)) + 2) = ((j + (hexG 6 (b.drop (j + 1)) 0).2 + 2 : Nat) : Int) from by rw [w64 (n := (j : Int) + _) (by omega) (by omega), w64 (by omega) (by omega)]; omega]
        rfl
    · rw [neT c2, if_pos (.inr (.inl c2))]; rfl
  · have g := hexG_le 2 (b.drop j) 0
    rw [eF h, if_neg h, bT (hexes2_E b hb j (by omega))]
    simp only [rd0, rd1, datI]
    by_cases c1 : (hexG 2 (b.drop j) 0).2 < 2
    · rw [dT (by omega), if_pos c1]; rfl
    · rw [dF (by omega), if_neg c1, show IntKind.i64.wrap ((j : Int) + (((hexG 2 (b.drop j) 0).2 : Nat) : Int)) = ((j + 2 : Nat) : Int) from by rw [w64 (by omega) (by omega)]; omega]
      rfl
end Go.Proofs.YtlofoifcdmeopaaGreatDoor.V
namespace Go.Proofs.YtlofoifcdmeopaaGreatDoor.V
open Go Go.Ev Go.RowKit
set_option linter.unusedVariables false
set_option linter.unusedSimpArgs false
def wB (c : Int) : Bool := letB c || (c == 95 || digB c)
def wlen : List Int → Nat
  | [] => 0
  | c :: l => if wB c = true then wlen l + 1 else 0
theorem wlen_drop {b : List Int} {k : Nat} (h : k < b.length) : wlen (b.drop k) = if wB (atB b k) = true then wlen (b.drop (k + 1)) + 1 else 0 := by
  rw [List.drop_eq_getElem_cons h, wlen, atB_in h]
theorem wlen_end {b : List Int} {k : Nat} (h : wB (atB b k) = false) : wlen (b.drop k) = 0 := by
  by_cases hk : k < b.length
  · rw [wlen_drop hk, h]; rfl
  · rw [List.drop_of_length_le (by omega)]; rfl
def subB (b : List Int) (i k : Int) : ByteArray := strOf (((b.map Dat.int).take k.toNat).drop i.toNat)
def errN : List Dat := [.str ByteArray.empty, .int 0, .int 36]
def finN (b : List Int) (i k : Int) : List Dat := if i < 0 ∨ k = i ∨ k - i > 32 ∨ atB b k ≠ 62 then errN else [.str (subB b i k), .int (k + 1), .int 0]
theorem fin_ok (b : List Int) (hb : b.length ≤ 140737488351232) (i : Int) (k : Nat) (hik : i ≤ (k : Int)) (hi : i64P i) (hk : k ≤ b.length ∨ i = (k : Int) ∨ i < 0) :
    (bif decide (i < 0) then (some [.str ByteArray.empty, .int 0, .int 36]) else (bif (k : Int) == i then (some [.str ByteArray.empty, .int 0, .int 36]) else (bif decide ((IntKind.i64.wrap ((k : Int) - i)) > 32) then (some [.str ByteArray.empty, .int 0, .int 36]) else ((E C 217 [.shr 5 (b.map .int), .int .i64 (k : Int)]).bind fun d7 => (bif ((rd d7 0).I) != 62 then (some [.str ByteArray.empty, .int 0, .int 36]) else (bif decide (0 ≤ i) then (bif decide (i ≤ (k : Int)) then (bif decide ((k : Int) ≤ (((b.map Dat.int).length : Nat) : Int)) then (some [.str (strOf (((b.map Dat.int).take (k : Int).toNat).drop i.toNat)), .int (IntKind.i64.wrap ((k : Int) + 1)), .int 0]) else none) else none) else none))))) : R) = some (finN b i (k : Int)) := by
  unfold finN errN
  by_cases c1 : i < 0
  · rw [dT c1, if_pos (.inl c1)]
  by_cases c2 : (k : Int) = i
  · rw [dF c1, eT c2, if_pos (.inr (.inl c2))]
  have hkl : k ≤ b.length := by omega
  rw [dF c1, eF c2, w64 (by omega) (by omega), w64 (by omega) (by omega)]
  by_cases c3 : (k : Int) - i > 32
  · rw [dT c3, if_pos (.inr (.inr (.inl c3)))]
  rw [dF c3, bT (at_E b _)]
  simp only [rd0, datI, List.length_map]
  by_cases c4 : atB b (k : Int) = 62
  · rw [neF c4, dT (by omega), dT (by omega), dT (by omega), if_neg (by rintro (h | h | h | h) <;> first | exact h c4 | omega)]
    rfl
  · rw [neT c4, if_pos (.inr (.inr (.inr c4)))]
theorem name_loop (b : List Int) (hb : b.length ≤ 140737488351232) (i : Int) (hi : i64P i) (v4 : ByteArray) (v5 v6 : Int) : ∀ (d k : Nat), b.length - k = d → i ≤ (k : Int) → (k ≤ b.length ∨ i = (k : Int) ∨ i < 0) → (i = (k : Int) → digB (atB b k) = false) →
    M256_1 (b.map .int) i v4 v5 v6 (k : Int) (atB b (k : Int)) = some (finN b i (((k + wlen (b.drop k) : Nat)) : Int)) := by
  intro d
  induction d with
  | zero =>
    intro k hd hik hkl hdg
    have h0 : atB b (k : Int) = 0 := atB_out (by omega)
    have hw : wB (atB b (k : Int)) = false := by rw [h0]; rfl
    apply M256_1_of
    rw [bT (letter_E _), h0, show letB 0 = false from rfl]
    simp only [rd0, datB]
    rw [cF rfl, eF (by omega), bT (digit_E _), show digB 0 = false from rfl]
    simp only [rd0, datB]
    rw [cF rfl, wlen_end hw]
    exact fin_ok b hb i k hik hi hkl
  | succ d ih =>
    intro k hd hik hkl hdg
    have hlt : k < b.length := by omega
    have nx := ih (k + 1) (by omega) (by omega) (by omega) (by omega)
    have ew : IntKind.i64.wrap ((k : Int) + 1) = ((k + 1 : Nat) : Int) := by rw [w64 (by omega) (by omega)]; omega
    have hs : ∀ h : wB (atB b (k : Int)) = true, (((k + 1) + wlen (b.drop (k + 1)) : Nat)) = (k + wlen (b.drop k) : Nat) := fun h => by
      rw [wlen_drop hlt, if_pos h]; omega
    apply M256_1_of
    rw [bT (letter_E _)]
    simp only [rd0, datB]
    cases h1 : letB (atB b (k : Int)) with
    | true =>
      rw [cT rfl, ew, bT (at_E b _)]
      simp only [rd0, datI]
      rw [nx, hs (by simp [wB, h1])]
    | false =>
      rw [cF rfl]
      by_cases h2 : atB b (k : Int) = 95
      · rw [eT h2, ew, bT (at_E b _)]
        simp only [rd0, datI]
        rw [nx, hs (by simp [wB, h2])]
      rw [eF h2, bT (digit_E _)]
      simp only [rd0, datB]
      cases h3 : digB (atB b (k : Int)) with
      | true =>
        have hne : ¬ i = (k : Int) := fun h => by rw [hdg h] at h3; cases h3
        rw [cT rfl, dT (by omega), ew, bT (at_E b _)]
        simp only [rd0, datI]
        rw [nx, hs (by simp [wB, h3])]
      | false =>
        rw [cF rfl, wlen_end (by simp [wB, h1, h2, h3])]
        exact fin_ok b hb i k hik hi hkl
/-- What a name is read as. -/
def nameR (b : List Int) (i : Int) : List Dat := if i < 0 ∨ i ≥ (b.length : Int) ∨ digB (atB b i) = true then errN else finN b i (i + wlen (b.drop i.toNat))
theorem Name_E (b : List Int) (hb : b.length ≤ 140737488351232) (i : Int) (hi : i64P i) : E C 256 [.shr 5 (b.map .int), .int .i64 i] = some (nameR b i) := by
  apply o256
  rw [bT (at_E b _)]
  simp only [rd0, datI]
  unfold nameR
  by_cases h : 0 > i
  · rw [if_pos h, if_pos (.inl h)]
    refine (name_loop b hb i hi _ _ _ _ 0 rfl (by omega) (.inr (.inr h)) (by omega)).trans ?_
    unfold finN
    rw [if_pos (.inl h)]
  · rw [if_neg h]
    obtain ⟨k, rfl⟩ : ∃ k : Nat, i = (k : Int) := ⟨i.toNat, by omega⟩
    cases hg : digB (atB b (k : Int)) with
    | true =>
      rw [if_pos (.inr (.inr rfl))]
      have hl : letB (atB b (k : Int)) = false := by
        rw [digB_iff] at hg
        rw [letB_no]
        omega
      have hg' := digB_iff.1 hg
      apply M256_1_of
      rw [bT (letter_E _), hl]
      simp only [rd0, datB]
      rw [cF rfl, eF (by omega), bT (digit_E _), hg]
      simp only [rd0, datB]
      rw [cT rfl, dF (by omega), dF (by omega), eT rfl]
      rfl
    | false =>
      refine (name_loop b hb (k : Int) hi _ _ _ _ k rfl (by omega) (.inr (.inl rfl)) (fun _ => hg)).trans ?_
      by_cases hl : (k : Int) ≥ (b.length : Int)
      · rw [if_pos (.inr (.inl hl)), wlen_end (by rw [atB_out (by omega)]; rfl)]
        unfold finN
        rw [if_pos (.inr (.inl (by omega)))]
      · rw [if_neg (by rintro (h' | h' | h') <;> first | omega | cases h'), Int.toNat_natCast]
        congr 1
end Go.Proofs.YtlofoifcdmeopaaGreatDoor.V
namespace Go.Proofs.YtlofoifcdmeopaaGreatDoor.V
open Go Go.Ev Go.RowKit
end Go.Proofs.YtlofoifcdmeopaaGreatDoor.V
namespace Go.Proofs.YtlofoifcdmeopaaGreatDoor.V
open Go Go.Ev
set_option maxRecDepth 100000
set_option linter.unusedVariables false
theorem o209 (a0 : Bool) {r : List Dat} (h : (bif a0 then ((E C 167 [.shr 82 ([] : List Dat)]).bind fun d1 => (some [.list ((rd d1 0).L)])) else ((E C 215 [.int .i64 10]).bind fun d2 => ((E C 167 [.shr 82 ((rd d2 0).L)]).bind fun d3 => (some [.list ((rd d3 0).L)]))) : R) = some r) : E C 209 [.bool a0] = some r := E_st h (Cont.bif (Cont.bind (Cont.call C 167 _) fun _ => (Cont.const _)) (Cont.bind (Cont.call C 215 _) fun _ => (Cont.bind (Cont.call C 167 _) fun _ => (Cont.const _)))) fun φ => by kernel_rfl
theorem o276 (a0 : Int) {r : List Dat} (h : (bif a0 == 100 then ((E C 285 [.str (bs [100, 105, 103, 105, 116])]).bind fun d1 => (some [.list ((rd d1 0).L), .bool true])) else (bif a0 == 119 then ((E C 285 [.str (bs [119, 111, 114, 100])]).bind fun d2 => (some [.list ((rd d2 0).L), .bool true])) else (bif a0 == 115 then ((E C 285 [.str (bs [115, 112, 97, 99, 101])]).bind fun d3 => (some [.list ((rd d3 0).L), .bool true])) else (bif a0 == 68 then (bif a0 == 68 then ((E C 276 [.int .u8 (IntKind.u8.wrap ((IntKind.u8.wrap (a0 + 97)) - 65))]).bind fun d4 => ((E C 167 [.shr 82 ((rd d4 0).L)]).bind fun d5 => (some [.list ((rd d5 0).L), .bool true]))) else (some [.list ([] : List Dat), .bool false])) else (bif a0 == 87 then (bif a0 == 87 then ((E C 276 [.int .u8 (IntKind.u8.wrap ((IntKind.u8.wrap (a0 + 97)) - 65))]).bind fun d6 => ((E C 167 [.shr 82 ((rd d6 0).L)]).bind fun d7 => (some [.list ((rd d7 0).L), .bool true]))) else (some [.list ([] : List Dat), .bool false])) else (bif a0 == 83 then ((E C 276 [.int .u8 (IntKind.u8.wrap ((IntKind.u8.wrap (a0 + 97)) - 65))]).bind fun d8 => ((E C 167 [.shr 82 ((rd d8 0).L)]).bind fun d9 => (some [.list ((rd d9 0).L), .bool true]))) else (some [.list ([] : List Dat), .bool false])))))) : R) = some r) : E C 276 [.int .u8 a0] = some r := E_st h (Cont.bif (Cont.bind (Cont.call C 285 _) fun _ => (Cont.const _)) (Cont.bif (Cont.bind (Cont.call C 285 _) fun _ => (Cont.const _)) (Cont.bif (Cont.bind (Cont.call C 285 _) fun _ => (Cont.const _)) (Cont.bif (Cont.bif (Cont.bind (Cont.call C 276 _) fun _ => (Cont.bind (Cont.call C 167 _) fun _ => (Cont.const _))) (Cont.const _)) (Cont.bif (Cont.bif (Cont.bind (Cont.call C 276 _) fun _ => (Cont.bind (Cont.call C 167 _) fun _ => (Cont.const _))) (Cont.const _)) (Cont.bif (Cont.bind (Cont.call C 276 _) fun _ => (Cont.bind (Cont.call C 167 _) fun _ => (Cont.const _))) (Cont.const _))))))) fun φ => by kernel_rfl
theorem o282 (a0 : ByteArray) {r : List Dat} (h : ((E C 290 []).bind fun d1 => ((E C 291 [.shr 342 ((rd d1 0).L), .clo 292 [] [.sref 9 ([.str a0] : List Dat) 0 0]]).bind fun d2 => (bif decide (((rd d2 0).I) < 0) then (some [.list ([] : List Dat), .bool false]) else (bif decide (0 ≤ ((rd d2 0).I)) then (bif decide (((rd d2 0).I) < (((rd d1 0).L).length : Int)) then (bif decide (((rd d2 0).I).toNat < ((rd d1 0).L).length) then (some [.list (((rd ((rd d1 0).L) (((rd d2 0).I).toNat)).C 1).L), .bool true]) else none) else none) else none))) : R) = some r) : E C 282 [.str a0] = some r := E_st h (Cont.bind (Cont.call C 290 _) fun _ => (Cont.bind (Cont.call C 291 _) fun _ => (Cont.bif (Cont.const _) (Cont.bif (Cont.bif (Cont.bif (Cont.const _) Cont.nn) Cont.nn) Cont.nn)))) fun φ => by kernel_rfl
theorem o285 (a0 : ByteArray) {r : List Dat} (h : ((E C 282 [.str a0]).bind fun d1 => (some [.list ((rd d1 0).L)]) : R) = some r) : E C 285 [.str a0] = some r := E_st h (Cont.bind (Cont.call C 282 _) fun _ => (Cont.const _)) fun φ => by kernel_rfl
theorem o290 {r : List Dat} (h : (some [.list ([.agg [.str (bs [97, 108, 110, 117, 109]), .list ([.agg [.int 48, .int 57], .agg [.int 65, .int 90], .agg [.int 97, .int 122]] : List Dat)], .agg [.str (bs [97, 108, 112, 104, 97]), .list ([.agg [.int 65, .int 90], .agg [.int 97, .int 122]] : List Dat)], .agg [.str (bs [97, 115, 99, 105, 105]), .list ([.agg [.int 0, .int 127]] : List Dat)], .agg [.str (bs [98, 108, 97, 110, 107]), .list ([.agg [.int 9, .int 9], .agg [.int 32, .int 32]] : List Dat)], .agg [.str (bs [99, 110, 116, 114, 108]), .list ([.agg [.int 0, .int 31], .agg [.int 127, .int 127]] : List Dat)], .agg [.str (bs [100, 105, 103, 105, 116]), .list ([.agg [.int 48, .int 57]] : List Dat)], .agg [.str (bs [103, 114, 97, 112, 104]), .list ([.agg [.int 33, .int 126]] : List Dat)], .agg [.str (bs [108, 111, 119, 101, 114]), .list ([.agg [.int 97, .int 122]] : List Dat)], .agg [.str (bs [112, 114, 105, 110, 116]), .list ([.agg [.int 32, .int 126]] : List Dat)], .agg [.str (bs [112, 117, 110, 99, 116]), .list ([.agg [.int 33, .int 47], .agg [.int 58, .int 64], .agg [.int 91, .int 96], .agg [.int 123, .int 126]] : List Dat)], .agg [.str (bs [115, 112, 97, 99, 101]), .list ([.agg [.int 9, .int 13], .agg [.int 32, .int 32]] : List Dat)], .agg [.str (bs [117, 112, 112, 101, 114]), .list ([.agg [.int 65, .int 90]] : List Dat)], .agg [.str (bs [119, 111, 114, 100]), .list ([.agg [.int 48, .int 57], .agg [.int 65, .int 90], .agg [.int 95, .int 95], .agg [.int 97, .int 122]] : List Dat)], .agg [.str (bs [120, 100, 105, 103, 105, 116]), .list ([.agg [.int 48, .int 57], .agg [.int 65, .int 70], .agg [.int 97, .int 102]] : List Dat)]] : List Dat)] : R) = some r) : E C 290 [] = some r := E_st h (Cont.const _) fun φ => by kernel_rfl
/-- slices.IndexFunc[[]clew/class.named,clew/class.named] -/
noncomputable def f291 : Func := Tryz.f291
def kp291 : List Nat := [0, 1, 4, 5, 7, 8]
noncomputable def c291 (p : List Nat) : Code := pick f291 p
noncomputable def L291_a_1 (n : Nat) (m1 : Nat) (v0 : List Dat) (v1c0d0 : ByteArray) (v4 v7 v8 : Int) : R := loopIter (fun E K => evCode C (ev C n) n kp291 (c291 [1, 0, 1, 0, 0]) E K) [0, 1, 4, 7, 8] (Kblk 0 (Kseq C (ev C n) n kp291 (c291 [1, 1]) (Ktop C 291 f291 [.und, .und]))) m1 [.shr 342 v0, .clo 292 [] [.sref 9 ([.str v1c0d0] : List Dat) 0 0], .und, .und, .int .i64 v4, .und, .und, .int .i64 v7, .int .i64 v8, .und, .und, .und, .und, .und, .und, .und, .und, .und, .und]
noncomputable def M291_a_1 (v0 : List Dat) (v1c0d0 : ByteArray) (v4 v7 v8 : Int) : R := lim fun φ => L291_a_1 (φ 0) (φ 1) v0 v1c0d0 v4 v7 v8
theorem M291_a_1_c (v0 : List Dat) (v1c0d0 : ByteArray) (v4 v7 v8 : Int) : Cont (fun φ => L291_a_1 (φ 0) (φ 1) v0 v1c0d0 v4 v7 v8) (M291_a_1 v0 v1c0d0 v4 v7 v8) := Cont.re id _
theorem M291_a_1_e (v0 : List Dat) (v1c0d0 : ByteArray) (v4 v7 v8 : Int) : Cont (fun φ => L291_a_1 (φ 0) (φ 0) v0 v1c0d0 v4 v7 v8) (M291_a_1 v0 v1c0d0 v4 v7 v8) := Cont.re (toZ 1) fun φ => L291_a_1 (φ 0) (φ 1) v0 v1c0d0 v4 v7 v8
theorem M291_a_1_of (v0 : List Dat) (v1c0d0 : ByteArray) (v4 v7 v8 : Int) {r : List Dat} (h : (bif decide (v8 < v7) then (bif decide (0 ≤ v8) then (bif decide (v8 < (v0.length : Int)) then (bif decide (v8.toNat < v0.length) then ((E C 292 [.agg [.str (((rd v0 v8.toNat).C 0).S), .shr 82 (((rd v0 v8.toNat).C 1).L)], .sref 9 ([.str v1c0d0] : List Dat) 0 0]).bind fun d1 => (bif (rd d1 0).B then (some [.int v8]) else (M291_a_1 v0 v1c0d0 v4 v7 (IntKind.i64.wrap (v8 + 1))))) else none) else none) else none) else (some [.int (-1)]) : R) = some r) : M291_a_1 v0 v1c0d0 v4 v7 v8 = some r := lim_st (g := fun φ => L291_a_1 (φ 0) (φ 1) v0 v1c0d0 v4 v7 v8) 1 h (Cont.bif (Cont.bif (Cont.bif (Cont.bif (Cont.bind (Cont.call C 292 _) fun _ => (Cont.bif (Cont.const _) (M291_a_1_c _ _ _ _ _))) Cont.nn) Cont.nn) Cont.nn) (Cont.const _)) fun φ m hm => (congrArg (fun q => L291_a_1 (φ 0) q v0 v1c0d0 v4 v7 v8) hm).trans (by kernel_rfl)
theorem o291_a (a0 : List Dat) (a1c0d0 : ByteArray) {r : List Dat} (h : (M291_a_1 a0 a1c0d0 0 (a0.length : Int) 0 : R) = some r) : E C 291 [.shr 342 a0, .clo 292 [] [.sref 9 ([.str a1c0d0] : List Dat) 0 0]] = some r := E_st h (M291_a_1_e _ _ _ _ _) fun φ => by kernel_rfl
theorem o292_a (a0_0 : ByteArray) (a0_1 : List Dat) (a1d0 : ByteArray) {r : List Dat} (h : (bif decide (0 < ([.str a1d0] : List Dat).length) then (some [.bool (a0_0.toList == ((rd ([.str a1d0] : List Dat) 0).S).toList)]) else none : R) = some r) : E C 292 [.agg [.str a0_0, .shr 82 a0_1], .sref 9 ([.str a1d0] : List Dat) 0 0] = some r := E_st h (Cont.bif (Cont.const _) Cont.nn) fun φ => by kernel_rfl
end Go.Proofs.YtlofoifcdmeopaaGreatDoor.V
namespace Go.Proofs.YtlofoifcdmeopaaGreatDoor.V
open Go Go.Ev Go.RowKit
set_option linter.unusedVariables false
set_option linter.unusedSimpArgs false
def allN : List (List UInt8 × List (Int × Int)) := [([97, 108, 110, 117, 109], [(48, 57), (65, 90), (97, 122)]), ([97, 108, 112, 104, 97], [(65, 90), (97, 122)]), ([97, 115, 99, 105, 105], [(0, 127)]), ([98, 108, 97, 110, 107], [(9, 9), (32, 32)]), ([99, 110, 116, 114, 108], [(0, 31), (127, 127)]), ([100, 105, 103, 105, 116], [(48, 57)]), ([103, 114, 97, 112, 104], [(33, 126)]), ([108, 111, 119, 101, 114], [(97, 122)]), ([112, 114, 105, 110, 116], [(32, 126)]), ([112, 117, 110, 99, 116], [(33, 47), (58, 64), (91, 96), (123, 126)]), ([115, 112, 97, 99, 101], [(9, 13), (32, 32)]), ([117, 112, 112, 101, 114], [(65, 90)]), ([119, 111, 114, 100], [(48, 57), (65, 90), (95, 95), (97, 122)]), ([120, 100, 105, 103, 105, 116], [(48, 57), (65, 70), (97, 102)])]
def allD (l : List (List UInt8 × List (Int × Int))) : List Dat := l.map fun p => .agg [.str (bs p.1), .list (rs p.2)]
theorem all_E : E C 290 [] = some [.list (allD allN)] := by
  apply o290
  rfl
def findN (s : ByteArray) : List (List UInt8 × List (Int × Int)) → Option (List (Int × Int))
  | [] => none
  | p :: l => bif (bs p.1).toList == s.toList then some p.2 else findN s l
theorem Nam1_E (a : ByteArray) (l : List Dat) (s : ByteArray) : E C 292 [.agg [.str a, .shr 82 l], .sref 9 ([.str s] : List Dat) 0 0] = some [.bool (a.toList == s.toList)] := by
  apply o292_a
  rw [dT (by simp)]
  rfl
theorem allD_rd (l : List (List UInt8 × List (Int × Int))) (k : Nat) (h : k < l.length) : rd (allD l) k = .agg [.str (bs (l[k]).1), .list (rs (l[k]).2)] := by simp [rd, allD, h]
theorem allD_len (l : List (List UInt8 × List (Int × Int))) : (allD l).length = l.length := by simp [allD]
theorem nam_loop (l : List (List UInt8 × List (Int × Int))) (hl : l.length ≤ 1000) (s : ByteArray) (v4 : Int) : ∀ (d k : Nat), l.length - k = d → k ≤ l.length →
    ∃ r : Int, M291_a_1 (allD l) s v4 (l.length : Int) (k : Int) = some [.int r] ∧ (findN s (l.drop k) = none → r = -1) ∧ ∀ x, findN s (l.drop k) = some x → ∃ j : Nat, r = (j : Int) ∧ ∃ h : j < l.length, (l[j]).2 = x := by
  intro d
  induction d with
  | zero =>
    intro k hd hk
    refine ⟨-1, ?_, fun _ => rfl, fun x h => ?_⟩
    · apply M291_a_1_of
      rw [dF (by omega)]
    · rw [List.drop_of_length_le (by omega)] at h
      cases h
  | succ d ih =>
    intro k hd hk
    have hlt : k < l.length := by omega
    obtain ⟨r, h1, h2, h3⟩ := ih (k + 1) (by omega) (by omega)
    rw [List.drop_eq_getElem_cons hlt]
    unfold findN
    cases hb : ((bs (l[k]).1).toList == s.toList) with
    | true =>
      refine ⟨k, ?_, (fun h => by cases h), fun x h => ⟨k, rfl, hlt, Option.some.inj h⟩⟩
      apply M291_a_1_of
      rw [allD_len, dT (by omega), ixT ⟨by omega, by omega⟩, Int.toNat_natCast, allD_rd l k hlt]
      refine (bT (Nam1_E _ _ s)).trans ?_
      exact cT hb
    | false =>
      refine ⟨r, ?_, h2, h3⟩
      apply M291_a_1_of
      rw [allD_len, dT (by omega), ixT ⟨by omega, by omega⟩, Int.toNat_natCast, allD_rd l k hlt]
      refine (bT (Nam1_E _ _ s)).trans ?_
      refine (cF hb).trans ?_
      rw [w64 (by omega) (by omega)]
      exact h1
def namedD (o : Option (List (Int × Int))) : List Dat := match o with
  | none => [.list [], .bool false]
  | some l => [.list (rs l), .bool true]
theorem Named_E (s : ByteArray) : E C 282 [.str s] = some (namedD (findN s allN)) := by
  obtain ⟨r, h1, h2, h3⟩ := nam_loop allN (by decide) s 0 allN.length 0 (by omega) (by omega)
  rw [List.drop_zero] at h2 h3
  have e1 : E C 291 [.shr 342 (allD allN), .clo 292 [] [.sref 9 ([.str s] : List Dat) 0 0]] = some [.int r] := by
    apply o291_a
    rw [allD_len]
    exact h1
  apply o282
  rw [bT all_E]
  simp only [rd0, datL]
  rw [bT e1]
  simp only [rd0, datI, allD_len]
  cases hf : findN s allN with
  | none => rw [h2 hf, dT (by omega)]; rfl
  | some x =>
    obtain ⟨j, rfl, hj, hx⟩ := h3 x hf
    rw [dF (by omega), ixT ⟨by omega, by omega⟩, Int.toNat_natCast, allD_rd allN j hj, hx]
    rfl
theorem must_E (s : ByteArray) (l : List (Int × Int)) (h : findN s allN = some l) : E C 285 [.str s] = some [.list (rs l)] := by
  apply o285
  rw [bT (Named_E s), h]
  rfl
def digL : List (Int × Int) := [(48, 57)]
def wrdL : List (Int × Int) := [(48, 57), (65, 90), (95, 95), (97, 122)]
def spcL : List (Int × Int) := [(9, 13), (32, 32)]
theorem find_dig : findN (bs [100, 105, 103, 105, 116]) allN = some digL := by kernel_rfl
theorem find_wrd : findN (bs [119, 111, 114, 100]) allN = some wrdL := by kernel_rfl
theorem find_spc : findN (bs [115, 112, 97, 99, 101]) allN = some spcL := by kernel_rfl
/-- The set of a letter. -/
def ofL (c : Int) : Option (List (Int × Int)) :=
  if c = 100 then some digL else if c = 119 then some wrdL else if c = 115 then some spcL else if c = 68 then some (notR digL) else if c = 87 then some (notR wrdL) else if c = 83 then some (notR spcL) else none
theorem Of_low (c : Int) (l : List (Int × Int)) (h : (c = 100 ∧ l = digL) ∨ (c = 119 ∧ l = wrdL) ∨ (c = 115 ∧ l = spcL)) : E C 276 [.int .u8 c] = some [.list (rs l), .bool true] := by
  apply o276
  rcases h with ⟨rfl, rfl⟩ | ⟨rfl, rfl⟩ | ⟨rfl, rfl⟩
  · rw [eT rfl, bT (must_E _ _ find_dig)]; rfl
  · rw [eF (by decide), eT rfl, bT (must_E _ _ find_wrd)]; rfl
  · rw [eF (by decide), eF (by decide), eT rfl, bT (must_E _ _ find_spc)]; rfl
theorem Of_E (c : Int) : E C 276 [.int .u8 c] = some (namedD (ofL c)) := by
  unfold ofL
  by_cases c1 : c = 100
  · rw [if_pos c1, Of_low c digL (.inl ⟨c1, rfl⟩)]; rfl
  rw [if_neg c1]
  by_cases c2 : c = 119
  · rw [if_pos c2, Of_low c wrdL (.inr (.inl ⟨c2, rfl⟩))]; rfl
  rw [if_neg c2]
  by_cases c3 : c = 115
  · rw [if_pos c3, Of_low c spcL (.inr (.inr ⟨c3, rfl⟩))]; rfl
  rw [if_neg c3]
  apply o276
  rw [eF c1, eF c2, eF c3]
  by_cases c4 : c = 68
  · rw [if_pos c4, eT c4, eT c4, c4, show IntKind.u8.wrap (IntKind.u8.wrap (68 + 97) - 65) = 100 from by decide, bT (Of_low 100 digL (.inl ⟨rfl, rfl⟩))]
    simp only [rd0, datL]
    rw [bT (Not_E digL (by decide))]; rfl
  rw [if_neg c4, eF c4]
  by_cases c5 : c = 87
  · rw [if_pos c5, eT c5, eT c5, c5, show IntKind.u8.wrap (IntKind.u8.wrap (87 + 97) - 65) = 119 from by decide, bT (Of_low 119 wrdL (.inr (.inl ⟨rfl, rfl⟩)))]
    simp only [rd0, datL]
    rw [bT (Not_E wrdL (by decide))]; rfl
  rw [if_neg c5, eF c5]
  by_cases c6 : c = 83
  · rw [if_pos c6, eT c6, c6, show IntKind.u8.wrap (IntKind.u8.wrap (83 + 97) - 65) = 115 from by decide, bT (Of_low 115 spcL (.inr (.inr ⟨rfl, rfl⟩)))]
    simp only [rd0, datL]
    rw [bT (Not_E spcL (by decide))]; rfl
  · rw [if_neg c6, eF c6]; rfl
/-! The document's. -/
theorem ofL_len {c : Int} {l : List (Int × Int)} (h : ofL c = some l) : l.length ≤ 10 ∧ leastP l := by
  have hd : leastP digL := (leastB_iff _).1 (by decide)
  have hw : leastP wrdL := (leastB_iff _).1 (by decide)
  have hs : leastP spcL := (leastB_iff _).1 (by decide)
  have d1 : digL.length = 1 := rfl
  have d2 : wrdL.length = 4 := rfl
  have d3 : spcL.length = 2 := rfl
  have n1 := notR_length digL
  have n2 := notR_length wrdL
  have n3 := notR_length spcL
  unfold ofL at h
  split at h
  · obtain rfl := Option.some.inj h; exact ⟨by decide, hd⟩
  split at h
  · obtain rfl := Option.some.inj h; exact ⟨by decide, hw⟩
  split at h
  · obtain rfl := Option.some.inj h; exact ⟨by decide, hs⟩
  split at h
  · obtain rfl := Option.some.inj h; exact ⟨by omega, notR_least _⟩
  split at h
  · obtain rfl := Option.some.inj h; exact ⟨by omega, notR_least _⟩
  split at h
  · obtain rfl := Option.some.inj h; exact ⟨by omega, notR_least _⟩
  · cases h
end Go.Proofs.YtlofoifcdmeopaaGreatDoor.V
namespace Go.Proofs.YtlofoifcdmeopaaGreatDoor.V
open Go Go.Ev Go.RowKit
set_option linter.unusedVariables false
set_option linter.unusedSimpArgs false
/-- What a backslash makes. -/
inductive Esc where
  | lit (n to : Int)
  | cls (c to : Int)
  | hld (n to : Int)
  | ref (n to : Int)
  | key (s : ByteArray) (to : Int)
  | err (e : Int)
def progD : Esc → List Dat
  | .lit n to => itemP 1 to n ByteArray.empty [] 0
  | .cls c to => itemP 2 to 0 ByteArray.empty (rs ((ofL c).getD [])) 0
  | .hld n to => itemP 3 to n ByteArray.empty [] 0
  | .ref n to => itemP 4 to n ByteArray.empty [] 0
  | .key s to => itemP 5 to 0 s [] 0
  | .err e => itemP 0 0 0 ByteArray.empty [] e
def simD : Option Esc → List Dat
  | none => [.agg [.int 0, .int 0, .int 0, .str ByteArray.empty, .list []], .bool false, .int 0]
  | some x => [rd (progD x) 0, .bool true, rd (progD x) 1]
def ctrl (c : Int) : Int := if c = 110 then 10 else if c = 116 then 9 else if c = 114 then 13 else if c = 102 then 12 else if c = 118 then 11 else if c = 97 then 7 else if c = 101 then 27 else -1
def heldV (c : Int) : Int := if c = 65 then 1 else if c = 90 then 2 else if c = 122 then 3 else if c = 98 then 6 else if c = 66 then 7 else 0
theorem control_E (c : Int) : E C 275 [.int .u8 c] = some [.int (ctrl c)] := by
  apply o275
  unfold ctrl
  by_cases h0 : c = 110
  · rw [eT h0, if_pos h0]
  rw [eF h0, if_neg h0]
  by_cases h1 : c = 116
  · rw [eT h1, if_pos h1]
  rw [eF h1, if_neg h1]
  by_cases h2 : c = 114
  · rw [eT h2, if_pos h2]
  rw [eF h2, if_neg h2]
  by_cases h3 : c = 102
  · rw [eT h3, if_pos h3]
  rw [eF h3, if_neg h3]
  by_cases h4 : c = 118
  · rw [eT h4, if_pos h4]
  rw [eF h4, if_neg h4]
  by_cases h5 : c = 97
  · rw [eT h5, if_pos h5]
  rw [eF h5, if_neg h5]
  by_cases h6 : c = 101
  · rw [eT h6, if_pos h6]
  rw [eF h6, if_neg h6]
theorem held_E (c : Int) : E C 254 [.int .u8 c] = some [.int (heldV c)] := by
  apply o254
  unfold heldV
  by_cases h0 : c = 65
  · rw [eT h0, if_pos h0]
  rw [eF h0, if_neg h0]
  by_cases h1 : c = 90
  · rw [eT h1, if_pos h1]
  rw [eF h1, if_neg h1]
  by_cases h2 : c = 122
  · rw [eT h2, if_pos h2]
  rw [eF h2, if_neg h2]
  by_cases h3 : c = 98
  · rw [eT h3, if_pos h3]
  rw [eF h3, if_neg h3]
  by_cases h4 : c = 66
  · rw [eT h4, if_pos h4]
  rw [eF h4, if_neg h4]
/-- What is alike beside classes and within them. -/
def simpleS (b : List Int) (i : Nat) : Option Esc :=
  if atB b ((i + 1 : Nat) : Int) = 120 then some (match codeS b (i + 2) with | none => .err 32 | some p => .lit p.1 (p.2 : Int))
  else if ctrl (atB b ((i + 1 : Nat) : Int)) ≥ 0 then some (.lit (ctrl (atB b ((i + 1 : Nat) : Int))) ((i + 2 : Nat) : Int))
  else if (ofL (atB b ((i + 1 : Nat) : Int))).isSome = true then some (.cls (atB b ((i + 1 : Nat) : Int)) ((i + 2 : Nat) : Int))
  else if letB (atB b ((i + 1 : Nat) : Int)) = true ∨ digB (atB b ((i + 1 : Nat) : Int)) = true then none
  else if b.length ≤ i + 1 then some (.err 32)
  else some (.lit (symA b (i + 1)).1 (((i + 1 : Nat) : Int) + (symA b (i + 1)).2))
def keyS (l : List Dat) : Esc := if (rd l 2).I ≠ 0 then .err (rd l 2).I else .key (rd l 0).S (rd l 1).I
def restS (b : List Int) (i : Nat) : Esc :=
  if heldV (atB b ((i + 1 : Nat) : Int)) > 0 then .hld (heldV (atB b ((i + 1 : Nat) : Int))) ((i + 2 : Nat) : Int)
  else if 49 ≤ atB b ((i + 1 : Nat) : Int) ∧ atB b ((i + 1 : Nat) : Int) ≤ 57 then
    if digB (atB b ((i + 2 : Nat) : Int)) = true then .ref ((atB b ((i + 1 : Nat) : Int) - 48) * 10 + (atB b ((i + 2 : Nat) : Int) - 48)) ((i + 3 : Nat) : Int)
    else .ref (atB b ((i + 1 : Nat) : Int) - 48) ((i + 2 : Nat) : Int)
  else if atB b ((i + 1 : Nat) : Int) ≠ 107 then .err 32
  else if atB b ((i + 2 : Nat) : Int) ≠ 60 then .err 36
  else keyS (nameR b ((i + 3 : Nat) : Int))
def escS (b : List Int) (i : Int) (inner : Bool) : Esc :=
  if atB b i ≠ 92 then .err 10
  else match simpleS b i.toNat with
    | some x => x
    | none => if inner = true then (if atB b ((i.toNat + 1 : Nat) : Int) = 98 then .lit 8 ((i.toNat + 2 : Nat) : Int) else .err 32) else restS b i.toNat
theorem simple_E {b : List Int} (hb : isBytes b = true) (hbl : b.length ≤ 140737488351232) (i : Nat) (hi : i < b.length) : E C 253 [.shr 5 (b.map .int), .int .i64 (i : Int)] = some (simD (simpleS b i)) := by
  have e1 : IntKind.i64.wrap ((i : Int) + 1) = ((i + 1 : Nat) : Int) := by rw [w64 (by omega) (by omega)]; omega
  have e2 : IntKind.i64.wrap ((i : Int) + 2) = ((i + 2 : Nat) : Int) := by rw [w64 (by omega) (by omega)]; omega
  apply o253
  rw [e1, e2, bT (at_E b _)]
  simp only [rd0, datI]
  unfold simpleS
  by_cases c1 : atB b ((i + 1 : Nat) : Int) = 120
  · rw [eT c1, if_pos c1, bT (code_E b hbl (i + 2) (by omega))]
    cases codeS b (i + 2) <;> rfl
  rw [eF c1, if_neg c1, bT (control_E _)]
  simp only [rd0, datI]
  by_cases c2 : ctrl (atB b ((i + 1 : Nat) : Int)) ≥ 0
  · rw [dT c2, if_pos c2]; rfl
  rw [dF c2, if_neg c2, bT (Of_E _)]
  cases h3 : ofL (atB b ((i + 1 : Nat) : Int)) with
  | some l =>
    rw [if_pos (show (some l).isSome = true from rfl)]
    show (some [_, _, _] : R) = some [_, _, _]
    simp only [namedD, rd0, rd1, datL, progD, itemP, h3, Option.getD_some]
  | none =>
    rw [if_neg (show ¬ (none : Option (List (Int × Int))).isSome = true by simp)]
    simp only [namedD, rd1, datB]
    rw [cF rfl, bT (letter_E _)]
    simp only [rd0, datB]
    cases h4 : letB (atB b ((i + 1 : Nat) : Int)) with
    | true => rw [cT rfl, if_pos (.inl rfl)]; rfl
    | false =>
      rw [cF rfl, bT (digit_E _)]
      simp only [rd0, datB]
      cases h5 : digB (atB b ((i + 1 : Nat) : Int)) with
      | true => rw [cT rfl, if_pos (.inr rfl)]; rfl
      | false =>
        rw [cF rfl, if_neg (by simp), bT (At_E b hb hbl _)]
        simp only [rd0, rd1, datI]
        unfold symR
        by_cases c6 : b.length ≤ i + 1
        · rw [if_neg (by omega), eT rfl, if_pos c6]; rfl
        · have hs := symA_small hb (i + 1) (by omega)
          rw [if_pos (by omega), Int.toNat_natCast, eF (by omega), if_neg c6, w64 (by omega) (by omega)]
          rfl
theorem rest_P {b : List Int} (hb : isBytes b = true) (hbl : b.length ≤ 140737488351232) (i : Nat) (hi : i < b.length) : ((E C 254 [.int .u8 (atB b ((i + 1 : Nat) : Int))]).bind fun d4 => (bif decide (((rd d4 0).I) > 0) then (some [.agg [.int 3, .int ((i + 2 : Nat) : Int), .int ((rd d4 0).I), .str ByteArray.empty, .list ([] : List Dat)], .int 0]) else (bif decide ((atB b ((i + 1 : Nat) : Int)) ≥ 49) then (bif decide ((atB b ((i + 1 : Nat) : Int)) ≤ 57) then ((E C 217 [.shr 5 (b.map .int), .int .i64 ((i + 2 : Nat) : Int)]).bind fun d5 => ((E C 255 [.int .u8 ((rd d5 0).I)]).bind fun d6 => (bif (rd d6 0).B then (some [.agg [.int 4, .int (IntKind.i64.wrap (((i + 2 : Nat) : Int) + 1)), .int (IntKind.i64.wrap ((IntKind.i64.wrap ((IntKind.i64.wrap (IntKind.u8.wrap ((atB b ((i + 1 : Nat) : Int)) - 48))) * 10)) + (IntKind.i64.wrap (IntKind.u8.wrap (((rd d5 0).I) - 48))))), .str ByteArray.empty, .list ([] : List Dat)], .int 0]) else (some [.agg [.int 4, .int ((i + 2 : Nat) : Int), .int (IntKind.i64.wrap (IntKind.u8.wrap ((atB b ((i + 1 : Nat) : Int)) - 48))), .str ByteArray.empty, .list ([] : List Dat)], .int 0])))) else (bif (atB b ((i + 1 : Nat) : Int)) != 107 then (some [.agg [.int 0, .int 0, .int 0, .str ByteArray.empty, .list ([] : List Dat)], .int 32]) else ((E C 217 [.shr 5 (b.map .int), .int .i64 ((i + 2 : Nat) : Int)]).bind fun d7 => (bif ((rd d7 0).I) != 60 then (some [.agg [.int 0, .int 0, .int 0, .str ByteArray.empty, .list ([] : List Dat)], .int 36]) else ((E C 256 [.shr 5 (b.map .int), .int .i64 ((i + 3 : Nat) : Int)]).bind fun d8 => (bif ((rd d8 2).I) != 0 then (some [.agg [.int 0, .int 0, .int 0, .str ByteArray.empty, .list ([] : List Dat)], .int ((rd d8 2).I)]) else (some [.agg [.int 5, .int ((rd d8 1).I), .int 0, .str ((rd d8 0).S), .list ([] : List Dat)], .int 0]))))))) else (bif (atB b ((i + 1 : Nat) : Int)) != 107 then (some [.agg [.int 0, .int 0, .int 0, .str ByteArray.empty, .list ([] : List Dat)], .int 32]) else ((E C 217 [.shr 5 (b.map .int), .int .i64 ((i + 2 : Nat) : Int)]).bind fun d7 => (bif ((rd d7 0).I) != 60 then (some [.agg [.int 0, .int 0, .int 0, .str ByteArray.empty, .list ([] : List Dat)], .int 36]) else ((E C 256 [.shr 5 (b.map .int), .int .i64 ((i + 3 : Nat) : Int)]).bind fun d8 => (bif ((rd d8 2).I) != 0 then (some [.agg [.int 0, .int 0, .int 0, .str ByteArray.empty, .list ([] : List Dat)], .int ((rd d8 2).I)]) else (some [.agg [.int 5, .int ((rd d8 1).I), .int 0, .str ((rd d8 0).S), .list ([] : List Dat)], .int 0]))))))))) = some (progD (restS b i)) := by
  have hc := atB_byte hb ((i + 1 : Nat) : Int)
  have hd := atB_byte hb ((i + 2 : Nat) : Int)
  have keyT : ¬ (49 ≤ atB b ((i + 1 : Nat) : Int) ∧ atB b ((i + 1 : Nat) : Int) ≤ 57) → ¬ heldV (atB b ((i + 1 : Nat) : Int)) > 0 → (bif (atB b ((i + 1 : Nat) : Int)) != 107 then (some [.agg [.int 0, .int 0, .int 0, .str ByteArray.empty, .list ([] : List Dat)], .int 32]) else ((E C 217 [.shr 5 (b.map .int), .int .i64 ((i + 2 : Nat) : Int)]).bind fun d7 => (bif ((rd d7 0).I) != 60 then (some [.agg [.int 0, .int 0, .int 0, .str ByteArray.empty, .list ([] : List Dat)], .int 36]) else ((E C 256 [.shr 5 (b.map .int), .int .i64 ((i + 3 : Nat) : Int)]).bind fun d8 => (bif ((rd d8 2).I) != 0 then (some [.agg [.int 0, .int 0, .int 0, .str ByteArray.empty, .list ([] : List Dat)], .int ((rd d8 2).I)]) else (some [.agg [.int 5, .int ((rd d8 1).I), .int 0, .str ((rd d8 0).S), .list ([] : List Dat)], .int 0]))))) : R) = some (progD (restS b i)) := fun g1 g2 => by
    unfold restS
    rw [if_neg g2, if_neg g1]
    by_cases c3 : atB b ((i + 1 : Nat) : Int) = 107
    · rw [neF c3, if_neg (by simpa using c3), bT (at_E b _)]
      simp only [rd0, datI]
      by_cases c4 : atB b ((i + 2 : Nat) : Int) = 60
      · rw [neF c4, if_neg (by simpa using c4), bT (Name_E b hbl _ ⟨by omega, by omega⟩)]
        unfold keyS
        by_cases c5 : (rd (nameR b ((i + 3 : Nat) : Int)) 2).I = 0
        · rw [neF c5, if_neg (by simpa using c5)]; rfl
        · rw [neT c5, if_pos c5]; rfl
      · rw [neT c4, if_pos c4]; rfl
    · rw [neT c3, if_pos c3]; rfl
  rw [bT (held_E _)]
  simp only [rd0, datI]
  by_cases c1 : heldV (atB b ((i + 1 : Nat) : Int)) > 0
  · unfold restS
    rw [dT c1, if_pos c1]; rfl
  rw [dF c1]
  by_cases c2 : atB b ((i + 1 : Nat) : Int) ≥ 49
  · rw [dT c2]
    by_cases c3 : atB b ((i + 1 : Nat) : Int) ≤ 57
    · unfold restS
      rw [dT c3, if_neg c1, if_pos ⟨c2, c3⟩, bT (at_E b _)]
      simp only [rd0, datI]
      rw [bT (digit_E _)]
      simp only [rd0, datB]
      rw [w8 (n := atB b ((i + 1 : Nat) : Int) - 48) (by omega) (by omega), w64 (n := atB b ((i + 1 : Nat) : Int) - 48) (by omega) (by omega), w64 (n := (atB b ((i + 1 : Nat) : Int) - 48) * 10) (by omega) (by omega)]
      cases h4 : digB (atB b ((i + 2 : Nat) : Int)) with
      | true =>
        have h4' := digB_iff.1 h4
        rw [cT rfl, if_pos rfl, w8 (n := atB b ((i + 2 : Nat) : Int) - 48) (by omega) (by omega), w64 (n := atB b ((i + 2 : Nat) : Int) - 48) (by omega) (by omega), w64 (n := (atB b ((i + 1 : Nat) : Int) - 48) * 10 + (atB b ((i + 2 : Nat) : Int) - 48)) (by omega) (by omega), w64 (n := ((i + 2 : Nat) : Int) + 1) (by omega) (by omega)]
        rfl
      | false => rw [cF rfl, if_neg (by simp)]; rfl
    · rw [dF c3]
      exact keyT (by omega) c1
  · rw [dF c2]
    exact keyT (by omega) c1
theorem Escape_E {b : List Int} (hb : isBytes b = true) (hbl : b.length ≤ 140737488351232) (i : Int) : E C 232 [.shr 5 (b.map .int), .int .i64 i] = some (progD (escS b i false)) := by
  apply o232
  rw [bT (at_E b _)]
  simp only [rd0, datI]
  unfold escS
  by_cases c0 : atB b i = 92
  · have hin := atB_some (b := b) (i := i) (by rw [c0]; decide)
    obtain ⟨k, rfl⟩ : ∃ k : Nat, i = (k : Int) := ⟨i.toNat, by omega⟩
    have e1 : IntKind.i64.wrap ((k : Int) + 1) = ((k + 1 : Nat) : Int) := by rw [w64 (by omega) (by omega)]; omega
    have e2 : IntKind.i64.wrap ((k : Int) + 2) = ((k + 2 : Nat) : Int) := by rw [w64 (by omega) (by omega)]; omega
    have e3 : IntKind.i64.wrap ((k : Int) + 3) = ((k + 3 : Nat) : Int) := by rw [w64 (by omega) (by omega)]; omega
    rw [neF c0, if_neg (by simpa using c0), bT (simple_E hb hbl k (by omega)), Int.toNat_natCast]
    cases hs : simpleS b k with
    | some x =>
      show (some _ : R) = _
      cases x <;> rfl
    | none =>
      show (bif false then _ else _ : R) = _
      rw [cond_false, e1, e2, e3, bT (at_E b _)]
      simp only [rd0, datI]
      exact rest_P hb hbl k (by omega)
  · rw [neT c0, if_pos c0]; rfl
theorem Inner_E {b : List Int} (hb : isBytes b = true) (hbl : b.length ≤ 140737488351232) (i : Int) : E C 268 [.shr 5 (b.map .int), .int .i64 i] = some (progD (escS b i true)) := by
  apply o268
  rw [bT (at_E b _)]
  simp only [rd0, datI]
  unfold escS
  by_cases c0 : atB b i = 92
  · have hin := atB_some (b := b) (i := i) (by rw [c0]; decide)
    obtain ⟨k, rfl⟩ : ∃ k : Nat, i = (k : Int) := ⟨i.toNat, by omega⟩
    have e1 : IntKind.i64.wrap ((k : Int) + 1) = ((k + 1 : Nat) : Int) := by rw [w64 (by omega) (by omega)]; omega
    have e2 : IntKind.i64.wrap ((k : Int) + 2) = ((k + 2 : Nat) : Int) := by rw [w64 (by omega) (by omega)]; omega
    rw [neF c0, if_neg (by simpa using c0), bT (simple_E hb hbl k (by omega)), Int.toNat_natCast]
    cases hs : simpleS b k with
    | some x =>
      show (some _ : R) = _
      cases x <;> rfl
    | none =>
      show (bif false then _ else _ : R) = _
      rw [cond_false, e1, e2, bT (at_E b _)]
      simp only [rd0, datI]
      by_cases c1 : atB b ((k + 1 : Nat) : Int) = 98
      · rw [eT c1, if_pos trivial, if_pos c1]; rfl
      · rw [eF c1, if_pos trivial, if_neg c1]; rfl
  · rw [neT c0, if_pos c0]; rfl
end Go.Proofs.YtlofoifcdmeopaaGreatDoor.V
namespace Go.Proofs.YtlofoifcdmeopaaGreatDoor.V
open Go Go.Ev Go.RowKit
set_option linter.unusedVariables false
set_option linter.unusedSimpArgs false
def cloS (s : PS) (l : List (Int × Int)) : List (Int × Int) := bif s.fo then closeR l else l
/-- What an escape is, as a part. -/
def escP (b : List Int) (s : PS) : Nd × PS := match escS b s.k false with
  | .lit n to => (⟨2, s.k, to, 0, 0, 0, 0, ByteArray.empty, cloS s (mk [(n, n)]), []⟩, { s with k := to })
  | .cls c to => (⟨2, s.k, to, 0, 0, 0, 0, ByteArray.empty, cloS s ((ofL c).getD []), []⟩, { s with k := to })
  | .hld n to => (⟨3, s.k, to, n, 0, 0, 0, ByteArray.empty, [], []⟩, { s with k := to })
  | .ref n to => (⟨4, s.k, to, n, 0, 0, bif s.fo then 1 else 0, ByteArray.empty, [], []⟩, { s with k := to })
  | .key a to => (⟨4, s.k, to, 0, 0, 0, bif s.fo then 1 else 0, a, [], []⟩, { s with k := to })
  | .err e => (nd0P, failS s e s.k)
theorem ofL_lenP (c : Int) : ((ofL c).getD []).length ≤ 1000000 := by
  unfold ofL
  (repeat' split) <;> first | decide | exact Nat.le_trans (Nat.le_of_lt_succ (by decide)) (Nat.le_refl 1000000)
theorem escape_E (b : List Int) (hbb : isBytes b = true) (hb : b.length ≤ 140737488351232) (s : PS) (he : ∀ e, escS b s.k false = .err e → e ≠ 0) : E C 212 [pv b s] = some [ptD (escP b s).1 [], pd b (escP b s).2] := by
  have h1 := Escape_E hbb hb s.k
  apply o212
  rw [bT h1]
  unfold escP cloS
  cases h : escS b s.k false with
  | lit n to =>
    simp only [progD, itemP, stP, agA]
    rw [neF rfl, eT rfl, bT (Of1_E n)]
    simp only [stP, agA]
    rw [bT (closed_E b s _ (atom_lit.mk1_len n))]
    simp only [stP, agA]
    rw [bT (set_E b s _ _ _)]
    rfl
  | cls c to =>
    simp only [progD, itemP, stP, agA]
    rw [neF rfl, eF (by decide), eT rfl, bT (closed_E b s _ (ofL_lenP c))]
    simp only [stP, agA]
    rw [bT (set_E b s _ _ _)]
    rfl
  | hld n to =>
    simp only [progD, itemP, stP, agA]
    rw [neF rfl, eF (by decide), eF (by decide), eT rfl, bT (hold_E b s _ _ _)]
    rfl
  | ref n to =>
    simp only [progD, itemP, stP, agA]
    rw [neF rfl, eF (by decide), eF (by decide), eF (by decide), bT (either_E _ _ _)]
    rfl
  | key a to =>
    simp only [progD, itemP, stP, agA]
    rw [neF rfl, eF (by decide), eF (by decide), eF (by decide), bT (either_E _ _ _)]
    rfl
  | err e =>
    simp only [progD, itemP, stP, agA]
    rw [neT (he e h), bT (fail_E b s _ _)]
    rfl
/-- What the document's Alone says of a node that will have so many kids. -/
def AloneN (n : Nd) (c : Nat) : Prop := ∀ ks : List Int, ks.length = c → aloneB { n with kids := ks } = true
theorem alone_of {n : Nd} {c : Nat} (hk : wi n.kind 1 10 = true) (h1 : 0 ≤ n.frm) (h2 : n.frm ≤ n.to) (h3 : n.to ≤ 4096) (h4 : (n.name.size : Int) ≤ 32) (h5 : namB n.name n.set n.kind = true) (h6 : kidsB n.kind (c : Int) = true) (h7 : al3 n.num n.min n.max n.mode n.name n.kind = true) : AloneN n c := fun ks e => by
  unfold aloneB
  dsimp only
  rw [e, hk, h5, h6, h7, decide_eq_false (by omega), decide_eq_false (by omega), decide_eq_false (by omega), decide_eq_false (by omega)]
  rfl
theorem empty_empty : emptyS ByteArray.empty = true := by unfold emptyS; exact beq_self_eq_true _
theorem namB_none (l : List (Int × Int)) (k : Int) (hl : leastB l = true) (h : k = 2 ∨ l = []) : namB ByteArray.empty l k = true := by
  unfold namB
  rw [empty_empty, hl]
  rcases h with rfl | rfl
  · cases decide ((l.length : Int) > 0) <;> rfl
  · rfl
theorem least_nil : leastB [] = true := (leastB_iff _).2 ⟨fun r h => (by cases h), List.Pairwise.nil⟩
theorem alone_set {f t : Int} {l : List (Int × Int)} (h1 : 0 ≤ f) (h2 : f ≤ t) (h3 : t ≤ 4096) (hl : leastB l = true) : AloneN ⟨2, f, t, 0, 0, 0, 0, ByteArray.empty, l, []⟩ 0 :=
  alone_of (show wi 2 1 10 = true from rfl) h1 h2 h3 (show ((0 : Nat) : Int) ≤ 32 by decide) (namB_none l 2 hl (.inl rfl)) (show kidsB 2 ((0 : Nat) : Int) = true from rfl) (by show al3 0 0 0 0 ByteArray.empty 2 = true; rfl)
theorem alone_empty {f : Int} (h1 : 0 ≤ f) (h3 : f ≤ 4096) : AloneN ⟨1, f, f, 0, 0, 0, 0, ByteArray.empty, [], []⟩ 0 :=
  alone_of (show wi 1 1 10 = true from rfl) h1 (Int.le_refl f) h3 (show ((0 : Nat) : Int) ≤ 32 by decide) (namB_none [] 1 least_nil (.inr rfl)) (show kidsB 1 ((0 : Nat) : Int) = true from rfl) (by show al3 0 0 0 0 ByteArray.empty 1 = true; rfl)
theorem wi_of {x a b : Int} (h1 : a ≤ x) (h2 : x ≤ b) : wi x a b = true := by unfold wi; rw [decide_eq_true h1, decide_eq_true h2]; rfl
theorem alone_hold {f t w : Int} (h1 : 0 ≤ f) (h2 : f ≤ t) (h3 : t ≤ 4096) (hw : 1 ≤ w ∧ w ≤ 7) : AloneN ⟨3, f, t, w, 0, 0, 0, ByteArray.empty, [], []⟩ 0 :=
  alone_of (show wi 3 1 10 = true from rfl) h1 h2 h3 (show ((0 : Nat) : Int) ≤ 32 by decide) (namB_none [] 3 least_nil (.inr rfl)) (show kidsB 3 ((0 : Nat) : Int) = true from rfl) (by show al3 w 0 0 0 ByteArray.empty 3 = true; show (true && wi w 1 7) = true; rw [wi_of hw.1 hw.2]; rfl)
theorem alone_back {f t n : Int} {fo : Bool} {a : ByteArray} (h1 : 0 ≤ f) (h2 : f ≤ t) (h3 : t ≤ 4096) (ha : (a.size : Int) ≤ 32) (hn : (1 ≤ n ∧ n ≤ 99) ∨ (n = 0 ∧ emptyS a = false)) : AloneN ⟨4, f, t, n, 0, 0, bif fo then 1 else 0, a, [], []⟩ 0 :=
  alone_of (show wi 4 1 10 = true from rfl) h1 h2 h3 ha (by
    show namB a [] 4 = true
    unfold namB
    rw [least_nil]
    cases emptyS a <;> rfl) (show kidsB 4 ((0 : Nat) : Int) = true from rfl) (by
    show al3 n 0 0 (bif fo then 1 else 0) a 4 = true
    have h : (wi n 1 99 || (n == 0 && !emptyS a)) = true := by
      rcases hn with hn | ⟨rfl, hn⟩
      · rw [wi_of hn.1 hn.2]; rfl
      · rw [hn]; rfl
    cases fo
    · show (true && (wi n 1 99 || (n == 0 && !emptyS a))) = true
      rw [h]; rfl
    · show (true && (wi n 1 99 || (n == 0 && !emptyS a))) = true
      rw [h]; rfl)
theorem alone_group {f t n : Int} {a : ByteArray} (h1 : 0 ≤ f) (h2 : f ≤ t) (h3 : t ≤ 4096) (ha : (a.size : Int) ≤ 32) (hn : 1 ≤ n ∧ n ≤ 99) : AloneN ⟨7, f, t, n, 0, 0, 0, a, [], []⟩ 1 :=
  alone_of (show wi 7 1 10 = true from rfl) h1 h2 h3 ha (by
    show namB a [] 7 = true
    unfold namB
    rw [least_nil]
    cases emptyS a <;> rfl) (show kidsB 7 ((1 : Nat) : Int) = true from rfl) (by show (true && wi n 1 99) = true; rw [wi_of hn.1 hn.2]; rfl)
theorem alone_atomic {f t : Int} (h1 : 0 ≤ f) (h2 : f ≤ t) (h3 : t ≤ 4096) : AloneN ⟨9, f, t, 0, 0, 0, 0, ByteArray.empty, [], []⟩ 1 :=
  alone_of (show wi 9 1 10 = true from rfl) h1 h2 h3 (show ((0 : Nat) : Int) ≤ 32 by decide) (namB_none [] 9 least_nil (.inr rfl)) (show kidsB 9 ((1 : Nat) : Int) = true from rfl) rfl
theorem alone_look {f t n : Int} (h1 : 0 ≤ f) (h2 : f ≤ t) (h3 : t ≤ 4096) (hn : 1 ≤ n ∧ n ≤ 4) : AloneN ⟨10, f, t, n, 0, 0, 0, ByteArray.empty, [], []⟩ 1 :=
  alone_of (show wi 10 1 10 = true from rfl) h1 h2 h3 (show ((0 : Nat) : Int) ≤ 32 by decide) (namB_none [] 10 least_nil (.inr rfl)) (show kidsB 10 ((1 : Nat) : Int) = true from rfl) (by show (true && wi n 1 4) = true; rw [wi_of hn.1 hn.2]; rfl)
theorem alone_repeat {f t mi ma mo : Int} (h1 : 0 ≤ f) (h2 : f ≤ t) (h3 : t ≤ 4096) (hmo : 0 ≤ mo ∧ mo ≤ 1) (hmi : 0 ≤ mi ∧ mi ≤ 1000) (hma : ma = -1 ∨ (mi ≤ ma ∧ 1 ≤ ma ∧ ma ≤ 1000)) : AloneN ⟨8, f, t, 0, mi, ma, mo, ByteArray.empty, [], []⟩ 1 :=
  alone_of (show wi 8 1 10 = true from rfl) h1 h2 h3 (show ((0 : Nat) : Int) ≤ 32 by decide) (namB_none [] 8 least_nil (.inr rfl)) (show kidsB 8 ((1 : Nat) : Int) = true from rfl) (by
    show (true && wi mo 0 1 && wi mi 0 1000 && (ma == -1 || (decide (ma ≥ mi) && wi ma 1 1000))) = true
    rw [wi_of hmo.1 hmo.2, wi_of hmi.1 hmi.2]
    rcases hma with rfl | ⟨a1, a2, a3⟩
    · rfl
    · rw [decide_eq_true (show ma ≥ mi from a1), wi_of a2 a3]; simp)
theorem alone_cat {f t : Int} {c : Nat} (h1 : 0 ≤ f) (h2 : f ≤ t) (h3 : t ≤ 4096) (hc : 2 ≤ c ∧ c ≤ 4096) : AloneN ⟨5, f, t, 0, 0, 0, 0, ByteArray.empty, [], []⟩ c :=
  alone_of (show wi 5 1 10 = true from rfl) h1 h2 h3 (show ((0 : Nat) : Int) ≤ 32 by decide) (namB_none [] 5 least_nil (.inr rfl)) (by
    show (true && !(true && !wi (c : Int) 2 4096) && true && true) = true
    rw [wi_of (by omega) (by omega)]; rfl) rfl
theorem alone_alt {f t : Int} {c : Nat} (h1 : 0 ≤ f) (h2 : f ≤ t) (h3 : t ≤ 4096) (hc : 2 ≤ c ∧ c ≤ 4097) : AloneN ⟨6, f, t, 0, 0, 0, 0, ByteArray.empty, [], []⟩ c :=
  alone_of (show wi 6 1 10 = true from rfl) h1 h2 h3 (show ((0 : Nat) : Int) ≤ 32 by decide) (namB_none [] 6 least_nil (.inr rfl)) (by
    show (true && true && !(true && !wi (c : Int) 2 4097) && true) = true
    rw [wi_of (by omega) (by omega)]; rfl) rfl
theorem cloS_least (s : PS) {l : List (Int × Int)} (hl : leastB l = true) : leastB (cloS s l) = true := by
  unfold cloS
  cases s.fo with
  | true => exact (leastB_iff _).2 (mk_least _)
  | false => exact hl
end Go.Proofs.YtlofoifcdmeopaaGreatDoor.V
namespace Go.Proofs.YtlofoifcdmeopaaGreatDoor.V
open Go Go.Ev Go.RowKit
set_option linter.unusedVariables false
set_option linter.unusedSimpArgs false
end Go.Proofs.YtlofoifcdmeopaaGreatDoor.V
namespace Go.Proofs.YtlofoifcdmeopaaGreatDoor.V
open Go Go.Ev
set_option maxRecDepth 100000
set_option linter.unusedVariables false
/-- clew/scan.Class -/
noncomputable def f207 : Func := Tryz.f207
def kp207 : List Nat := [0, 1, 2, 6, 7, 8, 9, 10, 11, 12, 13, 14, 15, 16]
noncomputable def c207 (p : List Nat) : Code := pick f207 p
noncomputable def L207_1 (n : Nat) (m1 : Nat) (v0 : List Dat) (v1 : Int) (v2 : Bool) (v6 : List Dat) (v7 v8 v9 v10 : Int) (v11 : Bool) (v12 : List Dat) (v13 : Bool) : R := loopIter (fun E K => evCode C (ev C n) n kp207 (c207 [1, 1, 1, 1, 1, 1, 0, 1, 0, 0]) E K) [0, 1, 2, 6, 7, 8, 9, 10, 11, 12, 13] (Kblk 0 (Kseq C (ev C n) n kp207 (c207 [1, 1, 1, 1, 1, 1, 1]) (Ktop C 207 f207 [.und, .und, .und]))) m1 [.shr 5 v0, .int .i64 v1, .bool v2, .und, .und, .und, .own 6 0 82 v6, .int .i64 v7, .int .i64 v8, .int .i64 v9, .int .i64 v10, .bool v11, .own 12 0 82 v12, .bool v13, .und, .und, .und, .und, .und, .und, .und, .und, .und, .und, .und, .und, .und, .und, .und, .und, .und, .und, .und, .und, .und, .und, .und, .und, .und, .und, .und, .und, .und, .und, .und, .und, .und, .und, .und, .und, .und, .und, .und, .und, .und, .und, .und, .und, .und, .und, .und, .und, .und, .und, .und, .und, .und, .und, .und, .und]
noncomputable def M207_1 (v0 : List Dat) (v1 : Int) (v2 : Bool) (v6 : List Dat) (v7 v8 v9 v10 : Int) (v11 : Bool) (v12 : List Dat) (v13 : Bool) : R := lim fun φ => L207_1 (φ 0) (φ 1) v0 v1 v2 v6 v7 v8 v9 v10 v11 v12 v13
theorem M207_1_c (v0 : List Dat) (v1 : Int) (v2 : Bool) (v6 : List Dat) (v7 v8 v9 v10 : Int) (v11 : Bool) (v12 : List Dat) (v13 : Bool) : Cont (fun φ => L207_1 (φ 0) (φ 1) v0 v1 v2 v6 v7 v8 v9 v10 v11 v12 v13) (M207_1 v0 v1 v2 v6 v7 v8 v9 v10 v11 v12 v13) := Cont.re id _
theorem M207_1_e (v0 : List Dat) (v1 : Int) (v2 : Bool) (v6 : List Dat) (v7 v8 v9 v10 : Int) (v11 : Bool) (v12 : List Dat) (v13 : Bool) : Cont (fun φ => L207_1 (φ 0) (φ 0) v0 v1 v2 v6 v7 v8 v9 v10 v11 v12 v13) (M207_1 v0 v1 v2 v6 v7 v8 v9 v10 v11 v12 v13) := Cont.re (toZ 1) fun φ => L207_1 (φ 0) (φ 1) v0 v1 v2 v6 v7 v8 v9 v10 v11 v12 v13
theorem M207_1_of (v0 : List Dat) (v1 : Int) (v2 : Bool) (v6 : List Dat) (v7 v8 v9 v10 : Int) (v11 : Bool) (v12 : List Dat) (v13 : Bool) {r : List Dat} (h : (bif v13 then (bif decide (v10 ≥ (v0.length : Int)) then (some [.list ([] : List Dat), .int 0, .int 33, .int v1]) else ((E C 230 [.shr 5 v0, .int .i64 v10]).bind fun d3 => (bif ((rd d3 1).I) != 0 then (some [.list ([] : List Dat), .int 0, .int ((rd d3 1).I), .int ((rd d3 2).I)]) else (bif decide (v12.length + (((rd d3 0).C 4).L).length ≤ capB 16) then (M207_1 v0 v1 v2 v6 v7 v8 v9 (((rd d3 0).C 1).I) v11 (v12 ++ (((rd d3 0).C 4).L)) false) else none)))) else ((E C 217 [.shr 5 v0, .int .i64 v10]).bind fun d4 => (bif ((rd d4 0).I) != 93 then (bif decide (v10 ≥ (v0.length : Int)) then (some [.list ([] : List Dat), .int 0, .int 33, .int v1]) else ((E C 230 [.shr 5 v0, .int .i64 v10]).bind fun d5 => (bif ((rd d5 1).I) != 0 then (some [.list ([] : List Dat), .int 0, .int ((rd d5 1).I), .int ((rd d5 2).I)]) else (bif decide (v12.length + (((rd d5 0).C 4).L).length ≤ capB 16) then (M207_1 v0 v1 v2 v6 v7 v8 v9 (((rd d5 0).C 1).I) v11 (v12 ++ (((rd d5 0).C 4).L)) false) else none)))) else ((E C 77 [.shr 82 v12]).bind fun d6 => (bif v2 then ((E C 231 [.shr 82 ((rd d6 0).L)]).bind fun d7 => (bif v11 then ((E C 167 [.shr 82 ((rd d7 0).L)]).bind fun d8 => (some [.list ((rd d8 0).L), .int (IntKind.i64.wrap (v10 + 1)), .int 0, .int 0])) else (some [.list ((rd d7 0).L), .int (IntKind.i64.wrap (v10 + 1)), .int 0, .int 0]))) else (bif v11 then ((E C 167 [.shr 82 ((rd d6 0).L)]).bind fun d9 => (some [.list ((rd d9 0).L), .int (IntKind.i64.wrap (v10 + 1)), .int 0, .int 0])) else (some [.list ((rd d6 0).L), .int (IntKind.i64.wrap (v10 + 1)), .int 0, .int 0])))))) : R) = some r) : M207_1 v0 v1 v2 v6 v7 v8 v9 v10 v11 v12 v13 = some r := lim_st (g := fun φ => L207_1 (φ 0) (φ 1) v0 v1 v2 v6 v7 v8 v9 v10 v11 v12 v13) 1 h (Cont.bif (Cont.bif (Cont.const _) (Cont.bind (Cont.call C 230 _) fun _ => (Cont.bif (Cont.const _) (Cont.bif (M207_1_c _ _ _ _ _ _ _ _ _ _ _) Cont.nn)))) (Cont.bind (Cont.call C 217 _) fun _ => (Cont.bif (Cont.bif (Cont.const _) (Cont.bind (Cont.call C 230 _) fun _ => (Cont.bif (Cont.const _) (Cont.bif (M207_1_c _ _ _ _ _ _ _ _ _ _ _) Cont.nn)))) (Cont.bind (Cont.call C 77 _) fun _ => (Cont.bif (Cont.bind (Cont.call C 231 _) fun _ => (Cont.bif (Cont.bind (Cont.call C 167 _) fun _ => (Cont.const _)) (Cont.const _))) (Cont.bif (Cont.bind (Cont.call C 167 _) fun _ => (Cont.const _)) (Cont.const _))))))) fun φ m hm => (congrArg (fun q => L207_1 (φ 0) q v0 v1 v2 v6 v7 v8 v9 v10 v11 v12 v13) hm).trans (by kernel_rfl)
theorem o207 (a0 : List Dat) (a1 : Int) (a2 : Bool) {r : List Dat} (h : ((E C 217 [.shr 5 a0, .int .i64 a1]).bind fun d1 => (bif ((rd d1 0).I) != 91 then (some [.list ([] : List Dat), .int 0, .int 10, .int 0]) else ((E C 217 [.shr 5 a0, .int .i64 (IntKind.i64.wrap (a1 + 1))]).bind fun d2 => (bif ((rd d2 0).I) == 94 then (M207_1 a0 a1 a2 ([] : List Dat) 0 0 0 (IntKind.i64.wrap ((IntKind.i64.wrap (a1 + 1)) + 1)) (((rd d2 0).I) == 94) ([] : List Dat) true) else (M207_1 a0 a1 a2 ([] : List Dat) 0 0 0 (IntKind.i64.wrap (a1 + 1)) (((rd d2 0).I) == 94) ([] : List Dat) true)))) : R) = some r) : E C 207 [.shr 5 a0, .int .i64 a1, .bool a2] = some r := E_st h (Cont.bind (Cont.call C 217 _) fun _ => (Cont.bif (Cont.const _) (Cont.bind (Cont.call C 217 _) fun _ => (Cont.bif (M207_1_e _ _ _ _ _ _ _ _ _ _ _) (M207_1_e _ _ _ _ _ _ _ _ _ _ _))))) fun φ => by kernel_rfl
theorem o230 (a0 : List Dat) (a1 : Int) {r : List Dat} (h : ((E C 248 [.shr 5 a0, .int .i64 a1]).bind fun d1 => (bif ((rd d1 1).I) != 0 then (some [.agg [.int 0, .int 0, .int 0, .str ByteArray.empty, .list ([] : List Dat)], .int ((rd d1 1).I), .int a1]) else (bif (((rd d1 0).C 0).I) == 2 then (some [.agg [.int (((rd d1 0).C 0).I), .int (((rd d1 0).C 1).I), .int (((rd d1 0).C 2).I), .str (((rd d1 0).C 3).S), .list (((rd d1 0).C 4).L)], .int 0, .int 0]) else ((E C 249 [.shr 5 a0, .int .i64 (((rd d1 0).C 1).I)]).bind fun d2 => (bif (rd d2 0).B then ((E C 248 [.shr 5 a0, .int .i64 (IntKind.i64.wrap ((((rd d1 0).C 1).I) + 1))]).bind fun d3 => (bif ((rd d3 1).I) != 0 then (some [.agg [.int 0, .int 0, .int 0, .str ByteArray.empty, .list ([] : List Dat)], .int ((rd d3 1).I), .int (IntKind.i64.wrap ((((rd d1 0).C 1).I) + 1))]) else (bif (((rd d3 0).C 0).I) != 1 then (some [.agg [.int 0, .int 0, .int 0, .str ByteArray.empty, .list ([] : List Dat)], .int 33, .int a1]) else (bif decide ((((rd d3 0).C 2).I) < (((rd d1 0).C 2).I)) then (some [.agg [.int 0, .int 0, .int 0, .str ByteArray.empty, .list ([] : List Dat)], .int 33, .int a1]) else (some [.agg [.int 2, .int (((rd d3 0).C 1).I), .int 0, .str ByteArray.empty, .list ([.agg [.int (((rd d1 0).C 2).I), .int (((rd d3 0).C 2).I)]] : List Dat)], .int 0, .int 0]))))) else (some [.agg [.int 2, .int (((rd d1 0).C 1).I), .int 0, .str ByteArray.empty, .list ([.agg [.int (((rd d1 0).C 2).I), .int (((rd d1 0).C 2).I)]] : List Dat)], .int 0, .int 0]))))) : R) = some r) : E C 230 [.shr 5 a0, .int .i64 a1] = some r := E_st h (Cont.bind (Cont.call C 248 _) fun _ => (Cont.bif (Cont.const _) (Cont.bif (Cont.const _) (Cont.bind (Cont.call C 249 _) fun _ => (Cont.bif (Cont.bind (Cont.call C 248 _) fun _ => (Cont.bif (Cont.const _) (Cont.bif (Cont.const _) (Cont.bif (Cont.const _) (Cont.const _))))) (Cont.const _)))))) fun φ => by kernel_rfl
theorem o248 (a0 : List Dat) (a1 : Int) {r : List Dat} (h : (bif decide (0 ≤ a1) then (bif decide (a1 ≤ (if (a0.length : Int) < (IntKind.i64.wrap (a1 + 2)) then (a0.length : Int) else (IntKind.i64.wrap (a1 + 2)))) then (bif decide ((if (a0.length : Int) < (IntKind.i64.wrap (a1 + 2)) then (a0.length : Int) else (IntKind.i64.wrap (a1 + 2))) ≤ (a0.length : Int)) then ((E C 141 [.str (strOf ((a0.take ((if (a0.length : Int) < (IntKind.i64.wrap (a1 + 2)) then (a0.length : Int) else (IntKind.i64.wrap (a1 + 2))).toNat)).drop a1.toNat)), .str (bs [91, 58])]).bind fun d1 => (bif (rd d1 0).B then ((E C 267 [.shr 5 a0, .int .i64 a1]).bind fun d2 => (some [.agg [.int (((rd d2 0).C 0).I), .int (((rd d2 0).C 1).I), .int (((rd d2 0).C 2).I), .str (((rd d2 0).C 3).S), .list (((rd d2 0).C 4).L)], .int ((rd d2 1).I)])) else (bif decide (0 ≤ a1) then (bif decide (a1 < (a0.length : Int)) then (bif decide (a1.toNat < a0.length) then (bif ((rd a0 a1.toNat).I) == 92 then ((E C 268 [.shr 5 a0, .int .i64 a1]).bind fun d3 => (some [.agg [.int (((rd d3 0).C 0).I), .int (((rd d3 0).C 1).I), .int (((rd d3 0).C 2).I), .str (((rd d3 0).C 3).S), .list (((rd d3 0).C 4).L)], .int ((rd d3 1).I)])) else ((E C 213 [.shr 5 a0, .int .i64 a1]).bind fun d4 => (some [.agg [.int 1, .int (IntKind.i64.wrap (a1 + ((rd d4 1).I))), .int ((rd d4 0).I), .str ByteArray.empty, .list ([] : List Dat)], .int 0]))) else none) else none) else none))) else none) else none) else none : R) = some r) : E C 248 [.shr 5 a0, .int .i64 a1] = some r := E_st h (Cont.bif (Cont.bif (Cont.bif (Cont.bind (Cont.call C 141 _) fun _ => (Cont.bif (Cont.bind (Cont.call C 267 _) fun _ => (Cont.const _)) (Cont.bif (Cont.bif (Cont.bif (Cont.bif (Cont.bind (Cont.call C 268 _) fun _ => (Cont.const _)) (Cont.bind (Cont.call C 213 _) fun _ => (Cont.const _))) Cont.nn) Cont.nn) Cont.nn))) Cont.nn) Cont.nn) Cont.nn) fun φ => by kernel_rfl
theorem o249 (a0 : List Dat) (a1 : Int) {r : List Dat} (h : ((E C 217 [.shr 5 a0, .int .i64 a1]).bind fun d1 => (bif ((rd d1 0).I) == 45 then (bif decide ((IntKind.i64.wrap (a1 + 1)) < (a0.length : Int)) then (bif decide (0 ≤ (IntKind.i64.wrap (a1 + 1))) then (bif decide ((IntKind.i64.wrap (a1 + 1)) < (a0.length : Int)) then (bif decide ((IntKind.i64.wrap (a1 + 1)).toNat < a0.length) then (some [.bool (((rd a0 ((IntKind.i64.wrap (a1 + 1)).toNat)).I) != 93)]) else none) else none) else none) else (some [.bool false])) else (some [.bool false])) : R) = some r) : E C 249 [.shr 5 a0, .int .i64 a1] = some r := E_st h (Cont.bind (Cont.call C 217 _) fun _ => (Cont.bif (Cont.bif (Cont.bif (Cont.bif (Cont.bif (Cont.const _) Cont.nn) Cont.nn) Cont.nn) (Cont.const _)) (Cont.const _))) fun φ => by kernel_rfl
/-- clew/scan.named -/
noncomputable def f267 : Func := Tryz.f267
theorem o267 (a0 : List Dat) (a1 : Int) {r : List Dat} (h : (bif decide (0 ≤ (IntKind.i64.wrap (a1 + 2))) then (bif decide ((IntKind.i64.wrap (a1 + 2)) ≤ (a0.length : Int)) then (bif decide ((a0.length : Int) ≤ (a0.length : Int)) then ((E C 280 [.str (strOf ((a0.take ((a0.length : Int).toNat)).drop ((IntKind.i64.wrap (a1 + 2)).toNat))), .str (bs [58, 93])]).bind fun d1 => ((E C 281 [.str ((rd d1 0).S), .str (bs [94])]).bind fun d2 => ((E C 282 [.str ((rd d2 0).S)]).bind fun d3 => (bif !((rd d1 2).B) then (some [.agg [.int 0, .int 0, .int 0, .str ByteArray.empty, .list ([] : List Dat)], .int 33]) else (bif !((rd d3 1).B) then (some [.agg [.int 0, .int 0, .int 0, .str ByteArray.empty, .list ([] : List Dat)], .int 33]) else (bif (rd d2 1).B then ((E C 167 [.shr 82 ((rd d3 0).L)]).bind fun d4 => (some [.agg [.int 2, .int (IntKind.i64.wrap ((IntKind.i64.wrap ((IntKind.i64.wrap (a1 + 2)) + (((rd d1 0).S).size : Int))) + 2)), .int 0, .str ByteArray.empty, .list ((rd d4 0).L)], .int 0])) else (some [.agg [.int 2, .int (IntKind.i64.wrap ((IntKind.i64.wrap ((IntKind.i64.wrap (a1 + 2)) + (((rd d1 0).S).size : Int))) + 2)), .int 0, .str ByteArray.empty, .list ((rd d3 0).L)], .int 0]))))))) else none) else none) else none : R) = some r) : E C 267 [.shr 5 a0, .int .i64 a1] = some r := E_st h (Cont.bif (Cont.bif (Cont.bif (Cont.bind (Cont.call C 280 _) fun _ => (Cont.bind (Cont.call C 281 _) fun _ => (Cont.bind (Cont.call C 282 _) fun _ => (Cont.bif (Cont.const _) (Cont.bif (Cont.const _) (Cont.bif (Cont.bind (Cont.call C 167 _) fun _ => (Cont.const _)) (Cont.const _))))))) Cont.nn) Cont.nn) Cont.nn) fun φ => by kernel_rfl
end Go.Proofs.YtlofoifcdmeopaaGreatDoor.V
namespace Go.Proofs.YtlofoifcdmeopaaGreatDoor.V
open Go Go.Ev
set_option maxRecDepth 100000
set_option linter.unusedVariables false
theorem o141 (a0 a1 : ByteArray) {r : List Dat} (h : ((E C 170 [.str a0, .str a1]).bind fun d1 => (some [.bool ((rd d1 0).B)]) : R) = some r) : E C 141 [.str a0, .str a1] = some r := E_st h (Cont.bind (Cont.call C 170 _) fun _ => (Cont.const _)) fun φ => by kernel_rfl
theorem o170 (a0 a1 : ByteArray) {r : List Dat} (h : (bif decide ((a0.size : Int) ≥ (a1.size : Int)) then (bif decide (0 ≤ (a1.size : Int)) then (bif decide ((a1.size : Int) ≤ (a0.size : Int)) then (some [.bool ((subS a0 0 ((a1.size : Int).toNat)).toList == a1.toList)]) else none) else none) else (some [.bool false]) : R) = some r) : E C 170 [.str a0, .str a1] = some r := E_st h (Cont.bif (Cont.bif (Cont.bif (Cont.const _) Cont.nn) Cont.nn) (Cont.const _)) fun φ => by kernel_rfl
theorem o281 (a0 a1 : ByteArray) {r : List Dat} (h : ((E C 289 [.str a0, .str a1]).bind fun d1 => (some [.str ((rd d1 0).S), .bool ((rd d1 1).B)]) : R) = some r) : E C 281 [.str a0, .str a1] = some r := E_st h (Cont.bind (Cont.call C 289 _) fun _ => (Cont.const _)) fun φ => by kernel_rfl
theorem o289 (a0 a1 : ByteArray) {r : List Dat} (h : ((E C 170 [.str a0, .str a1]).bind fun d1 => (bif !((rd d1 0).B) then (some [.str a0, .bool false]) else (bif decide (0 ≤ (a1.size : Int)) then (bif decide ((a1.size : Int) ≤ (a0.size : Int)) then (bif decide ((a0.size : Int) ≤ (a0.size : Int)) then (some [.str (subS a0 ((a1.size : Int).toNat) ((a0.size : Int).toNat)), .bool true]) else none) else none) else none)) : R) = some r) : E C 289 [.str a0, .str a1] = some r := E_st h (Cont.bind (Cont.call C 170 _) fun _ => (Cont.bif (Cont.const _) (Cont.bif (Cont.bif (Cont.bif (Cont.const _) Cont.nn) Cont.nn) Cont.nn))) fun φ => by kernel_rfl
end Go.Proofs.YtlofoifcdmeopaaGreatDoor.V
namespace Go.Proofs.YtlofoifcdmeopaaGreatDoor.V
open Go Go.Ev Go.RowKit
set_option linter.unusedVariables false
set_option linter.unusedSimpArgs false
def u8 (b : List Int) : List UInt8 := b.map fun x => UInt8.ofNat x.toNat
theorem u8_len (b : List Int) : (u8 b).length = b.length := by simp [u8]
theorem u8_take (b : List Int) (n : Nat) : (u8 b).take n = u8 (b.take n) := by simp [u8, List.map_take]
theorem u8_drop (b : List Int) (n : Nat) : (u8 b).drop n = u8 (b.drop n) := by simp [u8, List.map_drop]
theorem strOf_ints (l : List Int) : strOf (l.map .int) = bs (u8 l) := by
  unfold strOf bs u8
  rw [List.map_map]
  rfl
theorem slice_ints (b : List Int) (i j : Nat) : ((b.map Dat.int).take j).drop i = ((b.take j).drop i).map .int := by rw [← List.map_take, ← List.map_drop]
theorem bs_toList (s : List UInt8) : (bs s).toList = s := by
  rw [ByteArray.toList_eq]
  simp [bs]
theorem subS_bs (s : List UInt8) (a b : Nat) : subS (bs s) a b = bs ((s.take b).drop a) := by
  unfold subS
  apply ByteArray.ext
  rw [ByteArray.data_extract]
  unfold bs
  show s.toArray.extract a b = ((s.take b).drop a).toArray
  rw [List.extract_toArray, List.extract_eq_take_drop, List.drop_take]
theorem u8_eq {x : Int} (h : 0 ≤ x ∧ x < 256) (n : Nat) (hn : n < 256) : UInt8.ofNat x.toNat = UInt8.ofNat n ↔ x = (n : Int) := by
  constructor
  · intro e
    have := congrArg UInt8.toNat e
    rw [UInt8.toNat_ofNat', UInt8.toNat_ofNat'] at this
    omega
  · intro e
    rw [e, Int.toNat_natCast]
theorem pre_take (p s : List UInt8) : p.isPrefixOf s = (decide (p.length ≤ s.length) && (s.take p.length == p)) := by
  rw [Bool.eq_iff_iff, List.isPrefixOf_iff_prefix, List.prefix_iff_eq_take, Bool.and_eq_true, decide_eq_true_eq, beq_iff_eq]
  constructor
  · intro h
    refine ⟨?_, h.symm⟩
    have := congrArg List.length h
    rw [List.length_take] at this
    omega
  · exact fun h => h.2.symm
theorem HasPre0_E (s p : List UInt8) : E C 170 [.str (bs s), .str (bs p)] = some [.bool (p.isPrefixOf s)] := by
  apply o170
  rw [bs_size, bs_size, pre_take]
  by_cases h : p.length ≤ s.length
  · rw [dT (by omega), dT (by omega), dT (by omega), Int.toNat_natCast, subS_bs, bs_toList, bs_toList, decide_eq_true h, List.drop_zero]
    rfl
  · rw [dF (by omega), decide_eq_false h]
    rfl
theorem HasPre_E (s p : List UInt8) : E C 141 [.str (bs s), .str (bs p)] = some [.bool (p.isPrefixOf s)] := by
  apply o141
  rw [bT (HasPre0_E s p)]
  rfl
theorem CutPre_E (s p : List UInt8) : E C 281 [.str (bs s), .str (bs p)] = some [.str (if p.isPrefixOf s = true then bs (s.drop p.length) else bs s), .bool (p.isPrefixOf s)] := by
  have h0 : E C 289 [.str (bs s), .str (bs p)] = some [.str (if p.isPrefixOf s = true then bs (s.drop p.length) else bs s), .bool (p.isPrefixOf s)] := by
    apply o289
    rw [bT (HasPre0_E s p), bs_size, bs_size]
    simp only [rd0, datB]
    cases h : p.isPrefixOf s with
    | true =>
      have hl : p.length ≤ s.length := by
        rw [pre_take, Bool.and_eq_true, decide_eq_true_eq] at h
        exact h.1
      rw [nF rfl, dT (by omega), dT (by omega), dT (by omega), Int.toNat_natCast, Int.toNat_natCast, subS_bs, List.take_length, if_pos rfl]
    | false => rw [nT rfl, if_neg (by simp)]
  apply o281
  rw [bT h0]
  rfl
/-- The first place of a colon and a closing bracket. -/
def fi : List Int → Option Nat
  | [] => none
  | c :: l => if c = 58 ∧ l.head? = some 93 then some 0 else (fi l).map (· + 1)
theorem fi_len : ∀ {l : List Int} {n : Nat}, fi l = some n → n + 2 ≤ l.length
  | [], n, h => by cases h
  | c :: l, n, h => by
    unfold fi at h
    split at h
    · rename_i hc
      obtain rfl := Option.some.inj h
      cases l with
      | nil => cases hc.2
      | cons d l => simp
    · cases hf : fi l with
      | none => rw [hf] at h; cases h
      | some m =>
        rw [hf] at h
        obtain rfl := Option.some.inj h
        have := fi_len hf
        simp only [List.length_cons]
        omega
theorem index_fi : ∀ {l : List Int}, isBytes l = true → Lib.index (u8 l) [58, 93] = match fi l with | none => -1 | some n => (n : Int)
  | [], _ => rfl
  | c :: l, h => by
    have hb : isBytes l = true := by
      unfold isBytes at h ⊢
      rw [List.all_cons, Bool.and_eq_true] at h
      exact h.2
    have hc : 0 ≤ c ∧ c < 256 := by
      unfold isBytes at h
      rw [List.all_cons, Bool.and_eq_true] at h
      simpa using h.1
    have ih := index_fi hb
    show Lib.index (UInt8.ofNat c.toNat :: u8 l) [58, 93] = _
    unfold Lib.index fi
    have hp : ([58, 93] : List UInt8).isPrefixOf (UInt8.ofNat c.toNat :: u8 l) = true ↔ c = 58 ∧ l.head? = some 93 := by
      cases l with
      | nil => simp [u8, List.isPrefixOf]
      | cons d l =>
        have hd : 0 ≤ d ∧ d < 256 := by
          unfold isBytes at hb
          rw [List.all_cons, Bool.and_eq_true] at hb
          simpa using hb.1
        have e1 := u8_eq hc 58 (by decide)
        have e2 := u8_eq hd 93 (by decide)
        simp only [u8, List.map_cons, List.isPrefixOf, List.head?_cons, Option.some.injEq, Bool.and_eq_true, beq_iff_eq, Bool.and_true]
        constructor
        · rintro ⟨h1, h2⟩
          exact ⟨e1.1 h1.symm, e2.1 h2.symm⟩
        · rintro ⟨h1, h2⟩
          exact ⟨(e1.2 h1).symm, (e2.2 h2).symm⟩
    by_cases g : c = 58 ∧ l.head? = some 93
    · rw [if_pos (hp.2 g), if_pos g]
      rfl
    · rw [if_neg (fun e => g (hp.1 e)), if_neg g, ih]
      cases fi l with
      | none => rfl
      | some n =>
        rw [if_neg]
        · rfl
        · simp only [beq_iff_eq]
          omega
theorem Cut_E {l : List Int} (hb : isBytes l = true) (hl : l.length < 4294967281) : E C 280 [.str (bs (u8 l)), .str (bs [58, 93])] = some [.str (bs (u8 (match fi l with | none => l | some n => l.take n))), .str (bs (match fi l with | none => [] | some n => (u8 l).drop (n + 2))), .bool (fi l).isSome] := by
  refine E_given (h := gCut) (by kernel_rfl) ?_
  have e1 : (bs (u8 l)).data.toList = u8 l := by simp [bs]
  have e2 : (bs [58, 93]).data.toList = [58, 93] := rfl
  simp only [gCut]
  rw [bs_size, u8_len, decide_eq_true hl, cond_true, e1, e2]
  unfold Lib.cut
  rw [index_fi hb]
  cases fi l with
  | none => rfl
  | some n =>
    rw [if_pos (by show (0 : Int) ≤ (n : Int); omega)]
    simp only [Int.toNat_natCast, List.length_cons, List.length_nil, u8_take]
    rfl
inductive Prt where
  | rng (lo hi : Int)
  | lett (c : Int)
  | nam (s : List UInt8) (not : Bool)
def nset (s : List UInt8) : Option (List (Int × Int)) := findN (bs s) allN
def partSet : Prt → List (Int × Int)
  | .rng lo hi => [(lo, hi)]
  | .lett c => (ofL c).getD []
  | .nam s not => if not = true then notR ((nset s).getD []) else (nset s).getD []
inductive Pc where
  | sym (n : Int) (to : Nat)
  | set (p : Prt) (to : Nat)
  | err (e : Int)
def nmS (b : List Int) (k : Nat) : Pc :=
  match fi (b.drop (k + 2)) with
  | none => .err 33
  | some n =>
    if atB b ((k + 2 : Nat) : Int) = 94 then (match nset (u8 (((b.drop (k + 2)).take n).drop 1)) with | none => .err 33 | some _ => .set (.nam (u8 (((b.drop (k + 2)).take n).drop 1)) true) (k + 2 + n + 2))
    else (match nset (u8 ((b.drop (k + 2)).take n)) with | none => .err 33 | some _ => .set (.nam (u8 ((b.drop (k + 2)).take n)) false) (k + 2 + n + 2))
def pcE : Esc → Pc
  | .lit n to => .sym n to.toNat
  | .cls c to => .set (.lett c) to.toNat
  | .err e => .err e
  | _ => .err 0
def opensB (b : List Int) (k : Nat) : Prop := atB b (k : Int) = 91 ∧ atB b ((k + 1 : Nat) : Int) = 58
instance (b : List Int) (k : Nat) : Decidable (opensB b k) := inferInstanceAs (Decidable (_ ∧ _))
def pieceS (b : List Int) (k : Nat) : Pc :=
  if opensB b k then nmS b k
  else if atB b (k : Int) = 92 then pcE (escS b (k : Int) true)
  else .sym (symA b k).1 (k + (symA b k).2.toNat)
def pcP : Pc → List Dat
  | .sym n to => itemP 1 (to : Int) n ByteArray.empty [] 0
  | .set p to => itemP 2 (to : Int) 0 ByteArray.empty (rs (partSet p)) 0
  | .err e => itemP 0 0 0 ByteArray.empty [] e
/-- What a backslash makes within a class, and how far it goes. -/
theorem codeS_to {b : List Int} {j : Nat} {n : Int} {to : Nat} (h : codeS b j = some (n, to)) : j < to ∧ to ≤ b.length := by
  unfold codeS at h
  split at h
  · split at h
    · cases h
    · rename_i h1 h2
      simp only [Option.some.injEq, Prod.mk.injEq] at h
      obtain ⟨_, rfl⟩ := h
      have h3 : atB b ((j + 1 + (hexG 6 (b.drop (j + 1)) 0).2 : Nat) : Int) = 125 := Classical.byContradiction fun hn => h2 (.inr (.inl hn))
      have := atB_some (b := b) (i := ((j + 1 + (hexG 6 (b.drop (j + 1)) 0).2 : Nat) : Int)) (by rw [h3]; decide)
      omega
  · split at h
    · cases h
    · simp only [Option.some.injEq, Prod.mk.injEq] at h
      obtain ⟨_, rfl⟩ := h
      have g := hexG_le 2 (b.drop j) 0
      rw [List.length_drop] at g
      omega
theorem simple_to {b : List Int} (hb : isBytes b = true) {k : Nat} {x : Esc} (h : simpleS b k = some x) : (∃ n to, x = .lit n to ∧ (k : Int) < to ∧ to ≤ (b.length : Int)) ∨ (∃ c to, x = .cls c to ∧ (k : Int) < to ∧ to ≤ (b.length : Int)) ∨ x = .err 32 := by
  have hin : atB b ((k + 1 : Nat) : Int) ≠ 0 → k + 2 ≤ b.length := fun h => by have := atB_some h; omega
  unfold simpleS at h
  split at h
  · cases hc : codeS b (k + 2) with
    | none => rw [hc] at h; exact .inr (.inr (Option.some.inj h).symm)
    | some p =>
      rw [hc] at h
      have := codeS_to hc
      exact .inl ⟨p.1, (p.2 : Int), (Option.some.inj h).symm, by omega, by omega⟩
  split at h
  · rename_i h2
    have h3 : atB b ((k + 1 : Nat) : Int) ≠ 0 := fun e => by rw [e] at h2; exact absurd h2 (by decide)
    have := hin h3
    exact .inl ⟨_, _, (Option.some.inj h).symm, by omega, by omega⟩
  split at h
  · rename_i h2
    have h3 : atB b ((k + 1 : Nat) : Int) ≠ 0 := fun e => by rw [e] at h2; exact absurd h2 (by decide)
    have := hin h3
    exact .inr (.inl ⟨_, _, (Option.some.inj h).symm, by omega, by omega⟩)
  split at h
  · cases h
  split at h
  · exact .inr (.inr (Option.some.inj h).symm)
  · have hs := symA_small hb (k + 1) (by omega)
    exact .inl ⟨_, _, (Option.some.inj h).symm, by omega, by omega⟩
theorem esc_inner {b : List Int} (hb : isBytes b = true) {k : Nat} (hk : atB b (k : Int) = 92) : (∃ n to, escS b (k : Int) true = .lit n to ∧ (k : Int) < to ∧ to ≤ (b.length : Int)) ∨ (∃ c to, escS b (k : Int) true = .cls c to ∧ (k : Int) < to ∧ to ≤ (b.length : Int)) ∨ escS b (k : Int) true = .err 32 := by
  unfold escS
  rw [if_neg (by simpa using hk), Int.toNat_natCast]
  cases hs : simpleS b k with
  | some x => exact simple_to hb hs
  | none =>
    simp only [if_true]
    by_cases h : atB b ((k + 1 : Nat) : Int) = 98
    · have := atB_some (b := b) (i := ((k + 1 : Nat) : Int)) (by rw [h]; decide)
      rw [if_pos h]
      exact .inl ⟨_, _, rfl, by omega, by omega⟩
    · rw [if_neg h]
      exact .inr (.inr rfl)
end Go.Proofs.YtlofoifcdmeopaaGreatDoor.V
namespace Go.Proofs.YtlofoifcdmeopaaGreatDoor.V
open Go Go.Ev Go.RowKit
set_option linter.unusedVariables false
set_option linter.unusedSimpArgs false
def EscOk (b : List Int) (k : Int) : Esc → Prop
  | .lit n to => k < to ∧ to ≤ (b.length : Int)
  | .cls c to => k < to ∧ to ≤ (b.length : Int) ∧ leastB ((ofL c).getD []) = true
  | .hld n to => k < to ∧ to ≤ (b.length : Int) ∧ 1 ≤ n ∧ n ≤ 7
  | .ref n to => k < to ∧ to ≤ (b.length : Int) ∧ 1 ≤ n ∧ n ≤ 99
  | .key a to => k < to ∧ to ≤ (b.length : Int) ∧ (a.size : Int) ≤ 32 ∧ emptyS a = false
  | .err e => e ≠ 0
theorem ofL_least (c : Int) : leastB ((ofL c).getD []) = true := by
  cases h : ofL c with
  | none => exact least_nil
  | some l => exact (leastB_iff _).2 (ofL_len h).2
theorem heldV_in {c : Int} (h : heldV c > 0) : 1 ≤ heldV c ∧ heldV c ≤ 7 ∧ c ≠ 0 := by
  unfold heldV at *
  (repeat' split at h) <;> (repeat' split) <;> omega
theorem subB_size {b : List Int} {i k : Int} (h0 : 0 ≤ i) (h1 : i ≤ k) (h2 : k ≤ (b.length : Int)) : ((subB b i k).size : Int) = k - i := by
  unfold subB
  rw [← List.map_take, ← List.map_drop, strOf_ints]
  show ((u8 _).toArray.size : Int) = _
  simp [u8]
  omega
theorem nonempty_of_size {a : ByteArray} {l : List UInt8} (h : a = bs l) (hl : l ≠ []) : emptyS a = false := by
  unfold emptyS
  rw [h, bs_toList, show ByteArray.empty.toList = [] from bs_toList []]
  cases l with
  | nil => exact absurd rfl hl
  | cons x l => rfl
theorem name_ok (b : List Int) (i : Int) (h0 : 0 ≤ i) : (nameR b i = errN) ∨ ∃ (a : ByteArray) (to : Int), nameR b i = [.str a, .int to, .int 0] ∧ i < to ∧ to ≤ (b.length : Int) ∧ (a.size : Int) ≤ 32 ∧ emptyS a = false := by
  unfold nameR
  by_cases c1 : i < 0 ∨ i ≥ (b.length : Int) ∨ digB (atB b i) = true
  · rw [if_pos c1]; exact .inl rfl
  rw [if_neg c1]
  unfold finN
  by_cases c2 : i < 0 ∨ i + (wlen (b.drop i.toNat) : Int) = i ∨ i + (wlen (b.drop i.toNat) : Int) - i > 32 ∨ atB b (i + (wlen (b.drop i.toNat) : Int)) ≠ 62
  · rw [if_pos c2]; exact .inl rfl
  rw [if_neg c2]
  have h62 : atB b (i + (wlen (b.drop i.toNat) : Int)) = 62 := by
    by_cases h : atB b (i + (wlen (b.drop i.toNat) : Int)) = 62
    · exact h
    · exact absurd (.inr (.inr (.inr h))) c2
  have hin := atB_some (b := b) (i := i + (wlen (b.drop i.toNat) : Int)) (by rw [h62]; decide)
  have hsz := subB_size (b := b) h0 (k := i + (wlen (b.drop i.toNat) : Int)) (by omega) (by omega)
  refine .inr ⟨_, _, rfl, by omega, by omega, by omega, ?_⟩
  refine nonempty_of_size (l := u8 ((b.take (i + (wlen (b.drop i.toNat) : Int)).toNat).drop i.toNat)) ?_ ?_
  · unfold subB
    rw [← List.map_take, ← List.map_drop, strOf_ints]
  · intro h
    have : (u8 ((b.take (i + (wlen (b.drop i.toNat) : Int)).toNat).drop i.toNat)).length = 0 := by rw [h]; rfl
    simp [u8] at this
    omega
theorem rest_ok {b : List Int} (hb : isBytes b = true) {k : Nat} (hk : k < b.length) : EscOk b (k : Int) (restS b k) := by
  unfold restS
  by_cases c1 : heldV (atB b ((k + 1 : Nat) : Int)) > 0
  · rw [if_pos c1]
    obtain ⟨h1, h2, h3⟩ := heldV_in c1
    have := atB_some h3
    exact ⟨by omega, by omega, h1, h2⟩
  rw [if_neg c1]
  by_cases c2 : 49 ≤ atB b ((k + 1 : Nat) : Int) ∧ atB b ((k + 1 : Nat) : Int) ≤ 57
  · rw [if_pos c2]
    have := atB_some (b := b) (i := ((k + 1 : Nat) : Int)) (by omega)
    by_cases c3 : digB (atB b ((k + 2 : Nat) : Int)) = true
    · rw [if_pos c3]
      have h := digB_iff.1 c3
      have := atB_some (b := b) (i := ((k + 2 : Nat) : Int)) (by omega)
      exact ⟨by omega, by omega, by omega, by omega⟩
    · rw [if_neg c3]
      exact ⟨by omega, by omega, by omega, by omega⟩
  rw [if_neg c2]
  by_cases c4 : atB b ((k + 1 : Nat) : Int) ≠ 107
  · rw [if_pos c4]; show (32 : Int) ≠ 0; decide
  rw [if_neg c4]
  by_cases c5 : atB b ((k + 2 : Nat) : Int) ≠ 60
  · rw [if_pos c5]; show (36 : Int) ≠ 0; decide
  rw [if_neg c5]
  unfold keyS
  rcases name_ok b ((k + 3 : Nat) : Int) (by omega) with h | ⟨a, to, h, h1, h2, h3, h4⟩
  · rw [h, if_pos (by show (36 : Int) ≠ 0; decide)]; show (36 : Int) ≠ 0; decide
  · rw [h, if_neg (by show ¬ (0 : Int) ≠ 0; decide)]; exact ⟨show (k : Int) < to by omega, h2, h3, h4⟩
theorem esc_ok {b : List Int} (hb : isBytes b = true) {k : Nat} (hk : k < b.length) : EscOk b (k : Int) (escS b (k : Int) false) := by
  unfold escS
  by_cases c : atB b (k : Int) ≠ 92
  · rw [if_pos c]; show (10 : Int) ≠ 0; decide
  rw [if_neg c, Int.toNat_natCast]
  cases hs : simpleS b k with
  | some x =>
    rcases simple_to hb hs with ⟨n, to, rfl, h1, h2⟩ | ⟨c, to, rfl, h1, h2⟩ | rfl
    · exact ⟨h1, h2⟩
    · exact ⟨h1, h2, ofL_least c⟩
    · show (32 : Int) ≠ 0; decide
  | none => exact rest_ok hb hk
/-- What is known of a parser's state. -/
structure SOk (b : List Int) (s : PS) : Prop where
  k0 : 0 ≤ s.k
  k1 : s.k ≤ (b.length : Int) + 10
  kE : s.e = 0 → s.k ≤ (b.length : Int)
  g0 : 0 ≤ s.gr
  g1 : s.gr ≤ 99
  nm : (s.nm.length : Int) = s.gr + 1
  nms : ∀ a, a ∈ s.nm → (a.size : Int) ≤ 32
  wh : 0 ≤ s.wh ∧ s.wh ≤ (b.length : Int)
theorem SOk.i64 {b : List Int} {s : PS} (h : SOk b s) (hb : b.length ≤ 4096) : i64P s.k := by
  have := h.k0; have := h.k1
  unfold i64P; omega
theorem SOk.fail {b : List Int} {s : PS} (h : SOk b s) (e a : Int) (he : e ≠ 0) (ha : s.e = 0 → 0 ≤ a ∧ a ≤ (b.length : Int)) : SOk b (failS s e a) ∧ (failS s e a).e ≠ 0 := by
  unfold failS
  by_cases c : s.e = 0
  · rw [if_pos c]
    exact ⟨⟨h.k0, h.k1, fun q => absurd q he, h.g0, h.g1, h.nm, h.nms, ha c⟩, he⟩
  · rw [if_neg c]; exact ⟨h, c⟩
theorem SOk.to {b : List Int} {s : PS} (h : SOk b s) {t : Int} (h0 : 0 ≤ t) (h1 : t ≤ (b.length : Int)) : SOk b { s with k := t } := ⟨h0, by show t ≤ _; omega, fun _ => h1, h.g0, h.g1, h.nm, h.nms, h.wh⟩
/-- What an escape's part is: a good leaf, further on; or the parser has failed. -/
theorem escape_T {b : List Int} (hb : isBytes b = true) (hl : b.length ≤ 4096) {s : PS} (hs : SOk b s) (he : s.e = 0) (hk : s.k < (b.length : Int)) : ∃ n s', E C 212 [pv b s] = some [ptD n [], pd b s'] ∧ SOk b s' ∧ s'.gr = s.gr ∧ s'.nm = s.nm ∧ (s'.e = 0 → AloneN n 0 ∧ (n.kind = 2 ∨ n.kind = 3 ∨ n.kind = 4) ∧ n.frm = s.k ∧ n.to = s'.k ∧ s.k < s'.k) := by
  have k0 := hs.k0
  obtain ⟨k, hkk⟩ : ∃ k : Nat, s.k = (k : Int) := ⟨s.k.toNat, by omega⟩
  have ok := esc_ok hb (k := k) (by omega)
  rw [← hkk] at ok
  have hE := escape_E b hb (by omega) s (fun e h => by rw [h] at ok; exact ok)
  refine ⟨_, _, hE, ?_⟩
  unfold escP
  cases h : escS b s.k false with
  | lit n to =>
    rw [h] at ok
    exact ⟨hs.to (by have := ok.1; omega) ok.2, rfl, rfl, fun _ => ⟨alone_set k0 (by have := ok.1; omega) (by have := ok.2; omega) (cloS_least s ((leastB_iff _).2 (mk_least _))), .inl rfl, rfl, rfl, ok.1⟩⟩
  | cls c to =>
    rw [h] at ok
    exact ⟨hs.to (by have := ok.1; omega) ok.2.1, rfl, rfl, fun _ => ⟨alone_set k0 (by have := ok.1; omega) (by have := ok.2.1; omega) (cloS_least s ok.2.2), .inl rfl, rfl, rfl, ok.1⟩⟩
  | hld n to =>
    rw [h] at ok
    exact ⟨hs.to (by have := ok.1; omega) ok.2.1, rfl, rfl, fun _ => ⟨alone_hold k0 (by have := ok.1; omega) (by have := ok.2.1; omega) ok.2.2, .inr (.inl rfl), rfl, rfl, ok.1⟩⟩
  | ref n to =>
    rw [h] at ok
    exact ⟨hs.to (by have := ok.1; omega) ok.2.1, rfl, rfl, fun _ => ⟨alone_back k0 (by have := ok.1; omega) (by have := ok.2.1; omega) (show ((0 : Nat) : Int) ≤ 32 by decide) (.inl ok.2.2), .inr (.inr rfl), rfl, rfl, ok.1⟩⟩
  | key a to =>
    rw [h] at ok
    exact ⟨hs.to (by have := ok.1; omega) ok.2.1, rfl, rfl, fun _ => ⟨alone_back k0 (by have := ok.1; omega) (by have := ok.2.1; omega) ok.2.2.1 (.inr ⟨rfl, ok.2.2.2⟩), .inr (.inr rfl), rfl, rfl, ok.1⟩⟩
  | err e =>
    rw [h] at ok
    have hf := hs.fail e s.k ok (fun q => ⟨hs.k0, hs.kE q⟩)
    refine ⟨hf.1, ?_, ?_, fun q => absurd q hf.2⟩
    · show (failS s e s.k).gr = _; unfold failS; split <;> rfl
    · show (failS s e s.k).nm = _; unfold failS; split <;> rfl
end Go.Proofs.YtlofoifcdmeopaaGreatDoor.V
namespace Go.Proofs.YtlofoifcdmeopaaGreatDoor.V
open Go Go.Ev Go.RowKit
set_option linter.unusedVariables false
set_option linter.unusedSimpArgs false
theorem isBytes_drop {b : List Int} (h : isBytes b = true) (n : Nat) : isBytes (b.drop n) = true := by
  unfold isBytes at h ⊢
  rw [List.all_eq_true] at h ⊢
  exact fun x hx => h x (List.mem_of_mem_drop hx)
theorem isBytes_take {b : List Int} (h : isBytes b = true) (n : Nat) : isBytes (b.take n) = true := by
  unfold isBytes at h ⊢
  rw [List.all_eq_true] at h ⊢
  exact fun x hx => h x (List.mem_of_mem_take hx)
theorem isBytes_head {c : Int} {l : List Int} (h : isBytes (c :: l) = true) : 0 ≤ c ∧ c < 256 := by
  unfold isBytes at h
  rw [List.all_cons, Bool.and_eq_true] at h
  simpa using h.1
theorem pre94 {l : List Int} (hb : isBytes l = true) : ([94] : List UInt8).isPrefixOf (u8 l) = decide (l.head? = some 94) := by
  cases l with
  | nil => rfl
  | cons c l =>
    have e := u8_eq (isBytes_head hb) 94 (by decide)
    rw [Bool.eq_iff_iff, decide_eq_true_eq, List.head?_cons, Option.some.injEq]
    show ([94] : List UInt8).isPrefixOf (UInt8.ofNat c.toNat :: u8 l) = true ↔ c = 94
    simp only [List.isPrefixOf, Bool.and_true, beq_iff_eq]
    exact ⟨fun h => e.1 h.symm, fun h => (e.2 h).symm⟩
theorem drop_head {b : List Int} {k : Nat} (h : k < b.length) : b.drop k = atB b (k : Int) :: b.drop (k + 1) := by
  rw [atB_in h, List.drop_eq_getElem_cons h]
theorem atB_head (b : List Int) (k : Nat) : atB b (k : Int) = 94 ↔ (b.drop k).head? = some 94 := by
  by_cases h : k < b.length
  · rw [drop_head h, List.head?_cons, Option.some.injEq]
  · rw [atB_out (by omega), List.drop_eq_nil_of_le (by omega)]
    simp
theorem take_head {l : List Int} {n : Nat} (h : fi l = some n) : (l.take n).head? = some 94 ↔ l.head? = some 94 := by
  cases l with
  | nil => cases h
  | cons c l =>
    cases n with
    | succ n => rfl
    | zero =>
      have hc : c = 58 := by
        unfold fi at h
        split at h
        · rename_i hc; exact hc.1
        · cases hf : fi l with
          | none => rw [hf] at h; cases h
          | some m => rw [hf] at h; cases h
      subst hc
      exact ⟨fun h => (by cases h), fun h => (by cases h)⟩
theorem opens_pre {b : List Int} (hb : isBytes b = true) {k : Nat} (hk : k < b.length) : ([91, 58] : List UInt8).isPrefixOf (u8 ((b.take (min (k + 2) b.length)).drop k)) = decide (opensB b k) := by
  rw [Bool.eq_iff_iff, decide_eq_true_eq]
  unfold opensB
  have hd := isBytes_drop hb k
  rw [drop_head hk] at hd
  have h1 := u8_eq (isBytes_head hd) 91 (by decide)
  by_cases h2 : k + 1 < b.length
  · have e : (b.take (min (k + 2) b.length)).drop k = [atB b (k : Int), atB b ((k + 1 : Nat) : Int)] := by
      rw [show min (k + 2) b.length = k + 2 by omega, List.drop_take, drop_head hk, drop_head h2, show k + 2 - k = 2 by omega]
      rfl
    rw [e]
    have hd2 := isBytes_drop hb (k + 1)
    rw [drop_head h2] at hd2
    have h3 := u8_eq (isBytes_head hd2) 58 (by decide)
    show ([91, 58] : List UInt8).isPrefixOf [UInt8.ofNat (atB b (k : Int)).toNat, UInt8.ofNat (atB b ((k + 1 : Nat) : Int)).toNat] = true ↔ _
    simp only [List.isPrefixOf, Bool.and_eq_true, beq_iff_eq, Bool.and_true]
    exact ⟨fun h => ⟨h1.1 h.1.symm, h3.1 h.2.symm⟩, fun h => ⟨(h1.2 h.1).symm, (h3.2 h.2).symm⟩⟩
  · have e : (b.take (min (k + 2) b.length)).drop k = [atB b (k : Int)] := by
      rw [show min (k + 2) b.length = k + 1 by omega, List.drop_take, drop_head hk, show k + 1 - k = 1 by omega]
      rfl
    rw [e, atB_out (i := ((k + 1 : Nat) : Int)) (by omega)]
    constructor
    · intro h
      exact absurd h (by simp [u8, List.isPrefixOf])
    · intro h
      exact absurd h.2 (by decide)
theorem findN_mem {s : ByteArray} {m : List (Int × Int)} : ∀ {l : List (List UInt8 × List (Int × Int))}, findN s l = some m → ∃ p, p ∈ l ∧ p.2 = m
  | [], h => by cases h
  | p :: l, h => by
    unfold findN at h
    cases hc : (bs p.1).toList == s.toList with
    | true =>
      rw [hc] at h
      exact ⟨p, List.mem_cons_self, Option.some.inj h⟩
    | false =>
      rw [hc] at h
      obtain ⟨q, h1, h2⟩ := findN_mem (l := l) h
      exact ⟨q, List.mem_cons_of_mem _ h1, h2⟩
theorem allN_len : ∀ p, p ∈ allN → p.2.length ≤ 10 := by decide
theorem nset_len {s : List UInt8} {l : List (Int × Int)} (h : nset s = some l) : l.length ≤ 10 := by
  obtain ⟨p, h1, rfl⟩ := findN_mem (show findN (bs s) allN = some l from h)
  exact allN_len p h1
theorem named_E {b : List Int} (hb : isBytes b = true) (hbl : b.length ≤ 4294967280) {k : Nat} (h1 : atB b ((k + 1 : Nat) : Int) = 58) : E C 267 [.shr 5 (b.map .int), .int .i64 (k : Int)] = some (pcP (nmS b k)) := by
  have hk : k + 2 ≤ b.length := by
    have := atB_some (b := b) (i := ((k + 1 : Nat) : Int)) (by rw [h1]; decide)
    omega
  have e2 : IntKind.i64.wrap ((k : Int) + 2) = ((k + 2 : Nat) : Int) := by rw [w64 (by omega) (by omega)]; omega
  apply o267
  rw [e2, List.length_map, dT (by omega), dT (by omega), dT (by omega), Int.toNat_natCast, Int.toNat_natCast, slice_ints, List.take_length, strOf_ints, bT (Cut_E (isBytes_drop hb _) (by rw [List.length_drop]; omega))]
  simp only [rd0, rd1, rd2, datS, datB]
  rw [bT (CutPre_E _ _)]
  simp only [rd0, rd1, datS, datB]
  unfold nmS
  cases hf : fi (b.drop (k + 2)) with
  | none =>
    rw [bT (Named_E _), nT (by rfl)]
    rfl
  | some n =>
    have hn := fi_len hf
    rw [List.length_drop] at hn
    have hb2 : isBytes ((b.drop (k + 2)).take n) = true := isBytes_take (isBytes_drop hb _) _
    have hp := pre94 hb2
    have hh := (take_head hf).trans (atB_head b (k + 2)).symm
    have hsz : ((bs (u8 ((b.drop (k + 2)).take n))).size : Int) = (n : Int) := by
      rw [bs_size, u8_len, List.length_take, List.length_drop]
      omega
    have e3 : IntKind.i64.wrap (IntKind.i64.wrap (((k + 2 : Nat) : Int) + (n : Int)) + 2) = ((k + 2 + n + 2 : Nat) : Int) := by
      rw [w64 (n := ((k + 2 : Nat) : Int) + (n : Int)) (by omega) (by omega), w64 (by omega) (by omega)]; omega
    simp only []
    rw [hsz, e3, hp]
    by_cases c : atB b ((k + 2 : Nat) : Int) = 94
    · rw [if_pos c, if_pos (by rw [decide_eq_true_eq]; exact hh.2 c), u8_drop, bT (Named_E _), nF (by rfl)]
      unfold nset
      cases hs : findN (bs (u8 (((b.drop (k + 2)).take n).drop 1))) allN with
      | none => rfl
      | some l =>
        have hl : l.length ≤ 1000 := by
          have := nset_len hs
          omega
        simp only [namedD, rd0, rd1, datB, datL]
        rw [nF rfl, cT (by rw [decide_eq_true_eq]; exact hh.2 c), bT (Not_E l (by omega))]
        simp only [pcP, partSet, nset, hs]
        rfl
    · rw [if_neg c, if_neg (by rw [decide_eq_true_eq]; exact fun e => c (hh.1 e)), bT (Named_E _), nF (by rfl)]
      unfold nset
      cases hs : findN (bs (u8 ((b.drop (k + 2)).take n))) allN with
      | none => rfl
      | some l =>
        simp only [namedD, rd0, rd1, datB, datL]
        rw [nF rfl, cF (by rw [decide_eq_false_iff_not]; exact fun e => c (hh.1 e))]
        simp only [pcP, partSet, nset, hs]
        rfl
end Go.Proofs.YtlofoifcdmeopaaGreatDoor.V
namespace Go.Proofs.YtlofoifcdmeopaaGreatDoor.V
open Go Go.Ev Go.RowKit
set_option linter.unusedVariables false
set_option linter.unusedSimpArgs false
theorem piece_E {b : List Int} (hb : isBytes b = true) (hbl : b.length ≤ 4294967280) {k : Nat} (hk : k < b.length) : E C 248 [.shr 5 (b.map .int), .int .i64 (k : Int)] = some (pcP (pieceS b k)) := by
  have e2 : IntKind.i64.wrap ((k : Int) + 2) = ((k + 2 : Nat) : Int) := by rw [w64 (by omega) (by omega)]; omega
  have e3 : (if (b.length : Int) < ((k + 2 : Nat) : Int) then (b.length : Int) else ((k + 2 : Nat) : Int)) = ((min (k + 2) b.length : Nat) : Int) := by
    split <;> omega
  have e4 : (rd (b.map Dat.int) k).I = atB b (k : Int) := by rw [rdB hk, atB_in hk]
  apply o248
  rw [e2, List.length_map, e3, dT (by omega), dT (by omega), dT (by omega), Int.toNat_natCast, Int.toNat_natCast, slice_ints, strOf_ints, bT (HasPre_E _ _), opens_pre hb hk]
  simp only [rd0, datB]
  unfold pieceS
  by_cases c : opensB b k
  · rw [dT c, if_pos c, bT (named_E hb hbl c.2)]
    cases nmS b k <;> rfl
  · rw [dF c, if_neg c, e4, dT (by omega), dT (by omega), dT (by omega)]
    by_cases c2 : atB b (k : Int) = 92
    · rw [eT c2, if_pos c2, bT (Inner_E hb (by omega) _)]
      obtain ⟨n, to, h, _⟩ | ⟨n, to, h, _⟩ | h := esc_inner hb c2
      · rw [h]
        simp only [progD, pcE, pcP, itemP]
        simp only [rd0, rd1, aggC0, aggC1, aggC2, aggC3, aggC4, datI, datS, datL]
        rw [show ((to.toNat : Nat) : Int) = to by omega]
      · rw [h]
        simp only [progD, pcE, pcP, itemP]
        simp only [rd0, rd1, aggC0, aggC1, aggC2, aggC3, aggC4, datI, datS, datL, partSet]
        rw [show ((to.toNat : Nat) : Int) = to by omega]
      · rw [h]
        rfl
    · have hs := symA_small hb k hk
      rw [eF c2, if_neg c2, bT (At_E b hb (by omega) _)]
      unfold symR
      rw [if_pos ⟨by omega, by omega⟩, Int.toNat_natCast]
      simp only [rd0, rd1, datI]
      rw [w64 (by omega) (by omega)]
      simp only [pcP, itemP]
      rw [show ((k + (symA b k).2.toNat : Nat) : Int) = (k : Int) + (symA b k).2 by omega]
/-- How far a piece goes, and what it is. -/
theorem hexG_val : ∀ (m : Nat) (l : List Int) (a : Int), 0 ≤ a → 0 ≤ (hexG m l a).1 ∧ (hexG m l a).1 + 1 ≤ (a + 1) * 16 ^ m
  | 0, l, a, h => by
    show 0 ≤ (hexG 0 l a).1 ∧ _
    unfold hexG
    simp only [Int.pow_zero]
    omega
  | m + 1, [], a, h => by
    have hp : (1 : Int) ≤ 16 ^ (m + 1) := Int.pow_pos (by decide)
    show 0 ≤ a ∧ a + 1 ≤ (a + 1) * 16 ^ (m + 1)
    have := Int.mul_le_mul_of_nonneg_left hp (show 0 ≤ a + 1 by omega)
    omega
  | m + 1, c :: l, a, h => by
    have hp : (1 : Int) ≤ 16 ^ (m + 1) := Int.pow_pos (by decide)
    have hv := hexV_in c
    show 0 ≤ (if hexV c ≥ 0 then ((hexG m l (a * 16 + hexV c)).1, (hexG m l (a * 16 + hexV c)).2 + 1) else (a, 0)).1 ∧ (if hexV c ≥ 0 then ((hexG m l (a * 16 + hexV c)).1, (hexG m l (a * 16 + hexV c)).2 + 1) else (a, 0)).1 + 1 ≤ (a + 1) * 16 ^ (m + 1)
    by_cases hc : hexV c ≥ 0
    · rw [if_pos hc]
      have ih := hexG_val m l (a * 16 + hexV c) (by omega)
      have h16 : (16 : Int) ^ (m + 1) = 16 * 16 ^ m := by rw [Int.pow_succ, Int.mul_comm]
      have hq : (0 : Int) ≤ 16 ^ m := Int.le_of_lt (Int.pow_pos (by decide))
      have := Int.mul_le_mul_of_nonneg_right (show a * 16 + hexV c + 1 ≤ (a + 1) * 16 by omega) hq
      rw [Int.mul_assoc, ← h16] at this
      exact ⟨ih.1, Int.le_trans ih.2 this⟩
    · rw [if_neg hc]
      have := Int.mul_le_mul_of_nonneg_left hp (show 0 ≤ a + 1 by omega)
      show 0 ≤ a ∧ a + 1 ≤ (a + 1) * 16 ^ (m + 1)
      omega
theorem code_in {b : List Int} {j : Nat} {n : Int} {to : Nat} (h : codeS b j = some (n, to)) : 0 ≤ n ∧ n ≤ 1114367 := by
  unfold codeS at h
  split at h
  · split at h
    · cases h
    · rename_i h1 h2
      simp only [Option.some.injEq, Prod.mk.injEq] at h
      obtain ⟨rfl, _⟩ := h
      have h3 : isSym (hexG 6 (b.drop (j + 1)) 0).1 = true := by
        cases hs : isSym (hexG 6 (b.drop (j + 1)) 0).1 with
        | true => rfl
        | false => exact absurd (.inr (.inr hs)) h2
      have := (isSym_iff _).1 h3
      omega
  · split at h
    · cases h
    · simp only [Option.some.injEq, Prod.mk.injEq] at h
      obtain ⟨rfl, _⟩ := h
      have := hexG_val 2 (b.drop j) 0 (by omega)
      omega
theorem ctrl_in (c : Int) : ctrl c ≤ 27 := by
  unfold ctrl
  repeat' split
  all_goals omega
def wfP : Prt → Prop
  | .rng lo hi => 0 ≤ lo ∧ hi ≤ 1114367
  | .lett c => c > 0 ∧ (ofL c).isSome = true
  | .nam s _ => (nset s).isSome = true
def pcOk (b : List Int) (k : Nat) : Pc → Prop
  | .sym n to => 0 ≤ n ∧ n ≤ 1114367 ∧ k < to ∧ to ≤ b.length
  | .set p to => wfP p ∧ k < to ∧ to ≤ b.length ∧ (∀ lo hi, p ≠ .rng lo hi)
  | .err e => e ≠ 0
theorem ofL_pos {c : Int} (h : (ofL c).isSome = true) : c > 0 := by
  unfold ofL at h
  repeat' split at h
  all_goals first | omega | cases h
theorem simple_ok {b : List Int} (hb : isBytes b = true) {k : Nat} {x : Esc} (h : simpleS b k = some x) : pcOk b k (pcE x) := by
  have g := simple_to hb h
  unfold simpleS at h
  split at h
  · cases hc : codeS b (k + 2) with
    | none => rw [hc] at h; obtain rfl := Option.some.inj h; show (32 : Int) ≠ 0; decide
    | some p =>
      rw [hc] at h
      obtain rfl := Option.some.inj h
      have h1 := codeS_to hc
      have h2 := code_in hc
      exact ⟨h2.1, h2.2, by omega, by omega⟩
  split at h
  · rename_i h2
    obtain rfl := Option.some.inj h
    have h3 : atB b ((k + 1 : Nat) : Int) ≠ 0 := fun e => by rw [e] at h2; exact absurd h2 (by decide)
    have := atB_some h3
    have := ctrl_in (atB b ((k + 1 : Nat) : Int))
    exact ⟨by omega, by omega, by omega, by omega⟩
  split at h
  · rename_i h2
    obtain rfl := Option.some.inj h
    have h3 : atB b ((k + 1 : Nat) : Int) ≠ 0 := fun e => by rw [e] at h2; exact absurd h2 (by decide)
    have := atB_some h3
    exact ⟨⟨ofL_pos h2, h2⟩, by omega, by omega, fun lo hi e => by cases e⟩
  split at h
  · cases h
  split at h
  · obtain rfl := Option.some.inj h
    show (32 : Int) ≠ 0
    decide
  · obtain rfl := Option.some.inj h
    have hs := symA_small hb (k + 1) (by omega)
    exact ⟨hs.1, hs.2.1, by omega, by omega⟩
theorem piece_ok {b : List Int} (hb : isBytes b = true) {k : Nat} (hk : k < b.length) : pcOk b k (pieceS b k) := by
  unfold pieceS
  split
  · unfold nmS
    cases hf : fi (b.drop (k + 2)) with
    | none => show (33 : Int) ≠ 0; decide
    | some n =>
      have h1 := fi_len hf
      rw [List.length_drop] at h1
      show pcOk b k (if _ then _ else _)
      split
      · cases hs : nset (u8 (((b.drop (k + 2)).take n).drop 1)) with
        | none => show (33 : Int) ≠ 0; decide
        | some l => exact ⟨by show (nset _).isSome = true; rw [hs]; rfl, by omega, by omega, fun lo hi e => by cases e⟩
      · cases hs : nset (u8 ((b.drop (k + 2)).take n)) with
        | none => show (33 : Int) ≠ 0; decide
        | some l => exact ⟨by show (nset _).isSome = true; rw [hs]; rfl, by omega, by omega, fun lo hi e => by cases e⟩
  split
  · rename_i h1 h2
    unfold escS
    rw [if_neg (by simpa using h2), Int.toNat_natCast]
    cases hs : simpleS b k with
    | some x => exact simple_ok hb hs
    | none =>
      simp only [if_true]
      by_cases h : atB b ((k + 1 : Nat) : Int) = 98
      · have := atB_some (b := b) (i := ((k + 1 : Nat) : Int)) (by rw [h]; decide)
        rw [if_pos h]
        exact ⟨by omega, by omega, by omega, by omega⟩
      · rw [if_neg h]
        show (32 : Int) ≠ 0
        decide
  · have hs := symA_small hb k hk
    exact ⟨hs.1, hs.2.1, by omega, by omega⟩
end Go.Proofs.YtlofoifcdmeopaaGreatDoor.V
namespace Go.Proofs.YtlofoifcdmeopaaGreatDoor.V
open Go Go.Ev Go.RowKit
set_option linter.unusedVariables false
set_option linter.unusedSimpArgs false
inductive Pa where
  | ok (p : Prt) (to : Nat)
  | err (e : Int) (at_ : Nat)
def dashB (b : List Int) (t : Nat) : Prop := atB b (t : Int) = 45 ∧ t + 1 < b.length ∧ atB b ((t + 1 : Nat) : Int) ≠ 93
instance (b : List Int) (t : Nat) : Decidable (dashB b t) := inferInstanceAs (Decidable (_ ∧ _ ∧ _))
def partS (b : List Int) (k : Nat) : Pa :=
  match pieceS b k with
  | .err e => .err e k
  | .set p to => .ok p to
  | .sym n to =>
    if dashB b to then (match pieceS b (to + 1) with
      | .err e => .err e (to + 1)
      | .set _ _ => .err 33 k
      | .sym m t2 => if m < n then .err 33 k else .ok (.rng n m) t2)
    else .ok (.rng n n) to
def partP : Pa → List Dat
  | .err e a => [.agg [.int 0, .int 0, .int 0, .str ByteArray.empty, .list []], .int e, .int (a : Int)]
  | .ok p to => [.agg [.int 2, .int (to : Int), .int 0, .str ByteArray.empty, .list (rs (partSet p))], .int 0, .int 0]
theorem part_ok {b : List Int} (hb : isBytes b = true) {k : Nat} (hk : k < b.length) : match partS b k with
    | .ok p to => wfP p ∧ k < to ∧ to ≤ b.length
    | .err e _ => e ≠ 0 := by
  have h := piece_ok hb hk
  unfold partS
  cases hp : pieceS b k with
  | err e => rw [hp] at h; exact h
  | set p to => rw [hp] at h; exact ⟨h.1, h.2.1, h.2.2.1⟩
  | sym n to =>
    rw [hp] at h
    simp only []
    by_cases hd : dashB b to
    · rw [if_pos hd]
      have h2 := piece_ok hb (show to + 1 < b.length from hd.2.1)
      cases hq : pieceS b (to + 1) with
      | err e => rw [hq] at h2; exact h2
      | set p t => show (33 : Int) ≠ 0; decide
      | sym m t2 =>
        rw [hq] at h2
        simp only []
        by_cases hm : m < n
        · rw [if_pos hm]; show (33 : Int) ≠ 0; decide
        · rw [if_neg hm]
          exact ⟨⟨h.1, h2.2.1⟩, by have := h.2.2.1; have := h2.2.2.1; omega, h2.2.2.2⟩
    · rw [if_neg hd]
      exact ⟨⟨h.1, h.2.1⟩, h.2.2.1, h.2.2.2⟩
theorem dashed_E {b : List Int} (hbl : b.length ≤ 4294967280) (t : Nat) (ht : t ≤ b.length) : E C 249 [.shr 5 (b.map .int), .int .i64 (t : Int)] = some [.bool (decide (dashB b t))] := by
  have e1 : IntKind.i64.wrap ((t : Int) + 1) = ((t + 1 : Nat) : Int) := by rw [w64 (by omega) (by omega)]; omega
  apply o249
  rw [bT (at_E b _), e1, List.length_map]
  simp only [rd0, datI]
  by_cases h1 : atB b (t : Int) = 45
  · by_cases h2 : t + 1 < b.length
    · rw [eT h1, dT (by omega), ixT ⟨by omega, by omega⟩, rdA ⟨by omega, by omega⟩]
      by_cases h3 : atB b ((t + 1 : Nat) : Int) = 93
      · rw [decide_eq_false (show ¬ dashB b t from fun h => h.2.2 h3), h3]; rfl
      · rw [decide_eq_true (show dashB b t from ⟨h1, h2, h3⟩)]
        have : (atB b ((t + 1 : Nat) : Int) != 93) = true := by simpa using h3
        rw [this]
    · rw [eT h1, dF (by omega), decide_eq_false (show ¬ dashB b t from fun h => h2 h.2.1)]
  · rw [eF h1, decide_eq_false (show ¬ dashB b t from fun h => h1 h.1)]
theorem part_E {b : List Int} (hb : isBytes b = true) (hbl : b.length ≤ 4294967280) {k : Nat} (hk : k < b.length) : E C 230 [.shr 5 (b.map .int), .int .i64 (k : Int)] = some (partP (partS b k)) := by
  have h := piece_ok hb hk
  apply o230
  rw [bT (piece_E hb hbl hk)]
  unfold partS
  cases hp : pieceS b k with
  | err e =>
    rw [hp] at h
    simp only [pcP, itemP, rd0, rd1, datI]
    rw [neT h]
    rfl
  | set p to =>
    simp only [pcP, itemP, rd0, rd1, datI, aggC0, aggC1, aggC2, aggC3, aggC4, datS, datL]
    rw [neF rfl, eT rfl]
    rfl
  | sym n to =>
    rw [hp] at h
    have e1 : IntKind.i64.wrap ((to : Int) + 1) = ((to + 1 : Nat) : Int) := by have := h.2.2.2; rw [w64 (by omega) (by omega)]; omega
    simp only [pcP, itemP, rd0, rd1, datI, aggC0, aggC1, aggC2, aggC3, aggC4, datS, datL]
    rw [neF rfl, eF (by decide), e1, bT (dashed_E hbl to h.2.2.2)]
    simp only [rd0, datB]
    by_cases hd : dashB b to
    · have h2 := piece_ok hb (show to + 1 < b.length from hd.2.1)
      rw [dT hd, if_pos hd, bT (piece_E hb hbl hd.2.1)]
      cases hq : pieceS b (to + 1) with
      | err e =>
        rw [hq] at h2
        simp only [pcP, itemP, rd0, rd1, datI]
        rw [neT h2]
        rfl
      | set p t =>
        simp only [pcP, itemP, rd0, rd1, datI, aggC0, aggC1, aggC2, aggC3, aggC4, datS, datL]
        rw [neF rfl, neT (by decide)]
        rfl
      | sym m t2 =>
        simp only [pcP, itemP, rd0, rd1, datI, aggC0, aggC1, aggC2, aggC3, aggC4, datS, datL]
        rw [neF rfl, neF rfl]
        by_cases hm : m < n
        · rw [dT hm, if_pos hm]; rfl
        · rw [dF hm, if_neg hm]; rfl
    · rw [dF hd, if_neg hd]
      rfl
inductive Cla where
  | ok (ps : List (Prt × Nat)) (to : Nat)
  | err (e : Int) (at_ : Int)
def clsL (b : List Int) (i : Int) : Nat → Nat → Bool → List (Prt × Nat) → Cla
  | 0, _, _, _ => .err 33 i
  | n + 1, k, first, acc =>
    if first = false ∧ atB b (k : Int) = 93 then .ok acc (k + 1)
    else if b.length ≤ k then .err 33 i
    else match partS b k with
      | .err e a => .err e (a : Int)
      | .ok p to => clsL b i n to false (acc ++ [(p, to)])
def setsP (ps : List (Prt × Nat)) : List (Int × Int) := ps.flatMap fun p => partSet p.1
theorem partSet_len (p : Prt) : (partSet p).length ≤ 11 := by
  cases p with
  | rng lo hi => show 1 ≤ 11; omega
  | lett c =>
    show ((ofL c).getD []).length ≤ 11
    cases h : ofL c with
    | none => show 0 ≤ 11; omega
    | some l => have := (ofL_len h).1; show l.length ≤ 11; omega
  | nam s not =>
    have h1 : ((nset s).getD []).length ≤ 10 := by
      cases h : nset s with
      | none => show 0 ≤ 10; omega
      | some l => exact nset_len h
    show (if not = true then notR ((nset s).getD []) else (nset s).getD []).length ≤ 11
    split
    · have := notR_length ((nset s).getD []); omega
    · omega
theorem setsP_len : ∀ ps : List (Prt × Nat), (setsP ps).length ≤ 11 * ps.length
  | [] => Nat.le_refl _
  | p :: ps => by
    have h1 := partSet_len p.1
    have h2 := setsP_len ps
    unfold setsP at h2 ⊢
    rw [List.flatMap_cons, List.length_append, List.length_cons]
    omega
theorem setsP_snoc (ps : List (Prt × Nat)) (p : Prt × Nat) : setsP (ps ++ [p]) = setsP ps ++ partSet p.1 := by
  unfold setsP
  rw [List.flatMap_append, List.flatMap_cons, List.flatMap_nil, List.append_nil]
def foldR (folded : Bool) (l : List (Int × Int)) : List (Int × Int) := if folded = true then closeR l else l
def turnR (not : Bool) (l : List (Int × Int)) : List (Int × Int) := if not = true then notR l else l
def setOf (ps : List (Prt × Nat)) (folded not : Bool) : List (Int × Int) := turnR not (foldR folded (mk (setsP ps)))
def claP (folded not : Bool) : Cla → List Dat
  | .err e a => [.list [], .int 0, .int e, .int a]
  | .ok ps to => [.list (rs (setOf ps folded not)), .int (to : Int), .int 0, .int 0]
theorem both {Y a r : R} {Z : List Dat → R} {c : Bool} {v : Int} (ha : a = some [.int v]) (h : Y = r) (hc : ¬ (c = false ∧ v = 93)) : (bif c then Y else a.bind fun d => bif (rd d 0).I != 93 then Y else Z d) = r := by
  cases c with
  | true => exact h
  | false =>
    rw [cF rfl, ha]
    show (bif (v != 93) then Y else Z [.int v]) = r
    rw [neT (fun e => hc ⟨rfl, e⟩)]
    exact h
theorem class_end {ps : List (Prt × Nat)} (hps : ps.length ≤ 40000) (folded not : Bool) (k : Nat) (hk : k ≤ 100000) : ((E C 77 [.shr 82 (rs (setsP ps))]).bind fun d6 => (bif folded then ((E C 231 [.shr 82 ((rd d6 0).L)]).bind fun d7 => (bif not then ((E C 167 [.shr 82 ((rd d7 0).L)]).bind fun d8 => (some [.list ((rd d8 0).L), .int (IntKind.i64.wrap ((k : Int) + 1)), .int 0, .int 0])) else (some [.list ((rd d7 0).L), .int (IntKind.i64.wrap ((k : Int) + 1)), .int 0, .int 0]))) else (bif not then ((E C 167 [.shr 82 ((rd d6 0).L)]).bind fun d9 => (some [.list ((rd d9 0).L), .int (IntKind.i64.wrap ((k : Int) + 1)), .int 0, .int 0])) else (some [.list ((rd d6 0).L), .int (IntKind.i64.wrap ((k : Int) + 1)), .int 0, .int 0])))) = some (claP folded not (.ok ps (k + 1))) := by
  have h1 := setsP_len ps
  have h2 := mk_length (setsP ps)
  have h3 := closeR_length (mk (setsP ps))
  rw [bT (Make_E _ (by omega)), w64 (by omega) (by omega)]
  simp only [rd0, datL]
  cases folded with
  | true =>
    rw [cT rfl, bT (Close_E _ (by omega))]
    simp only [rd0, datL]
    cases not with
    | true => rw [cT rfl, bT (Not_E _ (by omega))]; rfl
    | false => rfl
  | false =>
    rw [cF rfl]
    cases not with
    | true => rw [cT rfl, bT (Not_E _ (by omega))]; rfl
    | false => rfl
theorem class_loop {b : List Int} (hb : isBytes b = true) (hbl : b.length ≤ 30000) (i : Int) (folded : Bool) (v6 : List Dat) (v7 v8 v9 : Int) (not : Bool) : ∀ (n k : Nat) (first : Bool) (acc : List (Prt × Nat)), b.length < k + n → k ≤ b.length → acc.length ≤ k →
    M207_1 (b.map .int) i folded v6 v7 v8 v9 (k : Int) not (rs (setsP acc)) first = some (claP folded not (clsL b i n k first acc)) := by
  intro n
  induction n with
  | zero => intro k first acc h1 h2; omega
  | succ n ih =>
    intro k first acc h1 h2 h3
    have hcap : capB 16 = 8796093022208 := by decide
    have hs := setsP_len acc
    apply M207_1_of
    unfold clsL
    by_cases hc : first = false ∧ atB b (k : Int) = 93
    · rw [if_pos hc, hc.1, cF rfl, bT (at_E b _)]
      simp only [rd0, datI]
      rw [neF hc.2]
      exact class_end (by omega) folded not k (by omega)
    · rw [if_neg hc]
      refine both (at_E b _) ?_ hc
      rw [List.length_map]
      by_cases hk : b.length ≤ k
      · rw [dT (by omega), if_pos hk]; rfl
      · rw [dF (by omega), if_neg hk, bT (part_E hb (by omega) (by omega))]
        have hp := part_ok hb (show k < b.length by omega)
        cases hq : partS b k with
        | err e a =>
          rw [hq] at hp
          simp only [partP, rd0, rd1, rd2, datI]
          rw [neT hp]
          rfl
        | ok p to =>
          rw [hq] at hp
          have hl := partSet_len p
          simp only [partP, rd0, rd1, rd2, datI, aggC1, aggC4, datL]
          rw [neF rfl, rs_len, rs_len, hcap, dT (by omega), ← rsA, ← setsP_snoc acc (p, to)]
          exact ih to false (acc ++ [(p, to)]) (by omega) hp.2.2 (by rw [List.length_append]; simp only [List.length_cons, List.length_nil]; omega)
end Go.Proofs.YtlofoifcdmeopaaGreatDoor.V
namespace Go.Proofs.YtlofoifcdmeopaaGreatDoor.V
open Go Go.Ev Go.RowKit
set_option linter.unusedVariables false
set_option linter.unusedSimpArgs false
/-- A class, whole. -/
def stS (b : List Int) (i : Int) : Nat := if atB b ((i.toNat + 1 : Nat) : Int) = 94 then i.toNat + 2 else i.toNat + 1
def notS (b : List Int) (i : Int) : Bool := atB b ((i.toNat + 1 : Nat) : Int) == 94
def classS (b : List Int) (i : Int) : Cla := if atB b i ≠ 91 then .err 10 0 else clsL b i (b.length + 1) (stS b i) true []
theorem st_le {b : List Int} {i : Int} (h : atB b i = 91) : stS b i ≤ b.length := by
  have h1 := atB_some (b := b) (i := i) (by rw [h]; decide)
  unfold stS
  split
  · rename_i h2
    have := atB_some (b := b) (i := ((i.toNat + 1 : Nat) : Int)) (by rw [h2]; decide)
    omega
  · omega
theorem Class_E {b : List Int} (hb : isBytes b = true) (hbl : b.length ≤ 30000) (i : Int) (folded : Bool) : E C 207 [.shr 5 (b.map .int), .int .i64 i, .bool folded] = some (claP folded (notS b i) (classS b i)) := by
  apply o207
  rw [bT (at_E b _)]
  simp only [rd0, datI]
  unfold classS
  by_cases h : atB b i = 91
  · have h1 := atB_some (b := b) (i := i) (by rw [h]; decide)
    have hst := st_le h
    have e1 : IntKind.i64.wrap (i + 1) = ((i.toNat + 1 : Nat) : Int) := by rw [w64 (by omega) (by omega)]; omega
    have e2 : IntKind.i64.wrap (((i.toNat + 1 : Nat) : Int) + 1) = ((i.toNat + 2 : Nat) : Int) := by rw [w64 (by omega) (by omega)]; omega
    rw [neF h, if_neg (by simpa using h), e1, e2, bT (at_E b _)]
    simp only [rd0, datI]
    unfold stS notS at *
    by_cases h2 : atB b ((i.toNat + 1 : Nat) : Int) = 94
    · rw [eT h2, if_pos h2]
      rw [if_pos h2] at hst
      exact class_loop hb hbl i folded [] 0 0 0 _ (b.length + 1) (i.toNat + 2) true [] (by omega) hst (by exact Nat.zero_le _)
    · rw [eF h2, if_neg h2]
      rw [if_neg h2] at hst
      exact class_loop hb hbl i folded [] 0 0 0 _ (b.length + 1) (i.toNat + 1) true [] (by omega) hst (by exact Nat.zero_le _)
  · rw [neT h, if_pos h]
    rfl
end Go.Proofs.YtlofoifcdmeopaaGreatDoor.V
namespace Go.Proofs.YtlofoifcdmeopaaGreatDoor.V
open Go Go.Ev Go.RowKit
set_option linter.unusedVariables false
set_option linter.unusedSimpArgs false
theorem part_place {b : List Int} {k : Nat} (hk : k < b.length) {e : Int} {a : Nat} (h : partS b k = .err e a) : a ≤ b.length := by
  unfold partS at h
  split at h
  · obtain ⟨-, rfl⟩ := Pa.err.inj h; omega
  · cases h
  · split at h
    · rename_i hd
      split at h
      · obtain ⟨-, rfl⟩ := Pa.err.inj h
        have := hd.2.1
        omega
      · obtain ⟨-, rfl⟩ := Pa.err.inj h; omega
      · split at h
        · obtain ⟨-, rfl⟩ := Pa.err.inj h; omega
        · cases h
    · cases h
theorem cls_okP {b : List Int} (hb : isBytes b = true) {i : Int} (hi : 0 ≤ i ∧ i ≤ (b.length : Int)) : ∀ (n k : Nat) (first : Bool) (acc : List (Prt × Nat)), k ≤ b.length → match clsL b i n k first acc with
    | .err e a => e ≠ 0 ∧ 0 ≤ a ∧ a ≤ (b.length : Int)
    | .ok ps to => k < to ∧ to ≤ b.length
  | 0, k, first, acc, hk => ⟨by decide, hi⟩
  | n + 1, k, first, acc, hk => by
    unfold clsL
    by_cases c1 : first = false ∧ atB b (k : Int) = 93
    · rw [if_pos c1]
      have := atB_some (b := b) (i := (k : Int)) (by rw [c1.2]; decide)
      exact ⟨by omega, by omega⟩
    rw [if_neg c1]
    by_cases c2 : b.length ≤ k
    · rw [if_pos c2]; exact ⟨by decide, hi⟩
    rw [if_neg c2]
    have hp := part_ok hb (k := k) (by omega)
    cases h : partS b k with
    | err e a =>
      have hpl := part_place (b := b) (k := k) (by omega) h
      rw [h] at hp
      exact ⟨hp, by show (0 : Int) ≤ (a : Int); omega, by show (a : Int) ≤ _; omega⟩
    | ok p to =>
      rw [h] at hp
      have := cls_okP hb hi n to false (acc ++ [(p, to)]) hp.2.2
      show match clsL b i n to false (acc ++ [(p, to)]) with
        | .err e a => e ≠ 0 ∧ 0 ≤ a ∧ a ≤ (b.length : Int)
        | .ok ps to => k < to ∧ to ≤ b.length
      cases h3 : clsL b i n to false (acc ++ [(p, to)]) with
      | err e a => rw [h3] at this; exact this
      | ok ps t2 => rw [h3] at this; exact ⟨Nat.lt_trans hp.2.1 this.1, this.2⟩
theorem class_ok {b : List Int} (hb : isBytes b = true) {i : Int} (h91 : atB b i = 91) : match classS b i with
    | .err e a => e ≠ 0 ∧ 0 ≤ a ∧ a ≤ (b.length : Int)
    | .ok ps to => i < (to : Int) ∧ to ≤ b.length := by
  have hin := atB_some (b := b) (i := i) (by rw [h91]; decide)
  unfold classS
  rw [if_neg (fun q => q h91)]
  have hc := cls_okP hb (i := i) ⟨by omega, by omega⟩ (b.length + 1) (stS b i) true [] (st_le h91)
  have hst : i < (stS b i : Int) := by
    unfold stS
    split <;> omega
  cases h : clsL b i (b.length + 1) (stS b i) true [] with
  | err e a => rw [h] at hc; exact hc
  | ok ps to => rw [h] at hc; exact ⟨by have := hc.1; omega, hc.2⟩
theorem setOf_least (ps : List (Prt × Nat)) (folded not : Bool) : leastB (setOf ps folded not) = true := by
  unfold setOf turnR foldR
  refine (leastB_iff _).2 ?_
  cases not with
  | true => exact notR_least _
  | false =>
    cases folded with
    | true => exact mk_least _
    | false => exact mk_least _
theorem Any_E (a : Bool) : E C 209 [.bool a] = some [.list (rs (notR (bif a then [] else mk [(10, 10)])))] := by
  apply o209
  cases a with
  | true =>
    rw [cond_true, show ([] : List Dat) = rs [] from rfl, bT (Not_E [] (by decide))]
    rfl
  | false =>
    rw [cond_false, bT (Of1_E 10)]
    simp only [rd0, datL]
    rw [bT (Not_E (mk [(10, 10)]) (by have := mk_length [((10 : Int), (10 : Int))]; show _ < 8796093022208; have h1 : [((10 : Int), (10 : Int))].length = 1 := rfl; omega))]
    rfl
end Go.Proofs.YtlofoifcdmeopaaGreatDoor.V
namespace Go.Proofs.YtlofoifcdmeopaaGreatDoor.V
open Go Go.Ev Go.RowKit
set_option linter.unusedVariables false
set_option linter.unusedSimpArgs false
/-- A leaf that was read: it is good, and the parser went on; or the parser has failed. -/
def LeafT (b : List Int) (s : PS) (n : Nd) (s' : PS) : Prop := SOk b s' ∧ s'.gr = s.gr ∧ s'.nm = s.nm ∧ (s'.e = 0 → AloneN n 0 ∧ (n.kind = 2 ∨ n.kind = 3 ∨ n.kind = 4) ∧ n.frm = s.k ∧ n.to = s'.k ∧ s.k < s'.k)
theorem leaf_fail {b : List Int} {s : PS} (hs : SOk b s) (e a : Int) (he : e ≠ 0) (ha : 0 ≤ a ∧ a ≤ (b.length : Int)) (n : Nd) : LeafT b s n (failS s e a) := by
  have hf := hs.fail e a he (fun _ => ha)
  refine ⟨hf.1, ?_, ?_, fun q => absurd q hf.2⟩ <;> (unfold failS; split <;> rfl)
theorem leaf_set {b : List Int} (hl : b.length ≤ 4096) {s : PS} (hs : SOk b s) {t : Int} {l : List (Int × Int)} (h1 : s.k < t) (h2 : t ≤ (b.length : Int)) (hll : leastB l = true) : LeafT b s ⟨2, s.k, t, 0, 0, 0, 0, ByteArray.empty, l, []⟩ { s with k := t } := by
  have := hs.k0
  exact ⟨hs.to (by omega) h2, rfl, rfl, fun _ => ⟨alone_set this (by omega) (by omega) hll, .inl rfl, rfl, rfl, h1⟩⟩
theorem leaf_hold {b : List Int} (hl : b.length ≤ 4096) {s : PS} (hs : SOk b s) {w : Int} (h2 : s.k < (b.length : Int)) (hw : 1 ≤ w ∧ w ≤ 7) : LeafT b s ⟨3, s.k, s.k + 1, w, 0, 0, 0, ByteArray.empty, [], []⟩ { s with k := s.k + 1 } := by
  have := hs.k0
  exact ⟨hs.to (by omega) (by omega), rfl, rfl, fun _ => ⟨alone_hold this (by omega) (by omega) hw, .inr (.inl rfl), rfl, rfl, by show s.k < s.k + 1; omega⟩⟩
theorem atom_T {b : List Int} (hb : isBytes b = true) (hl : b.length ≤ 4096) {s : PS} (hs : SOk b s) (he : s.e = 0) (hk : s.k < (b.length : Int)) (hc : atB b s.k ≠ 40) (d : Int) : ∃ n may s', E C 179 [pv b s, .int .i64 d] = some [ptD n [], .bool may, pd b s'] ∧ LeafT b s n s' := by
  have k0 := hs.k0
  have b0 := byteAt_E b s s.k k0
  by_cases c1 : atB b s.k = 91
  · have hC := Class_E hb (by omega) s.k s.fo
    have ok := class_ok hb c1
    cases h : classS b s.k with
    | err e a =>
      rw [h] at ok hC
      refine ⟨nd0P, false, failS s e a, ?_, leaf_fail hs e a ok.1 ok.2 _⟩
      apply o179
      rw [bT b0]
      simp only [stP, agA]
      rw [eF hc, eT c1]
      refine (bT hC).trans ?_
      simp only [claP, stP, agA]
      rw [neT ok.1, bT (fail_E b s e a)]
      rfl
    | ok ps to =>
      rw [h] at ok hC
      refine ⟨_, true, { s with k := (to : Int) }, ?_, leaf_set hl hs ok.1 (by have := ok.2; omega) (setOf_least ps s.fo (notS b s.k))⟩
      apply o179
      rw [bT b0]
      simp only [stP, agA]
      rw [eF hc, eT c1]
      refine (bT hC).trans ?_
      simp only [claP, stP, agA]
      rw [neF rfl, bT (set_E b s _ _ _)]
      rfl
  by_cases c2 : atB b s.k = 46
  · refine ⟨_, true, { s with k := s.k + 1 }, ?_, leaf_set hl hs (t := s.k + 1) (by omega) (by omega) ((leastB_iff _).2 (notR_least (bif s.al then [] else mk [(10, 10)])))⟩
    apply o179
    rw [bT b0]
    simp only [stP, agA]
    rw [eF hc, eF c1, eT c2, bT (Any_E s.al)]
    simp only [stP, agA]
    rw [w64 (by omega) (by omega), bT (set_E b s _ _ _)]
    rfl
  by_cases c3 : atB b s.k = 94
  · refine ⟨_, false, { s with k := s.k + 1 }, ?_, leaf_hold hl hs hk (w := bif s.li then 4 else 1) (by cases s.li <;> decide)⟩
    apply o179
    rw [bT b0]
    simp only [stP, agA]
    rw [eF hc, eF c1, eF c2, eT c3, bT (either_E _ _ _)]
    simp only [stP, agA]
    rw [w64 (by omega) (by omega), bT (hold_E b s _ _ _)]
    rfl
  by_cases c4 : atB b s.k = 36
  · refine ⟨_, false, { s with k := s.k + 1 }, ?_, leaf_hold hl hs hk (w := bif s.li then 5 else 2) (by cases s.li <;> decide)⟩
    apply o179
    rw [bT b0]
    simp only [stP, agA]
    rw [eF hc, eF c1, eF c2, eF c3, eT c4, bT (either_E _ _ _)]
    simp only [stP, agA]
    rw [w64 (by omega) (by omega), bT (hold_E b s _ _ _)]
    rfl
  by_cases c5 : atB b s.k = 92
  · obtain ⟨n, s', hE, hT⟩ := escape_T hb hl hs he hk
    refine ⟨n, n.kind != 3, s', ?_, hT⟩
    apply o179
    rw [bT b0]
    simp only [stP, agA]
    rw [eF hc, eF c1, eF c2, eF c3, eF c4, eT c5, bT hE]
    rfl
  · obtain ⟨k, hkk⟩ : ∃ k : Nat, s.k = (k : Int) := ⟨s.k.toNat, by omega⟩
    have hsm := symA_small hb k (by omega)
    have hsy : symR b s.k = symA b k := by unfold symR; rw [if_pos ⟨k0, hk⟩, hkk, Int.toNat_natCast]
    refine ⟨_, true, { s with k := s.k + (symR b s.k).2 }, atom_lit b hb (by omega) s d ⟨k0, by omega⟩ ⟨hc, c1, c2, c3, c4, c5⟩ (by rw [hsy]; omega), leaf_set hl hs (by rw [hsy]; omega) (by rw [hsy]; omega) (cloS_least s ((leastB_iff _).2 (mk_least _)))⟩
end Go.Proofs.YtlofoifcdmeopaaGreatDoor.V
namespace Go.Proofs.YtlofoifcdmeopaaGreatDoor.V
open Go Go.Ev Go.RowKit
set_option linter.unusedVariables false
set_option linter.unusedSimpArgs false
def opD (kind num : Int) (a : ByteArray) (f1 f2 f3 f4 no : Bool) : Dat := .agg [.int kind, .int num, .str a, .bool f1, .bool f2, .bool f3, .bool f4, .bool no]
/-- What is known of what was opened at a place. -/
def OpT (b : List Int) (s : PS) (f : Int) (kind num : Int) (a : ByteArray) (no : Bool) (s1 : PS) : Prop := SOk b s1 ∧ s1.gr = s.gr ∧ s1.nm = s.nm ∧ (s1.e = 0 → f < s1.k ∧ (no = false → (kind = 0 ∧ num = 0) ∨ (kind = 7 ∧ num = 0 ∧ (a.size : Int) ≤ 32) ∨ (kind = 9 ∧ num = 0 ∧ a = ByteArray.empty) ∨ (kind = 10 ∧ (1 ≤ num ∧ num ≤ 4) ∧ a = ByteArray.empty)))
theorem flag_E (f1 f2 f3 f4 : Bool) (c : Int) (on : Bool) : ∃ (ok g1 g2 g3 g4 : Bool), E C 266 [.pbox [.bool f1, .bool f2, .bool f3, .bool f4], .int .u8 c, .bool on] = some [.bool ok, .agg [.bool g1, .bool g2, .bool g3, .bool g4]] ∧ (ok = true → c ≠ 0) := by
  by_cases c1 : c = 105
  · exact ⟨_, _, _, _, _, o266 _ _ _ _ _ _ (by rw [eT c1]), fun _ => by omega⟩
  by_cases c2 : c = 109
  · exact ⟨_, _, _, _, _, o266 _ _ _ _ _ _ (by rw [eF c1, eT c2]), fun _ => by omega⟩
  by_cases c3 : c = 115
  · exact ⟨_, _, _, _, _, o266 _ _ _ _ _ _ (by rw [eF c1, eF c2, eT c3]), fun _ => by omega⟩
  by_cases c4 : c = 120
  · exact ⟨_, _, _, _, _, o266 _ _ _ _ _ _ (by rw [eF c1, eF c2, eF c3, eT c4]), fun _ => by omega⟩
  · exact ⟨false, _, _, _, _, o266 _ _ _ _ _ _ (by rw [eF c1, eF c2, eF c3, eF c4]), fun h => by cases h⟩
theorem toggles_loop {b : List Int} (hl : b.length ≤ 4096) : ∀ (m : Nat) (s : PS), SOk b s → s.e = 0 → (b.length : Int) - s.k < m → ∀ (g1 g2 g3 g4 on some_ : Bool),
    ∃ (h1 h2 h3 h4 no : Bool) (s1 : PS), M247_1 (b.map .int) s.k s.fo s.li s.al s.wi s.gr (s.nm.map .str) s.e s.wh 0 0 ByteArray.empty g1 g2 g3 g4 false on some_ = some [opD 0 0 ByteArray.empty h1 h2 h3 h4 no, pd b s1] ∧ SOk b s1 ∧ s1.gr = s.gr ∧ s1.nm = s.nm ∧ (s1.e = 0 → s.k < s1.k)
  | 0, s, hs, he, hm, g1, g2, g3, g4, on, some_ => by have := hs.kE he; omega
  | m + 1, s, hs, he, hm, g1, g2, g3, g4, on, some_ => by
    have k0 := hs.k0
    have kE := hs.kE he
    have b0 := byteAt_E b s s.k k0
    obtain ⟨ok, h1, h2, h3, h4, hL, hok⟩ := flag_E g1 g2 g3 g4 (atB b s.k) on
    have hw : IntKind.i64.wrap (s.k + 1) = s.k + 1 := w64 (by omega) (by omega)
    have step : atB b s.k ≠ 0 → ∀ on' some', ∃ (i1 i2 i3 i4 no : Bool) (s1 : PS), M247_1 (b.map .int) (s.k + 1) s.fo s.li s.al s.wi s.gr (s.nm.map .str) s.e s.wh 0 0 ByteArray.empty h1 h2 h3 h4 false on' some' = some [opD 0 0 ByteArray.empty i1 i2 i3 i4 no, pd b s1] ∧ SOk b s1 ∧ s1.gr = s.gr ∧ s1.nm = s.nm ∧ (s1.e = 0 → s.k < s1.k) := fun h0 on' some' => by
      have hin := atB_some h0
      obtain ⟨i1, i2, i3, i4, no, s1, r1, r2, r3, r4, r5⟩ := toggles_loop hl m { s with k := s.k + 1 } (hs.to (by omega) (by omega)) he (by show (b.length : Int) - (s.k + 1) < m; omega) h1 h2 h3 h4 on' some'
      exact ⟨i1, i2, i3, i4, no, s1, r1, r2, r3, r4, fun q => by have h := r5 q; change s.k + 1 < s1.k at h; omega⟩
    have bad : ∃ (i1 i2 i3 i4 no : Bool) (s1 : PS), ((E C 68 [pv b s, .int .i64 35, .int .i64 s.k]).bind fun d => (some [opD 0 0 ByteArray.empty h1 h2 h3 h4 false, .agg [.list (((rd d 0).C 0).L), .int (((rd d 0).C 1).I), .bool (((rd d 0).C 2).B), .bool (((rd d 0).C 3).B), .bool (((rd d 0).C 4).B), .bool (((rd d 0).C 5).B), .int (((rd d 0).C 6).I), .list (((rd d 0).C 7).L), .int (((rd d 0).C 8).I), .int (((rd d 0).C 9).I)]]) : R) = some [opD 0 0 ByteArray.empty i1 i2 i3 i4 no, pd b s1] ∧ SOk b s1 ∧ s1.gr = s.gr ∧ s1.nm = s.nm ∧ (s1.e = 0 → s.k < s1.k) := by
      have hf := hs.fail 35 s.k (by decide) (fun q => ⟨hs.k0, hs.kE q⟩)
      exact ⟨h1, h2, h3, h4, false, failS s 35 s.k, (bT (fail_E b s 35 s.k)).trans rfl, hf.1, by unfold failS; split <;> rfl, by unfold failS; split <;> rfl, fun q => absurd q hf.2⟩
    have good : ∀ no : Bool, atB b s.k ≠ 0 → ∃ (i1 i2 i3 i4 no' : Bool) (s1 : PS), (some [opD 0 0 ByteArray.empty h1 h2 h3 h4 no, pd b { s with k := s.k + 1 }] : R) = some [opD 0 0 ByteArray.empty i1 i2 i3 i4 no', pd b s1] ∧ SOk b s1 ∧ s1.gr = s.gr ∧ s1.nm = s.nm ∧ (s1.e = 0 → s.k < s1.k) := fun no h0 => by
      have hin := atB_some h0
      exact ⟨h1, h2, h3, h4, no, _, rfl, hs.to (by omega) (by omega), rfl, rfl, fun _ => by show s.k < s.k + 1; omega⟩
    cases ok with
    | true =>
      obtain ⟨i1, i2, i3, i4, no, s1, r1, r⟩ := step (hok rfl) on true
      refine ⟨i1, i2, i3, i4, no, s1, ?_, r⟩
      apply M247_1_of
      rw [bT b0]
      simp only [stP, agA]
      rw [bT hL]
      simp only [stP, agA]
      rw [cond_true, hw]
      exact r1
    | false =>
      by_cases c45 : atB b s.k = 45
      · cases on with
        | true =>
          obtain ⟨i1, i2, i3, i4, no, s1, r1, r⟩ := step (by omega) false false
          refine ⟨i1, i2, i3, i4, no, s1, ?_, r⟩
          apply M247_1_of
          rw [bT b0]
          simp only [stP, agA]
          rw [bT hL]
          simp only [stP, agA]
          rw [cond_false, eT c45, cond_true, hw]
          exact r1
        | false =>
          obtain ⟨i1, i2, i3, i4, no, s1, r1, r⟩ := bad
          refine ⟨i1, i2, i3, i4, no, s1, ?_, r⟩
          apply M247_1_of
          rw [bT b0]
          simp only [stP, agA]
          rw [bT hL]
          simp only [stP, agA]
          rw [cond_false, eT c45, cond_false]
          cases some_ with
          | true => rw [cond_true, eF (by omega), eF (by omega)]; exact r1
          | false => rw [cond_false]; exact r1
      · cases some_ with
        | false =>
          obtain ⟨i1, i2, i3, i4, no, s1, r1, r⟩ := bad
          refine ⟨i1, i2, i3, i4, no, s1, ?_, r⟩
          apply M247_1_of
          rw [bT b0]
          simp only [stP, agA]
          rw [bT hL]
          simp only [stP, agA]
          rw [cond_false, eF c45, cond_false]
          exact r1
        | true =>
          by_cases c58 : atB b s.k = 58
          · obtain ⟨i1, i2, i3, i4, no, s1, r1, r⟩ := good (atB b s.k == 41) (by omega)
            refine ⟨i1, i2, i3, i4, no, s1, ?_, r⟩
            apply M247_1_of
            rw [bT b0]
            simp only [stP, agA]
            rw [bT hL]
            simp only [stP, agA]
            rw [cond_false, eF c45, cond_true, eT c58, hw]
            exact r1
          by_cases c41 : atB b s.k = 41
          · obtain ⟨i1, i2, i3, i4, no, s1, r1, r⟩ := good (atB b s.k == 41) (by omega)
            refine ⟨i1, i2, i3, i4, no, s1, ?_, r⟩
            apply M247_1_of
            rw [bT b0]
            simp only [stP, agA]
            rw [bT hL]
            simp only [stP, agA]
            rw [cond_false, eF c45, cond_true, eF c58, eT c41, hw]
            exact r1
          · obtain ⟨i1, i2, i3, i4, no, s1, r1, r⟩ := bad
            refine ⟨i1, i2, i3, i4, no, s1, ?_, r⟩
            apply M247_1_of
            rw [bT b0]
            simp only [stP, agA]
            rw [bT hL]
            simp only [stP, agA]
            rw [cond_false, eF c45, cond_true, eF c58, eF c41]
            exact r1
end Go.Proofs.YtlofoifcdmeopaaGreatDoor.V
