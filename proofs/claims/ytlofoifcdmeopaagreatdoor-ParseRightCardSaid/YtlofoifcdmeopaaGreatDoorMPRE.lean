/- Told functions: what each answers, as plain trees; written by a program of this session (tell.py). Told functions: what each answers, as plain trees; written by a program of this session (tell.py). What stands at a place within a class: the program's and the document's. What an escape's answer may be. What stands at a place within a class: both readers say the same. One place within a class, the program's reader and the document's. A class: parts till the closing bracket, the program's sets and the document's parts. A class as the document reads it; which numbers its parts hold. Classes, and atoms without parentheses. Atoms without parentheses: what is known of their parts. What a parenthesis opens. Told functions: what each answers, as plain trees; written by a program of this session (tell.py). Told functions: what each answers, as plain trees; written by a program of this session (tell.py). What a parenthesis opens: names, remarks, all. What a parenthesis opens, in all. Where the parts of trees end. Parts as trees; how they are numbered; that what is numbered is laid as a tree is. Groups: what is known of their parts. Quantifiers: what is known of them. Blanks; any atom. A part with a quantifier. A piece. Rows of pieces, ways: what is known of their parts. Right trees, as the document has them. The tree of a part that was read may be. Where a node's part ends; what is within it. A right tree's kids stand behind their parents. How many symbols the nodes of right trees take: the program's widths and the document's. What a node takes at least is no more than what it takes at most. Rows, ways, Parse: what is known of the trees. Parse: a tree that may be, or an error at a place within the pattern. Told functions: what each answers, as plain trees; written by a program of this session (tell.py). What the document calls a right tree, the program does too. The law's own examples: the first pattern. -/
import Derived.Test.YtlofoifcdmeopaaGreatDoorMPRC
import Derived.KernelRfl
import Derived.Test.YtlofoifcdmeopaaGreatDoorMPRD
namespace Go.Proofs.YtlofoifcdmeopaaGreatDoor.V
open Go Go.Ev
set_option maxRecDepth 100000
set_option linter.unusedVariables false
/-- clew/scan.Class -/
noncomputable def f207 : Func := Tryz.f207
def kp207 : List Nat := [0, 1, 2, 6, 7, 8, 9, 10, 11, 12, 13, 14, 15, 16]
noncomputable def c207 (p : List Nat) : Code := pick f207 p
noncomputable def L207_1 (n : Nat) (m1 : Nat) (v0 : List Dat) (v1 : Int) (v2 : Bool) (v6 : List Dat) (v7 v8 v9 v10 : Int) (v11 : Bool) (v12 : List Dat) (v13 : Bool) : R := loopIter (fun E K => evCode C (ev C n) n kp207 (c207 [1, 1, 1, 1, 1, 1, 0, 1, 0, 0]) E K) [0, 1, 2, 6, 7, 8, 9, 10, 11, 12, 13] (Kblk 0 (Kseq C (ev C n) n kp207 (c207 [1, 1, 1, 1, 1, 1, 1]) (Ktop C 207 f207 [.und, .und, .und]))) m1 (cn [.shr 5 v0, .int .i64 v1, .bool v2, .und, .und, .und, .own 6 0 82 v6, .int .i64 v7, .int .i64 v8, .int .i64 v9, .int .i64 v10, .bool v11, .own 12 0 82 v12, .bool v13] (un 56 []))
noncomputable def M207_1 (v0 : List Dat) (v1 : Int) (v2 : Bool) (v6 : List Dat) (v7 v8 v9 v10 : Int) (v11 : Bool) (v12 : List Dat) (v13 : Bool) : R := lim fun φ => L207_1 (φ 0) (φ 1) v0 v1 v2 v6 v7 v8 v9 v10 v11 v12 v13
theorem M207_1_c (v0 : List Dat) (v1 : Int) (v2 : Bool) (v6 : List Dat) (v7 v8 v9 v10 : Int) (v11 : Bool) (v12 : List Dat) (v13 : Bool) : Cont (fun φ => L207_1 (φ 0) (φ 1) v0 v1 v2 v6 v7 v8 v9 v10 v11 v12 v13) (M207_1 v0 v1 v2 v6 v7 v8 v9 v10 v11 v12 v13) := Cont.re id _
theorem M207_1_e (v0 : List Dat) (v1 : Int) (v2 : Bool) (v6 : List Dat) (v7 v8 v9 v10 : Int) (v11 : Bool) (v12 : List Dat) (v13 : Bool) : Cont (fun φ => L207_1 (φ 0) (φ 0) v0 v1 v2 v6 v7 v8 v9 v10 v11 v12 v13) (M207_1 v0 v1 v2 v6 v7 v8 v9 v10 v11 v12 v13) := Cont.re (toZ 1) fun φ => L207_1 (φ 0) (φ 1) v0 v1 v2 v6 v7 v8 v9 v10 v11 v12 v13
theorem M207_1_of (v0 : List Dat) (v1 : Int) (v2 : Bool) (v6 : List Dat) (v7 v8 v9 v10 : Int) (v11 : Bool) (v12 : List Dat) (v13 : Bool) {r : List Dat} (h : (bif v13 then (bif decide (v10 ≥ (v0.length : Int)) then (some [.list ([] : List Dat), .int 0, .int 33, .int v1]) else ((E C 230 [.shr 5 v0, .int .i64 v10]).bind fun d3 => (bif ((rd d3 1).I) != 0 then (some [.list ([] : List Dat), .int 0, .int ((rd d3 1).I), .int ((rd d3 2).I)]) else (bif decide (v12.length + (((rd d3 0).C 4).L).length ≤ capB 16) then (M207_1 v0 v1 v2 v6 v7 v8 v9 (((rd d3 0).C 1).I) v11 (v12 ++ (((rd d3 0).C 4).L)) false) else none)))) else ((E C 217 [.shr 5 v0, .int .i64 v10]).bind fun d4 => (bif ((rd d4 0).I) != 93 then (bif decide (v10 ≥ (v0.length : Int)) then (some [.list ([] : List Dat), .int 0, .int 33, .int v1]) else ((E C 230 [.shr 5 v0, .int .i64 v10]).bind fun d5 => (bif ((rd d5 1).I) != 0 then (some [.list ([] : List Dat), .int 0, .int ((rd d5 1).I), .int ((rd d5 2).I)]) else (bif decide (v12.length + (((rd d5 0).C 4).L).length ≤ capB 16) then (M207_1 v0 v1 v2 v6 v7 v8 v9 (((rd d5 0).C 1).I) v11 (v12 ++ (((rd d5 0).C 4).L)) false) else none)))) else ((E C 77 [.shr 82 v12]).bind fun d6 => (bif v2 then ((E C 231 [.shr 82 ((rd d6 0).L)]).bind fun d7 => (bif v11 then ((E C 167 [.shr 82 ((rd d7 0).L)]).bind fun d8 => (some [.list ((rd d8 0).L), .int (IntKind.i64.wrap (v10 + 1)), .int 0, .int 0])) else (some [.list ((rd d7 0).L), .int (IntKind.i64.wrap (v10 + 1)), .int 0, .int 0]))) else (bif v11 then ((E C 167 [.shr 82 ((rd d6 0).L)]).bind fun d9 => (some [.list ((rd d9 0).L), .int (IntKind.i64.wrap (v10 + 1)), .int 0, .int 0])) else (some [.list ((rd d6 0).L), .int (IntKind.i64.wrap (v10 + 1)), .int 0, .int 0])))))) : R) = some r) : M207_1 v0 v1 v2 v6 v7 v8 v9 v10 v11 v12 v13 = some r := lim_st (g := fun φ => L207_1 (φ 0) (φ 1) v0 v1 v2 v6 v7 v8 v9 v10 v11 v12 v13) 1 h (Cont.bif (Cont.bif (Cont.const _) (Cont.bind (Cont.call C 230 _) fun _ => (Cont.bif (Cont.const _) (Cont.bif (M207_1_c _ _ _ _ _ _ _ _ _ _ _) Cont.nn)))) (Cont.bind (Cont.call C 217 _) fun _ => (Cont.bif (Cont.bif (Cont.const _) (Cont.bind (Cont.call C 230 _) fun _ => (Cont.bif (Cont.const _) (Cont.bif (M207_1_c _ _ _ _ _ _ _ _ _ _ _) Cont.nn)))) (Cont.bind (Cont.call C 77 _) fun _ => (Cont.bif (Cont.bind (Cont.call C 231 _) fun _ => (Cont.bif (Cont.bind (Cont.call C 167 _) fun _ => (Cont.const _)) (Cont.const _))) (Cont.bif (Cont.bind (Cont.call C 167 _) fun _ => (Cont.const _)) (Cont.const _))))))) fun φ m hm => (congrArg (fun q => L207_1 (φ 0) q v0 v1 v2 v6 v7 v8 v9 v10 v11 v12 v13) hm).trans (by kernel_rfl)
theorem o207 (a0 : List Dat) (a1 : Int) (a2 : Bool) {r : List Dat} (h : ((E C 217 [.shr 5 a0, .int .i64 a1]).bind fun d1 => (bif ((rd d1 0).I) != 91 then (some [.list ([] : List Dat), .int 0, .int 10, .int 0]) else ((E C 217 [.shr 5 a0, .int .i64 (IntKind.i64.wrap (a1 + 1))]).bind fun d2 => (bif ((rd d2 0).I) == 94 then (M207_1 a0 a1 a2 ([] : List Dat) 0 0 0 (IntKind.i64.wrap ((IntKind.i64.wrap (a1 + 1)) + 1)) (((rd d2 0).I) == 94) ([] : List Dat) true) else (M207_1 a0 a1 a2 ([] : List Dat) 0 0 0 (IntKind.i64.wrap (a1 + 1)) (((rd d2 0).I) == 94) ([] : List Dat) true)))) : R) = some r) : E C 207 [.shr 5 a0, .int .i64 a1, .bool a2] = some r := E_st h (Cont.bind (Cont.call C 217 _) fun _ => (Cont.bif (Cont.const _) (Cont.bind (Cont.call C 217 _) fun _ => (Cont.bif (M207_1_e _ _ _ _ _ _ _ _ _ _ _) (M207_1_e _ _ _ _ _ _ _ _ _ _ _))))) fun φ => by kernel_rfl
theorem o230 (a0 : List Dat) (a1 : Int) {r : List Dat} (h : ((E C 248 [.shr 5 a0, .int .i64 a1]).bind fun d1 => (bif ((rd d1 1).I) != 0 then (some [.agg [.int 0, .int 0, .int 0, .str ByteArray.empty, .list ([] : List Dat)], .int ((rd d1 1).I), .int a1]) else (bif (((rd d1 0).C 0).I) == 2 then (some [.agg [.int (((rd d1 0).C 0).I), .int (((rd d1 0).C 1).I), .int (((rd d1 0).C 2).I), .str (((rd d1 0).C 3).S), .list (((rd d1 0).C 4).L)], .int 0, .int 0]) else ((E C 249 [.shr 5 a0, .int .i64 (((rd d1 0).C 1).I)]).bind fun d2 => (bif (rd d2 0).B then ((E C 248 [.shr 5 a0, .int .i64 (IntKind.i64.wrap ((((rd d1 0).C 1).I) + 1))]).bind fun d3 => (bif ((rd d3 1).I) != 0 then (some [.agg [.int 0, .int 0, .int 0, .str ByteArray.empty, .list ([] : List Dat)], .int ((rd d3 1).I), .int (IntKind.i64.wrap ((((rd d1 0).C 1).I) + 1))]) else (bif (((rd d3 0).C 0).I) != 1 then (some [.agg [.int 0, .int 0, .int 0, .str ByteArray.empty, .list ([] : List Dat)], .int 33, .int a1]) else (bif decide ((((rd d3 0).C 2).I) < (((rd d1 0).C 2).I)) then (some [.agg [.int 0, .int 0, .int 0, .str ByteArray.empty, .list ([] : List Dat)], .int 33, .int a1]) else (some [.agg [.int 2, .int (((rd d3 0).C 1).I), .int 0, .str ByteArray.empty, .list ([.agg [.int (((rd d1 0).C 2).I), .int (((rd d3 0).C 2).I)]] : List Dat)], .int 0, .int 0]))))) else (some [.agg [.int 2, .int (((rd d1 0).C 1).I), .int 0, .str ByteArray.empty, .list ([.agg [.int (((rd d1 0).C 2).I), .int (((rd d1 0).C 2).I)]] : List Dat)], .int 0, .int 0]))))) : R) = some r) : E C 230 [.shr 5 a0, .int .i64 a1] = some r := E_st h (Cont.bind (Cont.call C 248 _) fun _ => (Cont.bif (Cont.const _) (Cont.bif (Cont.const _) (Cont.bind (Cont.call C 249 _) fun _ => (Cont.bif (Cont.bind (Cont.call C 248 _) fun _ => (Cont.bif (Cont.const _) (Cont.bif (Cont.const _) (Cont.bif (Cont.const _) (Cont.const _))))) (Cont.const _)))))) fun φ => by kernel_rfl
theorem o248 (a0 : List Dat) (a1 : Int) {r : List Dat} (h : (bif decide (0 ≤ a1) then (bif decide (a1 ≤ (if (a0.length : Int) < (IntKind.i64.wrap (a1 + 2)) then (a0.length : Int) else (IntKind.i64.wrap (a1 + 2)))) then (bif decide ((if (a0.length : Int) < (IntKind.i64.wrap (a1 + 2)) then (a0.length : Int) else (IntKind.i64.wrap (a1 + 2))) ≤ (a0.length : Int)) then ((E C 141 [.str (strOf ((a0.take ((if (a0.length : Int) < (IntKind.i64.wrap (a1 + 2)) then (a0.length : Int) else (IntKind.i64.wrap (a1 + 2))).toNat)).drop a1.toNat)), .str (bs [91, 58])]).bind fun d1 => (bif (rd d1 0).B then ((E C 267 [.shr 5 a0, .int .i64 a1]).bind fun d2 => (some [.agg [.int (((rd d2 0).C 0).I), .int (((rd d2 0).C 1).I), .int (((rd d2 0).C 2).I), .str (((rd d2 0).C 3).S), .list (((rd d2 0).C 4).L)], .int ((rd d2 1).I)])) else (bif decide (0 ≤ a1) then (bif decide (a1 < (a0.length : Int)) then (bif decide (a1.toNat < a0.length) then (bif ((rd a0 a1.toNat).I) == 92 then ((E C 268 [.shr 5 a0, .int .i64 a1]).bind fun d3 => (some [.agg [.int (((rd d3 0).C 0).I), .int (((rd d3 0).C 1).I), .int (((rd d3 0).C 2).I), .str (((rd d3 0).C 3).S), .list (((rd d3 0).C 4).L)], .int ((rd d3 1).I)])) else ((E C 213 [.shr 5 a0, .int .i64 a1]).bind fun d4 => (some [.agg [.int 1, .int (IntKind.i64.wrap (a1 + ((rd d4 1).I))), .int ((rd d4 0).I), .str ByteArray.empty, .list ([] : List Dat)], .int 0]))) else none) else none) else none))) else none) else none) else none : R) = some r) : E C 248 [.shr 5 a0, .int .i64 a1] = some r := E_st h (Cont.bif (Cont.bif (Cont.bif (Cont.bind (Cont.call C 141 _) fun _ => (Cont.bif (Cont.bind (Cont.call C 267 _) fun _ => (Cont.const _)) (Cont.bif (Cont.bif (Cont.bif (Cont.bif (Cont.bind (Cont.call C 268 _) fun _ => (Cont.const _)) (Cont.bind (Cont.call C 213 _) fun _ => (Cont.const _))) Cont.nn) Cont.nn) Cont.nn))) Cont.nn) Cont.nn) Cont.nn) fun φ => by kernel_rfl
theorem o249 (a0 : List Dat) (a1 : Int) {r : List Dat} (h : ((E C 217 [.shr 5 a0, .int .i64 a1]).bind fun d1 => (bif ((rd d1 0).I) == 45 then (bif decide ((IntKind.i64.wrap (a1 + 1)) < (a0.length : Int)) then (bif decide (0 ≤ (IntKind.i64.wrap (a1 + 1))) then (bif decide ((IntKind.i64.wrap (a1 + 1)) < (a0.length : Int)) then (bif decide ((IntKind.i64.wrap (a1 + 1)).toNat < a0.length) then (some [.bool (((rd a0 ((IntKind.i64.wrap (a1 + 1)).toNat)).I) != 93)]) else none) else none) else none) else (some [.bool false])) else (some [.bool false])) : R) = some r) : E C 249 [.shr 5 a0, .int .i64 a1] = some r := E_st h (Cont.bind (Cont.call C 217 _) fun _ => (Cont.bif (Cont.bif (Cont.bif (Cont.bif (Cont.bif (Cont.const _) Cont.nn) Cont.nn) Cont.nn) (Cont.const _)) (Cont.const _))) fun φ => by kernel_rfl
/-- clew/scan.named -/
noncomputable def f267 : Func := Tryz.f267
theorem o267 (a0 : List Dat) (a1 : Int) {r : List Dat} (h : (bif decide (0 ≤ (IntKind.i64.wrap (a1 + 2))) then (bif decide ((IntKind.i64.wrap (a1 + 2)) ≤ (a0.length : Int)) then (bif decide ((a0.length : Int) ≤ (a0.length : Int)) then ((E C 280 [.str (strOf ((a0.take ((a0.length : Int).toNat)).drop ((IntKind.i64.wrap (a1 + 2)).toNat))), .str (bs [58, 93])]).bind fun d1 => ((E C 281 [.str ((rd d1 0).S), .str (bs [94])]).bind fun d2 => ((E C 282 [.str ((rd d2 0).S)]).bind fun d3 => (bif !((rd d1 2).B) then (some [.agg [.int 0, .int 0, .int 0, .str ByteArray.empty, .list ([] : List Dat)], .int 33]) else (bif !((rd d3 1).B) then (some [.agg [.int 0, .int 0, .int 0, .str ByteArray.empty, .list ([] : List Dat)], .int 33]) else (bif (rd d2 1).B then ((E C 167 [.shr 82 ((rd d3 0).L)]).bind fun d4 => (some [.agg [.int 2, .int (IntKind.i64.wrap ((IntKind.i64.wrap ((IntKind.i64.wrap (a1 + 2)) + (((rd d1 0).S).size : Int))) + 2)), .int 0, .str ByteArray.empty, .list ((rd d4 0).L)], .int 0])) else (some [.agg [.int 2, .int (IntKind.i64.wrap ((IntKind.i64.wrap ((IntKind.i64.wrap (a1 + 2)) + (((rd d1 0).S).size : Int))) + 2)), .int 0, .str ByteArray.empty, .list ((rd d3 0).L)], .int 0]))))))) else none) else none) else none : R) = some r) : E C 267 [.shr 5 a0, .int .i64 a1] = some r := E_st h (Cont.bif (Cont.bif (Cont.bif (Cont.bind (Cont.call C 280 _) fun _ => (Cont.bind (Cont.call C 281 _) fun _ => (Cont.bind (Cont.call C 282 _) fun _ => (Cont.bif (Cont.const _) (Cont.bif (Cont.const _) (Cont.bif (Cont.bind (Cont.call C 167 _) fun _ => (Cont.const _)) (Cont.const _))))))) Cont.nn) Cont.nn) Cont.nn) fun φ => by kernel_rfl
end Go.Proofs.YtlofoifcdmeopaaGreatDoor.V
namespace Go.Proofs.YtlofoifcdmeopaaGreatDoor.V
open Go Go.Ev
set_option maxRecDepth 100000
set_option linter.unusedVariables false
theorem o141 (a0 a1 : ByteArray) {r : List Dat} (h : ((E C 170 [.str a0, .str a1]).bind fun d1 => (some [.bool ((rd d1 0).B)]) : R) = some r) : E C 141 [.str a0, .str a1] = some r := E_st h (Cont.bind (Cont.call C 170 _) fun _ => (Cont.const _)) fun φ => by kernel_rfl
theorem o170 (a0 a1 : ByteArray) {r : List Dat} (h : (bif decide ((a0.size : Int) ≥ (a1.size : Int)) then (bif decide (0 ≤ (a1.size : Int)) then (bif decide ((a1.size : Int) ≤ (a0.size : Int)) then (some [.bool ((subS a0 0 ((a1.size : Int).toNat)).toList == a1.toList)]) else none) else none) else (some [.bool false]) : R) = some r) : E C 170 [.str a0, .str a1] = some r := E_st h (Cont.bif (Cont.bif (Cont.bif (Cont.const _) Cont.nn) Cont.nn) (Cont.const _)) fun φ => by kernel_rfl
theorem o281 (a0 a1 : ByteArray) {r : List Dat} (h : ((E C 289 [.str a0, .str a1]).bind fun d1 => (some [.str ((rd d1 0).S), .bool ((rd d1 1).B)]) : R) = some r) : E C 281 [.str a0, .str a1] = some r := E_st h (Cont.bind (Cont.call C 289 _) fun _ => (Cont.const _)) fun φ => by kernel_rfl
theorem o289 (a0 a1 : ByteArray) {r : List Dat} (h : ((E C 170 [.str a0, .str a1]).bind fun d1 => (bif !((rd d1 0).B) then (some [.str a0, .bool false]) else (bif decide (0 ≤ (a1.size : Int)) then (bif decide ((a1.size : Int) ≤ (a0.size : Int)) then (bif decide ((a0.size : Int) ≤ (a0.size : Int)) then (some [.str (subS a0 ((a1.size : Int).toNat) ((a0.size : Int).toNat)), .bool true]) else none) else none) else none)) : R) = some r) : E C 289 [.str a0, .str a1] = some r := E_st h (Cont.bind (Cont.call C 170 _) fun _ => (Cont.bif (Cont.const _) (Cont.bif (Cont.bif (Cont.bif (Cont.const _) Cont.nn) Cont.nn) Cont.nn))) fun φ => by kernel_rfl
end Go.Proofs.YtlofoifcdmeopaaGreatDoor.V
namespace Go.Proofs.YtlofoifcdmeopaaGreatDoor.V
open Go Go.Ev Go.RowKit
set_option linter.unusedVariables false
set_option linter.unusedSimpArgs false
def u8 (b : List Int) : List UInt8 := b.map fun x => UInt8.ofNat x.toNat
theorem u8_len (b : List Int) : (u8 b).length = b.length := by simp [u8]
theorem u8_take (b : List Int) (n : Nat) : (u8 b).take n = u8 (b.take n) := by simp [u8, List.map_take]
theorem u8_drop (b : List Int) (n : Nat) : (u8 b).drop n = u8 (b.drop n) := by simp [u8, List.map_drop]
theorem strOf_ints (l : List Int) : strOf (l.map .int) = bs (u8 l) := by
  unfold strOf bs u8
  rw [List.map_map]
  rfl
theorem slice_ints (b : List Int) (i j : Nat) : ((b.map Dat.int).take j).drop i = ((b.take j).drop i).map .int := by rw [← List.map_take, ← List.map_drop]
theorem bs_toList (s : List UInt8) : (bs s).toList = s := by
  rw [ByteArray.toList_eq]
  simp [bs]
theorem subS_bs (s : List UInt8) (a b : Nat) : subS (bs s) a b = bs ((s.take b).drop a) := by
  unfold subS
  apply ByteArray.ext
  rw [ByteArray.data_extract]
  unfold bs
  show s.toArray.extract a b = ((s.take b).drop a).toArray
  rw [List.extract_toArray, List.extract_eq_take_drop, List.drop_take]
theorem u8_eq {x : Int} (h : 0 ≤ x ∧ x < 256) (n : Nat) (hn : n < 256) : UInt8.ofNat x.toNat = UInt8.ofNat n ↔ x = (n : Int) := by
  constructor
  · intro e
    have := congrArg UInt8.toNat e
    rw [UInt8.toNat_ofNat', UInt8.toNat_ofNat'] at this
    omega
  · intro e
    rw [e, Int.toNat_natCast]
theorem pre_take (p s : List UInt8) : p.isPrefixOf s = (decide (p.length ≤ s.length) && (s.take p.length == p)) := by
  rw [Bool.eq_iff_iff, List.isPrefixOf_iff_prefix, List.prefix_iff_eq_take, Bool.and_eq_true, decide_eq_true_eq, beq_iff_eq]
  constructor
  · intro h
    refine ⟨?_, h.symm⟩
    have := congrArg List.length h
    rw [List.length_take] at this
    omega
  · exact fun h => h.2.symm
theorem HasPre0_E (s p : List UInt8) : E C 170 [.str (bs s), .str (bs p)] = some [.bool (p.isPrefixOf s)] := by
  apply o170
  rw [bs_size, bs_size, pre_take]
  by_cases h : p.length ≤ s.length
  · rw [dT (by omega), dT (by omega), dT (by omega), Int.toNat_natCast, subS_bs, bs_toList, bs_toList, decide_eq_true h, List.drop_zero]
    rfl
  · rw [dF (by omega), decide_eq_false h]
    rfl
theorem HasPre_E (s p : List UInt8) : E C 141 [.str (bs s), .str (bs p)] = some [.bool (p.isPrefixOf s)] := by
  apply o141
  rw [bT (HasPre0_E s p)]
  rfl
theorem CutPre_E (s p : List UInt8) : E C 281 [.str (bs s), .str (bs p)] = some [.str (if p.isPrefixOf s = true then bs (s.drop p.length) else bs s), .bool (p.isPrefixOf s)] := by
  have h0 : E C 289 [.str (bs s), .str (bs p)] = some [.str (if p.isPrefixOf s = true then bs (s.drop p.length) else bs s), .bool (p.isPrefixOf s)] := by
    apply o289
    rw [bT (HasPre0_E s p), bs_size, bs_size]
    simp only [rd0, datB]
    cases h : p.isPrefixOf s with
    | true =>
      have hl : p.length ≤ s.length := by
        rw [pre_take, Bool.and_eq_true, decide_eq_true_eq] at h
        exact h.1
      rw [nF rfl, dT (by omega), dT (by omega), dT (by omega), Int.toNat_natCast, Int.toNat_natCast, subS_bs, List.take_length, if_pos rfl]
    | false => rw [nT rfl, if_neg (by simp)]
  apply o281
  rw [bT h0]
  rfl
/-- The first place of a colon and a closing bracket. -/
def fi : List Int → Option Nat
  | [] => none
  | c :: l => if c = 58 ∧ l.head? = some 93 then some 0 else (fi l).map (· + 1)
theorem fi_len : ∀ {l : List Int} {n : Nat}, fi l = some n → n + 2 ≤ l.length
  | [], n, h => by cases h
  | c :: l, n, h => by
    unfold fi at h
    split at h
    · rename_i hc
      obtain rfl := Option.some.inj h
      cases l with
      | nil => cases hc.2
      | cons d l => simp
    · cases hf : fi l with
      | none => rw [hf] at h; cases h
      | some m =>
        rw [hf] at h
        obtain rfl := Option.some.inj h
        have := fi_len hf
        simp only [List.length_cons]
        omega
theorem index_fi : ∀ {l : List Int}, isBytes l = true → Lib.index (u8 l) [58, 93] = match fi l with | none => -1 | some n => (n : Int)
  | [], _ => rfl
  | c :: l, h => by
    have hb : isBytes l = true := by
      unfold isBytes at h ⊢
      rw [List.all_cons, Bool.and_eq_true] at h
      exact h.2
    have hc : 0 ≤ c ∧ c < 256 := by
      unfold isBytes at h
      rw [List.all_cons, Bool.and_eq_true] at h
      simpa using h.1
    have ih := index_fi hb
    show Lib.index (UInt8.ofNat c.toNat :: u8 l) [58, 93] = _
    unfold Lib.index fi
    have hp : ([58, 93] : List UInt8).isPrefixOf (UInt8.ofNat c.toNat :: u8 l) = true ↔ c = 58 ∧ l.head? = some 93 := by
      cases l with
      | nil => simp [u8, List.isPrefixOf]
      | cons d l =>
        have hd : 0 ≤ d ∧ d < 256 := by
          unfold isBytes at hb
          rw [List.all_cons, Bool.and_eq_true] at hb
          simpa using hb.1
        have e1 := u8_eq hc 58 (by decide)
        have e2 := u8_eq hd 93 (by decide)
        simp only [u8, List.map_cons, List.isPrefixOf, List.head?_cons, Option.some.injEq, Bool.and_eq_true, beq_iff_eq, Bool.and_true]
        constructor
        · rintro ⟨h1, h2⟩
          exact ⟨e1.1 h1.symm, e2.1 h2.symm⟩
        · rintro ⟨h1, h2⟩
          exact ⟨(e1.2 h1).symm, (e2.2 h2).symm⟩
    by_cases g : c = 58 ∧ l.head? = some 93
    · rw [if_pos (hp.2 g), if_pos g]
      rfl
    · rw [if_neg (fun e => g (hp.1 e)), if_neg g, ih]
      cases fi l with
      | none => rfl
      | some n =>
        rw [if_neg]
        · rfl
        · simp only [beq_iff_eq]
          omega
theorem Cut_E {l : List Int} (hb : isBytes l = true) (hl : l.length < 4294967281) : E C 280 [.str (bs (u8 l)), .str (bs [58, 93])] = some [.str (bs (u8 (match fi l with | none => l | some n => l.take n))), .str (bs (match fi l with | none => [] | some n => (u8 l).drop (n + 2))), .bool (fi l).isSome] := by
  refine E_given (h := gCut) (by kernel_rfl) ?_
  have e1 : (bs (u8 l)).data.toList = u8 l := by simp [bs]
  have e2 : (bs [58, 93]).data.toList = [58, 93] := rfl
  simp only [gCut]
  rw [bs_size, u8_len, decide_eq_true hl, cond_true, e1, e2]
  unfold Lib.cut
  rw [index_fi hb]
  cases fi l with
  | none => rfl
  | some n =>
    rw [if_pos (by show (0 : Int) ≤ (n : Int); omega)]
    simp only [Int.toNat_natCast, List.length_cons, List.length_nil, u8_take]
    rfl
inductive Prt where
  | rng (lo hi : Int)
  | lett (c : Int)
  | nam (s : List UInt8) (not : Bool)
def nset (s : List UInt8) : Option (List (Int × Int)) := findN (bs s) allN
def partSet : Prt → List (Int × Int)
  | .rng lo hi => [(lo, hi)]
  | .lett c => (ofL c).getD []
  | .nam s not => if not = true then notR ((nset s).getD []) else (nset s).getD []
inductive Pc where
  | sym (n : Int) (to : Nat)
  | set (p : Prt) (to : Nat)
  | err (e : Int)
def nmS (b : List Int) (k : Nat) : Pc :=
  match fi (b.drop (k + 2)) with
  | none => .err 33
  | some n =>
    if atB b ((k + 2 : Nat) : Int) = 94 then (match nset (u8 (((b.drop (k + 2)).take n).drop 1)) with | none => .err 33 | some _ => .set (.nam (u8 (((b.drop (k + 2)).take n).drop 1)) true) (k + 2 + n + 2))
    else (match nset (u8 ((b.drop (k + 2)).take n)) with | none => .err 33 | some _ => .set (.nam (u8 ((b.drop (k + 2)).take n)) false) (k + 2 + n + 2))
def pcE : Esc → Pc
  | .lit n to => .sym n to.toNat
  | .cls c to => .set (.lett c) to.toNat
  | .err e => .err e
  | _ => .err 0
def opensB (b : List Int) (k : Nat) : Prop := atB b (k : Int) = 91 ∧ atB b ((k + 1 : Nat) : Int) = 58
instance (b : List Int) (k : Nat) : Decidable (opensB b k) := inferInstanceAs (Decidable (_ ∧ _))
def pieceS (b : List Int) (k : Nat) : Pc :=
  if opensB b k then nmS b k
  else if atB b (k : Int) = 92 then pcE (escS b (k : Int) true)
  else .sym (symA b k).1 (k + (symA b k).2.toNat)
def pcP : Pc → List Dat
  | .sym n to => itemP 1 (to : Int) n ByteArray.empty [] 0
  | .set p to => itemP 2 (to : Int) 0 ByteArray.empty (rs (partSet p)) 0
  | .err e => itemP 0 0 0 ByteArray.empty [] e
/-- What a backslash makes within a class, and how far it goes. -/
theorem codeS_to {b : List Int} {j : Nat} {n : Int} {to : Nat} (h : codeS b j = some (n, to)) : j < to ∧ to ≤ b.length := by
  unfold codeS at h
  split at h
  · split at h
    · cases h
    · rename_i h1 h2
      simp only [Option.some.injEq, Prod.mk.injEq] at h
      obtain ⟨_, rfl⟩ := h
      have h3 : atB b ((j + 1 + (hexG 6 (b.drop (j + 1)) 0).2 : Nat) : Int) = 125 := Classical.byContradiction fun hn => h2 (.inr (.inl hn))
      have := atB_some (b := b) (i := ((j + 1 + (hexG 6 (b.drop (j + 1)) 0).2 : Nat) : Int)) (by rw [h3]; decide)
      omega
  · split at h
    · cases h
    · simp only [Option.some.injEq, Prod.mk.injEq] at h
      obtain ⟨_, rfl⟩ := h
      have g := hexG_le 2 (b.drop j) 0
      rw [List.length_drop] at g
      omega
theorem simple_to {b : List Int} (hb : isBytes b = true) {k : Nat} {x : Esc} (h : simpleS b k = some x) : (∃ n to, x = .lit n to ∧ (k : Int) < to ∧ to ≤ (b.length : Int)) ∨ (∃ c to, x = .cls c to ∧ (k : Int) < to ∧ to ≤ (b.length : Int)) ∨ x = .err 32 := by
  have hin : atB b ((k + 1 : Nat) : Int) ≠ 0 → k + 2 ≤ b.length := fun h => by have := atB_some h; omega
  unfold simpleS at h
  split at h
  · cases hc : codeS b (k + 2) with
    | none => rw [hc] at h; exact .inr (.inr (Option.some.inj h).symm)
    | some p =>
      rw [hc] at h
      have := codeS_to hc
      exact .inl ⟨p.1, (p.2 : Int), (Option.some.inj h).symm, by omega, by omega⟩
  split at h
  · rename_i h2
    have h3 : atB b ((k + 1 : Nat) : Int) ≠ 0 := fun e => by rw [e] at h2; exact absurd h2 (by decide)
    have := hin h3
    exact .inl ⟨_, _, (Option.some.inj h).symm, by omega, by omega⟩
  split at h
  · rename_i h2
    have h3 : atB b ((k + 1 : Nat) : Int) ≠ 0 := fun e => by rw [e] at h2; exact absurd h2 (by decide)
    have := hin h3
    exact .inr (.inl ⟨_, _, (Option.some.inj h).symm, by omega, by omega⟩)
  split at h
  · cases h
  split at h
  · exact .inr (.inr (Option.some.inj h).symm)
  · have hs := symA_small hb (k + 1) (by omega)
    exact .inl ⟨_, _, (Option.some.inj h).symm, by omega, by omega⟩
theorem esc_inner {b : List Int} (hb : isBytes b = true) {k : Nat} (hk : atB b (k : Int) = 92) : (∃ n to, escS b (k : Int) true = .lit n to ∧ (k : Int) < to ∧ to ≤ (b.length : Int)) ∨ (∃ c to, escS b (k : Int) true = .cls c to ∧ (k : Int) < to ∧ to ≤ (b.length : Int)) ∨ escS b (k : Int) true = .err 32 := by
  unfold escS
  rw [if_neg (by simpa using hk), Int.toNat_natCast]
  cases hs : simpleS b k with
  | some x => exact simple_to hb hs
  | none =>
    simp only [if_true]
    by_cases h : atB b ((k + 1 : Nat) : Int) = 98
    · have := atB_some (b := b) (i := ((k + 1 : Nat) : Int)) (by rw [h]; decide)
      rw [if_pos h]
      exact .inl ⟨_, _, rfl, by omega, by omega⟩
    · rw [if_neg h]
      exact .inr (.inr rfl)
end Go.Proofs.YtlofoifcdmeopaaGreatDoor.V
namespace Go.Proofs.YtlofoifcdmeopaaGreatDoor.V
open Go Go.Ev Go.RowKit
set_option linter.unusedVariables false
set_option linter.unusedSimpArgs false
def EscOk (b : List Int) (k : Int) : Esc → Prop
  | .lit n to => k < to ∧ to ≤ (b.length : Int)
  | .cls c to => k < to ∧ to ≤ (b.length : Int) ∧ leastB ((ofL c).getD []) = true
  | .hld n to => k < to ∧ to ≤ (b.length : Int) ∧ 1 ≤ n ∧ n ≤ 7
  | .ref n to => k < to ∧ to ≤ (b.length : Int) ∧ 1 ≤ n ∧ n ≤ 99
  | .key a to => k < to ∧ to ≤ (b.length : Int) ∧ (a.size : Int) ≤ 32 ∧ emptyS a = false
  | .err e => e ≠ 0
theorem ofL_least (c : Int) : leastB ((ofL c).getD []) = true := by
  cases h : ofL c with
  | none => exact least_nil
  | some l => exact (leastB_iff _).2 (ofL_len h).2
theorem heldV_in {c : Int} (h : heldV c > 0) : 1 ≤ heldV c ∧ heldV c ≤ 7 ∧ c ≠ 0 := by
  unfold heldV at *
  (repeat' split at h) <;> (repeat' split) <;> omega
theorem subB_size {b : List Int} {i k : Int} (h0 : 0 ≤ i) (h1 : i ≤ k) (h2 : k ≤ (b.length : Int)) : ((subB b i k).size : Int) = k - i := by
  unfold subB
  rw [← List.map_take, ← List.map_drop, strOf_ints]
  show ((u8 _).toArray.size : Int) = _
  simp [u8]
  omega
theorem nonempty_of_size {a : ByteArray} {l : List UInt8} (h : a = bs l) (hl : l ≠ []) : emptyS a = false := by
  unfold emptyS
  rw [h, bs_toList, show ByteArray.empty.toList = [] from bs_toList []]
  cases l with
  | nil => exact absurd rfl hl
  | cons x l => rfl
theorem name_ok (b : List Int) (i : Int) (h0 : 0 ≤ i) : (nameR b i = errN) ∨ ∃ (a : ByteArray) (to : Int), nameR b i = [.str a, .int to, .int 0] ∧ i < to ∧ to ≤ (b.length : Int) ∧ (a.size : Int) ≤ 32 ∧ emptyS a = false := by
  unfold nameR
  by_cases c1 : i < 0 ∨ i ≥ (b.length : Int) ∨ digB (atB b i) = true
  · rw [if_pos c1]; exact .inl rfl
  rw [if_neg c1]
  unfold finN
  by_cases c2 : i < 0 ∨ i + (wlen (b.drop i.toNat) : Int) = i ∨ i + (wlen (b.drop i.toNat) : Int) - i > 32 ∨ atB b (i + (wlen (b.drop i.toNat) : Int)) ≠ 62
  · rw [if_pos c2]; exact .inl rfl
  rw [if_neg c2]
  have h62 : atB b (i + (wlen (b.drop i.toNat) : Int)) = 62 := by
    by_cases h : atB b (i + (wlen (b.drop i.toNat) : Int)) = 62
    · exact h
    · exact absurd (.inr (.inr (.inr h))) c2
  have hin := atB_some (b := b) (i := i + (wlen (b.drop i.toNat) : Int)) (by rw [h62]; decide)
  have hsz := subB_size (b := b) h0 (k := i + (wlen (b.drop i.toNat) : Int)) (by omega) (by omega)
  refine .inr ⟨_, _, rfl, by omega, by omega, by omega, ?_⟩
  refine nonempty_of_size (l := u8 ((b.take (i + (wlen (b.drop i.toNat) : Int)).toNat).drop i.toNat)) ?_ ?_
  · unfold subB
    rw [← List.map_take, ← List.map_drop, strOf_ints]
  · intro h
    have : (u8 ((b.take (i + (wlen (b.drop i.toNat) : Int)).toNat).drop i.toNat)).length = 0 := by rw [h]; rfl
    simp [u8] at this
    omega
theorem rest_ok {b : List Int} (hb : isBytes b = true) {k : Nat} (hk : k < b.length) : EscOk b (k : Int) (restS b k) := by
  unfold restS
  by_cases c1 : heldV (atB b ((k + 1 : Nat) : Int)) > 0
  · rw [if_pos c1]
    obtain ⟨h1, h2, h3⟩ := heldV_in c1
    have := atB_some h3
    exact ⟨by omega, by omega, h1, h2⟩
  rw [if_neg c1]
  by_cases c2 : 49 ≤ atB b ((k + 1 : Nat) : Int) ∧ atB b ((k + 1 : Nat) : Int) ≤ 57
  · rw [if_pos c2]
    have := atB_some (b := b) (i := ((k + 1 : Nat) : Int)) (by omega)
    by_cases c3 : digB (atB b ((k + 2 : Nat) : Int)) = true
    · rw [if_pos c3]
      have h := digB_iff.1 c3
      have := atB_some (b := b) (i := ((k + 2 : Nat) : Int)) (by omega)
      exact ⟨by omega, by omega, by omega, by omega⟩
    · rw [if_neg c3]
      exact ⟨by omega, by omega, by omega, by omega⟩
  rw [if_neg c2]
  by_cases c4 : atB b ((k + 1 : Nat) : Int) ≠ 107
  · rw [if_pos c4]; show (32 : Int) ≠ 0; decide
  rw [if_neg c4]
  by_cases c5 : atB b ((k + 2 : Nat) : Int) ≠ 60
  · rw [if_pos c5]; show (36 : Int) ≠ 0; decide
  rw [if_neg c5]
  unfold keyS
  rcases name_ok b ((k + 3 : Nat) : Int) (by omega) with h | ⟨a, to, h, h1, h2, h3, h4⟩
  · rw [h, if_pos (by show (36 : Int) ≠ 0; decide)]; show (36 : Int) ≠ 0; decide
  · rw [h, if_neg (by show ¬ (0 : Int) ≠ 0; decide)]; exact ⟨show (k : Int) < to by omega, h2, h3, h4⟩
theorem esc_ok {b : List Int} (hb : isBytes b = true) {k : Nat} (hk : k < b.length) : EscOk b (k : Int) (escS b (k : Int) false) := by
  unfold escS
  by_cases c : atB b (k : Int) ≠ 92
  · rw [if_pos c]; show (10 : Int) ≠ 0; decide
  rw [if_neg c, Int.toNat_natCast]
  cases hs : simpleS b k with
  | some x =>
    rcases simple_to hb hs with ⟨n, to, rfl, h1, h2⟩ | ⟨c, to, rfl, h1, h2⟩ | rfl
    · exact ⟨h1, h2⟩
    · exact ⟨h1, h2, ofL_least c⟩
    · show (32 : Int) ≠ 0; decide
  | none => exact rest_ok hb hk
/-- What is known of a parser's state. -/
structure SOk (b : List Int) (s : PS) : Prop where
  k0 : 0 ≤ s.k
  k1 : s.k ≤ (b.length : Int) + 10
  kE : s.e = 0 → s.k ≤ (b.length : Int)
  g0 : 0 ≤ s.gr
  g1 : s.gr ≤ 99
  nm : (s.nm.length : Int) = s.gr + 1
  nms : ∀ a, a ∈ s.nm → (a.size : Int) ≤ 32
  wh : 0 ≤ s.wh ∧ s.wh ≤ (b.length : Int)
theorem SOk.i64 {b : List Int} {s : PS} (h : SOk b s) (hb : b.length ≤ 4096) : i64P s.k := by
  have := h.k0; have := h.k1
  unfold i64P; omega
theorem SOk.fail {b : List Int} {s : PS} (h : SOk b s) (e a : Int) (he : e ≠ 0) (ha : s.e = 0 → 0 ≤ a ∧ a ≤ (b.length : Int)) : SOk b (failS s e a) ∧ (failS s e a).e ≠ 0 := by
  unfold failS
  by_cases c : s.e = 0
  · rw [if_pos c]
    exact ⟨⟨h.k0, h.k1, fun q => absurd q he, h.g0, h.g1, h.nm, h.nms, ha c⟩, he⟩
  · rw [if_neg c]; exact ⟨h, c⟩
theorem SOk.to {b : List Int} {s : PS} (h : SOk b s) {t : Int} (h0 : 0 ≤ t) (h1 : t ≤ (b.length : Int)) : SOk b { s with k := t } := ⟨h0, by show t ≤ _; omega, fun _ => h1, h.g0, h.g1, h.nm, h.nms, h.wh⟩
/-- What an escape's part is: a good leaf, further on; or the parser has failed. -/
theorem escape_T {b : List Int} (hb : isBytes b = true) (hl : b.length ≤ 4096) {s : PS} (hs : SOk b s) (he : s.e = 0) (hk : s.k < (b.length : Int)) : ∃ n s', E C 212 [pv b s] = some [ptD n [], pd b s'] ∧ SOk b s' ∧ s'.gr = s.gr ∧ s'.nm = s.nm ∧ (s'.e = 0 → AloneN n 0 ∧ (n.kind = 2 ∨ n.kind = 3 ∨ n.kind = 4) ∧ n.frm = s.k ∧ n.to = s'.k ∧ s.k < s'.k) := by
  have k0 := hs.k0
  obtain ⟨k, hkk⟩ : ∃ k : Nat, s.k = (k : Int) := ⟨s.k.toNat, by omega⟩
  have ok := esc_ok hb (k := k) (by omega)
  rw [← hkk] at ok
  have hE := escape_E b hb (by omega) s (fun e h => by rw [h] at ok; exact ok)
  refine ⟨_, _, hE, ?_⟩
  unfold escP
  cases h : escS b s.k false with
  | lit n to =>
    rw [h] at ok
    exact ⟨hs.to (by have := ok.1; omega) ok.2, rfl, rfl, fun _ => ⟨alone_set k0 (by have := ok.1; omega) (by have := ok.2; omega) (cloS_least s ((leastB_iff _).2 (mk_least _))), .inl rfl, rfl, rfl, ok.1⟩⟩
  | cls c to =>
    rw [h] at ok
    exact ⟨hs.to (by have := ok.1; omega) ok.2.1, rfl, rfl, fun _ => ⟨alone_set k0 (by have := ok.1; omega) (by have := ok.2.1; omega) (cloS_least s ok.2.2), .inl rfl, rfl, rfl, ok.1⟩⟩
  | hld n to =>
    rw [h] at ok
    exact ⟨hs.to (by have := ok.1; omega) ok.2.1, rfl, rfl, fun _ => ⟨alone_hold k0 (by have := ok.1; omega) (by have := ok.2.1; omega) ok.2.2, .inr (.inl rfl), rfl, rfl, ok.1⟩⟩
  | ref n to =>
    rw [h] at ok
    exact ⟨hs.to (by have := ok.1; omega) ok.2.1, rfl, rfl, fun _ => ⟨alone_back k0 (by have := ok.1; omega) (by have := ok.2.1; omega) (show ((0 : Nat) : Int) ≤ 32 by decide) (.inl ok.2.2), .inr (.inr rfl), rfl, rfl, ok.1⟩⟩
  | key a to =>
    rw [h] at ok
    exact ⟨hs.to (by have := ok.1; omega) ok.2.1, rfl, rfl, fun _ => ⟨alone_back k0 (by have := ok.1; omega) (by have := ok.2.1; omega) ok.2.2.1 (.inr ⟨rfl, ok.2.2.2⟩), .inr (.inr rfl), rfl, rfl, ok.1⟩⟩
  | err e =>
    rw [h] at ok
    have hf := hs.fail e s.k ok (fun q => ⟨hs.k0, hs.kE q⟩)
    refine ⟨hf.1, ?_, ?_, fun q => absurd q hf.2⟩
    · show (failS s e s.k).gr = _; unfold failS; split <;> rfl
    · show (failS s e s.k).nm = _; unfold failS; split <;> rfl
end Go.Proofs.YtlofoifcdmeopaaGreatDoor.V
namespace Go.Proofs.YtlofoifcdmeopaaGreatDoor.V
open Go Go.Ev Go.RowKit
set_option linter.unusedVariables false
set_option linter.unusedSimpArgs false
theorem isBytes_drop {b : List Int} (h : isBytes b = true) (n : Nat) : isBytes (b.drop n) = true := by
  unfold isBytes at h ⊢
  rw [List.all_eq_true] at h ⊢
  exact fun x hx => h x (List.mem_of_mem_drop hx)
theorem isBytes_take {b : List Int} (h : isBytes b = true) (n : Nat) : isBytes (b.take n) = true := by
  unfold isBytes at h ⊢
  rw [List.all_eq_true] at h ⊢
  exact fun x hx => h x (List.mem_of_mem_take hx)
theorem isBytes_head {c : Int} {l : List Int} (h : isBytes (c :: l) = true) : 0 ≤ c ∧ c < 256 := by
  unfold isBytes at h
  rw [List.all_cons, Bool.and_eq_true] at h
  simpa using h.1
theorem pre94 {l : List Int} (hb : isBytes l = true) : ([94] : List UInt8).isPrefixOf (u8 l) = decide (l.head? = some 94) := by
  cases l with
  | nil => rfl
  | cons c l =>
    have e := u8_eq (isBytes_head hb) 94 (by decide)
    rw [Bool.eq_iff_iff, decide_eq_true_eq, List.head?_cons, Option.some.injEq]
    show ([94] : List UInt8).isPrefixOf (UInt8.ofNat c.toNat :: u8 l) = true ↔ c = 94
    simp only [List.isPrefixOf, Bool.and_true, beq_iff_eq]
    exact ⟨fun h => e.1 h.symm, fun h => (e.2 h).symm⟩
theorem drop_head {b : List Int} {k : Nat} (h : k < b.length) : b.drop k = atB b (k : Int) :: b.drop (k + 1) := by
  rw [atB_in h, List.drop_eq_getElem_cons h]
theorem atB_head (b : List Int) (k : Nat) : atB b (k : Int) = 94 ↔ (b.drop k).head? = some 94 := by
  by_cases h : k < b.length
  · rw [drop_head h, List.head?_cons, Option.some.injEq]
  · rw [atB_out (by omega), List.drop_eq_nil_of_le (by omega)]
    simp
theorem take_head {l : List Int} {n : Nat} (h : fi l = some n) : (l.take n).head? = some 94 ↔ l.head? = some 94 := by
  cases l with
  | nil => cases h
  | cons c l =>
    cases n with
    | succ n => rfl
    | zero =>
      have hc : c = 58 := by
        unfold fi at h
        split at h
        · rename_i hc; exact hc.1
        · cases hf : fi l with
          | none => rw [hf] at h; cases h
          | some m => rw [hf] at h; cases h
      subst hc
      exact ⟨fun h => (by cases h), fun h => (by cases h)⟩
theorem opens_pre {b : List Int} (hb : isBytes b = true) {k : Nat} (hk : k < b.length) : ([91, 58] : List UInt8).isPrefixOf (u8 ((b.take (min (k + 2) b.length)).drop k)) = decide (opensB b k) := by
  rw [Bool.eq_iff_iff, decide_eq_true_eq]
  unfold opensB
  have hd := isBytes_drop hb k
  rw [drop_head hk] at hd
  have h1 := u8_eq (isBytes_head hd) 91 (by decide)
  by_cases h2 : k + 1 < b.length
  · have e : (b.take (min (k + 2) b.length)).drop k = [atB b (k : Int), atB b ((k + 1 : Nat) : Int)] := by
      rw [show min (k + 2) b.length = k + 2 by omega, List.drop_take, drop_head hk, drop_head h2, show k + 2 - k = 2 by omega]
      rfl
    rw [e]
    have hd2 := isBytes_drop hb (k + 1)
    rw [drop_head h2] at hd2
    have h3 := u8_eq (isBytes_head hd2) 58 (by decide)
    show ([91, 58] : List UInt8).isPrefixOf [UInt8.ofNat (atB b (k : Int)).toNat, UInt8.ofNat (atB b ((k + 1 : Nat) : Int)).toNat] = true ↔ _
    simp only [List.isPrefixOf, Bool.and_eq_true, beq_iff_eq, Bool.and_true]
    exact ⟨fun h => ⟨h1.1 h.1.symm, h3.1 h.2.symm⟩, fun h => ⟨(h1.2 h.1).symm, (h3.2 h.2).symm⟩⟩
  · have e : (b.take (min (k + 2) b.length)).drop k = [atB b (k : Int)] := by
      rw [show min (k + 2) b.length = k + 1 by omega, List.drop_take, drop_head hk, show k + 1 - k = 1 by omega]
      rfl
    rw [e, atB_out (i := ((k + 1 : Nat) : Int)) (by omega)]
    constructor
    · intro h
      exact absurd h (by simp [u8, List.isPrefixOf])
    · intro h
      exact absurd h.2 (by decide)
theorem findN_mem {s : ByteArray} {m : List (Int × Int)} : ∀ {l : List (List UInt8 × List (Int × Int))}, findN s l = some m → ∃ p, p ∈ l ∧ p.2 = m
  | [], h => by cases h
  | p :: l, h => by
    unfold findN at h
    cases hc : (bs p.1).toList == s.toList with
    | true =>
      rw [hc] at h
      exact ⟨p, List.mem_cons_self, Option.some.inj h⟩
    | false =>
      rw [hc] at h
      obtain ⟨q, h1, h2⟩ := findN_mem (l := l) h
      exact ⟨q, List.mem_cons_of_mem _ h1, h2⟩
theorem allN_len : ∀ p, p ∈ allN → p.2.length ≤ 10 := by decide
theorem nset_len {s : List UInt8} {l : List (Int × Int)} (h : nset s = some l) : l.length ≤ 10 := by
  obtain ⟨p, h1, rfl⟩ := findN_mem (show findN (bs s) allN = some l from h)
  exact allN_len p h1
theorem named_E {b : List Int} (hb : isBytes b = true) (hbl : b.length ≤ 4294967280) {k : Nat} (h1 : atB b ((k + 1 : Nat) : Int) = 58) : E C 267 [.shr 5 (b.map .int), .int .i64 (k : Int)] = some (pcP (nmS b k)) := by
  have hk : k + 2 ≤ b.length := by
    have := atB_some (b := b) (i := ((k + 1 : Nat) : Int)) (by rw [h1]; decide)
    omega
  have e2 : IntKind.i64.wrap ((k : Int) + 2) = ((k + 2 : Nat) : Int) := by rw [w64 (by omega) (by omega)]; omega
  apply o267
  rw [e2, List.length_map, dT (by omega), dT (by omega), dT (by omega), Int.toNat_natCast, Int.toNat_natCast, slice_ints, List.take_length, strOf_ints, bT (Cut_E (isBytes_drop hb _) (by rw [List.length_drop]; omega))]
  simp only [rd0, rd1, rd2, datS, datB]
  rw [bT (CutPre_E _ _)]
  simp only [rd0, rd1, datS, datB]
  unfold nmS
  cases hf : fi (b.drop (k + 2)) with
  | none =>
    rw [bT (Named_E _), nT (by rfl)]
    rfl
  | some n =>
    have hn := fi_len hf
    rw [List.length_drop] at hn
    have hb2 : isBytes ((b.drop (k + 2)).take n) = true := isBytes_take (isBytes_drop hb _) _
    have hp := pre94 hb2
    have hh := (take_head hf).trans (atB_head b (k + 2)).symm
    have hsz : ((bs (u8 ((b.drop (k + 2)).take n))).size : Int) = (n : Int) := by
      rw [bs_size, u8_len, List.length_take, List.length_drop]
      omega
    have e3 : IntKind.i64.wrap (IntKind.i64.wrap (((k + 2 : Nat) : Int) + (n : Int)) + 2) = ((k + 2 + n + 2 : Nat) : Int) := by
      rw [w64 (n := ((k + 2 : Nat) : Int) + (n : Int)) (by omega) (by omega), w64 (by omega) (by omega)]; omega
    simp only []
    rw [hsz, e3, hp]
    by_cases c : atB b ((k + 2 : Nat) : Int) = 94
    · rw [if_pos c, if_pos (by rw [decide_eq_true_eq]; exact hh.2 c), u8_drop, bT (Named_E _), nF (by rfl)]
      unfold nset
      cases hs : findN (bs (u8 (((b.drop (k + 2)).take n).drop 1))) allN with
      | none => rfl
      | some l =>
        have hl : l.length ≤ 1000 := by
          have := nset_len hs
          omega
        simp only [namedD, rd0, rd1, datB, datL]
        rw [nF rfl, cT (by rw [decide_eq_true_eq]; exact hh.2 c), bT (Not_E l (by omega))]
        simp only [pcP, partSet, nset, hs]
        rfl
    · rw [if_neg c, if_neg (by rw [decide_eq_true_eq]; exact fun e => c (hh.1 e)), bT (Named_E _), nF (by rfl)]
      unfold nset
      cases hs : findN (bs (u8 ((b.drop (k + 2)).take n))) allN with
      | none => rfl
      | some l =>
        simp only [namedD, rd0, rd1, datB, datL]
        rw [nF rfl, cF (by rw [decide_eq_false_iff_not]; exact fun e => c (hh.1 e))]
        simp only [pcP, partSet, nset, hs]
        rfl
end Go.Proofs.YtlofoifcdmeopaaGreatDoor.V
namespace Go.Proofs.YtlofoifcdmeopaaGreatDoor.V
open Go Go.Ev Go.RowKit
set_option linter.unusedVariables false
set_option linter.unusedSimpArgs false
theorem piece_E {b : List Int} (hb : isBytes b = true) (hbl : b.length ≤ 4294967280) {k : Nat} (hk : k < b.length) : E C 248 [.shr 5 (b.map .int), .int .i64 (k : Int)] = some (pcP (pieceS b k)) := by
  have e2 : IntKind.i64.wrap ((k : Int) + 2) = ((k + 2 : Nat) : Int) := by rw [w64 (by omega) (by omega)]; omega
  have e3 : (if (b.length : Int) < ((k + 2 : Nat) : Int) then (b.length : Int) else ((k + 2 : Nat) : Int)) = ((min (k + 2) b.length : Nat) : Int) := by
    split <;> omega
  have e4 : (rd (b.map Dat.int) k).I = atB b (k : Int) := by rw [rdB hk, atB_in hk]
  apply o248
  rw [e2, List.length_map, e3, dT (by omega), dT (by omega), dT (by omega), Int.toNat_natCast, Int.toNat_natCast, slice_ints, strOf_ints, bT (HasPre_E _ _), opens_pre hb hk]
  simp only [rd0, datB]
  unfold pieceS
  by_cases c : opensB b k
  · rw [dT c, if_pos c, bT (named_E hb hbl c.2)]
    cases nmS b k <;> rfl
  · rw [dF c, if_neg c, e4, dT (by omega), dT (by omega), dT (by omega)]
    by_cases c2 : atB b (k : Int) = 92
    · rw [eT c2, if_pos c2, bT (Inner_E hb (by omega) _)]
      obtain ⟨n, to, h, _⟩ | ⟨n, to, h, _⟩ | h := esc_inner hb c2
      · rw [h]
        simp only [progD, pcE, pcP, itemP]
        simp only [rd0, rd1, aggC0, aggC1, aggC2, aggC3, aggC4, datI, datS, datL]
        rw [show ((to.toNat : Nat) : Int) = to by omega]
      · rw [h]
        simp only [progD, pcE, pcP, itemP]
        simp only [rd0, rd1, aggC0, aggC1, aggC2, aggC3, aggC4, datI, datS, datL, partSet]
        rw [show ((to.toNat : Nat) : Int) = to by omega]
      · rw [h]
        rfl
    · have hs := symA_small hb k hk
      rw [eF c2, if_neg c2, bT (At_E b hb (by omega) _)]
      unfold symR
      rw [if_pos ⟨by omega, by omega⟩, Int.toNat_natCast]
      simp only [rd0, rd1, datI]
      rw [w64 (by omega) (by omega)]
      simp only [pcP, itemP]
      rw [show ((k + (symA b k).2.toNat : Nat) : Int) = (k : Int) + (symA b k).2 by omega]
/-- How far a piece goes, and what it is. -/
theorem hexG_val : ∀ (m : Nat) (l : List Int) (a : Int), 0 ≤ a → 0 ≤ (hexG m l a).1 ∧ (hexG m l a).1 + 1 ≤ (a + 1) * 16 ^ m
  | 0, l, a, h => by
    show 0 ≤ (hexG 0 l a).1 ∧ _
    unfold hexG
    simp only [Int.pow_zero]
    omega
  | m + 1, [], a, h => by
    have hp : (1 : Int) ≤ 16 ^ (m + 1) := Int.pow_pos (by decide)
    show 0 ≤ a ∧ a + 1 ≤ (a + 1) * 16 ^ (m + 1)
    have := Int.mul_le_mul_of_nonneg_left hp (show 0 ≤ a + 1 by omega)
    omega
  | m + 1, c :: l, a, h => by
    have hp : (1 : Int) ≤ 16 ^ (m + 1) := Int.pow_pos (by decide)
    have hv := hexV_in c
    show 0 ≤ (if hexV c ≥ 0 then ((hexG m l (a * 16 + hexV c)).1, (hexG m l (a * 16 + hexV c)).2 + 1) else (a, 0)).1 ∧ (if hexV c ≥ 0 then ((hexG m l (a * 16 + hexV c)).1, (hexG m l (a * 16 + hexV c)).2 + 1) else (a, 0)).1 + 1 ≤ (a + 1) * 16 ^ (m + 1)
    by_cases hc : hexV c ≥ 0
    · rw [if_pos hc]
      have ih := hexG_val m l (a * 16 + hexV c) (by omega)
      have h16 : (16 : Int) ^ (m + 1) = 16 * 16 ^ m := by rw [Int.pow_succ, Int.mul_comm]
      have hq : (0 : Int) ≤ 16 ^ m := Int.le_of_lt (Int.pow_pos (by decide))
      have := Int.mul_le_mul_of_nonneg_right (show a * 16 + hexV c + 1 ≤ (a + 1) * 16 by omega) hq
      rw [Int.mul_assoc, ← h16] at this
      exact ⟨ih.1, Int.le_trans ih.2 this⟩
    · rw [if_neg hc]
      have := Int.mul_le_mul_of_nonneg_left hp (show 0 ≤ a + 1 by omega)
      show 0 ≤ a ∧ a + 1 ≤ (a + 1) * 16 ^ (m + 1)
      omega
theorem code_in {b : List Int} {j : Nat} {n : Int} {to : Nat} (h : codeS b j = some (n, to)) : 0 ≤ n ∧ n ≤ 1114367 := by
  unfold codeS at h
  split at h
  · split at h
    · cases h
    · rename_i h1 h2
      simp only [Option.some.injEq, Prod.mk.injEq] at h
      obtain ⟨rfl, _⟩ := h
      have h3 : isSym (hexG 6 (b.drop (j + 1)) 0).1 = true := by
        cases hs : isSym (hexG 6 (b.drop (j + 1)) 0).1 with
        | true => rfl
        | false => exact absurd (.inr (.inr hs)) h2
      have := (isSym_iff _).1 h3
      omega
  · split at h
    · cases h
    · simp only [Option.some.injEq, Prod.mk.injEq] at h
      obtain ⟨rfl, _⟩ := h
      have := hexG_val 2 (b.drop j) 0 (by omega)
      omega
theorem ctrl_in (c : Int) : ctrl c ≤ 27 := by
  unfold ctrl
  repeat' split
  all_goals omega
def wfP : Prt → Prop
  | .rng lo hi => 0 ≤ lo ∧ hi ≤ 1114367
  | .lett c => c > 0 ∧ (ofL c).isSome = true
  | .nam s _ => (nset s).isSome = true
def pcOk (b : List Int) (k : Nat) : Pc → Prop
  | .sym n to => 0 ≤ n ∧ n ≤ 1114367 ∧ k < to ∧ to ≤ b.length
  | .set p to => wfP p ∧ k < to ∧ to ≤ b.length ∧ (∀ lo hi, p ≠ .rng lo hi)
  | .err e => e ≠ 0
theorem ofL_pos {c : Int} (h : (ofL c).isSome = true) : c > 0 := by
  unfold ofL at h
  repeat' split at h
  all_goals first | omega | cases h
theorem simple_ok {b : List Int} (hb : isBytes b = true) {k : Nat} {x : Esc} (h : simpleS b k = some x) : pcOk b k (pcE x) := by
  have g := simple_to hb h
  unfold simpleS at h
  split at h
  · cases hc : codeS b (k + 2) with
    | none => rw [hc] at h; obtain rfl := Option.some.inj h; show (32 : Int) ≠ 0; decide
    | some p =>
      rw [hc] at h
      obtain rfl := Option.some.inj h
      have h1 := codeS_to hc
      have h2 := code_in hc
      exact ⟨h2.1, h2.2, by omega, by omega⟩
  split at h
  · rename_i h2
    obtain rfl := Option.some.inj h
    have h3 : atB b ((k + 1 : Nat) : Int) ≠ 0 := fun e => by rw [e] at h2; exact absurd h2 (by decide)
    have := atB_some h3
    have := ctrl_in (atB b ((k + 1 : Nat) : Int))
    exact ⟨by omega, by omega, by omega, by omega⟩
  split at h
  · rename_i h2
    obtain rfl := Option.some.inj h
    have h3 : atB b ((k + 1 : Nat) : Int) ≠ 0 := fun e => by rw [e] at h2; exact absurd h2 (by decide)
    have := atB_some h3
    exact ⟨⟨ofL_pos h2, h2⟩, by omega, by omega, fun lo hi e => by cases e⟩
  split at h
  · cases h
  split at h
  · obtain rfl := Option.some.inj h
    show (32 : Int) ≠ 0
    decide
  · obtain rfl := Option.some.inj h
    have hs := symA_small hb (k + 1) (by omega)
    exact ⟨hs.1, hs.2.1, by omega, by omega⟩
theorem piece_ok {b : List Int} (hb : isBytes b = true) {k : Nat} (hk : k < b.length) : pcOk b k (pieceS b k) := by
  unfold pieceS
  split
  · unfold nmS
    cases hf : fi (b.drop (k + 2)) with
    | none => show (33 : Int) ≠ 0; decide
    | some n =>
      have h1 := fi_len hf
      rw [List.length_drop] at h1
      show pcOk b k (if _ then _ else _)
      split
      · cases hs : nset (u8 (((b.drop (k + 2)).take n).drop 1)) with
        | none => show (33 : Int) ≠ 0; decide
        | some l => exact ⟨by show (nset _).isSome = true; rw [hs]; rfl, by omega, by omega, fun lo hi e => by cases e⟩
      · cases hs : nset (u8 ((b.drop (k + 2)).take n)) with
        | none => show (33 : Int) ≠ 0; decide
        | some l => exact ⟨by show (nset _).isSome = true; rw [hs]; rfl, by omega, by omega, fun lo hi e => by cases e⟩
  split
  · rename_i h1 h2
    unfold escS
    rw [if_neg (by simpa using h2), Int.toNat_natCast]
    cases hs : simpleS b k with
    | some x => exact simple_ok hb hs
    | none =>
      simp only [if_true]
      by_cases h : atB b ((k + 1 : Nat) : Int) = 98
      · have := atB_some (b := b) (i := ((k + 1 : Nat) : Int)) (by rw [h]; decide)
        rw [if_pos h]
        exact ⟨by omega, by omega, by omega, by omega⟩
      · rw [if_neg h]
        show (32 : Int) ≠ 0
        decide
  · have hs := symA_small hb k hk
    exact ⟨hs.1, hs.2.1, by omega, by omega⟩
end Go.Proofs.YtlofoifcdmeopaaGreatDoor.V
namespace Go.Proofs.YtlofoifcdmeopaaGreatDoor.V
open Go Go.Ev Go.RowKit
set_option linter.unusedVariables false
set_option linter.unusedSimpArgs false
inductive Pa where
  | ok (p : Prt) (to : Nat)
  | err (e : Int) (at_ : Nat)
def dashB (b : List Int) (t : Nat) : Prop := atB b (t : Int) = 45 ∧ t + 1 < b.length ∧ atB b ((t + 1 : Nat) : Int) ≠ 93
instance (b : List Int) (t : Nat) : Decidable (dashB b t) := inferInstanceAs (Decidable (_ ∧ _ ∧ _))
def partS (b : List Int) (k : Nat) : Pa :=
  match pieceS b k with
  | .err e => .err e k
  | .set p to => .ok p to
  | .sym n to =>
    if dashB b to then (match pieceS b (to + 1) with
      | .err e => .err e (to + 1)
      | .set _ _ => .err 33 k
      | .sym m t2 => if m < n then .err 33 k else .ok (.rng n m) t2)
    else .ok (.rng n n) to
def partP : Pa → List Dat
  | .err e a => [.agg [.int 0, .int 0, .int 0, .str ByteArray.empty, .list []], .int e, .int (a : Int)]
  | .ok p to => [.agg [.int 2, .int (to : Int), .int 0, .str ByteArray.empty, .list (rs (partSet p))], .int 0, .int 0]
theorem part_ok {b : List Int} (hb : isBytes b = true) {k : Nat} (hk : k < b.length) : match partS b k with
    | .ok p to => wfP p ∧ k < to ∧ to ≤ b.length
    | .err e _ => e ≠ 0 := by
  have h := piece_ok hb hk
  unfold partS
  cases hp : pieceS b k with
  | err e => rw [hp] at h; exact h
  | set p to => rw [hp] at h; exact ⟨h.1, h.2.1, h.2.2.1⟩
  | sym n to =>
    rw [hp] at h
    simp only []
    by_cases hd : dashB b to
    · rw [if_pos hd]
      have h2 := piece_ok hb (show to + 1 < b.length from hd.2.1)
      cases hq : pieceS b (to + 1) with
      | err e => rw [hq] at h2; exact h2
      | set p t => show (33 : Int) ≠ 0; decide
      | sym m t2 =>
        rw [hq] at h2
        simp only []
        by_cases hm : m < n
        · rw [if_pos hm]; show (33 : Int) ≠ 0; decide
        · rw [if_neg hm]
          exact ⟨⟨h.1, h2.2.1⟩, by have := h.2.2.1; have := h2.2.2.1; omega, h2.2.2.2⟩
    · rw [if_neg hd]
      exact ⟨⟨h.1, h.2.1⟩, h.2.2.1, h.2.2.2⟩
theorem dashed_E {b : List Int} (hbl : b.length ≤ 4294967280) (t : Nat) (ht : t ≤ b.length) : E C 249 [.shr 5 (b.map .int), .int .i64 (t : Int)] = some [.bool (decide (dashB b t))] := by
  have e1 : IntKind.i64.wrap ((t : Int) + 1) = ((t + 1 : Nat) : Int) := by rw [w64 (by omega) (by omega)]; omega
  apply o249
  rw [bT (at_E b _), e1, List.length_map]
  simp only [rd0, datI]
  by_cases h1 : atB b (t : Int) = 45
  · by_cases h2 : t + 1 < b.length
    · rw [eT h1, dT (by omega), ixT ⟨by omega, by omega⟩, rdA ⟨by omega, by omega⟩]
      by_cases h3 : atB b ((t + 1 : Nat) : Int) = 93
      · rw [decide_eq_false (show ¬ dashB b t from fun h => h.2.2 h3), h3]; rfl
      · rw [decide_eq_true (show dashB b t from ⟨h1, h2, h3⟩)]
        have : (atB b ((t + 1 : Nat) : Int) != 93) = true := by simpa using h3
        rw [this]
    · rw [eT h1, dF (by omega), decide_eq_false (show ¬ dashB b t from fun h => h2 h.2.1)]
  · rw [eF h1, decide_eq_false (show ¬ dashB b t from fun h => h1 h.1)]
theorem part_E {b : List Int} (hb : isBytes b = true) (hbl : b.length ≤ 4294967280) {k : Nat} (hk : k < b.length) : E C 230 [.shr 5 (b.map .int), .int .i64 (k : Int)] = some (partP (partS b k)) := by
  have h := piece_ok hb hk
  apply o230
  rw [bT (piece_E hb hbl hk)]
  unfold partS
  cases hp : pieceS b k with
  | err e =>
    rw [hp] at h
    simp only [pcP, itemP, rd0, rd1, datI]
    rw [neT h]
    rfl
  | set p to =>
    simp only [pcP, itemP, rd0, rd1, datI, aggC0, aggC1, aggC2, aggC3, aggC4, datS, datL]
    rw [neF rfl, eT rfl]
    rfl
  | sym n to =>
    rw [hp] at h
    have e1 : IntKind.i64.wrap ((to : Int) + 1) = ((to + 1 : Nat) : Int) := by have := h.2.2.2; rw [w64 (by omega) (by omega)]; omega
    simp only [pcP, itemP, rd0, rd1, datI, aggC0, aggC1, aggC2, aggC3, aggC4, datS, datL]
    rw [neF rfl, eF (by decide), e1, bT (dashed_E hbl to h.2.2.2)]
    simp only [rd0, datB]
    by_cases hd : dashB b to
    · have h2 := piece_ok hb (show to + 1 < b.length from hd.2.1)
      rw [dT hd, if_pos hd, bT (piece_E hb hbl hd.2.1)]
      cases hq : pieceS b (to + 1) with
      | err e =>
        rw [hq] at h2
        simp only [pcP, itemP, rd0, rd1, datI]
        rw [neT h2]
        rfl
      | set p t =>
        simp only [pcP, itemP, rd0, rd1, datI, aggC0, aggC1, aggC2, aggC3, aggC4, datS, datL]
        rw [neF rfl, neT (by decide)]
        rfl
      | sym m t2 =>
        simp only [pcP, itemP, rd0, rd1, datI, aggC0, aggC1, aggC2, aggC3, aggC4, datS, datL]
        rw [neF rfl, neF rfl]
        by_cases hm : m < n
        · rw [dT hm, if_pos hm]; rfl
        · rw [dF hm, if_neg hm]; rfl
    · rw [dF hd, if_neg hd]
      rfl
inductive Cla where
  | ok (ps : List (Prt × Nat)) (to : Nat)
  | err (e : Int) (at_ : Int)
def clsL (b : List Int) (i : Int) : Nat → Nat → Bool → List (Prt × Nat) → Cla
  | 0, _, _, _ => .err 33 i
  | n + 1, k, first, acc =>
    if first = false ∧ atB b (k : Int) = 93 then .ok acc (k + 1)
    else if b.length ≤ k then .err 33 i
    else match partS b k with
      | .err e a => .err e (a : Int)
      | .ok p to => clsL b i n to false (acc ++ [(p, to)])
def setsP (ps : List (Prt × Nat)) : List (Int × Int) := ps.flatMap fun p => partSet p.1
theorem partSet_len (p : Prt) : (partSet p).length ≤ 11 := by
  cases p with
  | rng lo hi => show 1 ≤ 11; omega
  | lett c =>
    show ((ofL c).getD []).length ≤ 11
    cases h : ofL c with
    | none => show 0 ≤ 11; omega
    | some l => have := (ofL_len h).1; show l.length ≤ 11; omega
  | nam s not =>
    have h1 : ((nset s).getD []).length ≤ 10 := by
      cases h : nset s with
      | none => show 0 ≤ 10; omega
      | some l => exact nset_len h
    show (if not = true then notR ((nset s).getD []) else (nset s).getD []).length ≤ 11
    split
    · have := notR_length ((nset s).getD []); omega
    · omega
theorem setsP_len : ∀ ps : List (Prt × Nat), (setsP ps).length ≤ 11 * ps.length
  | [] => Nat.le_refl _
  | p :: ps => by
    have h1 := partSet_len p.1
    have h2 := setsP_len ps
    unfold setsP at h2 ⊢
    rw [List.flatMap_cons, List.length_append, List.length_cons]
    omega
theorem setsP_snoc (ps : List (Prt × Nat)) (p : Prt × Nat) : setsP (ps ++ [p]) = setsP ps ++ partSet p.1 := by
  unfold setsP
  rw [List.flatMap_append, List.flatMap_cons, List.flatMap_nil, List.append_nil]
def foldR (folded : Bool) (l : List (Int × Int)) : List (Int × Int) := if folded = true then closeR l else l
def turnR (not : Bool) (l : List (Int × Int)) : List (Int × Int) := if not = true then notR l else l
def setOf (ps : List (Prt × Nat)) (folded not : Bool) : List (Int × Int) := turnR not (foldR folded (mk (setsP ps)))
def claP (folded not : Bool) : Cla → List Dat
  | .err e a => [.list [], .int 0, .int e, .int a]
  | .ok ps to => [.list (rs (setOf ps folded not)), .int (to : Int), .int 0, .int 0]
theorem both {Y a r : R} {Z : List Dat → R} {c : Bool} {v : Int} (ha : a = some [.int v]) (h : Y = r) (hc : ¬ (c = false ∧ v = 93)) : (bif c then Y else a.bind fun d => bif (rd d 0).I != 93 then Y else Z d) = r := by
  cases c with
  | true => exact h
  | false =>
    rw [cF rfl, ha]
    show (bif (v != 93) then Y else Z [.int v]) = r
    rw [neT (fun e => hc ⟨rfl, e⟩)]
    exact h
theorem class_end {ps : List (Prt × Nat)} (hps : ps.length ≤ 40000) (folded not : Bool) (k : Nat) (hk : k ≤ 100000) : ((E C 77 [.shr 82 (rs (setsP ps))]).bind fun d6 => (bif folded then ((E C 231 [.shr 82 ((rd d6 0).L)]).bind fun d7 => (bif not then ((E C 167 [.shr 82 ((rd d7 0).L)]).bind fun d8 => (some [.list ((rd d8 0).L), .int (IntKind.i64.wrap ((k : Int) + 1)), .int 0, .int 0])) else (some [.list ((rd d7 0).L), .int (IntKind.i64.wrap ((k : Int) + 1)), .int 0, .int 0]))) else (bif not then ((E C 167 [.shr 82 ((rd d6 0).L)]).bind fun d9 => (some [.list ((rd d9 0).L), .int (IntKind.i64.wrap ((k : Int) + 1)), .int 0, .int 0])) else (some [.list ((rd d6 0).L), .int (IntKind.i64.wrap ((k : Int) + 1)), .int 0, .int 0])))) = some (claP folded not (.ok ps (k + 1))) := by
  have h1 := setsP_len ps
  have h2 := mk_length (setsP ps)
  have h3 := closeR_length (mk (setsP ps))
  rw [bT (Make_E _ (by omega)), w64 (by omega) (by omega)]
  simp only [rd0, datL]
  cases folded with
  | true =>
    rw [cT rfl, bT (Close_E _ (by omega))]
    simp only [rd0, datL]
    cases not with
    | true => rw [cT rfl, bT (Not_E _ (by omega))]; rfl
    | false => rfl
  | false =>
    rw [cF rfl]
    cases not with
    | true => rw [cT rfl, bT (Not_E _ (by omega))]; rfl
    | false => rfl
theorem class_loop {b : List Int} (hb : isBytes b = true) (hbl : b.length ≤ 30000) (i : Int) (folded : Bool) (v6 : List Dat) (v7 v8 v9 : Int) (not : Bool) : ∀ (n k : Nat) (first : Bool) (acc : List (Prt × Nat)), b.length < k + n → k ≤ b.length → acc.length ≤ k →
    M207_1 (b.map .int) i folded v6 v7 v8 v9 (k : Int) not (rs (setsP acc)) first = some (claP folded not (clsL b i n k first acc)) := by
  intro n
  induction n with
  | zero => intro k first acc h1 h2; omega
  | succ n ih =>
    intro k first acc h1 h2 h3
    have hcap : capB 16 = 8796093022208 := by decide
    have hs := setsP_len acc
    apply M207_1_of
    unfold clsL
    by_cases hc : first = false ∧ atB b (k : Int) = 93
    · rw [if_pos hc, hc.1, cF rfl, bT (at_E b _)]
      simp only [rd0, datI]
      rw [neF hc.2]
      exact class_end (by omega) folded not k (by omega)
    · rw [if_neg hc]
      refine both (at_E b _) ?_ hc
      rw [List.length_map]
      by_cases hk : b.length ≤ k
      · rw [dT (by omega), if_pos hk]; rfl
      · rw [dF (by omega), if_neg hk, bT (part_E hb (by omega) (by omega))]
        have hp := part_ok hb (show k < b.length by omega)
        cases hq : partS b k with
        | err e a =>
          rw [hq] at hp
          simp only [partP, rd0, rd1, rd2, datI]
          rw [neT hp]
          rfl
        | ok p to =>
          rw [hq] at hp
          have hl := partSet_len p
          simp only [partP, rd0, rd1, rd2, datI, aggC1, aggC4, datL]
          rw [neF rfl, rs_len, rs_len, hcap, dT (by omega), ← rsA, ← setsP_snoc acc (p, to)]
          exact ih to false (acc ++ [(p, to)]) (by omega) hp.2.2 (by rw [List.length_append]; simp only [List.length_cons, List.length_nil]; omega)
end Go.Proofs.YtlofoifcdmeopaaGreatDoor.V
namespace Go.Proofs.YtlofoifcdmeopaaGreatDoor.V
open Go Go.Ev Go.RowKit
set_option linter.unusedVariables false
set_option linter.unusedSimpArgs false
/-- A class, whole. -/
def stS (b : List Int) (i : Int) : Nat := if atB b ((i.toNat + 1 : Nat) : Int) = 94 then i.toNat + 2 else i.toNat + 1
def notS (b : List Int) (i : Int) : Bool := atB b ((i.toNat + 1 : Nat) : Int) == 94
def classS (b : List Int) (i : Int) : Cla := if atB b i ≠ 91 then .err 10 0 else clsL b i (b.length + 1) (stS b i) true []
theorem st_le {b : List Int} {i : Int} (h : atB b i = 91) : stS b i ≤ b.length := by
  have h1 := atB_some (b := b) (i := i) (by rw [h]; decide)
  unfold stS
  split
  · rename_i h2
    have := atB_some (b := b) (i := ((i.toNat + 1 : Nat) : Int)) (by rw [h2]; decide)
    omega
  · omega
theorem Class_E {b : List Int} (hb : isBytes b = true) (hbl : b.length ≤ 30000) (i : Int) (folded : Bool) : E C 207 [.shr 5 (b.map .int), .int .i64 i, .bool folded] = some (claP folded (notS b i) (classS b i)) := by
  apply o207
  rw [bT (at_E b _)]
  simp only [rd0, datI]
  unfold classS
  by_cases h : atB b i = 91
  · have h1 := atB_some (b := b) (i := i) (by rw [h]; decide)
    have hst := st_le h
    have e1 : IntKind.i64.wrap (i + 1) = ((i.toNat + 1 : Nat) : Int) := by rw [w64 (by omega) (by omega)]; omega
    have e2 : IntKind.i64.wrap (((i.toNat + 1 : Nat) : Int) + 1) = ((i.toNat + 2 : Nat) : Int) := by rw [w64 (by omega) (by omega)]; omega
    rw [neF h, if_neg (by simpa using h), e1, e2, bT (at_E b _)]
    simp only [rd0, datI]
    unfold stS notS at *
    by_cases h2 : atB b ((i.toNat + 1 : Nat) : Int) = 94
    · rw [eT h2, if_pos h2]
      rw [if_pos h2] at hst
      exact class_loop hb hbl i folded [] 0 0 0 _ (b.length + 1) (i.toNat + 2) true [] (by omega) hst (by exact Nat.zero_le _)
    · rw [eF h2, if_neg h2]
      rw [if_neg h2] at hst
      exact class_loop hb hbl i folded [] 0 0 0 _ (b.length + 1) (i.toNat + 1) true [] (by omega) hst (by exact Nat.zero_le _)
  · rw [neT h, if_pos h]
    rfl
end Go.Proofs.YtlofoifcdmeopaaGreatDoor.V
namespace Go.Proofs.YtlofoifcdmeopaaGreatDoor.V
open Go Go.Ev Go.RowKit
set_option linter.unusedVariables false
set_option linter.unusedSimpArgs false
theorem part_place {b : List Int} {k : Nat} (hk : k < b.length) {e : Int} {a : Nat} (h : partS b k = .err e a) : a ≤ b.length := by
  unfold partS at h
  split at h
  · obtain ⟨-, rfl⟩ := Pa.err.inj h; omega
  · cases h
  · split at h
    · rename_i hd
      split at h
      · obtain ⟨-, rfl⟩ := Pa.err.inj h
        have := hd.2.1
        omega
      · obtain ⟨-, rfl⟩ := Pa.err.inj h; omega
      · split at h
        · obtain ⟨-, rfl⟩ := Pa.err.inj h; omega
        · cases h
    · cases h
theorem cls_okP {b : List Int} (hb : isBytes b = true) {i : Int} (hi : 0 ≤ i ∧ i ≤ (b.length : Int)) : ∀ (n k : Nat) (first : Bool) (acc : List (Prt × Nat)), k ≤ b.length → match clsL b i n k first acc with
    | .err e a => e ≠ 0 ∧ 0 ≤ a ∧ a ≤ (b.length : Int)
    | .ok ps to => k < to ∧ to ≤ b.length
  | 0, k, first, acc, hk => ⟨by decide, hi⟩
  | n + 1, k, first, acc, hk => by
    unfold clsL
    by_cases c1 : first = false ∧ atB b (k : Int) = 93
    · rw [if_pos c1]
      have := atB_some (b := b) (i := (k : Int)) (by rw [c1.2]; decide)
      exact ⟨by omega, by omega⟩
    rw [if_neg c1]
    by_cases c2 : b.length ≤ k
    · rw [if_pos c2]; exact ⟨by decide, hi⟩
    rw [if_neg c2]
    have hp := part_ok hb (k := k) (by omega)
    cases h : partS b k with
    | err e a =>
      have hpl := part_place (b := b) (k := k) (by omega) h
      rw [h] at hp
      exact ⟨hp, by show (0 : Int) ≤ (a : Int); omega, by show (a : Int) ≤ _; omega⟩
    | ok p to =>
      rw [h] at hp
      have := cls_okP hb hi n to false (acc ++ [(p, to)]) hp.2.2
      show match clsL b i n to false (acc ++ [(p, to)]) with
        | .err e a => e ≠ 0 ∧ 0 ≤ a ∧ a ≤ (b.length : Int)
        | .ok ps to => k < to ∧ to ≤ b.length
      cases h3 : clsL b i n to false (acc ++ [(p, to)]) with
      | err e a => rw [h3] at this; exact this
      | ok ps t2 => rw [h3] at this; exact ⟨Nat.lt_trans hp.2.1 this.1, this.2⟩
theorem class_ok {b : List Int} (hb : isBytes b = true) {i : Int} (h91 : atB b i = 91) : match classS b i with
    | .err e a => e ≠ 0 ∧ 0 ≤ a ∧ a ≤ (b.length : Int)
    | .ok ps to => i < (to : Int) ∧ to ≤ b.length := by
  have hin := atB_some (b := b) (i := i) (by rw [h91]; decide)
  unfold classS
  rw [if_neg (fun q => q h91)]
  have hc := cls_okP hb (i := i) ⟨by omega, by omega⟩ (b.length + 1) (stS b i) true [] (st_le h91)
  have hst : i < (stS b i : Int) := by
    unfold stS
    split <;> omega
  cases h : clsL b i (b.length + 1) (stS b i) true [] with
  | err e a => rw [h] at hc; exact hc
  | ok ps to => rw [h] at hc; exact ⟨by have := hc.1; omega, hc.2⟩
theorem setOf_least (ps : List (Prt × Nat)) (folded not : Bool) : leastB (setOf ps folded not) = true := by
  unfold setOf turnR foldR
  refine (leastB_iff _).2 ?_
  cases not with
  | true => exact notR_least _
  | false =>
    cases folded with
    | true => exact mk_least _
    | false => exact mk_least _
theorem Any_E (a : Bool) : E C 209 [.bool a] = some [.list (rs (notR (bif a then [] else mk [(10, 10)])))] := by
  apply o209
  cases a with
  | true =>
    rw [cond_true, show ([] : List Dat) = rs [] from rfl, bT (Not_E [] (by decide))]
    rfl
  | false =>
    rw [cond_false, bT (Of1_E 10)]
    simp only [stP, agA]
    rw [bT (Not_E (mk [(10, 10)]) (by have := mk_length [((10 : Int), (10 : Int))]; show _ < 8796093022208; have h1 : [((10 : Int), (10 : Int))].length = 1 := rfl; omega))]
    rfl
end Go.Proofs.YtlofoifcdmeopaaGreatDoor.V
namespace Go.Proofs.YtlofoifcdmeopaaGreatDoor.V
open Go Go.Ev Go.RowKit
set_option linter.unusedVariables false
set_option linter.unusedSimpArgs false
/-- A leaf that was read: it is good, and the parser went on; or the parser has failed. -/
def LeafT (b : List Int) (s : PS) (n : Nd) (s' : PS) : Prop := SOk b s' ∧ s'.gr = s.gr ∧ s'.nm = s.nm ∧ (s'.e = 0 → AloneN n 0 ∧ (n.kind = 2 ∨ n.kind = 3 ∨ n.kind = 4) ∧ n.frm = s.k ∧ n.to = s'.k ∧ s.k < s'.k)
theorem leaf_fail {b : List Int} {s : PS} (hs : SOk b s) (e a : Int) (he : e ≠ 0) (ha : 0 ≤ a ∧ a ≤ (b.length : Int)) (n : Nd) : LeafT b s n (failS s e a) := by
  have hf := hs.fail e a he (fun _ => ha)
  refine ⟨hf.1, ?_, ?_, fun q => absurd q hf.2⟩ <;> (unfold failS; split <;> rfl)
theorem leaf_set {b : List Int} (hl : b.length ≤ 4096) {s : PS} (hs : SOk b s) {t : Int} {l : List (Int × Int)} (h1 : s.k < t) (h2 : t ≤ (b.length : Int)) (hll : leastB l = true) : LeafT b s ⟨2, s.k, t, 0, 0, 0, 0, ByteArray.empty, l, []⟩ { s with k := t } := by
  have := hs.k0
  exact ⟨hs.to (by omega) h2, rfl, rfl, fun _ => ⟨alone_set this (by omega) (by omega) hll, .inl rfl, rfl, rfl, h1⟩⟩
theorem leaf_hold {b : List Int} (hl : b.length ≤ 4096) {s : PS} (hs : SOk b s) {w : Int} (h2 : s.k < (b.length : Int)) (hw : 1 ≤ w ∧ w ≤ 7) : LeafT b s ⟨3, s.k, s.k + 1, w, 0, 0, 0, ByteArray.empty, [], []⟩ { s with k := s.k + 1 } := by
  have := hs.k0
  exact ⟨hs.to (by omega) (by omega), rfl, rfl, fun _ => ⟨alone_hold this (by omega) (by omega) hw, .inr (.inl rfl), rfl, rfl, by show s.k < s.k + 1; omega⟩⟩
theorem atom_T {b : List Int} (hb : isBytes b = true) (hl : b.length ≤ 4096) {s : PS} (hs : SOk b s) (he : s.e = 0) (hk : s.k < (b.length : Int)) (hc : atB b s.k ≠ 40) (d : Int) : ∃ n may s', E C 179 [pv b s, .int .i64 d] = some [ptD n [], .bool may, pd b s'] ∧ LeafT b s n s' := by
  have k0 := hs.k0
  have b0 := byteAt_E b s s.k k0
  by_cases c1 : atB b s.k = 91
  · have hC := Class_E hb (by omega) s.k s.fo
    have ok := class_ok hb c1
    cases h : classS b s.k with
    | err e a =>
      rw [h] at ok hC
      refine ⟨nd0P, false, failS s e a, ?_, leaf_fail hs e a ok.1 ok.2 _⟩
      apply o179
      rw [bT b0]
      simp only [stP, agA]
      rw [eF hc, eT c1]
      refine (bT hC).trans ?_
      simp only [claP, stP, agA]
      rw [neT ok.1, bT (fail_E b s e a)]
      rfl
    | ok ps to =>
      rw [h] at ok hC
      refine ⟨_, true, { s with k := (to : Int) }, ?_, leaf_set hl hs ok.1 (by have := ok.2; omega) (setOf_least ps s.fo (notS b s.k))⟩
      apply o179
      rw [bT b0]
      simp only [stP, agA]
      rw [eF hc, eT c1]
      refine (bT hC).trans ?_
      simp only [claP, stP, agA]
      rw [neF rfl, bT (set_E b s _ _ _)]
      rfl
  by_cases c2 : atB b s.k = 46
  · refine ⟨_, true, { s with k := s.k + 1 }, ?_, leaf_set hl hs (t := s.k + 1) (by omega) (by omega) ((leastB_iff _).2 (notR_least (bif s.al then [] else mk [(10, 10)])))⟩
    apply o179
    rw [bT b0]
    simp only [stP, agA]
    rw [eF hc, eF c1, eT c2, bT (Any_E s.al)]
    simp only [stP, agA]
    rw [w64 (by omega) (by omega), bT (set_E b s _ _ _)]
    rfl
  by_cases c3 : atB b s.k = 94
  · refine ⟨_, false, { s with k := s.k + 1 }, ?_, leaf_hold hl hs hk (w := bif s.li then 4 else 1) (by cases s.li <;> decide)⟩
    apply o179
    rw [bT b0]
    simp only [stP, agA]
    rw [eF hc, eF c1, eF c2, eT c3, bT (either_E _ _ _)]
    simp only [stP, agA]
    rw [w64 (by omega) (by omega), bT (hold_E b s _ _ _)]
    rfl
  by_cases c4 : atB b s.k = 36
  · refine ⟨_, false, { s with k := s.k + 1 }, ?_, leaf_hold hl hs hk (w := bif s.li then 5 else 2) (by cases s.li <;> decide)⟩
    apply o179
    rw [bT b0]
    simp only [stP, agA]
    rw [eF hc, eF c1, eF c2, eF c3, eT c4, bT (either_E _ _ _)]
    simp only [stP, agA]
    rw [w64 (by omega) (by omega), bT (hold_E b s _ _ _)]
    rfl
  by_cases c5 : atB b s.k = 92
  · obtain ⟨n, s', hE, hT⟩ := escape_T hb hl hs he hk
    refine ⟨n, n.kind != 3, s', ?_, hT⟩
    apply o179
    rw [bT b0]
    simp only [stP, agA]
    rw [eF hc, eF c1, eF c2, eF c3, eF c4, eT c5, bT hE]
    rfl
  · obtain ⟨k, hkk⟩ : ∃ k : Nat, s.k = (k : Int) := ⟨s.k.toNat, by omega⟩
    have hsm := symA_small hb k (by omega)
    have hsy : symR b s.k = symA b k := by unfold symR; rw [if_pos ⟨k0, hk⟩, hkk, Int.toNat_natCast]
    refine ⟨_, true, { s with k := s.k + (symR b s.k).2 }, atom_lit b hb (by omega) s d ⟨k0, by omega⟩ ⟨hc, c1, c2, c3, c4, c5⟩ (by rw [hsy]; omega), leaf_set hl hs (by rw [hsy]; omega) (by rw [hsy]; omega) (cloS_least s ((leastB_iff _).2 (mk_least _)))⟩
end Go.Proofs.YtlofoifcdmeopaaGreatDoor.V
namespace Go.Proofs.YtlofoifcdmeopaaGreatDoor.V
open Go Go.Ev Go.RowKit
set_option linter.unusedVariables false
set_option linter.unusedSimpArgs false
def opD (kind num : Int) (a : ByteArray) (f1 f2 f3 f4 no : Bool) : Dat := .agg [.int kind, .int num, .str a, .bool f1, .bool f2, .bool f3, .bool f4, .bool no]
/-- What is known of what was opened at a place. -/
def OpT (b : List Int) (s : PS) (f : Int) (kind num : Int) (a : ByteArray) (no : Bool) (s1 : PS) : Prop := SOk b s1 ∧ s1.gr = s.gr ∧ s1.nm = s.nm ∧ (s1.e = 0 → f < s1.k ∧ (no = false → (kind = 0 ∧ num = 0) ∨ (kind = 7 ∧ num = 0 ∧ (a.size : Int) ≤ 32) ∨ (kind = 9 ∧ num = 0 ∧ a = ByteArray.empty) ∨ (kind = 10 ∧ (1 ≤ num ∧ num ≤ 4) ∧ a = ByteArray.empty)))
theorem flag_E (f1 f2 f3 f4 : Bool) (c : Int) (on : Bool) : ∃ (ok g1 g2 g3 g4 : Bool), E C 266 [.pbox [.bool f1, .bool f2, .bool f3, .bool f4], .int .u8 c, .bool on] = some [.bool ok, .agg [.bool g1, .bool g2, .bool g3, .bool g4]] ∧ (ok = true → c ≠ 0) := by
  by_cases c1 : c = 105
  · exact ⟨_, _, _, _, _, o266 _ _ _ _ _ _ (by rw [eT c1]), fun _ => by omega⟩
  by_cases c2 : c = 109
  · exact ⟨_, _, _, _, _, o266 _ _ _ _ _ _ (by rw [eF c1, eT c2]), fun _ => by omega⟩
  by_cases c3 : c = 115
  · exact ⟨_, _, _, _, _, o266 _ _ _ _ _ _ (by rw [eF c1, eF c2, eT c3]), fun _ => by omega⟩
  by_cases c4 : c = 120
  · exact ⟨_, _, _, _, _, o266 _ _ _ _ _ _ (by rw [eF c1, eF c2, eF c3, eT c4]), fun _ => by omega⟩
  · exact ⟨false, _, _, _, _, o266 _ _ _ _ _ _ (by rw [eF c1, eF c2, eF c3, eF c4]), fun h => by cases h⟩
theorem toggles_loop {b : List Int} (hl : b.length ≤ 4096) : ∀ (m : Nat) (s : PS), SOk b s → s.e = 0 → (b.length : Int) - s.k < m → ∀ (g1 g2 g3 g4 on some_ : Bool),
    ∃ (h1 h2 h3 h4 no : Bool) (s1 : PS), M247_1 (b.map .int) s.k s.fo s.li s.al s.wi s.gr (s.nm.map .str) s.e s.wh 0 0 ByteArray.empty g1 g2 g3 g4 false on some_ = some [opD 0 0 ByteArray.empty h1 h2 h3 h4 no, pd b s1] ∧ SOk b s1 ∧ s1.gr = s.gr ∧ s1.nm = s.nm ∧ (s1.e = 0 → s.k < s1.k)
  | 0, s, hs, he, hm, g1, g2, g3, g4, on, some_ => by have := hs.kE he; omega
  | m + 1, s, hs, he, hm, g1, g2, g3, g4, on, some_ => by
    have k0 := hs.k0
    have kE := hs.kE he
    have b0 := byteAt_E b s s.k k0
    obtain ⟨ok, h1, h2, h3, h4, hL, hok⟩ := flag_E g1 g2 g3 g4 (atB b s.k) on
    have hw : IntKind.i64.wrap (s.k + 1) = s.k + 1 := w64 (by omega) (by omega)
    have step : atB b s.k ≠ 0 → ∀ on' some', ∃ (i1 i2 i3 i4 no : Bool) (s1 : PS), M247_1 (b.map .int) (s.k + 1) s.fo s.li s.al s.wi s.gr (s.nm.map .str) s.e s.wh 0 0 ByteArray.empty h1 h2 h3 h4 false on' some' = some [opD 0 0 ByteArray.empty i1 i2 i3 i4 no, pd b s1] ∧ SOk b s1 ∧ s1.gr = s.gr ∧ s1.nm = s.nm ∧ (s1.e = 0 → s.k < s1.k) := fun h0 on' some' => by
      have hin := atB_some h0
      obtain ⟨i1, i2, i3, i4, no, s1, r1, r2, r3, r4, r5⟩ := toggles_loop hl m { s with k := s.k + 1 } (hs.to (by omega) (by omega)) he (by show (b.length : Int) - (s.k + 1) < m; omega) h1 h2 h3 h4 on' some'
      exact ⟨i1, i2, i3, i4, no, s1, r1, r2, r3, r4, fun q => by have h := r5 q; change s.k + 1 < s1.k at h; omega⟩
    have bad : ∃ (i1 i2 i3 i4 no : Bool) (s1 : PS), ((E C 68 [pv b s, .int .i64 35, .int .i64 s.k]).bind fun d => (some [opD 0 0 ByteArray.empty h1 h2 h3 h4 false, .agg [.list (((rd d 0).C 0).L), .int (((rd d 0).C 1).I), .bool (((rd d 0).C 2).B), .bool (((rd d 0).C 3).B), .bool (((rd d 0).C 4).B), .bool (((rd d 0).C 5).B), .int (((rd d 0).C 6).I), .list (((rd d 0).C 7).L), .int (((rd d 0).C 8).I), .int (((rd d 0).C 9).I)]]) : R) = some [opD 0 0 ByteArray.empty i1 i2 i3 i4 no, pd b s1] ∧ SOk b s1 ∧ s1.gr = s.gr ∧ s1.nm = s.nm ∧ (s1.e = 0 → s.k < s1.k) := by
      have hf := hs.fail 35 s.k (by decide) (fun q => ⟨hs.k0, hs.kE q⟩)
      exact ⟨h1, h2, h3, h4, false, failS s 35 s.k, (bT (fail_E b s 35 s.k)).trans rfl, hf.1, by unfold failS; split <;> rfl, by unfold failS; split <;> rfl, fun q => absurd q hf.2⟩
    have good : ∀ no : Bool, atB b s.k ≠ 0 → ∃ (i1 i2 i3 i4 no' : Bool) (s1 : PS), (some [opD 0 0 ByteArray.empty h1 h2 h3 h4 no, pd b { s with k := s.k + 1 }] : R) = some [opD 0 0 ByteArray.empty i1 i2 i3 i4 no', pd b s1] ∧ SOk b s1 ∧ s1.gr = s.gr ∧ s1.nm = s.nm ∧ (s1.e = 0 → s.k < s1.k) := fun no h0 => by
      have hin := atB_some h0
      exact ⟨h1, h2, h3, h4, no, _, rfl, hs.to (by omega) (by omega), rfl, rfl, fun _ => by show s.k < s.k + 1; omega⟩
    cases ok with
    | true =>
      obtain ⟨i1, i2, i3, i4, no, s1, r1, r⟩ := step (hok rfl) on true
      refine ⟨i1, i2, i3, i4, no, s1, ?_, r⟩
      apply M247_1_of
      rw [bT b0]
      simp only [stP, agA]
      rw [bT hL]
      simp only [stP, agA]
      rw [cond_true, hw]
      exact r1
    | false =>
      by_cases c45 : atB b s.k = 45
      · cases on with
        | true =>
          obtain ⟨i1, i2, i3, i4, no, s1, r1, r⟩ := step (by omega) false false
          refine ⟨i1, i2, i3, i4, no, s1, ?_, r⟩
          apply M247_1_of
          rw [bT b0]
          simp only [stP, agA]
          rw [bT hL]
          simp only [stP, agA]
          rw [cond_false, eT c45, cond_true, hw]
          exact r1
        | false =>
          obtain ⟨i1, i2, i3, i4, no, s1, r1, r⟩ := bad
          refine ⟨i1, i2, i3, i4, no, s1, ?_, r⟩
          apply M247_1_of
          rw [bT b0]
          simp only [stP, agA]
          rw [bT hL]
          simp only [stP, agA]
          rw [cond_false, eT c45, cond_false]
          cases some_ with
          | true => rw [cond_true, eF (by omega), eF (by omega)]; exact r1
          | false => rw [cond_false]; exact r1
      · cases some_ with
        | false =>
          obtain ⟨i1, i2, i3, i4, no, s1, r1, r⟩ := bad
          refine ⟨i1, i2, i3, i4, no, s1, ?_, r⟩
          apply M247_1_of
          rw [bT b0]
          simp only [stP, agA]
          rw [bT hL]
          simp only [stP, agA]
          rw [cond_false, eF c45, cond_false]
          exact r1
        | true =>
          by_cases c58 : atB b s.k = 58
          · obtain ⟨i1, i2, i3, i4, no, s1, r1, r⟩ := good (atB b s.k == 41) (by omega)
            refine ⟨i1, i2, i3, i4, no, s1, ?_, r⟩
            apply M247_1_of
            rw [bT b0]
            simp only [stP, agA]
            rw [bT hL]
            simp only [stP, agA]
            rw [cond_false, eF c45, cond_true, eT c58, hw]
            exact r1
          by_cases c41 : atB b s.k = 41
          · obtain ⟨i1, i2, i3, i4, no, s1, r1, r⟩ := good (atB b s.k == 41) (by omega)
            refine ⟨i1, i2, i3, i4, no, s1, ?_, r⟩
            apply M247_1_of
            rw [bT b0]
            simp only [stP, agA]
            rw [bT hL]
            simp only [stP, agA]
            rw [cond_false, eF c45, cond_true, eF c58, eT c41, hw]
            exact r1
          · obtain ⟨i1, i2, i3, i4, no, s1, r1, r⟩ := bad
            refine ⟨i1, i2, i3, i4, no, s1, ?_, r⟩
            apply M247_1_of
            rw [bT b0]
            simp only [stP, agA]
            rw [bT hL]
            simp only [stP, agA]
            rw [cond_false, eF c45, cond_true, eF c58, eF c41]
            exact r1
end Go.Proofs.YtlofoifcdmeopaaGreatDoor.V
namespace Go.Proofs.YtlofoifcdmeopaaGreatDoor.V
open Go Go.Ev
set_option maxRecDepth 100000
set_option linter.unusedVariables false
/-- slices.Index[[]string,string] -/
noncomputable def f70 : Func := Tryz.f70
def kp70 : List Nat := [0, 1, 4, 5, 7, 8]
noncomputable def c70 (p : List Nat) : Code := pick f70 p
noncomputable def L70_1 (n : Nat) (m1 : Nat) (v0 : List Dat) (v1 : ByteArray) (v4 v7 v8 : Int) : R := loopIter (fun E K => evCode C (ev C n) n kp70 (c70 [1, 0, 1, 0, 0]) E K) [0, 1, 4, 7, 8] (Kblk 0 (Kseq C (ev C n) n kp70 (c70 [1, 1]) (Ktop C 70 f70 [.und, .und]))) m1 (cn [.shr 9 v0, .str v1, .und, .und, .int .i64 v4, .und, .und, .int .i64 v7, .int .i64 v8] (un 10 []))
noncomputable def M70_1 (v0 : List Dat) (v1 : ByteArray) (v4 v7 v8 : Int) : R := lim fun φ => L70_1 (φ 0) (φ 1) v0 v1 v4 v7 v8
theorem M70_1_c (v0 : List Dat) (v1 : ByteArray) (v4 v7 v8 : Int) : Cont (fun φ => L70_1 (φ 0) (φ 1) v0 v1 v4 v7 v8) (M70_1 v0 v1 v4 v7 v8) := Cont.re id _
theorem M70_1_e (v0 : List Dat) (v1 : ByteArray) (v4 v7 v8 : Int) : Cont (fun φ => L70_1 (φ 0) (φ 0) v0 v1 v4 v7 v8) (M70_1 v0 v1 v4 v7 v8) := Cont.re (toZ 1) fun φ => L70_1 (φ 0) (φ 1) v0 v1 v4 v7 v8
theorem M70_1_of (v0 : List Dat) (v1 : ByteArray) (v4 v7 v8 : Int) {r : List Dat} (h : (bif decide (v8 < v7) then (bif decide (0 ≤ v8) then (bif decide (v8 < (v0.length : Int)) then (bif decide (v8.toNat < v0.length) then (bif v1.toList == ((rd v0 v8.toNat).S).toList then (some [.int v8]) else (M70_1 v0 v1 v4 v7 (IntKind.i64.wrap (v8 + 1)))) else none) else none) else none) else (some [.int (-1)]) : R) = some r) : M70_1 v0 v1 v4 v7 v8 = some r := lim_st (g := fun φ => L70_1 (φ 0) (φ 1) v0 v1 v4 v7 v8) 1 h (Cont.bif (Cont.bif (Cont.bif (Cont.bif (Cont.bif (Cont.const _) (M70_1_c _ _ _ _ _)) Cont.nn) Cont.nn) Cont.nn) (Cont.const _)) fun φ m hm => (congrArg (fun q => L70_1 (φ 0) q v0 v1 v4 v7 v8) hm).trans (by kernel_rfl)
theorem o70 (a0 : List Dat) (a1 : ByteArray) {r : List Dat} (h : (M70_1 a0 a1 0 (a0.length : Int) 0 : R) = some r) : E C 70 [.shr 9 a0, .str a1] = some r := E_st h (M70_1_e _ _ _ _ _) fun φ => by kernel_rfl
theorem o265 (a0 : List Dat) (a1 : ByteArray) {r : List Dat} (h : ((E C 70 [.shr 9 a0, .str a1]).bind fun d1 => (some [.bool (decide (((rd d1 0).I) ≥ 0))]) : R) = some r) : E C 265 [.shr 9 a0, .str a1] = some r := E_st h (Cont.bind (Cont.call C 70 _) fun _ => (Cont.const _)) fun φ => by kernel_rfl
end Go.Proofs.YtlofoifcdmeopaaGreatDoor.V
namespace Go.Proofs.YtlofoifcdmeopaaGreatDoor.V
open Go Go.Ev
set_option maxRecDepth 100000
set_option linter.unusedVariables false
/-- slices.Index[[]byte,byte] -/
noncomputable def f264 : Func := Tryz.f264
def kp264 : List Nat := [0, 1, 4, 5, 7, 8]
noncomputable def c264 (p : List Nat) : Code := pick f264 p
noncomputable def L264_1 (n : Nat) (m1 : Nat) (v0 : List Dat) (v1 v4 v7 v8 : Int) : R := loopIter (fun E K => evCode C (ev C n) n kp264 (c264 [1, 0, 1, 0, 0]) E K) [0, 1, 4, 7, 8] (Kblk 0 (Kseq C (ev C n) n kp264 (c264 [1, 1]) (Ktop C 264 f264 [.und, .und]))) m1 (cn [.shr 5 v0, .int .u8 v1, .und, .und, .int .i64 v4, .und, .und, .int .i64 v7, .int .i64 v8] (un 10 []))
noncomputable def M264_1 (v0 : List Dat) (v1 v4 v7 v8 : Int) : R := lim fun φ => L264_1 (φ 0) (φ 1) v0 v1 v4 v7 v8
theorem M264_1_c (v0 : List Dat) (v1 v4 v7 v8 : Int) : Cont (fun φ => L264_1 (φ 0) (φ 1) v0 v1 v4 v7 v8) (M264_1 v0 v1 v4 v7 v8) := Cont.re id _
theorem M264_1_e (v0 : List Dat) (v1 v4 v7 v8 : Int) : Cont (fun φ => L264_1 (φ 0) (φ 0) v0 v1 v4 v7 v8) (M264_1 v0 v1 v4 v7 v8) := Cont.re (toZ 1) fun φ => L264_1 (φ 0) (φ 1) v0 v1 v4 v7 v8
theorem M264_1_of (v0 : List Dat) (v1 v4 v7 v8 : Int) {r : List Dat} (h : (bif decide (v8 < v7) then (bif decide (0 ≤ v8) then (bif decide (v8 < (v0.length : Int)) then (bif decide (v8.toNat < v0.length) then (bif v1 == ((rd v0 v8.toNat).I) then (some [.int v8]) else (M264_1 v0 v1 v4 v7 (IntKind.i64.wrap (v8 + 1)))) else none) else none) else none) else (some [.int (-1)]) : R) = some r) : M264_1 v0 v1 v4 v7 v8 = some r := lim_st (g := fun φ => L264_1 (φ 0) (φ 1) v0 v1 v4 v7 v8) 1 h (Cont.bif (Cont.bif (Cont.bif (Cont.bif (Cont.bif (Cont.const _) (M264_1_c _ _ _ _ _)) Cont.nn) Cont.nn) Cont.nn) (Cont.const _)) fun φ m hm => (congrArg (fun q => L264_1 (φ 0) q v0 v1 v4 v7 v8) hm).trans (by kernel_rfl)
theorem o264 (a0 : List Dat) (a1 : Int) {r : List Dat} (h : (M264_1 a0 a1 0 (a0.length : Int) 0 : R) = some r) : E C 264 [.shr 5 a0, .int .u8 a1] = some r := E_st h (M264_1_e _ _ _ _ _) fun φ => by kernel_rfl
end Go.Proofs.YtlofoifcdmeopaaGreatDoor.V
namespace Go.Proofs.YtlofoifcdmeopaaGreatDoor.V
open Go Go.Ev Go.RowKit
set_option linter.unusedVariables false
set_option linter.unusedSimpArgs false
theorem upk' {k n : Nat} (h : k < n) (hn : n ≤ 20000000000000) : IntKind.i64.wrap ((k : Int) + 1) = ((k + 1 : Nat) : Int) := by rw [w64 (by omega) (by omega)]; omega
theorem idx_loop (l : List Int) (hl : l.length ≤ 20000000000000) (c z : Int) : ∀ (d k : Nat), k + d = l.length → ∃ i : Int, M264_1 (l.map .int) c z (l.length : Int) (k : Int) = some [.int i] ∧ -1 ≤ i ∧ i < (l.length : Int) + (if l.length = 0 then 1 else 0)
  | 0, k, h => ⟨-1, by
      apply M264_1_of
      rw [dF (by omega)], by omega, by split <;> omega⟩
  | d + 1, k, h => by
    obtain ⟨i, r1, r2⟩ := idx_loop l hl c z d (k + 1) (by omega)
    by_cases q : c = (rd (l.map Dat.int) k).I
    · refine ⟨(k : Int), ?_, by omega, by split <;> omega⟩
      apply M264_1_of
      rw [dT (by omega), List.length_map, ixT ⟨by omega, by omega⟩, Int.toNat_natCast, eT q]
    · refine ⟨i, ?_, r2⟩
      apply M264_1_of
      rw [dT (by omega), List.length_map, ixT ⟨by omega, by omega⟩, Int.toNat_natCast, eF q, upk' (n := l.length) (by omega) hl]
      exact r1
theorem idx_E (l : List Int) (hl : l.length ≤ 20000000000000) (c : Int) : ∃ i : Int, E C 264 [.shr 5 (l.map .int), .int .u8 c] = some [.int i] ∧ -1 ≤ i ∧ i < (l.length : Int) + (if l.length = 0 then 1 else 0) := by
  obtain ⟨i, r1, r2⟩ := idx_loop l hl c 0 l.length 0 (by omega)
  refine ⟨i, ?_, r2⟩
  apply o264
  rw [List.length_map]
  exact r1
theorem idxS_loop (l : List ByteArray) (hl : l.length ≤ 20000000000000) (a : ByteArray) (z : Int) : ∀ (d k : Nat), k + d = l.length → ∃ i : Int, M70_1 (l.map .str) a z (l.length : Int) (k : Int) = some [.int i]
  | 0, k, h => ⟨-1, by
      apply M70_1_of
      rw [dF (by omega)]⟩
  | d + 1, k, h => by
    obtain ⟨i, r1⟩ := idxS_loop l hl a z d (k + 1) (by omega)
    cases q : (a.toList == ((rd (l.map Dat.str) k).S).toList) with
    | true =>
      refine ⟨(k : Int), ?_⟩
      apply M70_1_of
      rw [dT (by omega), List.length_map, ixT ⟨by omega, by omega⟩, Int.toNat_natCast, q, cond_true]
    | false =>
      refine ⟨i, ?_⟩
      apply M70_1_of
      rw [dT (by omega), List.length_map, ixT ⟨by omega, by omega⟩, Int.toNat_natCast, q, cond_false, upk' (n := l.length) (by omega) hl]
      exact r1
theorem idxS_E (l : List ByteArray) (hl : l.length ≤ 20000000000000) (a : ByteArray) : ∃ i : Int, E C 70 [.shr 9 (l.map .str), .str a] = some [.int i] := by
  obtain ⟨i, r1⟩ := idxS_loop l hl a 0 l.length 0 (by omega)
  refine ⟨i, ?_⟩
  apply o70
  rw [List.length_map]
  exact r1
theorem conS_E (l : List ByteArray) (hl : l.length ≤ 20000000000000) (a : ByteArray) : ∃ c : Bool, E C 265 [.shr 9 (l.map .str), .str a] = some [.bool c] := by
  obtain ⟨i, r1⟩ := idxS_E l hl a
  refine ⟨decide (i ≥ 0), ?_⟩
  apply o265
  rw [bT r1]
  rfl
theorem SOk.at_ {b : List Int} {s : PS} (h : SOk b s) {t : Int} (h0 : 0 ≤ t) (h1 : t ≤ (b.length : Int) + 10) (h2 : s.e = 0 → t ≤ (b.length : Int)) : SOk b { s with k := t } := ⟨h0, h1, h2, h.g0, h.g1, h.nm, h.nms, h.wh⟩
theorem named_T {b : List Int} (hl : b.length ≤ 4096) {s : PS} (hs : SOk b s) (he : s.e = 0) (f : Int) (hf : 0 ≤ f ∧ f ≤ (b.length : Int)) : ∃ (a : ByteArray) (h1 h2 h3 h4 : Bool) (s1 : PS), E C 246 [pv b s, .int .i64 f] = some [opD 7 0 a h1 h2 h3 h4 false, pd b s1] ∧ SOk b s1 ∧ s1.gr = s.gr ∧ s1.nm = s.nm ∧ (s1.e = 0 → f < s1.k ∧ (a.size : Int) ≤ 32) := by
  have hN := Name_E b (by omega) f (by unfold i64P; omega)
  have hnm := hs.nm
  have hg := hs.g1
  rcases name_ok b f hf.1 with h | ⟨a, to, h, r1, r2, r3, r4⟩
  · rw [h] at hN
    have hF := hs.fail 36 f (by decide) (fun _ => hf)
    refine ⟨ByteArray.empty, (failS s 36 f).fo, (failS s 36 f).li, (failS s 36 f).al, (failS s 36 f).wi, { failS s 36 f with k := 0 }, ?_, hF.1.at_ (Int.le_refl 0) (by omega) (fun _ => by omega), by show (failS s 36 f).gr = _; unfold failS; split <;> rfl, by show (failS s 36 f).nm = _; unfold failS; split <;> rfl, fun q => absurd q hF.2⟩
    apply o246
    refine (bT hN).trans ?_
    simp only [errN, stP, agA]
    rw [eF (by decide), neT (by decide), bT (fail_E b s 36 f)]
    rfl
  · rw [h] at hN
    obtain ⟨c, hc⟩ := conS_E s.nm (by omega) a
    cases c with
    | true =>
      have hF := hs.fail 37 f (by decide) (fun _ => hf)
      refine ⟨a, (failS s 37 f).fo, (failS s 37 f).li, (failS s 37 f).al, (failS s 37 f).wi, { failS s 37 f with k := to }, ?_, hF.1.at_ (by omega) (by omega) (fun _ => r2), by show (failS s 37 f).gr = _; unfold failS; split <;> rfl, by show (failS s 37 f).nm = _; unfold failS; split <;> rfl, fun q => absurd q hF.2⟩
      apply o246
      refine (bT hN).trans ?_
      simp only [stP, agA]
      rw [eT rfl, bT hc]
      simp only [stP, agA]
      rw [cond_true, bT (fail_E b s 37 f)]
      rfl
    | false =>
      refine ⟨a, s.fo, s.li, s.al, s.wi, { s with k := to }, ?_, hs.to (by omega) r2, rfl, rfl, fun _ => ⟨r1, r3⟩⟩
      apply o246
      refine (bT hN).trans ?_
      simp only [stP, agA]
      rw [eT rfl, bT hc]
      simp only [stP, agA]
      rw [cond_false, neF rfl]
      rfl
theorem remark_T {b : List Int} (hl : b.length ≤ 4096) {s : PS} (hs : SOk b s) (f : Int) (hf : 0 ≤ f ∧ f < (b.length : Int)) : ∃ (h1 h2 h3 h4 : Bool) (s1 : PS), E C 245 [pv b s, .int .i64 f] = some [opD 0 0 ByteArray.empty h1 h2 h3 h4 true, pd b s1] ∧ SOk b s1 ∧ s1.gr = s.gr ∧ s1.nm = s.nm ∧ (s1.e = 0 → f < s1.k) := by
  obtain ⟨i, hi, i1, i2⟩ := idx_E (b.drop f.toNat) (by rw [List.length_drop]; omega) 41
  rw [List.length_drop] at i2
  have i3 : i < (b.length : Int) - f := by
    rw [if_neg (by omega)] at i2
    omega
  have hw : IntKind.i64.wrap (IntKind.i64.wrap (f + i) + 1) = f + i + 1 := by rw [w64 (n := f + i) (by omega) (by omega), w64 (by omega) (by omega)]
  have hsl : (((b.map Dat.int).take (((b.map Dat.int).length : Int).toNat)).drop f.toNat) = (b.drop f.toNat).map .int := by
    rw [Int.toNat_natCast, List.take_length, List.map_drop]
  by_cases c : i < 0
  · have hF := hs.fail 30 f (by decide) (fun _ => ⟨hf.1, by omega⟩)
    refine ⟨(failS s 30 f).fo, (failS s 30 f).li, (failS s 30 f).al, (failS s 30 f).wi, { failS s 30 f with k := f + i + 1 }, ?_, hF.1.at_ (by omega) (by omega) (fun _ => by omega), by show (failS s 30 f).gr = _; unfold failS; split <;> rfl, by show (failS s 30 f).nm = _; unfold failS; split <;> rfl, fun q => absurd q hF.2⟩
    apply o245
    rw [hsl, List.length_map, dT hf.1, dT (by omega), dT (Int.le_refl _), bT hi]
    simp only [stP, agA]
    rw [dT c, bT (fail_E b s 30 f), hw]
    rfl
  · refine ⟨s.fo, s.li, s.al, s.wi, { s with k := f + i + 1 }, ?_, hs.to (by omega) (by omega), rfl, rfl, fun _ => by show f < f + i + 1; omega⟩
    apply o245
    rw [hsl, List.length_map, dT hf.1, dT (by omega), dT (Int.le_refl _), bT hi]
    simp only [stP, agA]
    rw [dF c, hw]
    rfl
end Go.Proofs.YtlofoifcdmeopaaGreatDoor.V
namespace Go.Proofs.YtlofoifcdmeopaaGreatDoor.V
open Go Go.Ev Go.RowKit
set_option linter.unusedVariables false
set_option linter.unusedSimpArgs false
theorem op0 (k n : Int) (a : ByteArray) (f1 f2 f3 f4 no : Bool) : (opD k n a f1 f2 f3 f4 no).C 0 = .int k := (rfl)
theorem op1 (k n : Int) (a : ByteArray) (f1 f2 f3 f4 no : Bool) : (opD k n a f1 f2 f3 f4 no).C 1 = .int n := (rfl)
theorem op2 (k n : Int) (a : ByteArray) (f1 f2 f3 f4 no : Bool) : (opD k n a f1 f2 f3 f4 no).C 2 = .str a := (rfl)
theorem op3 (k n : Int) (a : ByteArray) (f1 f2 f3 f4 no : Bool) : (opD k n a f1 f2 f3 f4 no).C 3 = .bool f1 := (rfl)
theorem op4 (k n : Int) (a : ByteArray) (f1 f2 f3 f4 no : Bool) : (opD k n a f1 f2 f3 f4 no).C 4 = .bool f2 := (rfl)
theorem op5 (k n : Int) (a : ByteArray) (f1 f2 f3 f4 no : Bool) : (opD k n a f1 f2 f3 f4 no).C 5 = .bool f3 := (rfl)
theorem op6 (k n : Int) (a : ByteArray) (f1 f2 f3 f4 no : Bool) : (opD k n a f1 f2 f3 f4 no).C 6 = .bool f4 := (rfl)
theorem op7 (k n : Int) (a : ByteArray) (f1 f2 f3 f4 no : Bool) : (opD k n a f1 f2 f3 f4 no).C 7 = .bool no := (rfl)
theorem opA : (∀ (k n : Int) (a : ByteArray) (f1 f2 f3 f4 no : Bool), (opD k n a f1 f2 f3 f4 no).C 0 = .int k) ∧ (∀ (k n : Int) (a : ByteArray) (f1 f2 f3 f4 no : Bool), (opD k n a f1 f2 f3 f4 no).C 1 = .int n) ∧ (∀ (k n : Int) (a : ByteArray) (f1 f2 f3 f4 no : Bool), (opD k n a f1 f2 f3 f4 no).C 2 = .str a) ∧ (∀ (k n : Int) (a : ByteArray) (f1 f2 f3 f4 no : Bool), (opD k n a f1 f2 f3 f4 no).C 3 = .bool f1) ∧ (∀ (k n : Int) (a : ByteArray) (f1 f2 f3 f4 no : Bool), (opD k n a f1 f2 f3 f4 no).C 4 = .bool f2) ∧ (∀ (k n : Int) (a : ByteArray) (f1 f2 f3 f4 no : Bool), (opD k n a f1 f2 f3 f4 no).C 5 = .bool f3) ∧ (∀ (k n : Int) (a : ByteArray) (f1 f2 f3 f4 no : Bool), (opD k n a f1 f2 f3 f4 no).C 6 = .bool f4) ∧ (∀ (k n : Int) (a : ByteArray) (f1 f2 f3 f4 no : Bool), (opD k n a f1 f2 f3 f4 no).C 7 = .bool no) := ⟨op0, op1, op2, op3, op4, op5, op6, op7⟩
theorem open_T {b : List Int} (hl : b.length ≤ 4096) {s : PS} (hs : SOk b s) (he : s.e = 0) (hk : s.k < (b.length : Int)) : ∃ (kind num : Int) (a : ByteArray) (h1 h2 h3 h4 no : Bool) (s1 : PS), E C 229 [pv b s, .int .i64 s.k] = some [opD kind num a h1 h2 h3 h4 no, pd b s1] ∧ OpT b s s.k kind num a no s1 := by
  have k0 := hs.k0
  have e1 : IntKind.i64.wrap (s.k + 1) = s.k + 1 := w64 (by omega) (by omega)
  have e2 : IntKind.i64.wrap (s.k + 2) = s.k + 2 := w64 (by omega) (by omega)
  have e3 : IntKind.i64.wrap (s.k + 3) = s.k + 3 := w64 (by omega) (by omega)
  have e4 : IntKind.i64.wrap (s.k + 4) = s.k + 4 := w64 (by omega) (by omega)
  have b1 := byteAt_E b s (s.k + 1) (by omega)
  have b2 := byteAt_E b s (s.k + 2) (by omega)
  have b3 := byteAt_E b s (s.k + 3) (by omega)
  by_cases c63 : atB b (s.k + 1) ≠ 63
  · refine ⟨7, 0, ByteArray.empty, s.fo, s.li, s.al, s.wi, false, { s with k := s.k + 1 }, open_E b s s.k ⟨k0, by omega⟩ c63, hs.to (by omega) (by omega), rfl, rfl, fun _ => ⟨by show s.k < s.k + 1; omega, fun _ => .inr (.inl ⟨rfl, rfl, by show ((0 : Nat) : Int) ≤ 32; decide⟩)⟩⟩
  have c63' : atB b (s.k + 1) = 63 := by
    by_cases q : atB b (s.k + 1) = 63
    · exact q
    · exact absurd q c63
  have i2 : atB b (s.k + 2) ≠ 0 → s.k + 3 ≤ (b.length : Int) := fun h => by have := atB_some h; omega
  have i3 : atB b (s.k + 3) ≠ 0 → s.k + 4 ≤ (b.length : Int) := fun h => by have := atB_some h; omega
  have in1 := atB_some (b := b) (i := s.k + 1) (by rw [c63']; decide)
  have go3 : s.k + 3 ≤ (b.length : Int) → SOk b { s with k := s.k + 3 } := fun h => hs.to (by omega) h
  by_cases c58 : atB b (s.k + 2) = 58
  · refine ⟨0, 0, ByteArray.empty, s.fo, s.li, s.al, s.wi, false, { s with k := s.k + 3 }, ?_, go3 (i2 (by omega)), rfl, rfl, fun _ => ⟨by show s.k < s.k + 3; omega, fun _ => .inl ⟨rfl, rfl⟩⟩⟩
    apply o229
    rw [e1, e2, e3, bT b1]
    simp only [stP, agA]
    rw [neF c63', bT b2]
    simp only [stP, agA]
    rw [bT b3]
    simp only [stP, agA]
    rw [eT c58]
    rfl
  by_cases c62 : atB b (s.k + 2) = 62
  · refine ⟨9, 0, ByteArray.empty, s.fo, s.li, s.al, s.wi, false, { s with k := s.k + 3 }, ?_, go3 (i2 (by omega)), rfl, rfl, fun _ => ⟨by show s.k < s.k + 3; omega, fun _ => .inr (.inr (.inl ⟨rfl, rfl, rfl⟩))⟩⟩
    apply o229
    rw [e1, e2, e3, bT b1]
    simp only [stP, agA]
    rw [neF c63', bT b2]
    simp only [stP, agA]
    rw [bT b3]
    simp only [stP, agA]
    rw [eF c58, eT c62]
    rfl
  by_cases c61 : atB b (s.k + 2) = 61
  · refine ⟨10, _, ByteArray.empty, s.fo, s.li, s.al, s.wi, false, { s with k := s.k + 3 }, ?_, go3 (i2 (by omega)), rfl, rfl, fun _ => ⟨by show s.k < s.k + 3; omega, fun _ => .inr (.inr (.inr ⟨rfl, (by cases (atB b (s.k + 2) == 61) <;> decide : 1 ≤ (bif atB b (s.k + 2) == 61 then (1 : Int) else 2) ∧ (bif atB b (s.k + 2) == 61 then (1 : Int) else 2) ≤ 4), rfl⟩))⟩⟩
    apply o229
    rw [e1, e2, e3, bT b1]
    simp only [stP, agA]
    rw [neF c63', bT b2]
    simp only [stP, agA]
    rw [bT b3]
    simp only [stP, agA]
    rw [eF c58, eF c62, eT c61, bT (look_E _ _ _)]
    rfl
  by_cases c33 : atB b (s.k + 2) = 33
  · refine ⟨10, _, ByteArray.empty, s.fo, s.li, s.al, s.wi, false, { s with k := s.k + 3 }, ?_, go3 (i2 (by omega)), rfl, rfl, fun _ => ⟨by show s.k < s.k + 3; omega, fun _ => .inr (.inr (.inr ⟨rfl, (by cases (atB b (s.k + 2) == 61) <;> decide : 1 ≤ (bif atB b (s.k + 2) == 61 then (1 : Int) else 2) ∧ (bif atB b (s.k + 2) == 61 then (1 : Int) else 2) ≤ 4), rfl⟩))⟩⟩
    apply o229
    rw [e1, e2, e3, bT b1]
    simp only [stP, agA]
    rw [neF c63', bT b2]
    simp only [stP, agA]
    rw [bT b3]
    simp only [stP, agA]
    rw [eF c58, eF c62, eF c61, eT c33, bT (look_E _ _ _)]
    rfl
  by_cases c35 : atB b (s.k + 2) = 35
  · obtain ⟨h1, h2, h3, h4, s1, r1, r2, r3, r4, r5⟩ := remark_T hl (go3 (i2 (by omega))) s.k ⟨k0, hk⟩
    refine ⟨0, 0, ByteArray.empty, h1, h2, h3, h4, true, s1, ?_, r2, r3, r4, fun q => ⟨r5 q, fun h => by cases h⟩⟩
    apply o229
    rw [e1, e2, e3, bT b1]
    simp only [stP, agA]
    rw [neF c63', bT b2]
    simp only [stP, agA]
    rw [bT b3]
    simp only [stP, agA]
    rw [eF c58, eF c62, eF c61, eF c33, eT c35, bT r1]
    rfl
  by_cases c60 : atB b (s.k + 2) = 60
  · by_cases d61 : atB b (s.k + 3) = 61
    · refine ⟨10, _, ByteArray.empty, s.fo, s.li, s.al, s.wi, false, { s with k := s.k + 4 }, ?_, hs.to (by omega) (i3 (by omega)), rfl, rfl, fun _ => ⟨by show s.k < s.k + 4; omega, fun _ => .inr (.inr (.inr ⟨rfl, (by cases (atB b (s.k + 3) == 61) <;> decide : 1 ≤ (bif atB b (s.k + 3) == 61 then (3 : Int) else 4) ∧ (bif atB b (s.k + 3) == 61 then (3 : Int) else 4) ≤ 4), rfl⟩))⟩⟩
      apply o229
      rw [e1, e2, e3, e4, bT b1]
      simp only [stP, agA]
      rw [neF c63', bT b2]
      simp only [stP, agA]
      rw [bT b3]
      simp only [stP, agA]
      rw [eF c58, eF c62, eF c61, eF c33, eF c35, eT c60, eT d61, bT (look_E _ _ _)]
      rfl
    by_cases d33 : atB b (s.k + 3) = 33
    · refine ⟨10, _, ByteArray.empty, s.fo, s.li, s.al, s.wi, false, { s with k := s.k + 4 }, ?_, hs.to (by omega) (i3 (by omega)), rfl, rfl, fun _ => ⟨by show s.k < s.k + 4; omega, fun _ => .inr (.inr (.inr ⟨rfl, (by cases (atB b (s.k + 3) == 61) <;> decide : 1 ≤ (bif atB b (s.k + 3) == 61 then (3 : Int) else 4) ∧ (bif atB b (s.k + 3) == 61 then (3 : Int) else 4) ≤ 4), rfl⟩))⟩⟩
      apply o229
      rw [e1, e2, e3, e4, bT b1]
      simp only [stP, agA]
      rw [neF c63', bT b2]
      simp only [stP, agA]
      rw [bT b3]
      simp only [stP, agA]
      rw [eF c58, eF c62, eF c61, eF c33, eF c35, eT c60, eF d61, eT d33, bT (look_E _ _ _)]
      rfl
    · obtain ⟨a, h1, h2, h3, h4, s1, r1, r2, r3, r4, r5⟩ := named_T hl (go3 (i2 (by omega))) he (s.k + 3) ⟨by omega, i2 (by omega)⟩
      refine ⟨7, 0, a, h1, h2, h3, h4, false, s1, ?_, r2, r3, r4, fun q => ⟨by have := (r5 q).1; omega, fun _ => .inr (.inl ⟨rfl, rfl, (r5 q).2⟩)⟩⟩
      apply o229
      rw [e1, e2, e3, e4, bT b1]
      simp only [stP, agA]
      rw [neF c63', bT b2]
      simp only [stP, agA]
      rw [bT b3]
      simp only [stP, agA]
      rw [eF c58, eF c62, eF c61, eF c33, eF c35, eT c60, eF d61, eF d33, eT c60, bT r1]
      rfl
  · obtain ⟨h1, h2, h3, h4, no, s1, r1, r2, r3, r4, r5⟩ := toggles_loop hl (b.length + 1) { s with k := s.k + 2 } (hs.to (by omega) (by omega)) he (by show (b.length : Int) - (s.k + 2) < _; omega) s.fo s.li s.al s.wi true false
    have r0 : E C 247 [pv b { s with k := s.k + 2 }] = some [opD 0 0 ByteArray.empty h1 h2 h3 h4 no, pd b s1] := by
      apply o247
      exact r1
    refine ⟨0, 0, ByteArray.empty, h1, h2, h3, h4, no, s1, ?_, r2, r3, r4, fun q => ⟨by have h := r5 q; change s.k + 2 < s1.k at h; omega, fun _ => .inl ⟨rfl, rfl⟩⟩⟩
    apply o229
    rw [e1, e2, e3, bT b1]
    simp only [stP, agA]
    rw [neF c63', bT b2]
    simp only [stP, agA]
    rw [bT b3]
    simp only [stP, agA]
    rw [eF c58, eF c62, eF c61, eF c33, eF c35, eF c60, eF c60, bT r0]
    rfl
end Go.Proofs.YtlofoifcdmeopaaGreatDoor.V
namespace Go.Proofs.YtlofoifcdmeopaaGreatDoor.V
open Go Go.Ev Go.RowKit
set_option linter.unusedVariables false
set_option linter.unusedSimpArgs false
/-- Where a node's part ends, if it is laid as it must be. -/
def walkK (g : Nat → Option Nat) : List Int → Nat → Option Nat
  | [], nx => some nx
  | k :: ks, nx => if k ≠ (nx : Int) then none else match g nx with
    | none => none
    | some m => walkK g ks m
def endK (ns : List Nd) : Nat → Nat → Option Nat
  | 0, _ => none
  | f + 1, i => match ns[i]? with
    | none => none
    | some n => walkK (endK ns f) n.kids (i + 1)
theorem endK_bound (ns : List Nd) : ∀ (f i : Nat) {e : Nat}, endK ns f i = some e → i < e ∧ e ≤ ns.length
  | 0, i, e, h => by cases h
  | f + 1, i, e, h => by
    unfold endK at h
    cases hn : ns[i]? with
    | none => rw [hn] at h; cases h
    | some n =>
      rw [hn] at h
      have hi : i < ns.length := (List.getElem?_eq_some_iff.1 hn).1
      have w : ∀ (ks : List Int) (nx e : Nat), nx ≤ ns.length → walkK (endK ns f) ks nx = some e → nx ≤ e ∧ e ≤ ns.length := by
        intro ks
        induction ks with
        | nil => intro nx e hx he; obtain rfl := Option.some.inj he; exact ⟨Nat.le_refl _, hx⟩
        | cons k ks ih =>
          intro nx e hx he
          unfold walkK at he
          split at he
          · cases he
          · cases hg : endK ns f nx with
            | none => rw [hg] at he; cases he
            | some m =>
              rw [hg] at he
              have h1 := endK_bound ns f nx hg
              have h2 := ih m e h1.2 he
              exact ⟨by omega, h2.2⟩
      have := w n.kids (i + 1) e (by omega) h
      omega
/-- All kids of a part stand within it, behind their parents. -/
theorem endK_kids (ns : List Nd) : ∀ (f i : Nat) {e : Nat}, endK ns f i = some e → ∀ (j : Nat) (hj : j < ns.length), i ≤ j → j < e → ∀ k, k ∈ (ns[j]).kids → ∃ m : Nat, k = (m : Int) ∧ j < m ∧ m < e
  | 0, i, e, h => by cases h
  | f + 1, i, e, h => by
    have hb := endK_bound ns (f + 1) i h
    unfold endK at h
    cases hn : ns[i]? with
    | none => rw [hn] at h; cases h
    | some n =>
      rw [hn] at h
      obtain ⟨hi, hni⟩ := List.getElem?_eq_some_iff.1 hn
      have w : ∀ (ks : List Int) (nx e : Nat), i < nx → walkK (endK ns f) ks nx = some e → nx ≤ e ∧ (∀ k, k ∈ ks → ∃ m : Nat, k = (m : Int) ∧ i < m ∧ m < e) ∧ ∀ (j : Nat) (hj : j < ns.length), nx ≤ j → j < e → ∀ k, k ∈ (ns[j]).kids → ∃ m : Nat, k = (m : Int) ∧ j < m ∧ m < e := by
        intro ks
        induction ks with
        | nil =>
          intro nx e hx he
          obtain rfl := Option.some.inj he
          exact ⟨Nat.le_refl _, fun k hk => (by cases hk), fun j hj h1 h2 => absurd h1 (by omega)⟩
        | cons k0 ks ih =>
          intro nx e hx he
          unfold walkK at he
          split at he
          · cases he
          · rename_i hk0
            cases hg : endK ns f nx with
            | none => rw [hg] at he; cases he
            | some m =>
              rw [hg] at he
              have h1 := endK_bound ns f nx hg
              obtain ⟨h2, h3, h4⟩ := ih m e (by omega) he
              refine ⟨by omega, fun k hk => ?_, fun j hj h5 h6 k hk => ?_⟩
              · rw [List.mem_cons] at hk
                cases hk with
                | inl hk => exact ⟨nx, by rw [hk]; exact Classical.byContradiction hk0, by omega, by omega⟩
                | inr hk => exact h3 k hk
              · by_cases h7 : j < m
                · obtain ⟨q, g1, g2, g3⟩ := endK_kids ns f nx hg j hj h5 h7 k hk
                  exact ⟨q, g1, g2, by omega⟩
                · exact h4 j hj (by omega) h6 k hk
      obtain ⟨w1, w2, w3⟩ := w n.kids (i + 1) e (by omega) h
      intro j hj h1 h2 k hk
      by_cases hji : j = i
      · subst hji
        rw [hni] at hk
        exact w2 k hk
      · exact w3 j hj (by omega) h2 k hk
end Go.Proofs.YtlofoifcdmeopaaGreatDoor.V
namespace Go.Proofs.YtlofoifcdmeopaaGreatDoor.V
open Go Go.Ev Go.RowKit
set_option linter.unusedVariables false
set_option linter.unusedSimpArgs false
inductive PT where
  | mk : Nd → List PT → PT
def PT.nd : PT → Nd | .mk n _ => n
def PT.kids : PT → List PT | .mk _ ks => ks
mutual
def ptDat : PT → Dat
  | .mk n ks => ptD n (ptsDat ks)
def ptsDat : List PT → List Dat
  | [] => []
  | x :: l => ptDat x :: ptsDat l
end
mutual
def szP : PT → Nat
  | .mk _ ks => 1 + szsP ks
def szsP : List PT → Nat
  | [] => 0
  | x :: l => szP x + szsP l
end
def kidsAt : Nat → List PT → List Int
  | _, [] => []
  | m, x :: l => (m : Int) :: kidsAt (m + szP x) l
mutual
def flat : Nat → PT → List Nd
  | m, .mk n ks => { n with kids := kidsAt (m + 1) ks } :: flats (m + 1) ks
def flats : Nat → List PT → List Nd
  | _, [] => []
  | m, x :: l => flat m x ++ flats (m + szP x) l
end
mutual
theorem flat_len : ∀ (m : Nat) (x : PT), (flat m x).length = szP x
  | m, .mk n ks => by rw [flat, szP, List.length_cons, flats_len (m + 1) ks]; omega
theorem flats_len : ∀ (m : Nat) (l : List PT), (flats m l).length = szsP l
  | m, [] => rfl
  | m, x :: l => by rw [flats, szsP, List.length_append, flat_len m x, flats_len (m + szP x) l]
end
theorem szP_pos : ∀ x : PT, 1 ≤ szP x
  | .mk n ks => by rw [szP]; omega
theorem ptsDat_len : ∀ l : List PT, (ptsDat l).length = l.length
  | [] => rfl
  | x :: l => by rw [ptsDat, List.length_cons, List.length_cons, ptsDat_len l]
theorem ptsDat_rd : ∀ (pre : List PT) (x : PT) (rest : List PT), rd (ptsDat (pre ++ x :: rest)) pre.length = ptDat x
  | [], x, rest => rfl
  | y :: pre, x, rest => ptsDat_rd pre x rest
theorem len_szs : ∀ l : List PT, l.length ≤ szsP l
  | [] => Nat.le_refl _
  | x :: l => by have := szP_pos x; have := len_szs l; rw [szsP, List.length_cons]; omega
theorem kidsAt_len : ∀ (m : Nat) (l : List PT), (kidsAt m l).length = l.length
  | m, [] => rfl
  | m, x :: l => by rw [kidsAt, List.length_cons, List.length_cons, kidsAt_len]
theorem cap120t : capB 120 = 1172812402961 := by decide
theorem cap8t : capB 8 = 17592186044416 := by decide
theorem fin_setT (out rest : List Dat) (x : Nd) (ks : List Int) (kk : List Dat) (hk : kk = ks.map .int) : ((bif decide (0 ≤ (out.length : Int)) then (bif decide ((out.length : Int) < ((out ++ nodeD x :: rest).length : Int)) then (bif decide ((out.length : Int).toNat < (out ++ nodeD x :: rest).length) then (some [.list ((out ++ nodeD x :: rest).set (out.length : Int).toNat (.agg [(rd (out ++ nodeD x :: rest) (out.length : Int).toNat).C 0, (rd (out ++ nodeD x :: rest) (out.length : Int).toNat).C 1, (rd (out ++ nodeD x :: rest) (out.length : Int).toNat).C 2, (rd (out ++ nodeD x :: rest) (out.length : Int).toNat).C 3, (rd (out ++ nodeD x :: rest) (out.length : Int).toNat).C 4, (rd (out ++ nodeD x :: rest) (out.length : Int).toNat).C 5, (rd (out ++ nodeD x :: rest) (out.length : Int).toNat).C 6, (rd (out ++ nodeD x :: rest) (out.length : Int).toNat).C 7, (rd (out ++ nodeD x :: rest) (out.length : Int).toNat).C 8, .list kk]))]) else none) else none) else none) : R) = some [.list (out ++ nodeD { x with kids := ks } :: rest)] := by
  subst hk
  rw [ixT ⟨by omega, by simp; omega⟩, Int.toNat_natCast, show rd (out ++ nodeD x :: rest) out.length = nodeD x by simp [rd, List.getD_eq_getElem?_getD], List.set_append_right _ _ (Nat.le_refl _), Nat.sub_self]
  rfl
/-- What number answers at a part. -/
def NumE (x : PT) : Prop := ∀ out : List Dat, out.length + szP x ≤ 1000000 → E C 69 [ptV x.nd (ptsDat x.kids), .own 1 0 38 out] = some [.list (out ++ nsD (flat out.length x))]
theorem num_loopT (n : Nd) (ks : List PT) (hall : ∀ x, x ∈ ks → NumE x) (out : List Dat) (hsz : out.length + 1 + szsP ks ≤ 1000000) (z : List Dat) : ∀ (rest pre : List PT) (acc : List Dat) (kk : List Int), ks = pre ++ rest → acc.length = szsP pre → kk.length = pre.length → szsP pre + szsP rest = szsP ks →
    M69_1 n.kind n.frm n.to n.num n.min n.max n.mode n.name (rs n.set) (n.kids.map .int) (ptsDat ks) (out ++ nodeD n :: acc) n.kind n.frm n.to n.num n.min n.max n.mode n.name (rs n.set) (n.kids.map .int) (ptsDat ks) z (out.length : Int) (kk.map .int) (ptsDat ks) ((ptsDat ks).length : Int) (pre.length : Int) = some [.list (out ++ nodeD { n with kids := kk ++ kidsAt (out.length + 1 + acc.length) rest } :: (acc ++ nsD (flats (out.length + 1 + acc.length) rest)))]
  | [], pre, acc, kk, e, ha, hk, hs => by
    rw [List.append_nil] at e
    apply M69_1_of
    rw [e, ptsDat_len, dF (by omega)]
    refine (fin_setT out acc n kk _ rfl).trans ?_
    rw [kidsAt, List.append_nil, flats]
    simp [nsD]
  | .mk m ms :: rest, pre, acc, kk, e, ha, hk, hs => by
    have hx := hall (.mk m ms) (by rw [e]; simp)
    have hp := len_szs pre
    have hz1 := szP_pos (.mk m ms)
    rw [szsP] at hs
    have hE := hx (out ++ nodeD n :: acc) (by rw [List.length_append, List.length_cons, ha]; omega)
    have hlen : (out ++ nodeD n :: acc).length = out.length + 1 + acc.length := by rw [List.length_append, List.length_cons]; omega
    have hrec := num_loopT n ks hall out hsz z rest (pre ++ [.mk m ms]) (acc ++ nsD (flat (out.length + 1 + acc.length) (.mk m ms))) (kk ++ [((out.length + 1 + acc.length : Nat) : Int)]) (by rw [e, List.append_assoc]; rfl) (by rw [List.length_append, nsD_len, flat_len, ha, szs_app, szsP, szsP]; omega) (by rw [List.length_append, List.length_append, hk]; rfl) (by rw [szs_app, szsP, szsP]; omega)
    have hks : ks.length = pre.length + (rest.length + 1) := by rw [e, List.length_append, List.length_cons]
    have hks2 := len_szs ks
    apply M69_1_of
    rw [dT (by rw [ptsDat_len]; omega), ixT ⟨by omega, by rw [ptsDat_len]; omega⟩, cap8t, dT (by rw [List.length_map, hk]; show _ + 1 ≤ _; omega), Int.toNat_natCast]
    have hr : rd (ptsDat ks) pre.length = ptD m (ptsDat ms) := by rw [e, ptsDat_rd]; rfl
    rw [hr]
    simp only [stP, agA]
    refine (bT hE).trans ?_
    simp only [stP, agA]
    rw [hlen, upT (n := ks.length) (by omega) (by omega)]
    rw [List.length_append, List.length_cons, List.length_nil] at hrec
    rw [List.length_append, nsD_len, flat_len] at hrec
    have e1 : kk.map Dat.int ++ [Dat.int ((out.length + 1 + acc.length : Nat) : Int)] = (kk ++ [((out.length + 1 + acc.length : Nat) : Int)]).map .int := by simp
    have e2 : out ++ nodeD n :: acc ++ nsD (flat (out.length + 1 + acc.length) (.mk m ms)) = out ++ nodeD n :: (acc ++ nsD (flat (out.length + 1 + acc.length) (.mk m ms))) := by simp
    rw [e1, e2]
    refine hrec.trans ?_
    rw [kidsAt, flats, ← Nat.add_assoc]
    simp [nsD, List.append_assoc]
where
  szs_app : ∀ (a b : List PT), szsP (a ++ b) = szsP a + szsP b
    | [], b => by rw [List.nil_append, szsP]; omega
    | x :: a, b => by rw [List.cons_append, szsP, szsP, szs_app a b]; omega
  upT {k n : Nat} (h : k < n) (hn : n ≤ 20000000000000) : IntKind.i64.wrap ((k : Int) + 1) = ((k + 1 : Nat) : Int) := by rw [w64 (by omega) (by omega)]; omega
mutual
theorem number_T : ∀ x : PT, NumE x
  | .mk n ks => fun out ho => by
    rw [szP] at ho
    have hl := len_szs ks
    apply o69
    rw [cap120t, dT (by show out.length + 1 ≤ _; omega)]
    have := num_loopT n ks (numbers_T ks) out (by omega) [] ks [] [] [] rfl rfl rfl (by rw [szsP]; omega)
    refine this.trans ?_
    rw [flat]
    rfl
theorem numbers_T : ∀ (ks : List PT), ∀ x, x ∈ ks → NumE x
  | [], x, h => by cases h
  | y :: l, x, h => by
    rw [List.mem_cons] at h
    rcases h with rfl | h
    · exact number_T x
    · exact numbers_T l x h
end
/-! What is numbered is laid. -/
mutual
theorem flat_laid (ns : List Nd) : ∀ (x : PT) (i f : Nat), (∀ j, j < szP x → ns[i + j]? = (flat i x)[j]?) → szP x ≤ f → endK ns f i = some (i + szP x)
  | .mk n ks, i, f, h, hf => by
    rw [szP] at hf
    obtain ⟨g, rfl⟩ : ∃ g, f = g + 1 := ⟨f - 1, by omega⟩
    have h0 := h 0 (by rw [szP]; omega)
    rw [flat, Nat.add_zero] at h0
    unfold endK
    rw [h0]
    show walkK (endK ns g) (kidsAt (i + 1) ks) (i + 1) = _
    rw [flats_laid ns ks (i + 1) g (fun j hj => by
      have := h (j + 1) (by rw [szP]; omega)
      rw [flat, List.getElem?_cons_succ] at this
      rw [← this]
      congr 1
      omega) (by omega), szP]
    congr 1
    omega
theorem flats_laid (ns : List Nd) : ∀ (l : List PT) (i f : Nat), (∀ j, j < szsP l → ns[i + j]? = (flats i l)[j]?) → szsP l ≤ f → walkK (endK ns f) (kidsAt i l) i = some (i + szsP l)
  | [], i, f, h, hf => by rw [kidsAt, szsP]; rfl
  | x :: l, i, f, h, hf => by
    rw [szsP] at hf
    have h1 := flat_laid ns x i f (fun j hj => by
      have := h j (by rw [szsP]; omega)
      rw [this, flats, List.getElem?_append_left (by rw [flat_len]; exact hj)]) (by omega)
    have h2 := flats_laid ns l (i + szP x) f (fun j hj => by
      have := h (szP x + j) (by rw [szsP]; omega)
      rw [flats, List.getElem?_append_right (by rw [flat_len]; omega), flat_len, Nat.add_sub_cancel_left] at this
      rw [← this, Nat.add_assoc]) (by omega)
    rw [kidsAt]
    unfold walkK
    rw [if_neg (fun q => q rfl), h1]
    show walkK (endK ns f) (kidsAt (i + szP x) l) (i + szP x) = _
    rw [h2, szsP]
    congr 1
    omega
end
theorem flat_all (x : PT) : endK (flat 0 x) ((flat 0 x).length + 1) 0 = some (flat 0 x).length := by
  have := flat_laid (flat 0 x) x 0 ((flat 0 x).length + 1) (fun j _ => by rw [Nat.zero_add]) (by rw [flat_len]; omega)
  rw [this, flat_len, Nat.zero_add]
/-! A property of each node, with as many kids as it has. -/
mutual
def AllP (p : Nd → List PT → Prop) : PT → Prop
  | .mk n ks => p n ks ∧ AllsP p ks
def AllsP (p : Nd → List PT → Prop) : List PT → Prop
  | [] => True
  | x :: l => AllP p x ∧ AllsP p l
end
end Go.Proofs.YtlofoifcdmeopaaGreatDoor.V
namespace Go.Proofs.YtlofoifcdmeopaaGreatDoor.V
open Go Go.Ev Go.RowKit
set_option linter.unusedVariables false
set_option linter.unusedSimpArgs false
mutual
def grpsP : PT → List (Int × ByteArray)
  | .mk n ks => (if n.kind = 7 then [(n.num, n.name)] else []) ++ grpsL ks
def grpsL : List PT → List (Int × ByteArray)
  | [] => []
  | x :: l => grpsP x ++ grpsL l
end
def numb : Int → List ByteArray → List (Int × ByteArray)
  | _, [] => []
  | g, a :: l => (g, a) :: numb (g + 1) l
theorem numb_app : ∀ (g : Int) (a c : List ByteArray), numb g (a ++ c) = numb g a ++ numb (g + a.length) c
  | g, [], c => by simp [numb]
  | g, x :: a, c => by
    rw [List.cons_append, numb, numb, numb_app (g + 1) a c, List.length_cons, List.cons_append, show g + 1 + (a.length : Int) = g + ((a.length + 1 : Nat) : Int) by omega]
/-- The groups that were read between two states. -/
def Grp (s s' : PS) (l : List (Int × ByteArray)) : Prop := ∃ ns, s'.nm = s.nm ++ ns ∧ s'.gr = s.gr + (ns.length : Int) ∧ l = numb (s.gr + 1) ns
theorem Grp.none {s s' : PS} (h1 : s'.nm = s.nm) (h2 : s'.gr = s.gr) : Grp s s' [] := ⟨[], by rw [h1, List.append_nil], by rw [h2]; simp, rfl⟩
theorem Grp.trans {s t u : PS} {l m : List (Int × ByteArray)} (h1 : Grp s t l) (h2 : Grp t u m) : Grp s u (l ++ m) := by
  obtain ⟨a, a1, a2, rfl⟩ := h1
  obtain ⟨c, c1, c2, rfl⟩ := h2
  exact ⟨a ++ c, by rw [c1, a1, List.append_assoc], by rw [c2, a2, List.length_append]; omega, by rw [numb_app, a2, show s.gr + (a.length : Int) + 1 = s.gr + 1 + (a.length : Int) by omega]⟩
/-- What a node is by itself, and that its kids stand within it. -/
def AlF (n : Nd) (ks : List PT) : Prop := AloneN n ks.length ∧ ∀ k, k ∈ ks → n.frm ≤ k.nd.frm ∧ k.nd.to ≤ n.to
theorem AlF.leaf {n : Nd} (h : AloneN n 0) : AlF n [] := ⟨h, fun k hk => by cases hk⟩
theorem AlF.one {n : Nd} {x : PT} (h : AloneN n 1) (h1 : n.frm ≤ x.nd.frm) (h2 : x.nd.to ≤ n.to) : AlF n [x] := ⟨h, fun k hk => by rw [List.mem_singleton] at hk; rw [hk]; exact ⟨h1, h2⟩⟩
/-- A part that was read between two states. -/
def PartOk (s : PS) (x : PT) (s' : PS) : Prop := AllP AlF x ∧ s.k ≤ x.nd.frm ∧ x.nd.frm ≤ x.nd.to ∧ x.nd.to ≤ s'.k ∧ s.k ≤ s'.k ∧ 1 ≤ x.nd.kind ∧ Grp s s' (grpsP x)
def AltSpec (b : List Int) (d : Int) : Prop := ∀ s, SOk b s → s.e = 0 → ∃ x s', E C 66 [pv b s, .int .i64 d] = some [ptDat x, pd b s'] ∧ SOk b s' ∧ (s'.e = 0 → PartOk s x s' ∧ ((szP x : Nat) : Int) ≤ 8 * (s'.k - s.k) + 1)
theorem cap16g : capB 16 = 8796093022208 := by decide
theorem group_T {b : List Int} (hl : b.length ≤ 4096) {d : Int} (IH : d ≤ 100 → AltSpec b d) {s : PS} (hs : SOk b s) (he : s.e = 0) (hk : s.k < (b.length : Int)) : ∃ x may s', E C 206 [pv b s, .int .i64 d] = some [ptDat x, .bool may, pd b s'] ∧ SOk b s' ∧ (s'.e = 0 → s.k < s'.k ∧ ((x = .mk nd0P [] ∧ may = false ∧ Grp s s' []) ∨ (PartOk s x s' ∧ ((szP x : Nat) : Int) ≤ 8 * (s'.k - s.k)))) := by
  have k0 := hs.k0
  by_cases hd : d > 100
  · have hF := hs.fail 39 s.k (by decide) (fun _ => ⟨k0, by omega⟩)
    refine ⟨.mk nd0P [], false, failS s 39 s.k, ?_, hF.1, fun q => absurd q hF.2⟩
    rw [ptDat]
    apply o206
    rw [dT hd, bT (fail_E b s 39 s.k)]
    rfl
  have IH' := IH (by omega)
  obtain ⟨kind, num, a, h1, h2, h3, h4, no, s1, r1, r2, r3, r4, r5⟩ := open_T hl hs he hk
  have hs2 : SOk b { s1 with fo := h1, li := h2, al := h3, wi := h4 } := ⟨r2.k0, r2.k1, r2.kE, r2.g0, r2.g1, r2.nm, r2.nms, r2.wh⟩
  cases no with
  | true =>
    refine ⟨.mk nd0P [], false, { s1 with fo := h1, li := h2, al := h3, wi := h4 }, ?_, hs2, fun q => ⟨(r5 q).1, .inl ⟨rfl, rfl, Grp.none r4 r3⟩⟩⟩
    rw [ptDat]
    apply o206
    rw [dF hd, bT r1]
    simp only [stP, opA]
    rfl
  | false =>
  by_cases e1n : s1.e ≠ 0
  · refine ⟨.mk nd0P [], false, { s1 with fo := h1, li := h2, al := h3, wi := h4 }, ?_, hs2, fun q => absurd q e1n⟩
    rw [ptDat]
    apply o206
    rw [dF hd, bT r1]
    simp only [stP, opA]
    rw [cond_false, neT e1n]
    rfl
  have e1 : s1.e = 0 := by omega
  obtain ⟨p1, p2⟩ := r5 e1
  have p3 := p2 rfl
  have kE1 := r2.kE e1
  by_cases k7 : kind = 7
  · obtain ⟨n0, ha⟩ : num = 0 ∧ (a.size : Int) ≤ 32 := by
      rcases p3 with q | q | q | q
      · omega
      · exact ⟨q.2.1, q.2.2⟩
      · omega
      · omega
    by_cases g99 : s1.gr = 99
    · have hF := r2.fail 40 s.k (by decide) (fun _ => ⟨k0, by omega⟩)
      refine ⟨.mk nd0P [], false, failS s1 40 s.k, ?_, hF.1, fun q => absurd q hF.2⟩
      rw [ptDat]
      apply o206
      rw [dF hd, bT r1]
      simp only [stP, opA]
      rw [cond_false, neF e1, eT k7, eT g99, bT (fail_E b s1 40 s.k)]
      rfl
    have gg := r2.g0
    have gg1 := r2.g1
    have nn := r2.nm
    obtain ⟨x, s3, iE, i1, i2⟩ := IH' { s1 with fo := h1, li := h2, al := h3, wi := h4, gr := s1.gr + 1, nm := s1.nm ++ [a] } ⟨r2.k0, r2.k1, r2.kE, by show 0 ≤ s1.gr + 1; omega, by show s1.gr + 1 ≤ 99; omega, by show ((s1.nm ++ [a]).length : Int) = s1.gr + 1 + 1; rw [List.length_append]; simp; omega, fun y hy => by
      have hy' : y ∈ s1.nm ++ [a] := hy
      rw [List.mem_append] at hy'
      rcases hy' with hy' | hy'
      · exact r2.nms y hy'
      · rw [List.mem_singleton] at hy'; rw [hy']; exact ha, r2.wh⟩ e1
    obtain ⟨n, ks⟩ := x
    rw [ptDat] at iE
    have hs4 : SOk b { s3 with fo := s1.fo, li := s1.li, al := s1.al, wi := s1.wi } := ⟨i1.k0, i1.k1, i1.kE, i1.g0, i1.g1, i1.nm, i1.nms, i1.wh⟩
    by_cases c41 : atB b s3.k = 41
    · cases ho : overB b { s3 with fo := s1.fo, li := s1.li, al := s1.al, wi := s1.wi } with
      | true =>
        have hF := hs4.fail 30 s.k (by decide) (fun _ => ⟨k0, by omega⟩)
        refine ⟨.mk nd0P [], false, failS { s3 with fo := s1.fo, li := s1.li, al := s1.al, wi := s1.wi } 30 s.k, ?_, hF.1, fun q => absurd q hF.2⟩
        rw [ptDat]
        apply o206
        rw [dF hd, bT r1]
        simp only [stP, opA]
        rw [cond_false, neF e1, eT k7, eF g99, cap16g, List.length_map, dT (by show s1.nm.length + 1 ≤ _; omega), w64 (n := s1.gr + 1) (by omega) (by omega), show s1.nm.map Dat.str ++ [Dat.str a] = (s1.nm ++ [a]).map .str by simp]
        refine (bT iE).trans ?_
        simp only [stP, opA]
        rw [bT (byteAt_E b { s3 with fo := s1.fo, li := s1.li, al := s1.al, wi := s1.wi } _ i1.k0)]
        simp only [stP, opA]
        rw [neF c41, bT (over_E b { s3 with fo := s1.fo, li := s1.li, al := s1.al, wi := s1.wi }), ho]
        simp only [stP, opA]
        rw [cond_true, bT (fail_E b { s3 with fo := s1.fo, li := s1.li, al := s1.al, wi := s1.wi } 30 s.k)]
        rfl
      | false =>
        unfold overB at ho
        simp only [Bool.or_eq_false_iff, decide_eq_false_iff_not, bne_eq_false_iff_eq] at ho
        obtain ⟨e3, k3⟩ := ho
        obtain ⟨⟨g1, g2, g3, g4, g5, g6, g7⟩, gz⟩ := i2 e3
        have k30 := i1.k0
        refine ⟨.mk ⟨7, s.k, s3.k + 1, s1.gr + 1, 0, 0, 0, a, [], []⟩ [.mk n ks], true, { s3 with k := s3.k + 1, fo := s1.fo, li := s1.li, al := s1.al, wi := s1.wi }, ?_, ⟨by show 0 ≤ s3.k + 1; omega, by show s3.k + 1 ≤ _; omega, fun _ => by show s3.k + 1 ≤ _; omega, i1.g0, i1.g1, i1.nm, i1.nms, i1.wh⟩, fun _ => ⟨by show s.k < s3.k + 1; (have hst : s1.k ≤ s3.k := g5; omega), .inr ⟨?_, by
            have hst : s1.k ≤ s3.k := g5
            have gz' : ((szP (PT.mk n ks) : Nat) : Int) ≤ 8 * (s3.k - s1.k) + 1 := gz
            show ((szP (PT.mk _ [PT.mk n ks]) : Nat) : Int) ≤ 8 * (s3.k + 1 - s.k)
            rw [szP, szsP, szsP]
            omega⟩⟩⟩
        · rw [ptDat, ptsDat, ptsDat, ptDat]
          apply o206
          rw [dF hd, bT r1]
          simp only [stP, opA]
          rw [cond_false, neF e1, eT k7, eF g99, cap16g, List.length_map, dT (by show s1.nm.length + 1 ≤ _; omega), w64 (n := s1.gr + 1) (by omega) (by omega), show s1.nm.map Dat.str ++ [Dat.str a] = (s1.nm ++ [a]).map .str by simp]
          refine (bT iE).trans ?_
          simp only [stP, opA]
          rw [bT (byteAt_E b { s3 with fo := s1.fo, li := s1.li, al := s1.al, wi := s1.wi } _ i1.k0)]
          simp only [stP, opA]
          rw [neF c41, bT (over_E b { s3 with fo := s1.fo, li := s1.li, al := s1.al, wi := s1.wi }), show overB b { s3 with fo := s1.fo, li := s1.li, al := s1.al, wi := s1.wi } = false by unfold overB; rw [show (s3.e != 0) = false by simp [e3], decide_eq_false k3]; rfl]
          simp only [stP, opA]
          rw [cond_false, eF (show kind ≠ 0 by omega), k7, w64 (n := s3.k + 1) (by omega) (by omega)]
          rfl
        · have g1' : s1.k ≤ n.frm := g2
          have hst : s1.k ≤ s3.k := g5
          refine ⟨?_, Int.le_refl _, ?_, Int.le_refl _, ?_, by show (1 : Int) ≤ 7; decide, ?_⟩
          · rw [AllP]
            exact ⟨AlF.one (alone_group k0 (by omega) (by omega) ha ⟨by omega, by omega⟩) (by show s.k ≤ n.frm; omega) (by show n.to ≤ s3.k + 1; (have g4' : n.to ≤ s3.k := g4; omega)), by rw [AllsP, AllsP]; exact ⟨g1, trivial⟩⟩
          · show s.k ≤ s3.k + 1; omega
          · show s.k ≤ s3.k + 1; omega
          · obtain ⟨ns, m1, m2, m3⟩ := g7
            refine ⟨a :: ns, ?_, ?_, ?_⟩
            · show s3.nm = _
              rw [m1, ← r4, List.append_assoc]; rfl
            · show s3.gr = _
              rw [m2, List.length_cons, ← r3]
              show s1.gr + 1 + _ = _
              omega
            · rw [grpsP, grpsL, grpsL, if_pos rfl, List.append_nil, m3, numb, ← r3]
              rfl
    · have hF := hs4.fail 30 s.k (by decide) (fun _ => ⟨k0, by omega⟩)
      refine ⟨.mk nd0P [], false, failS { s3 with fo := s1.fo, li := s1.li, al := s1.al, wi := s1.wi } 30 s.k, ?_, hF.1, fun q => absurd q hF.2⟩
      rw [ptDat]
      apply o206
      rw [dF hd, bT r1]
      simp only [stP, opA]
      rw [cond_false, neF e1, eT k7, eF g99, cap16g, List.length_map, dT (by show s1.nm.length + 1 ≤ _; omega), w64 (n := s1.gr + 1) (by omega) (by omega), show s1.nm.map Dat.str ++ [Dat.str a] = (s1.nm ++ [a]).map .str by simp]
      refine (bT iE).trans ?_
      simp only [stP, opA]
      rw [bT (byteAt_E b { s3 with fo := s1.fo, li := s1.li, al := s1.al, wi := s1.wi } _ i1.k0)]
      simp only [stP, opA]
      rw [neT c41, bT (fail_E b { s3 with fo := s1.fo, li := s1.li, al := s1.al, wi := s1.wi } 30 s.k)]
      rfl
  · obtain ⟨x, s3, iE, i1, i2⟩ := IH' { s1 with fo := h1, li := h2, al := h3, wi := h4 } hs2 e1
    obtain ⟨n, ks⟩ := x
    rw [ptDat] at iE
    by_cases k00 : kind = 0
    · have hs4 : SOk b { s3 with fo := s1.fo, li := s1.li, al := s1.al, wi := s1.wi } := ⟨i1.k0, i1.k1, i1.kE, i1.g0, i1.g1, i1.nm, i1.nms, i1.wh⟩
      by_cases c41 : atB b s3.k = 41
      · cases ho : overB b { s3 with fo := s1.fo, li := s1.li, al := s1.al, wi := s1.wi } with
        | true =>
          have hF := hs4.fail 30 s.k (by decide) (fun _ => ⟨k0, by omega⟩)
          refine ⟨.mk nd0P [], false, failS { s3 with fo := s1.fo, li := s1.li, al := s1.al, wi := s1.wi } 30 s.k, ?_, hF.1, fun q => absurd q hF.2⟩
          rw [ptDat]
          apply o206
          rw [dF hd, bT r1]
          simp only [stP, opA]
          rw [cond_false, neF e1, eF k7]
          refine (bT iE).trans ?_
          simp only [stP, opA]
          rw [bT (byteAt_E b { s3 with fo := s1.fo, li := s1.li, al := s1.al, wi := s1.wi } _ i1.k0)]
          simp only [stP, opA]
          rw [neF c41, bT (over_E b { s3 with fo := s1.fo, li := s1.li, al := s1.al, wi := s1.wi }), ho]
          simp only [stP, opA]
          rw [cond_true, bT (fail_E b { s3 with fo := s1.fo, li := s1.li, al := s1.al, wi := s1.wi } 30 s.k)]
          rfl
        | false =>
          unfold overB at ho
          simp only [Bool.or_eq_false_iff, decide_eq_false_iff_not, bne_eq_false_iff_eq] at ho
          obtain ⟨e3, k3⟩ := ho
          obtain ⟨⟨g1, g2, g3, g4, g5, g6, g7⟩, gz⟩ := i2 e3
          have k30 := i1.k0
          refine ⟨.mk n ks, true, { s3 with k := s3.k + 1, fo := s1.fo, li := s1.li, al := s1.al, wi := s1.wi }, ?_, ⟨by show 0 ≤ s3.k + 1; omega, by show s3.k + 1 ≤ _; omega, fun _ => by show s3.k + 1 ≤ _; omega, i1.g0, i1.g1, i1.nm, i1.nms, i1.wh⟩, fun _ => ⟨by show s.k < s3.k + 1; (have hst : s1.k ≤ s3.k := g5; omega), .inr ⟨?_, by
            have hst : s1.k ≤ s3.k := g5
            have gz' : ((szP (PT.mk n ks) : Nat) : Int) ≤ 8 * (s3.k - s1.k) + 1 := gz
            show ((szP (PT.mk n ks) : Nat) : Int) ≤ 8 * (s3.k + 1 - s.k)
            omega⟩⟩⟩
          · rw [ptDat]
            apply o206
            rw [dF hd, bT r1]
            simp only [stP, opA]
            rw [cond_false, neF e1, eF k7]
            refine (bT iE).trans ?_
            simp only [stP, opA]
            rw [bT (byteAt_E b { s3 with fo := s1.fo, li := s1.li, al := s1.al, wi := s1.wi } _ i1.k0)]
            simp only [stP, opA]
            rw [neF c41, bT (over_E b { s3 with fo := s1.fo, li := s1.li, al := s1.al, wi := s1.wi }), show overB b { s3 with fo := s1.fo, li := s1.li, al := s1.al, wi := s1.wi } = false by unfold overB; rw [show (s3.e != 0) = false by simp [e3], decide_eq_false k3]; rfl]
            simp only [stP, opA]
            rw [cond_false, eT k00, w64 (n := s3.k + 1) (by omega) (by omega)]
            rfl
          · have g1' : s1.k ≤ n.frm := g2
            have hst : s1.k ≤ s3.k := g5
            refine ⟨g1, Int.le_trans (Int.le_of_lt p1) g2, g3, ?_, ?_, g6, ?_⟩
            · show n.to ≤ s3.k + 1
              have : n.to ≤ s3.k := g4
              omega
            · show s.k ≤ s3.k + 1; omega
            · obtain ⟨ns, m1, m2, m3⟩ := g7
              exact ⟨ns, by show s3.nm = _; rw [m1, ← r4], by show s3.gr = _; rw [m2, ← r3], by rw [m3, ← r3]⟩
      · have hF := hs4.fail 30 s.k (by decide) (fun _ => ⟨k0, by omega⟩)
        refine ⟨.mk nd0P [], false, failS { s3 with fo := s1.fo, li := s1.li, al := s1.al, wi := s1.wi } 30 s.k, ?_, hF.1, fun q => absurd q hF.2⟩
        rw [ptDat]
        apply o206
        rw [dF hd, bT r1]
        simp only [stP, opA]
        rw [cond_false, neF e1, eF k7]
        refine (bT iE).trans ?_
        simp only [stP, opA]
        rw [bT (byteAt_E b { s3 with fo := s1.fo, li := s1.li, al := s1.al, wi := s1.wi } _ i1.k0)]
        simp only [stP, opA]
        rw [neT c41, bT (fail_E b { s3 with fo := s1.fo, li := s1.li, al := s1.al, wi := s1.wi } 30 s.k)]
        rfl
    · have hs4 : SOk b { s3 with fo := s1.fo, li := s1.li, al := s1.al, wi := s1.wi } := ⟨i1.k0, i1.k1, i1.kE, i1.g0, i1.g1, i1.nm, i1.nms, i1.wh⟩
      by_cases c41 : atB b s3.k = 41
      · cases ho : overB b { s3 with fo := s1.fo, li := s1.li, al := s1.al, wi := s1.wi } with
        | true =>
          have hF := hs4.fail 30 s.k (by decide) (fun _ => ⟨k0, by omega⟩)
          refine ⟨.mk nd0P [], false, failS { s3 with fo := s1.fo, li := s1.li, al := s1.al, wi := s1.wi } 30 s.k, ?_, hF.1, fun q => absurd q hF.2⟩
          rw [ptDat]
          apply o206
          rw [dF hd, bT r1]
          simp only [stP, opA]
          rw [cond_false, neF e1, eF k7]
          refine (bT iE).trans ?_
          simp only [stP, opA]
          rw [bT (byteAt_E b { s3 with fo := s1.fo, li := s1.li, al := s1.al, wi := s1.wi } _ i1.k0)]
          simp only [stP, opA]
          rw [neF c41, bT (over_E b { s3 with fo := s1.fo, li := s1.li, al := s1.al, wi := s1.wi }), ho]
          simp only [stP, opA]
          rw [cond_true, bT (fail_E b { s3 with fo := s1.fo, li := s1.li, al := s1.al, wi := s1.wi } 30 s.k)]
          rfl
        | false =>
          unfold overB at ho
          simp only [Bool.or_eq_false_iff, decide_eq_false_iff_not, bne_eq_false_iff_eq] at ho
          obtain ⟨e3, k3⟩ := ho
          obtain ⟨⟨g1, g2, g3, g4, g5, g6, g7⟩, gz⟩ := i2 e3
          have k30 := i1.k0
          refine ⟨.mk ⟨kind, s.k, s3.k + 1, num, 0, 0, 0, a, [], []⟩ [.mk n ks], true, { s3 with k := s3.k + 1, fo := s1.fo, li := s1.li, al := s1.al, wi := s1.wi }, ?_, ⟨by show 0 ≤ s3.k + 1; omega, by show s3.k + 1 ≤ _; omega, fun _ => by show s3.k + 1 ≤ _; omega, i1.g0, i1.g1, i1.nm, i1.nms, i1.wh⟩, fun _ => ⟨by show s.k < s3.k + 1; (have hst : s1.k ≤ s3.k := g5; omega), .inr ⟨?_, by
            have hst : s1.k ≤ s3.k := g5
            have gz' : ((szP (PT.mk n ks) : Nat) : Int) ≤ 8 * (s3.k - s1.k) + 1 := gz
            show ((szP (PT.mk _ [PT.mk n ks]) : Nat) : Int) ≤ 8 * (s3.k + 1 - s.k)
            rw [szP, szsP, szsP]
            omega⟩⟩⟩
          · rw [ptDat, ptsDat, ptsDat, ptDat]
            apply o206
            rw [dF hd, bT r1]
            simp only [stP, opA]
            rw [cond_false, neF e1, eF k7]
            refine (bT iE).trans ?_
            simp only [stP, opA]
            rw [bT (byteAt_E b { s3 with fo := s1.fo, li := s1.li, al := s1.al, wi := s1.wi } _ i1.k0)]
            simp only [stP, opA]
            rw [neF c41, bT (over_E b { s3 with fo := s1.fo, li := s1.li, al := s1.al, wi := s1.wi }), show overB b { s3 with fo := s1.fo, li := s1.li, al := s1.al, wi := s1.wi } = false by unfold overB; rw [show (s3.e != 0) = false by simp [e3], decide_eq_false k3]; rfl]
            simp only [stP, opA]
            rw [cond_false, eF k00, w64 (n := s3.k + 1) (by omega) (by omega)]
            rfl
          · have g1' : s1.k ≤ n.frm := g2
            have hst : s1.k ≤ s3.k := g5
            have hal : AloneN ⟨kind, s.k, s3.k + 1, num, 0, 0, 0, a, [], []⟩ 1 ∧ kind ≠ 7 ∧ 1 ≤ kind := by
              rcases p3 with q | q | ⟨q1, q2, q3⟩ | ⟨q1, q2, q3⟩
              · exact absurd q.1 k00
              · exact absurd q.1 k7
              · subst q1 q2 q3
                exact ⟨alone_atomic k0 (by omega) (by omega), by decide, by decide⟩
              · subst q1 q3
                exact ⟨alone_look k0 (by omega) (by omega) q2, by decide, by decide⟩
            refine ⟨?_, Int.le_refl _, ?_, Int.le_refl _, ?_, hal.2.2, ?_⟩
            · rw [AllP]
              exact ⟨AlF.one hal.1 (by show s.k ≤ n.frm; (have g1' : s1.k ≤ n.frm := g2; omega)) (by show n.to ≤ s3.k + 1; (have g4' : n.to ≤ s3.k := g4; omega)), by rw [AllsP, AllsP]; exact ⟨g1, trivial⟩⟩
            · show s.k ≤ s3.k + 1; omega
            · show s.k ≤ s3.k + 1; omega
            · obtain ⟨ns, m1, m2, m3⟩ := g7
              refine ⟨ns, by show s3.nm = _; rw [m1, ← r4], by show s3.gr = _; rw [m2, ← r3], ?_⟩
              rw [grpsP, grpsL, grpsL, if_neg hal.2.1, List.append_nil, m3, ← r3]
              rfl
      · have hF := hs4.fail 30 s.k (by decide) (fun _ => ⟨k0, by omega⟩)
        refine ⟨.mk nd0P [], false, failS { s3 with fo := s1.fo, li := s1.li, al := s1.al, wi := s1.wi } 30 s.k, ?_, hF.1, fun q => absurd q hF.2⟩
        rw [ptDat]
        apply o206
        rw [dF hd, bT r1]
        simp only [stP, opA]
        rw [cond_false, neF e1, eF k7]
        refine (bT iE).trans ?_
        simp only [stP, opA]
        rw [bT (byteAt_E b { s3 with fo := s1.fo, li := s1.li, al := s1.al, wi := s1.wi } _ i1.k0)]
        simp only [stP, opA]
        rw [neT c41, bT (fail_E b { s3 with fo := s1.fo, li := s1.li, al := s1.al, wi := s1.wi } 30 s.k)]
        rfl
end Go.Proofs.YtlofoifcdmeopaaGreatDoor.V
namespace Go.Proofs.YtlofoifcdmeopaaGreatDoor.V
open Go Go.Ev Go.RowKit
set_option linter.unusedVariables false
set_option linter.unusedSimpArgs false
theorem brQ_to {b : List Int} {i : Nat} {lo hi : Int} {to : Nat} (h : brQ b i = some (lo, hi, to)) : i < to := by
  unfold brQ at h
  split at h
  · cases h
  split at h
  · split at h
    · simp only [Option.some.injEq, Prod.mk.injEq] at h
      omega
    · cases h
  · split at h
    · simp only [Option.some.injEq, Prod.mk.injEq] at h
      omega
    · cases h
/-- What a quantifier may be. -/
def QOk (b : List Int) (k q0 q1 q2 q3 : Int) : Prop := (0 ≤ q0 ∧ q0 ≤ 1000) ∧ (q1 = -1 ∨ (q0 ≤ q1 ∧ 1 ≤ q1 ∧ q1 ≤ 1000)) ∧ 0 ≤ q2 ∧ k < q3 ∧ q3 ≤ (b.length : Int)
theorem fin_T {b : List Int} {k lo hi : Int} {to : Nat} (h0 : 0 ≤ lo) (h1 : -1 ≤ hi) (h2 : k < (to : Int)) (h3 : to ≤ b.length) : ∃ q0 q1 q2 q3 : Int, ∃ ok : Bool, ∃ e : Int, finC b lo hi to = [.agg [.int q0, .int q1, .int q2, .int q3], .bool ok, .int e] ∧ (ok = true → e = 0 ∧ QOk b k q0 q1 q2 q3) ∧ (ok = false → e = 34) := by
  unfold finC
  by_cases c : lo > 1000 ∨ hi > 1000 ∨ hi = 0 ∨ (hi > 0 ∧ hi < lo)
  · rw [if_pos c]; exact ⟨_, _, _, _, _, _, rfl, fun h => (by cases h), fun _ => rfl⟩
  rw [if_neg c]
  by_cases c1 : atB b (to : Int) = 63
  · rw [if_pos c1]
    have := atB_some (b := b) (i := (to : Int)) (by rw [c1]; decide)
    exact ⟨_, _, _, _, _, _, rfl, fun _ => ⟨rfl, ⟨by omega, by omega⟩, by omega, by decide, by omega, by omega⟩, fun h => (by cases h)⟩
  rw [if_neg c1]
  by_cases c2 : atB b (to : Int) = 43
  · rw [if_pos c2]
    have := atB_some (b := b) (i := (to : Int)) (by rw [c2]; decide)
    exact ⟨_, _, _, _, _, _, rfl, fun _ => ⟨rfl, ⟨by omega, by omega⟩, by omega, by decide, by omega, by omega⟩, fun h => (by cases h)⟩
  rw [if_neg c2]
  exact ⟨_, _, _, _, _, _, rfl, fun _ => ⟨rfl, ⟨by omega, by omega⟩, by omega, by decide, by omega, by omega⟩, fun h => (by cases h)⟩
theorem countR_T (b : List Int) {k : Int} (h0 : 0 ≤ k) : ∃ q0 q1 q2 q3 : Int, ∃ ok : Bool, ∃ e : Int, countR b k = [.agg [.int q0, .int q1, .int q2, .int q3], .bool ok, .int e] ∧ (ok = true → e = 0 ∧ QOk b k q0 q1 q2 q3) := by
  have one : ∀ {lo hi : Int} {to : Nat}, cntQ b k = some (lo, hi, to) → 0 ≤ lo → -1 ≤ hi → k < (to : Int) → to ≤ b.length → ∃ q0 q1 q2 q3 : Int, ∃ ok : Bool, ∃ e : Int, countR b k = [.agg [.int q0, .int q1, .int q2, .int q3], .bool ok, .int e] ∧ (ok = true → e = 0 ∧ QOk b k q0 q1 q2 q3) := fun h a1 a2 a3 a4 => by
    obtain ⟨q0, q1, q2, q3, ok, e, r1, r2, _⟩ := fin_T (b := b) (k := k) a1 a2 a3 a4
    refine ⟨q0, q1, q2, q3, ok, e, ?_, r2⟩
    unfold countR
    rw [h]
    exact r1
  have inb : atB b k ≠ 0 → k.toNat + 1 ≤ b.length := fun h => by have := atB_some h; omega
  by_cases c1 : atB b k = 42
  · exact one (by unfold cntQ; rw [if_pos c1]) (by decide) (by decide) (by omega) (inb (by omega))
  by_cases c2 : atB b k = 43
  · exact one (by unfold cntQ; rw [if_neg c1, if_pos c2]) (by decide) (by decide) (by omega) (inb (by omega))
  by_cases c3 : atB b k = 63
  · exact one (by unfold cntQ; rw [if_neg c1, if_neg c2, if_pos c3]) (by decide) (by decide) (by omega) (inb (by omega))
  by_cases c4 : atB b k = 123
  · cases h : brQ b k.toNat with
    | none =>
      refine ⟨0, 0, 0, 0, false, 0, ?_, fun h => by cases h⟩
      unfold countR cntQ
      rw [if_neg c1, if_neg c2, if_neg c3, if_pos c4, h]
      rfl
    | some q =>
      obtain ⟨lo, hi, to⟩ := q
      have i1 := brQ_in h
      have i2 := brQ_to h
      exact one (by unfold cntQ; rw [if_neg c1, if_neg c2, if_neg c3, if_pos c4, h]) i1.1 i1.2.2.1 (by omega) i1.2.2.2.2
  · refine ⟨0, 0, 0, 0, false, 0, ?_, fun h => by cases h⟩
    unfold countR cntQ
    rw [if_neg c1, if_neg c2, if_neg c3, if_neg c4]
    rfl
/-- A count: what is found, and the state behind: the same place. -/
theorem count_T {b : List Int} (hl : b.length ≤ 4096) {s : PS} (hs : SOk b s) : ∃ q0 q1 q2 q3 : Int, ∃ ok : Bool, ∃ s' : PS, E C 178 [pv b s] = some [.agg [.int q0, .int q1, .int q2, .int q3], .bool ok, pd b s'] ∧ SOk b s' ∧ s'.k = s.k ∧ s'.gr = s.gr ∧ s'.nm = s.nm ∧ (s'.e = 0 → s' = s) ∧ (ok = true → s'.e = 0 ∧ QOk b s.k q0 q1 q2 q3) := by
  obtain ⟨q0, q1, q2, q3, ok, e, hq, hT⟩ := countR_T b hs.k0
  have hE := count_E b (by omega) s
  rw [hq] at hE
  refine ⟨q0, q1, q2, q3, _, _, hE, ?_⟩
  have hcs : countS b s = if e = 0 then s else failS s e s.k := by unfold countS; rw [hq]; rfl
  rw [hcs]
  by_cases h : e = 0
  · rw [if_pos h]
    refine ⟨hs, rfl, rfl, rfl, fun _ => rfl, fun q => ?_⟩
    have q' : (ok && (s.e == 0)) = true := q
    rw [Bool.and_eq_true, beq_iff_eq] at q'
    exact ⟨q'.2, (hT q'.1).2⟩
  · rw [if_neg h]
    have hF := hs.fail e s.k h (fun q => ⟨hs.k0, hs.kE q⟩)
    refine ⟨hF.1, by unfold failS; split <;> rfl, by unfold failS; split <;> rfl, by unfold failS; split <;> rfl, fun q => absurd q hF.2, fun q => ?_⟩
    have q' : (ok && (s.e == 0)) = true := q
    rw [Bool.and_eq_true] at q'
    exact absurd (hT q'.1).1 h
end Go.Proofs.YtlofoifcdmeopaaGreatDoor.V
namespace Go.Proofs.YtlofoifcdmeopaaGreatDoor.V
open Go Go.Ev Go.RowKit
set_option linter.unusedVariables false
set_option linter.unusedSimpArgs false
theorem blank_in {b : List Int} {k : Int} (h0 : 0 ≤ k) (h1 : k ≤ (b.length : Int)) : k ≤ blankR b k ∧ blankR b k ≤ (b.length : Int) := by
  unfold blankR mx
  have := skipL_le (b.drop k.toNat) false
  rw [List.length_drop] at this
  (repeat' split) <;> omega
theorem blank_out {b : List Int} {k : Int} (h0 : 0 ≤ k) (h1 : (b.length : Int) ≤ k) : blankR b k = k := by
  unfold blankR mx
  have := skipL_le (b.drop k.toNat) false
  rw [List.length_drop] at this
  (repeat' split) <;> omega
theorem skip_T {b : List Int} {s : PS} (hs : SOk b s) : SOk b (skipS b s) ∧ s.k ≤ (skipS b s).k ∧ (skipS b s).e = s.e ∧ (skipS b s).gr = s.gr ∧ (skipS b s).nm = s.nm := by
  have k0 := hs.k0
  cases hw : s.wi with
  | false =>
    have e : skipS b s = s := by unfold skipS; rw [hw]; rfl
    rw [e]
    exact ⟨hs, Int.le_refl _, rfl, rfl, rfl⟩
  | true =>
    have e : skipS b s = { s with k := blankR b s.k } := by unfold skipS; rw [hw]; rfl
    rw [e]
    by_cases h : s.k ≤ (b.length : Int)
    · have hb := blank_in k0 h
      exact ⟨hs.to (by omega) hb.2, hb.1, rfl, rfl, rfl⟩
    · have hb := blank_out (b := b) k0 (by omega)
      rw [hb]
      exact ⟨⟨hs.k0, hs.k1, hs.kE, hs.g0, hs.g1, hs.nm, hs.nms, hs.wh⟩, Int.le_refl _, rfl, rfl, rfl⟩
theorem atomG_T {b : List Int} (hb : isBytes b = true) (hl : b.length ≤ 4096) {d : Int} (hd : 0 ≤ d ∧ d ≤ 1000) (IH : d + 1 ≤ 100 → AltSpec b (d + 1)) {s : PS} (hs : SOk b s) (he : s.e = 0) (hk : s.k < (b.length : Int)) : ∃ x may s', E C 179 [pv b s, .int .i64 d] = some [ptDat x, .bool may, pd b s'] ∧ SOk b s' ∧ (s'.e = 0 → s.k < s'.k ∧ ((x = .mk nd0P [] ∧ may = false ∧ Grp s s' []) ∨ (PartOk s x s' ∧ ((szP x : Nat) : Int) ≤ 8 * (s'.k - s.k)))) := by
  by_cases hc : atB b s.k = 40
  · obtain ⟨⟨n, ks⟩, may, s', r1, r2, r3⟩ := group_T hl IH hs he hk
    rw [ptDat] at r1
    exact ⟨.mk n ks, may, s', by rw [ptDat]; exact atom_par b s d hd hs.k0 hc r1, r2, r3⟩
  · obtain ⟨n, may, s', r1, r2, r3, r4, r5⟩ := atom_T hb hl hs he hk hc d
    refine ⟨.mk n [], may, s', by rw [ptDat, ptsDat]; exact r1, r2, fun q => ?_⟩
    obtain ⟨a1, a2, a3, a4, a5⟩ := r5 q
    refine ⟨a5, .inr ⟨⟨by rw [AllP, AllsP]; exact ⟨AlF.leaf a1, trivial⟩, ?_, ?_, ?_, ?_, ?_, ?_⟩, by rw [szP, szsP]; omega⟩⟩
    · show s.k ≤ n.frm; omega
    · show n.frm ≤ n.to; omega
    · show n.to ≤ s'.k; omega
    · omega
    · show 1 ≤ n.kind; omega
    · rw [grpsP, grpsL, if_neg (by omega)]
      exact Grp.none r4 r3
end Go.Proofs.YtlofoifcdmeopaaGreatDoor.V
namespace Go.Proofs.YtlofoifcdmeopaaGreatDoor.V
open Go Go.Ev Go.RowKit
set_option linter.unusedVariables false
set_option linter.unusedSimpArgs false
theorem repeated_T {b : List Int} (hl : b.length ≤ 4096) {n : Nd} {ks : List PT} {f q0 q1 q2 q3 : Int} (h0 : 0 ≤ f) (hq : QOk b f q0 q1 q2 q3) (hx : AllP AlF (.mk n ks)) (hf : f ≤ n.frm) (ht : n.to ≤ q3) : ∃ y : PT, E C 180 [ptV n (ptsDat ks), .int .i64 f, .agg [.int .i64 q0, .int .i64 q1, .int .i64 q2, .int .i64 q3]] = some [ptDat y] ∧ AllP AlF y ∧ y.nd.frm = f ∧ y.nd.to = q3 ∧ (y.nd.kind = 8 ∨ y.nd.kind = 9) ∧ grpsP y = grpsP (.mk n ks) ∧ szP y ≤ szP (.mk n ks) + 2 := by
  obtain ⟨⟨a1, a2⟩, a3, a4, a5, a6⟩ := hq
  have hm : 0 ≤ (bif q2 == 1 then (1 : Int) else 0) ∧ (bif q2 == 1 then (1 : Int) else 0) ≤ 1 := by cases (q2 == 1) <;> decide
  have hrep : AllP AlF (.mk ⟨8, f, q3, 0, q0, q1, bif q2 == 1 then 1 else 0, ByteArray.empty, [], []⟩ [.mk n ks]) := by
    rw [AllP, AllsP, AllsP]
    exact ⟨AlF.one (alone_repeat h0 (by omega) (by omega) hm ⟨a1, a2⟩ a3) hf ht, hx, trivial⟩
  have hg : grpsP (.mk ⟨8, f, q3, 0, q0, q1, bif q2 == 1 then 1 else 0, ByteArray.empty, [], []⟩ [.mk n ks]) = grpsP (.mk n ks) := by
    rw [grpsP, grpsL, grpsL, List.append_nil, if_neg (show (8 : Int) ≠ 7 by decide), List.nil_append]
  by_cases c : q2 ≤ 1
  · refine ⟨_, ?_, hrep, rfl, rfl, .inl rfl, hg, by rw [szP, szsP, szsP]; omega⟩
    apply o180
    rw [bT (either_E _ _ _), dT c, ptDat, ptsDat, ptsDat, ptDat]
    rfl
  · refine ⟨.mk ⟨9, f, q3, 0, 0, 0, 0, ByteArray.empty, [], []⟩ [.mk ⟨8, f, q3, 0, q0, q1, bif q2 == 1 then 1 else 0, ByteArray.empty, [], []⟩ [.mk n ks]], ?_, ?_, rfl, rfl, .inr rfl, ?_, by rw [szP, szsP, szsP, szP, szsP, szsP]; omega⟩
    · apply o180
      rw [bT (either_E _ _ _), dF c, ptDat, ptsDat, ptsDat, ptDat, ptsDat, ptsDat, ptDat]
      rfl
    · rw [AllP, AllsP, AllsP]
      exact ⟨AlF.one (alone_atomic h0 (by omega) (by omega)) (Int.le_refl _) (Int.le_refl _), hrep, trivial⟩
    · rw [grpsP, grpsL, grpsL, List.append_nil, if_neg (show (9 : Int) ≠ 7 by decide), List.nil_append, hg]
end Go.Proofs.YtlofoifcdmeopaaGreatDoor.V
namespace Go.Proofs.YtlofoifcdmeopaaGreatDoor.V
open Go Go.Ev Go.RowKit
set_option linter.unusedVariables false
set_option linter.unusedSimpArgs false
/-- What a piece gives: nothing, or one part; further on. -/
def PieceOk (s : PS) (l : List PT) (s' : PS) : Prop := s.k < s'.k ∧ ((l = [] ∧ Grp s s' []) ∨ ∃ x, l = [x] ∧ PartOk s x s' ∧ ((szP x : Nat) : Int) ≤ 8 * (s'.k - s.k))
theorem piece_T {b : List Int} (hb : isBytes b = true) (hl : b.length ≤ 4096) {d : Int} (hd : 0 ≤ d ∧ d ≤ 1000) (IH : d + 1 ≤ 100 → AltSpec b (d + 1)) {s : PS} (hs : SOk b s) (he : s.e = 0) (hk : s.k < (b.length : Int)) : ∃ l s', l.length ≤ 1 ∧ E C 148 [pv b s, .int .i64 d] = some [.list (ptsDat l), pd b s'] ∧ SOk b s' ∧ (s'.e = 0 → PieceOk s l s') := by
  obtain ⟨q0, q1, q2, q3, ok, sc, c1, t0, -, -, -, c5, c6⟩ := count_T hl hs
  cases ok with
  | true =>
    obtain ⟨ec, -⟩ := c6 rfl
    have := c5 ec
    subst this
    have hF := hs.fail 31 sc.k (by decide) (fun q => ⟨hs.k0, hs.kE q⟩)
    refine ⟨[], failS sc 31 sc.k, Nat.zero_le 1, ?_, hF.1, fun q => absurd q hF.2⟩
    rw [ptsDat]
    apply o148
    rw [bT c1]
    simp only [stP, agA]
    rw [cond_true, bT (fail_E b sc 31 sc.k)]
    simp only [stP, agA]
    rw [neT hF.2]
    rfl
  | false =>
  by_cases ec : sc.e ≠ 0
  · refine ⟨[], sc, Nat.zero_le 1, ?_, t0, fun q => absurd q ec⟩
    rw [ptsDat]
    apply o148
    rw [bT c1]
    simp only [stP, agA]
    rw [cond_false, neT ec]
    rfl
  have := c5 (by omega)
  subst this
  obtain ⟨⟨n, ks⟩, may, s1, aE, t1, a3⟩ := atomG_T hb hl hd IH hs he hk
  rw [ptDat] at aE
  by_cases e1n : s1.e ≠ 0
  · refine ⟨[], s1, Nat.zero_le 1, ?_, t1, fun q => absurd q e1n⟩
    rw [ptsDat]
    apply o148
    rw [bT c1]
    simp only [stP, agA]
    rw [cond_false, neF he, bT aE]
    simp only [stP, agA]
    rw [neT e1n]
    rfl
  have e1 : s1.e = 0 := by omega
  obtain ⟨a4, a5⟩ := a3 e1
  obtain ⟨k1, k2, k3, k4, k5⟩ := skip_T t1
  obtain ⟨r0, r1, r2, r3, ok2, s3, d1, d2, d3, d4, d5, d6, d7⟩ := count_T hl k1
  cases ok2 with
  | false =>
    by_cases n0 : n.kind = 0
    · refine ⟨[], s3, Nat.zero_le 1, ?_, d2, fun q => ⟨by rw [d3]; omega, .inl ⟨rfl, ?_⟩⟩⟩
      · rw [ptsDat]
        apply o148
        rw [bT c1]
        simp only [stP, agA]
        rw [cond_false, neF he, bT aE]
        simp only [stP, agA]
        rw [neF e1, bT (skip_E b (by omega) s1 (t1.i64 hl))]
        simp only [stP, agA]
        rw [bT d1]
        simp only [stP, agA]
        rw [cond_false, eT n0]
        rfl
      · rcases a5 with ⟨-, -, g⟩ | g
        · obtain ⟨ns, m1, m2, m3⟩ := g
          exact ⟨ns, by rw [d5, k5, m1], by rw [d4, k4, m2], m3⟩
        · have : 1 ≤ n.kind := g.1.2.2.2.2.2.1
          omega
    · refine ⟨[.mk n ks], s3, Nat.le_refl 1, ?_, d2, fun q => ⟨by rw [d3]; omega, .inr ⟨_, rfl, ?_⟩⟩⟩
      · rw [ptsDat, ptsDat, ptDat]
        apply o148
        rw [bT c1]
        simp only [stP, agA]
        rw [cond_false, neF he, bT aE]
        simp only [stP, agA]
        rw [neF e1, bT (skip_E b (by omega) s1 (t1.i64 hl))]
        simp only [stP, agA]
        rw [bT d1]
        simp only [stP, agA]
        rw [cond_false, eF n0]
        rfl
      · rcases a5 with ⟨h, -⟩ | ⟨⟨g1, g2, g3, g4, g5, g6, ns, m1, m2, m3⟩, gz⟩
        · obtain ⟨rfl, -⟩ := PT.mk.inj h
          exact absurd rfl n0
        · exact ⟨⟨g1, g2, g3, by rw [d3]; omega, by rw [d3]; omega, g6, ns, by rw [d5, k5, m1], by rw [d4, k4, m2], m3⟩, by rw [d3]; omega⟩
  | true =>
    obtain ⟨e3, hq⟩ := d7 rfl
    have := d6 e3
    subst this
    cases may with
    | false =>
      have hF := k1.fail 31 (skipS b s1).k (by decide) (fun q => ⟨k1.k0, k1.kE q⟩)
      refine ⟨[], failS (skipS b s1) 31 (skipS b s1).k, Nat.zero_le 1, ?_, hF.1, fun q => absurd q hF.2⟩
      rw [ptsDat]
      apply o148
      rw [bT c1]
      simp only [stP, agA]
      rw [cond_false, neF he, bT aE]
      simp only [stP, agA]
      rw [neF e1, bT (skip_E b (by omega) s1 (t1.i64 hl))]
      simp only [stP, agA]
      rw [bT d1]
      simp only [stP, agA]
      rw [cond_true, nT rfl, bT (fail_E b (skipS b s1) 31 _)]
      rfl
    | true =>
      obtain ⟨⟨g1, g2, g3, g4, g5, g6, ns, m1, m2, m3⟩, gz⟩ : PartOk sc (.mk n ks) s1 ∧ ((szP (PT.mk n ks) : Nat) : Int) ≤ 8 * (s1.k - sc.k) := by
        rcases a5 with ⟨-, h, -⟩ | g
        · cases h
        · exact g
      have hq' : QOk b sc.k r0 r1 r2 r3 := ⟨hq.1, hq.2.1, hq.2.2.1, by have := hq.2.2.2.1; omega, hq.2.2.2.2⟩
      have q4 := hq.2.2.2.1
      have q5 := hq.2.2.2.2
      obtain ⟨⟨yn, yks⟩, y1, y2, y3, y4, y5, y6, y7⟩ := repeated_T hl hs.k0 hq' g1 g2 (by have h1 : n.to ≤ s1.k := g4; omega)
      rw [ptDat] at y1
      have kk0 := hs.k0
      have t4 : SOk b { skipS b s1 with k := r3 } := k1.to (by omega) q5
      obtain ⟨v1, v2, v3, v4, v5⟩ := skip_T t4
      obtain ⟨z0, z1, z2, z3, ok3, z4, zq, -⟩ := countR_T b v1.k0
      have cR := Count_E b (by omega) (skipS b { skipS b s1 with k := r3 }).k
      rw [zq] at cR
      have ykn : yn.kind ≠ 0 := by
        have : yn.kind = 8 ∨ yn.kind = 9 := y5
        omega
      have hF := v1.fail 31 (skipS b { skipS b s1 with k := r3 }).k (by decide) (fun q => ⟨v1.k0, v1.kE q⟩)
      by_cases bad : ok3 = true ∨ z4 ≠ 0
      · refine ⟨[.mk yn yks], failS (skipS b { skipS b s1 with k := r3 }) 31 (skipS b { skipS b s1 with k := r3 }).k, Nat.le_refl 1, ?_, hF.1, fun q => absurd q hF.2⟩
        rw [ptsDat, ptsDat, ptDat]
        apply o148
        rw [bT c1]
        simp only [stP, agA]
        rw [cond_false, neF he, bT aE]
        simp only [stP, agA]
        rw [neF e1, bT (skip_E b (by omega) s1 (t1.i64 hl))]
        simp only [stP, agA]
        rw [bT d1]
        simp only [stP, agA]
        rw [cond_true, nF rfl, bT y1]
        simp only [stP, agA]
        refine (bT (skip_E b (by omega) { skipS b s1 with k := r3 } (t4.i64 hl))).trans ?_
        simp only [stP, agA]
        rw [bT cR]
        simp only [stP, agA]
        cases ok3 with
        | true =>
          rw [cond_true, bT (fail_E b (skipS b { skipS b s1 with k := r3 }) 31 _)]
          simp only [stP, agA]
          rw [eF ykn]
          rfl
        | false =>
          rw [cond_false, neT (by rcases bad with h | h; cases h; exact h), bT (fail_E b (skipS b { skipS b s1 with k := r3 }) 31 _)]
          simp only [stP, agA]
          rw [eF ykn]
          rfl
      · obtain ⟨o3, z40⟩ : ok3 = false ∧ z4 = 0 := by
          cases ok3 with
          | true => exact absurd (.inl rfl) bad
          | false => exact ⟨rfl, by omega⟩
        subst o3
        refine ⟨[.mk yn yks], skipS b { skipS b s1 with k := r3 }, Nat.le_refl 1, ?_, v1, fun q => ?_⟩
        · rw [ptsDat, ptsDat, ptDat]
          apply o148
          rw [bT c1]
          simp only [stP, agA]
          rw [cond_false, neF he, bT aE]
          simp only [stP, agA]
          rw [neF e1, bT (skip_E b (by omega) s1 (t1.i64 hl))]
          simp only [stP, agA]
          rw [bT d1]
          simp only [stP, agA]
          rw [cond_true, nF rfl, bT y1]
          simp only [stP, agA]
          refine (bT (skip_E b (by omega) { skipS b s1 with k := r3 } (t4.i64 hl))).trans ?_
          simp only [stP, agA]
          rw [bT cR]
          simp only [stP, agA]
          rw [cond_false, neF z40, eF ykn]
          rfl
        · have v2' : r3 ≤ (skipS b { skipS b s1 with k := r3 }).k := v2
          refine ⟨by omega, .inr ⟨_, rfl, ⟨y2, ?_, ?_, ?_, by omega, ?_, ns, by rw [v5]; show (skipS b s1).nm = _; rw [k5, m1], by rw [v4]; show (skipS b s1).gr = _; rw [k4, m2], by rw [y6, m3]⟩, by omega⟩⟩
          · show sc.k ≤ yn.frm; have : yn.frm = sc.k := y3; omega
          · show yn.frm ≤ yn.to; have h1 : yn.frm = sc.k := y3; have h2 : yn.to = r3 := y4; omega
          · show yn.to ≤ _; have h2 : yn.to = r3 := y4; omega
          · show 1 ≤ yn.kind; have : yn.kind = 8 ∨ yn.kind = 9 := y5; omega
end Go.Proofs.YtlofoifcdmeopaaGreatDoor.V
namespace Go.Proofs.YtlofoifcdmeopaaGreatDoor.V
open Go Go.Ev Go.RowKit
set_option linter.unusedVariables false
set_option linter.unusedSimpArgs false
theorem grpsL_app : ∀ (a c : List PT), grpsL (a ++ c) = grpsL a ++ grpsL c
  | [], c => by rw [List.nil_append, grpsL, List.nil_append]
  | x :: a, c => by rw [List.cons_append, grpsL, grpsL, grpsL_app a c, List.append_assoc]
theorem AllsP_app {p : Nd → List PT → Prop} : ∀ {a c : List PT}, AllsP p a → AllsP p c → AllsP p (a ++ c)
  | [], c, _, h => h
  | x :: a, c, h1, h2 => by
    rw [AllsP] at h1
    rw [List.cons_append, AllsP]
    exact ⟨h1.1, AllsP_app h1.2 h2⟩
theorem szsP_app : ∀ (a c : List PT), szsP (a ++ c) = szsP a + szsP c
  | [], c => by rw [List.nil_append, szsP]; omega
  | x :: a, c => by rw [List.cons_append, szsP, szsP, szsP_app a c]; omega
/-- Parts that were read one behind the other. -/
structure RowSt (s : PS) (l : List PT) (t : PS) : Prop where
  all : AllsP AlF l
  len : (l.length : Int) ≤ t.k - s.k
  grp : Grp s t (grpsL l)
  sz : ((szsP l : Nat) : Int) ≤ 8 * (t.k - s.k)
  ends : l = [] ∨ ∃ x m pre y, l = x :: m ∧ l = pre ++ [y] ∧ 1 ≤ x.nd.kind ∧ s.k ≤ x.nd.frm ∧ x.nd.frm ≤ x.nd.to ∧ x.nd.frm ≤ y.nd.to ∧ y.nd.to ≤ t.k ∧ x.nd.to ≤ t.k ∧ ∀ k, k ∈ l → x.nd.frm ≤ k.nd.frm ∧ k.nd.to ≤ y.nd.to
theorem RowSt.none (s : PS) : RowSt s [] s := ⟨trivial, by simp, Grp.none rfl rfl, by rw [szsP]; omega, .inl rfl⟩
theorem RowSt.on {s t u : PS} {l : List PT} (h : RowSt s l t) (hk : t.k ≤ u.k) (hg : u.gr = t.gr) (hn : u.nm = t.nm) : RowSt s l u := by
  obtain ⟨h1, h2, ⟨ns, g1, g2, g3⟩, hz, h4⟩ := h
  refine ⟨h1, by omega, ⟨ns, by rw [hn, g1], by rw [hg, g2], g3⟩, by omega, ?_⟩
  rcases h4 with h4 | ⟨x, m, pre, y, a1, a2, a3, a4, a5, a6, a7, a8, a9⟩
  · exact .inl h4
  · exact .inr ⟨x, m, pre, y, a1, a2, a3, a4, a5, a6, by omega, by omega, a9⟩
theorem RowSt.le {s t : PS} {l : List PT} (h : RowSt s l t) : s.k ≤ t.k := by have := h.len; omega
theorem RowSt.part {s t u : PS} {l : List PT} {x : PT} (h : RowSt s l t) (hk : t.k < u.k) (hp : PartOk t x u) (hx : ((szP x : Nat) : Int) ≤ 8 * (u.k - t.k)) : RowSt s (l ++ [x]) u := by
  have hle := h.le
  obtain ⟨h1, h2, h3, hz, h4⟩ := h
  obtain ⟨p1, p2, p3, p4, p5, p6, p7⟩ := hp
  refine ⟨AllsP_app h1 (by rw [AllsP, AllsP]; exact ⟨p1, trivial⟩), by rw [List.length_append, List.length_cons, List.length_nil]; omega, ?_, by rw [szsP_app, szsP, szsP]; omega, .inr ?_⟩
  · rw [grpsL_app, grpsL, grpsL, List.append_nil]
    exact h3.trans p7
  · rcases h4 with rfl | ⟨x', m, pre, y, a1, a2, a3, a4, a5, a6, a7, a8, a9⟩
    · exact ⟨x, [], [], x, rfl, rfl, p6, by omega, p3, p3, p4, p4, fun k hk => by rw [List.nil_append, List.mem_singleton] at hk; rw [hk]; exact ⟨Int.le_refl _, Int.le_refl _⟩⟩
    · exact ⟨x', m ++ [x], l, x, by rw [a1]; rfl, rfl, a3, a4, a5, by omega, p4, by omega, fun k hk => by
        rw [List.mem_append, List.mem_singleton] at hk
        rcases hk with hk | rfl
        · have := a9 k hk; exact ⟨this.1, by omega⟩
        · exact ⟨by omega, Int.le_refl _⟩⟩
theorem RowSt.piece {s t u : PS} {l m : List PT} (h : RowSt s l t) (hp : PieceOk t m u) : RowSt s (l ++ m) u := by
  obtain ⟨hk, hp⟩ := hp
  rcases hp with ⟨rfl, hg⟩ | ⟨x, rfl, hx, hxz⟩
  · rw [List.append_nil]
    obtain ⟨h1, h2, h3, hz, h4⟩ := h
    refine ⟨h1, by omega, ?_, by omega, ?_⟩
    · have := h3.trans hg
      rw [List.append_nil] at this
      exact this
    · rcases h4 with h4 | ⟨x, m, pre, y, a1, a2, a3, a4, a5, a6, a7, a8, a9⟩
      · exact .inl h4
      · exact .inr ⟨x, m, pre, y, a1, a2, a3, a4, a5, a6, by omega, by omega, a9⟩
  · exact h.part hk hx hxz
theorem RowSt.empty {b : List Int} (hl : b.length ≤ 4096) {s t : PS} (hs : SOk b s) (he : s.e = 0) (h : RowSt s [] t) : PartOk s (.mk ⟨1, s.k, s.k, 0, 0, 0, 0, ByteArray.empty, [], []⟩ []) t := by
  have hle := h.le
  have := hs.kE he
  refine ⟨?_, Int.le_refl _, Int.le_refl _, hle, hle, by show (1 : Int) ≤ 1; decide, ?_⟩
  · rw [AllP, AllsP]
    exact ⟨AlF.leaf (alone_empty hs.k0 (by omega)), trivial⟩
  · rw [grpsP, if_neg (show (1 : Int) ≠ 7 by decide), List.nil_append]
    exact h.grp
theorem RowSt.one {s t : PS} {x : PT} (h : RowSt s [x] t) : PartOk s x t := by
  have hle := h.le
  obtain ⟨h1, h2, h3, hz, h4⟩ := h
  rw [AllsP, AllsP] at h1
  rw [grpsL, grpsL, List.append_nil] at h3
  rcases h4 with h4 | ⟨x', m, pre, y, a1, a2, a3, a4, a5, a6, a7, a8, a9⟩
  · cases h4
  · obtain ⟨rfl, rfl⟩ := List.cons.inj a1
    exact ⟨h1.1, a4, a5, a8, hle, a3, h3⟩
theorem RowSt.cat {b : List Int} (hl : b.length ≤ 4096) {s t : PS} (hs : SOk b s) (hk : t.k ≤ (b.length : Int)) {x y : PT} {m pre : List PT} (h : RowSt s (x :: m) t) (hm : m ≠ []) (hy : x :: m = pre ++ [y]) : PartOk s (.mk ⟨5, x.nd.frm, y.nd.to, 0, 0, 0, 0, ByteArray.empty, [], []⟩ (x :: m)) t := by
  have hle := h.le
  have k0 := hs.k0
  obtain ⟨h1, h2, h3, hz, h4⟩ := h
  have hm1 : 1 ≤ m.length := by cases m with | nil => exact absurd rfl hm | cons a c => simp
  rw [List.length_cons] at h2
  rcases h4 with h4 | ⟨x', m', pre', y', a1, a2, a3, a4, a5, a6, a7, a8, a9⟩
  · cases h4
  · obtain ⟨rfl, rfl⟩ := List.cons.inj a1
    have e : pre ++ [y] = pre' ++ [y'] := hy.symm.trans a2
    obtain ⟨-, e2⟩ := List.append_inj' e rfl
    obtain rfl : y = y' := (List.cons.inj e2).1
    refine ⟨?_, a4, a6, a7, hle, by show (1 : Int) ≤ 5; decide, ?_⟩
    · rw [AllP]
      exact ⟨⟨alone_cat (by omega) a6 (by omega) (by rw [List.length_cons]; omega), a9⟩, h1⟩
    · rw [grpsP, if_neg (show (5 : Int) ≠ 7 by decide), List.nil_append]
      exact h3
/-- Ways, one or another. -/
structure AltSt (s : PS) (l : List PT) (t : PS) : Prop where
  all : AllsP AlF l
  len : (l.length : Int) ≤ t.k - s.k + 1
  grp : Grp s t (grpsL l)
  le : s.k ≤ t.k
  sz : ((szsP l : Nat) : Int) + 7 * (l.length : Int) ≤ 8 * (t.k - s.k) + 8
  fit : ∀ k, k ∈ l → s.k ≤ k.nd.frm ∧ k.nd.to ≤ t.k
  one : ∀ x, l = [x] → PartOk s x t
theorem AltSt.first {s t : PS} {x : PT} (hp : PartOk s x t) (hx : ((szP x : Nat) : Int) ≤ 8 * (t.k - s.k) + 1) : AltSt s [x] t := by
  have hp' := hp
  obtain ⟨p1, p2, p3, p4, p5, p6, p7⟩ := hp
  exact ⟨by rw [AllsP, AllsP]; exact ⟨p1, trivial⟩, by rw [List.length_cons, List.length_nil]; omega, by rw [grpsL, grpsL, List.append_nil]; exact p7, p5, by rw [szsP, szsP, List.length_cons, List.length_nil]; omega, fun k hk => by rw [List.mem_singleton] at hk; rw [hk]; exact ⟨p2, p4⟩, fun y e => by obtain ⟨rfl, -⟩ := List.cons.inj e; exact hp'⟩
theorem AltSt.next {s t t' u : PS} {l : List PT} {x : PT} (h : AltSt s l t) (h1l : 1 ≤ l.length) (hk : t'.k = t.k + 1) (hg : t'.gr = t.gr) (hn : t'.nm = t.nm) (hp : PartOk t' x u) (hx : ((szP x : Nat) : Int) ≤ 8 * (u.k - t'.k) + 1) : AltSt s (l ++ [x]) u := by
  obtain ⟨h1, h2, ⟨ns, g1, g2, g3⟩, h4, hz, h5, h6⟩ := h
  obtain ⟨p1, p2, p3, p4, p5, p6, p7⟩ := hp
  refine ⟨AllsP_app h1 (by rw [AllsP, AllsP]; exact ⟨p1, trivial⟩), by rw [List.length_append, List.length_cons, List.length_nil]; omega, ?_, by omega, by rw [szsP_app, szsP, szsP, List.length_append, List.length_cons, List.length_nil]; omega, fun k hk => by
    rw [List.mem_append, List.mem_singleton] at hk
    rcases hk with hk | rfl
    · have := h5 k hk; omega
    · omega, fun y e => by
    have := congrArg List.length e
    rw [List.length_append, List.length_cons, List.length_nil, List.length_cons, List.length_nil] at this
    omega⟩
  rw [grpsL_app, grpsL, grpsL, List.append_nil]
  exact Grp.trans (t := t') ⟨ns, by rw [hn, g1], by rw [hg, g2], g3⟩ p7
theorem AltSt.alt {b : List Int} (hl : b.length ≤ 4096) {s t : PS} (hs : SOk b s) (hk : t.k ≤ (b.length : Int)) {l : List PT} (h : AltSt s l t) (hm : 2 ≤ l.length) : PartOk s (.mk ⟨6, s.k, t.k, 0, 0, 0, 0, ByteArray.empty, [], []⟩ l) t := by
  have k0 := hs.k0
  obtain ⟨h1, h2, h3, h4, hz, h5, h6⟩ := h
  refine ⟨?_, Int.le_refl _, h4, Int.le_refl _, h4, by show (1 : Int) ≤ 6; decide, ?_⟩
  · rw [AllP]
    exact ⟨⟨alone_alt k0 h4 (by omega) (by omega), h5⟩, h1⟩
  · rw [grpsP, if_neg (show (6 : Int) ≠ 7 by decide), List.nil_append]
    exact h3
theorem RowSt.sizeCat {s t : PS} {l : List PT} {n : Nd} (h : RowSt s l t) : ((szP (.mk n l) : Nat) : Int) ≤ 8 * (t.k - s.k) + 1 := by
  have := h.sz
  rw [szP]; omega
theorem AltSt.sizeAlt {s t : PS} {l : List PT} {n : Nd} (h : AltSt s l t) (hm : 2 ≤ l.length) : ((szP (.mk n l) : Nat) : Int) ≤ 8 * (t.k - s.k) + 1 := by
  have := h.sz
  rw [szP]; omega
theorem RowSt.sizeOne {s t : PS} {x : PT} (h : RowSt s [x] t) : ((szP x : Nat) : Int) ≤ 8 * (t.k - s.k) + 1 := by
  have := h.sz
  rw [szsP, szsP] at this
  omega
theorem AltSt.sizeOne {s t : PS} {x : PT} (h : AltSt s [x] t) : ((szP x : Nat) : Int) ≤ 8 * (t.k - s.k) + 1 := by
  have := h.sz
  rw [szsP, szsP] at this
  simp only [List.length_cons, List.length_nil] at this
  omega
end Go.Proofs.YtlofoifcdmeopaaGreatDoor.V
namespace Go.Proofs.YtlofoifcdmeopaaGreatDoor.V
open Go Go.Ev Go.RowKit
set_option linter.unusedVariables false
set_option linter.unusedSimpArgs false
/-- May a tree be? -/
def fitsB (ns : List Nd) (n : Nd) (k : Int) : Bool := !decide ((ns.getD k.toNat n).frm < n.frm) && !decide ((ns.getD k.toNat n).to > n.to)
def rightL (t : Tr) : List Nd → Nat → Bool
  | [], g => (g : Int) == t.groups
  | n :: l, g => aloneB n && (n.kids.all (fitsB t.ns n) && (if n.kind = 7 then (n.num == ((g + 1 : Nat) : Int) && (!decide (((g + 1 : Nat) : Int) > t.groups) && ((t.names.getD (g + 1) ByteArray.empty).toList == n.name.toList && rightL t l (g + 1)))) else rightL t l g))
def rightB (t : Tr) : Bool := (endK t.ns (t.ns.length + 1) 0 == some t.ns.length) && (decide (t.names.length ≠ 0) && (((t.names.length : Int) - 1 == t.groups) && (emptyS (t.names.getD 0 ByteArray.empty) && rightL t t.ns 0)))
theorem name_rd {l : List ByteArray} {i : Nat} (h : i < l.length) : (rd (l.map Dat.str) i).S = l.getD i ByteArray.empty := by simp [rd, h, List.getD_eq_getElem?_getD]
end Go.Proofs.YtlofoifcdmeopaaGreatDoor.V
namespace Go.Proofs.YtlofoifcdmeopaaGreatDoor.V
open Go Go.Ev Go.RowKit
set_option linter.unusedVariables false
set_option linter.unusedSimpArgs false
/-- A Back by a name gets its group's number; nothing else is changed. -/
def Fix (n m : Nd) : Prop := m = n ∨ (n.kind = 4 ∧ emptyS n.name = false ∧ ∃ v : Int, 0 ≤ v ∧ v ≤ 99 ∧ m = { n with num := v })
def FixL : List Nd → List Nd → Prop
  | [], [] => True
  | n :: l, m :: k => Fix n m ∧ FixL l k
  | [], _ :: _ => False
  | _ :: _, [] => False
theorem FixL.len : ∀ {l k : List Nd}, FixL l k → k.length = l.length
  | [], [], _ => rfl
  | n :: l, m :: k, h => by rw [List.length_cons, List.length_cons, FixL.len h.2]
  | [], _ :: _, h => absurd h id
  | _ :: _, [], h => absurd h id
theorem FixL.split : ∀ {a c k : List Nd}, FixL (a ++ c) k → ∃ k1 k2, k = k1 ++ k2 ∧ FixL a k1 ∧ FixL c k2
  | [], c, k, h => ⟨[], k, rfl, trivial, h⟩
  | n :: a, c, m :: k, h => by
    obtain ⟨k1, k2, h1, h2, h3⟩ := FixL.split (a := a) h.2
    exact ⟨m :: k1, k2, by rw [h1]; rfl, ⟨h.1, h2⟩, h3⟩
  | _ :: _, _, [], h => absurd h id
theorem Fix.same {n m : Nd} (h : Fix n m) : m.kind = n.kind ∧ m.frm = n.frm ∧ m.to = n.to ∧ m.kids = n.kids := by
  rcases h with rfl | ⟨-, -, v, -, -, rfl⟩ <;> exact ⟨rfl, rfl, rfl, rfl⟩
theorem Fix.alone {n m : Nd} (h : Fix n m) (ha : aloneB n = true) : aloneB m = true := by
  rcases h with rfl | ⟨h1, h2, v, h3, h4, rfl⟩
  · exact ha
  · unfold aloneB at ha ⊢
    simp only [Bool.and_eq_true] at ha ⊢
    refine ⟨ha.1, ha.2.1, ha.2.2.1, ?_⟩
    have h5 := ha.2.2.2
    unfold al3 at h5 ⊢
    have c8 : (n.kind == 8) = false := by rw [h1]; rfl
    rw [c8, cond_false] at h5 ⊢
    unfold al4 at h5 ⊢
    rw [Bool.and_eq_true] at h5 ⊢
    refine ⟨h5.1, ?_⟩
    unfold al5 al6
    rw [show (n.kind == 3) = false by rw [h1]; rfl, show (n.kind == 4) = true by rw [h1]; rfl, cond_false, cond_true, h2]
    by_cases c : v = 0
    · rw [c]; rfl
    · unfold wi; rw [decide_eq_true (show v ≥ 1 by omega), decide_eq_true (show v ≤ 99 from h4)]; rfl
theorem FixL.end_ {a c : List Nd} (h : FixL a c) : ∀ (f i : Nat), endK c f i = endK a f i := by
  have key : ∀ {a c : List Nd}, FixL a c → ∀ i : Nat, (c[i]?).map Nd.kids = (a[i]?).map Nd.kids := by
    intro a
    induction a with
    | nil =>
      intro c h i
      cases c with
      | nil => rfl
      | cons m k => exact absurd h id
    | cons n l ih =>
      intro c h i
      cases c with
      | nil => exact absurd h id
      | cons m k =>
        cases i with
        | zero => simp [h.1.same.2.2.2]
        | succ i => simpa using ih h.2 i
  intro f
  induction f with
  | zero => intro i; rfl
  | succ f ih =>
    intro i
    have hk := key h i
    have e : endK c f = endK a f := funext ih
    unfold endK
    rw [e]
    cases h1 : c[i]? with
    | none =>
      cases h2 : a[i]? with
      | none => rfl
      | some n => rw [h1, h2] at hk; cases hk
    | some m =>
      cases h2 : a[i]? with
      | none => rw [h1, h2] at hk; cases hk
      | some n =>
        rw [h1, h2] at hk
        have : m.kids = n.kids := Option.some.inj hk
        show walkK (endK a f) m.kids (i + 1) = walkK (endK a f) n.kids (i + 1)
        rw [this]
/-- Groups, from a number on, are the tree's. -/
def GI (t : Tr) : Nat → List (Int × ByteArray) → Prop
  | _, [] => True
  | g, p :: l => p.1 = ((g + 1 : Nat) : Int) ∧ ((g + 1 : Nat) : Int) ≤ t.groups ∧ t.names.getD (g + 1) ByteArray.empty = p.2 ∧ GI t (g + 1) l
theorem GI_app {t : Tr} : ∀ {g : Nat} {a c : List (Int × ByteArray)}, GI t g (a ++ c) → GI t g a ∧ GI t (g + a.length) c
  | g, [], c, h => ⟨trivial, h⟩
  | g, p :: a, c, h => by
    obtain ⟨h1, h2, h3, h4⟩ := h
    obtain ⟨h5, h6⟩ := GI_app h4
    exact ⟨⟨h1, h2, h3, h5⟩, by rw [List.length_cons, show g + (a.length + 1) = g + 1 + a.length by omega]; exact h6⟩
theorem kids_fit {t : Tr} {m : Nd} : ∀ (ks : List PT) (i : Nat) (l2 pre post : List Nd), t.ns = pre ++ (l2 ++ post) → pre.length = i → FixL (flats i ks) l2 → (∀ k, k ∈ ks → m.frm ≤ k.nd.frm ∧ k.nd.to ≤ m.to) → (kidsAt i ks).all (fitsB t.ns m) = true
  | [], i, l2, pre, post, h1, h2, h3, h4 => rfl
  | .mk n ks :: r, i, l2, pre, post, h1, h2, h3, h4 => by
    rw [flats] at h3
    obtain ⟨k1, k2, rfl, h5, h6⟩ := FixL.split h3
    have hlen := FixL.len h5
    rw [flat_len] at hlen
    have hr := kids_fit (t := t) (m := m) r (i + szP (.mk n ks)) k2 (pre ++ k1) post (by rw [h1]; simp only [List.append_assoc]) (by rw [List.length_append, h2, hlen]) h6 (fun k hk => h4 k (List.mem_cons_of_mem _ hk))
    rw [flat] at h5
    cases k1 with
    | nil => exact absurd h5 id
    | cons a k1 =>
      obtain ⟨q1, q2, q3, q4⟩ := h5.1.same
      have hfit := h4 (.mk n ks) List.mem_cons_self
      have hg : t.ns.getD i m = a := by
        rw [h1, ← h2]
        simp [List.getD_eq_getElem?_getD]
      rw [kidsAt, List.all_cons, hr, Bool.and_true]
      unfold fitsB
      rw [Int.toNat_natCast, hg, q2, q3]
      have f1 : m.frm ≤ n.frm := hfit.1
      have f2 : n.to ≤ m.to := hfit.2
      rw [decide_eq_false (show ¬ n.frm < m.frm by omega), decide_eq_false (show ¬ n.to > m.to by omega)]
      rfl
theorem rightL_cons (t : Tr) (n : Nd) (l : List Nd) (g : Nat) : rightL t (n :: l) g = (aloneB n && (n.kids.all (fitsB t.ns n) && (if n.kind = 7 then (n.num == ((g + 1 : Nat) : Int) && (!decide (((g + 1 : Nat) : Int) > t.groups) && ((t.names.getD (g + 1) ByteArray.empty).toList == n.name.toList && rightL t l (g + 1)))) else rightL t l g))) := (rfl)
mutual
theorem right_flat {t : Tr} : ∀ (x : PT) (i g : Nat) (l2 pre post : List Nd), t.ns = pre ++ (l2 ++ post) → pre.length = i → FixL (flat i x) l2 → AllP AlF x → GI t g (grpsP x) → ∀ rest, rightL t (l2 ++ rest) g = rightL t rest (g + (grpsP x).length)
  | .mk n ks, i, g, l2, pre, post, h1, h2, h3, h4, h5, rest => by
    rw [flat] at h3
    cases l2 with
    | nil => exact absurd h3 id
    | cons m l3 =>
      obtain ⟨f1, f2⟩ := h3
      obtain ⟨q1, q2, q3, q4⟩ := f1.same
      rw [AllP] at h4
      obtain ⟨⟨a1, a2⟩, a3⟩ := h4
      have hal : aloneB m = true := f1.alone (a1 _ (kidsAt_len _ _))
      have hfit : m.kids.all (fitsB t.ns m) = true := by
        rw [q4]
        exact kids_fit ks (i + 1) l3 (pre ++ [m]) post (by rw [h1]; simp) (by rw [List.length_append, h2]; rfl) f2 (fun k hk => by
          have := a2 k hk
          have e1 : m.frm = n.frm := q2
          have e2 : m.to = n.to := q3
          rw [e1, e2]; exact this)
      have hks := fun g' h => rights_flat ks (i + 1) g' l3 (pre ++ [m]) post (by rw [h1]; simp) (by rw [List.length_append, h2]; rfl) f2 a3 h rest
      have e1 : m.kind = n.kind := q1
      rw [List.cons_append]
      rw [rightL_cons, hal, hfit, Bool.true_and, Bool.true_and]
      by_cases c : n.kind = 7
      · rw [if_pos (e1.trans c)]
        rw [grpsP, if_pos c] at h5 ⊢
        obtain ⟨g1, g2, g3, g4⟩ := h5
        have hm : m = { n with kids := kidsAt (i + 1) ks } := by
          rcases f1 with h | ⟨h, -⟩
          · exact h
          · have h' : n.kind = 4 := h
            omega
        have hnum : m.num = ((g + 1 : Nat) : Int) := by rw [hm]; exact g1
        have hname : m.name = n.name := by rw [hm]
        have g3' : t.names.getD (g + 1) ByteArray.empty = n.name := g3
        rw [hnum, beq_self_eq_true, decide_eq_false (show ¬ ((g + 1 : Nat) : Int) > t.groups by omega), g3', hname, beq_self_eq_true, hks (g + 1) g4, List.length_append, List.length_cons, List.length_nil, show g + (0 + 1 + (grpsL ks).length) = g + 1 + (grpsL ks).length by omega]
        rfl
      · rw [if_neg (fun q => c (e1.symm.trans q))]
        rw [grpsP, if_neg c, List.nil_append] at h5 ⊢
        exact hks g h5
theorem rights_flat {t : Tr} : ∀ (ks : List PT) (i g : Nat) (l2 pre post : List Nd), t.ns = pre ++ (l2 ++ post) → pre.length = i → FixL (flats i ks) l2 → AllsP AlF ks → GI t g (grpsL ks) → ∀ rest, rightL t (l2 ++ rest) g = rightL t rest (g + (grpsL ks).length)
  | [], i, g, l2, pre, post, h1, h2, h3, h4, h5, rest => by
    cases l2 with
    | nil => rfl
    | cons m l3 => exact absurd h3 id
  | x :: r, i, g, l2, pre, post, h1, h2, h3, h4, h5, rest => by
    rw [flats] at h3
    obtain ⟨k1, k2, rfl, h6, h7⟩ := FixL.split h3
    have hlen := FixL.len h6
    rw [flat_len] at hlen
    rw [AllsP] at h4
    rw [grpsL] at h5 ⊢
    obtain ⟨h8, h9⟩ := GI_app h5
    rw [List.append_assoc, right_flat x i g k1 pre (k2 ++ post) (by rw [h1]; simp only [List.append_assoc]) h2 h6 h4.1 h8, rights_flat r (i + szP x) (g + (grpsP x).length) k2 (pre ++ k1) post (by rw [h1]; simp only [List.append_assoc]) (by rw [List.length_append, h2, hlen]) h7 h4.2 h9, List.length_append, Nat.add_assoc]
end
theorem GI_numb {t : Tr} : ∀ (l : List ByteArray) (g : Nat), (∀ j (h : j < l.length), ((g + 1 + j : Nat) : Int) ≤ t.groups ∧ t.names.getD (g + 1 + j) ByteArray.empty = l[j]) → GI t g (numb ((g + 1 : Nat) : Int) l)
  | [], g, h => trivial
  | a :: l, g, h => by
    have h0 := h 0 (by simp)
    rw [numb]
    refine ⟨rfl, h0.1, h0.2, ?_⟩
    have := GI_numb (t := t) l (g + 1) (fun j hj => by
      have := h (j + 1) (by rw [List.length_cons]; omega)
      rw [show g + 1 + 1 + j = g + 1 + (j + 1) by omega]
      exact this)
    exact this
theorem numb_len : ∀ (l : List ByteArray) (g : Int), (numb g l).length = l.length
  | [], g => rfl
  | a :: l, g => by rw [numb, List.length_cons, List.length_cons, numb_len l]
/-- The tree of a part that was read from the first place on. -/
theorem right_of {x : PT} {l2 : List Nd} {s : PS} {b : List Int} (hs : SOk b s) (hf : FixL (flat 0 x) l2) (ha : AllP AlF x) {s0 : PS} (h0 : s0.gr = 0) (h1 : s0.nm = [ByteArray.empty]) (hg : Grp s0 s (grpsP x)) : rightB ⟨l2, s.gr, s.nm⟩ = true := by
  obtain ⟨ns, g1, g2, g3⟩ := hg
  have hn := hs.nm
  have hlen := hf.len
  have e1 : endK l2 (l2.length + 1) 0 = some l2.length := by rw [hf.end_, hlen]; exact flat_all x
  rw [h1] at g1
  rw [h0] at g2 g3
  have hr := right_flat (t := ⟨l2, s.gr, s.nm⟩) x 0 0 l2 [] [] (by simp) rfl hf ha (by
    rw [g3]
    refine GI_numb ns 0 (fun j hj => ⟨?_, ?_⟩)
    · show _ ≤ s.gr; rw [g2]; omega
    · show s.nm.getD (0 + 1 + j) ByteArray.empty = ns[j]
      rw [g1, show 0 + 1 + j = j + 1 by omega]
      simp [List.getD_eq_getElem?_getD, hj]) []
  rw [List.append_nil] at hr
  unfold rightB
  rw [hr, e1, g3, numb_len]
  unfold rightL
  show (some l2.length == some l2.length && (decide (s.nm.length ≠ 0) && (((s.nm.length : Int) - 1 == s.gr) && (emptyS (s.nm.getD 0 ByteArray.empty) && (((0 + ns.length : Nat) : Int) == s.gr))))) = true
  rw [beq_self_eq_true, decide_eq_true (show s.nm.length ≠ 0 by omega), show ((s.nm.length : Int) - 1 == s.gr) = true by rw [beq_iff_eq]; omega, show (((0 + ns.length : Nat) : Int) == s.gr) = true by rw [beq_iff_eq]; omega, g1]
  have ee : emptyS ByteArray.empty = true := by unfold emptyS; exact beq_self_eq_true _
  show (true && (true && (true && (emptyS ByteArray.empty && true)))) = true
  rw [ee]
  rfl
end Go.Proofs.YtlofoifcdmeopaaGreatDoor.V
namespace Go.Proofs.YtlofoifcdmeopaaGreatDoor.V
open Go Go.Ev Go.RowKit
set_option linter.unusedVariables false
set_option linter.unusedSimpArgs false
theorem endK_mono (ns : List Nd) : ∀ (f i : Nat) {e : Nat}, endK ns f i = some e → endK ns (f + 1) i = some e
  | 0, i, e, h => by cases h
  | f + 1, i, e, h => by
    unfold endK at h
    cases hn : ns[i]? with
    | none => rw [hn] at h; cases h
    | some n =>
      rw [hn] at h
      have w : ∀ (ks : List Int) (nx e : Nat), walkK (endK ns f) ks nx = some e → walkK (endK ns (f + 1)) ks nx = some e := by
        intro ks
        induction ks with
        | nil => intro nx e h; exact h
        | cons k ks ih =>
          intro nx e h
          unfold walkK at h ⊢
          split at h
          · cases h
          · rename_i hk
            rw [if_neg hk]
            cases hg : endK ns f nx with
            | none => rw [hg] at h; cases h
            | some m =>
              rw [hg] at h
              rw [endK_mono ns f nx hg]
              exact ih m e h
      show (match ns[i]? with | none => none | some n => walkK (endK ns (f + 1)) n.kids (i + 1)) = some e
      rw [hn]
      exact w n.kids (i + 1) e h
/-- Each node within a part has a part of its own, within it. -/
theorem endK_in (ns : List Nd) : ∀ (f i : Nat) {e : Nat}, endK ns f i = some e → ∀ j : Nat, i ≤ j → j < e → ∃ e', endK ns f j = some e' ∧ e' ≤ e
  | 0, i, e, h => by cases h
  | f + 1, i, e, h => by
    intro j hij hje
    by_cases hji : j = i
    · subst hji
      exact ⟨e, h, Nat.le_refl _⟩
    unfold endK at h
    cases hn : ns[i]? with
    | none => rw [hn] at h; cases h
    | some n =>
      rw [hn] at h
      have w : ∀ (ks : List Int) (nx : Nat), nx ≤ j → walkK (endK ns f) ks nx = some e → ∃ e', endK ns f j = some e' ∧ e' ≤ e := by
        intro ks
        induction ks with
        | nil => intro nx hx h; obtain rfl := Option.some.inj h; omega
        | cons k ks ih =>
          intro nx hx h
          unfold walkK at h
          split at h
          · cases h
          · cases hg : endK ns f nx with
            | none => rw [hg] at h; cases h
            | some m =>
              rw [hg] at h
              by_cases hjm : j < m
              · obtain ⟨e', h1, h2⟩ := endK_in ns f nx hg j hx hjm
                have hme : m ≤ e := walk_le m e ks h
                exact ⟨e', h1, by omega⟩
              · exact ih m (by omega) h
      obtain ⟨e', h1, h2⟩ := w n.kids (i + 1) (by omega) h
      exact ⟨e', endK_mono ns f j h1, h2⟩
where
  walk_le {ns : List Nd} {f : Nat} : ∀ (nx e : Nat) (ks : List Int), walkK (endK ns f) ks nx = some e → nx ≤ e
    | nx, e, [], h => by obtain rfl := Option.some.inj h; exact Nat.le_refl _
    | nx, e, k :: ks, h => by
      unfold walkK at h
      split at h
      · cases h
      · cases hg : endK ns f nx with
        | none => rw [hg] at h; cases h
        | some m =>
          rw [hg] at h
          have h1 := endK_bound ns f nx hg
          have h2 := walk_le m e ks h
          omega
/-- Where a node's part ends, in a right tree. -/
def endT (t : Tr) (i : Nat) : Nat := (endK t.ns (t.ns.length + 1) i).getD 0
structure Laid (t : Tr) : Prop where
  all : endK t.ns (t.ns.length + 1) 0 = some t.ns.length
theorem Laid.at {t : Tr} (h : Laid t) {i : Nat} (hi : i < t.ns.length) : endK t.ns (t.ns.length + 1) i = some (endT t i) := by
  obtain ⟨e, h1, _⟩ := endK_in t.ns _ 0 h.all i (Nat.zero_le _) hi
  unfold endT
  rw [h1]
  rfl
end Go.Proofs.YtlofoifcdmeopaaGreatDoor.V
namespace Go.Proofs.YtlofoifcdmeopaaGreatDoor.V
open Go Go.Ev Go.RowKit
set_option linter.unusedVariables false
set_option linter.unusedSimpArgs false
theorem Laid.kid {t : Tr} (h : Laid t) {p : Nat} (hp : p < t.ns.length) {k : Int} (hk : k ∈ t.ns[p].kids) : ∃ m : Nat, k = (m : Int) ∧ p < m ∧ m < t.ns.length := endK_kids t.ns _ 0 h.all p hp (Nat.zero_le _) hp k hk
end Go.Proofs.YtlofoifcdmeopaaGreatDoor.V
namespace Go.Proofs.YtlofoifcdmeopaaGreatDoor.V
open Go Go.Ev Go.RowKit
set_option linter.unusedVariables false
set_option linter.unusedSimpArgs false
/-- What is known of the nodes of a right tree. -/
structure NdOk (n : Nd) : Prop where
  k : 1 ≤ n.kind ∧ n.kind ≤ 10
  leaf : n.kind ≤ 4 → n.kids = []
  many : n.kind = 5 ∨ n.kind = 6 → 2 ≤ n.kids.length
  one : 7 ≤ n.kind → n.kids.length = 1
  cnt : n.kind = 8 → (0 ≤ n.min ∧ n.min ≤ 1000) ∧ (n.max = -1 ∨ 1 ≤ n.max ∧ n.max ≤ 1000)
  look : n.kind = 10 → 1 ≤ n.num ∧ n.num ≤ 4
theorem wi_iff {x a b : Int} : wi x a b = true ↔ a ≤ x ∧ x ≤ b := by simp [wi]
theorem ndOk {n : Nd} (h : aloneB n = true) : NdOk n := by
  unfold aloneB kidsB at h
  simp only [Bool.and_eq_true, Bool.not_eq_true', Bool.and_eq_false_iff, decide_eq_false_iff_not, bne_eq_false_iff_eq, beq_eq_false_iff_ne, Bool.not_eq_false', wi_iff] at h
  obtain ⟨⟨⟨⟨⟨hk, -⟩, -⟩, -⟩, -⟩, -, ⟨⟨⟨h1, h2⟩, h3⟩, h4⟩, h5⟩ := h
  refine ⟨hk, fun hh => ?_, fun hh => ?_, fun hh => ?_, fun hh => ?_, fun hh => ?_⟩
  · rcases h1 with h1 | h1
    · exact absurd hh h1
    · exact List.eq_nil_of_length_eq_zero (by omega)
  · rcases hh with hh | hh
    · rcases h2 with h2 | h2
      · exact absurd hh h2
      · omega
    · rcases h3 with h3 | h3
      · exact absurd hh h3
      · omega
  · rcases h4 with h4 | h4
    · exact absurd hh h4
    · omega
  · unfold al3 at h5
    rw [eT hh] at h5
    simp only [Bool.and_eq_true, Bool.or_eq_true, wi_iff, beq_iff_eq, decide_eq_true_eq] at h5
    omega
  · unfold al3 al4 al5 al6 al7 al8 at h5
    rw [eF (show n.kind ≠ 8 by omega), eF (show n.kind ≠ 3 by omega), eF (show n.kind ≠ 4 by omega), eF (show n.kind ≠ 7 by omega), eT hh] at h5
    simp only [Bool.and_eq_true, wi_iff] at h5
    exact h5.2
theorem rightL_all {t : Tr} : ∀ (l : List Nd) (g : Nat), rightL t l g = true → ∀ n, n ∈ l → NdOk n
  | [], g, _, n, h => by cases h
  | m :: l, g, h, n, hn => by
    unfold rightL at h
    rw [Bool.and_eq_true, Bool.and_eq_true] at h
    rw [List.mem_cons] at hn
    rcases hn with rfl | hn
    · exact ndOk h.1
    · have h2 := h.2.2
      split at h2
      · simp only [Bool.and_eq_true] at h2
        exact rightL_all l _ h2.2.2.2 n hn
      · exact rightL_all l _ h2 n hn
theorem right_laid {t : Tr} (h : rightB t = true) : Laid t ∧ ∀ n, n ∈ t.ns → NdOk n := by
  unfold rightB at h
  simp only [Bool.and_eq_true, beq_iff_eq] at h
  exact ⟨⟨h.1⟩, rightL_all _ _ h.2.2.2.2⟩
def k0 (n : Nd) : Int := n.kids.headD 0
structure RT (t : Tr) : Prop where
  laid : Laid t
  nd : ∀ n, n ∈ t.ns → NdOk n
def HB (x : Int) : Prop := -1 ≤ x ∧ x ≤ 1048576
end Go.Proofs.YtlofoifcdmeopaaGreatDoor.V
namespace Go.Proofs.YtlofoifcdmeopaaGreatDoor.V
open Go Go.Ev Go.RowKit
set_option linter.unusedVariables false
set_option linter.unusedSimpArgs false
/-! What is least is no more than what is most. -/
end Go.Proofs.YtlofoifcdmeopaaGreatDoor.V
namespace Go.Proofs.YtlofoifcdmeopaaGreatDoor.V
open Go Go.Ev Go.RowKit
set_option linter.unusedVariables false
set_option linter.unusedSimpArgs false
theorem ptsDat_app : ∀ (a c : List PT), ptsDat (a ++ c) = ptsDat a ++ ptsDat c
  | [], c => rfl
  | x :: a, c => by rw [List.cons_append, ptsDat, ptsDat, ptsDat_app a c]; rfl
theorem last_of {α : Type} (x : α) (m : List α) : ∃ pre y, x :: m = pre ++ [y] := ⟨(x :: m).dropLast, (x :: m).getLast (by simp), (List.dropLast_concat_getLast (by simp)).symm⟩
theorem rowT_loop {b : List Int} (hb : isBytes b = true) (hl : b.length ≤ 4096) {d : Int} (hd : 0 ≤ d ∧ d ≤ 1000) (IH : d + 1 ≤ 100 → AltSpec b (d + 1)) {s0 : PS} (h0 : SOk b s0) (he0 : s0.e = 0) : ∀ (m : Nat) (t : PS) (l : List PT), SOk b t → (t.e = 0 → RowSt s0 l t ∧ (b.length : Int) - t.k < m) → l.length + m ≤ 10000 →
    ∃ x s', M108_1 (b.map .int) t.k t.fo t.li t.al t.wi t.gr (t.nm.map .str) t.e t.wh d 0 0 0 0 0 0 0 ByteArray.empty [] [] [] s0.k (ptsDat l) = some [ptDat x, pd b s'] ∧ SOk b s' ∧ (s'.e = 0 → PartOk s0 x s' ∧ ((szP x : Nat) : Int) ≤ 8 * (s'.k - s0.k) + 1) := by
  intro m
  induction m with
  | zero =>
    intro t l ht hr hm
    exact fin t l ht (fun q => (hr q).1) (by omega) (fun q => by
      obtain ⟨q1, q2⟩ := hr q
      have := ht.kE q
      omega)
  | succ m ih =>
    intro t l ht hr hm
    obtain ⟨u0, u1, u2, u3, u4⟩ := skip_T ht
    cases hE : endsB b t with
    | true => exact fin t l ht (fun q => (hr q).1) (by omega) (fun q => hE)
    | false =>
      have hE' := hE
      unfold endsB at hE'
      simp only [Bool.or_eq_false_iff] at hE'
      have ho := hE'.1.1
      unfold overB at ho
      simp only [Bool.or_eq_false_iff, decide_eq_false_iff_not, bne_eq_false_iff_eq] at ho
      obtain ⟨e0, k0⟩ := ho
      have et : t.e = 0 := by rw [← u2]; exact e0
      obtain ⟨r1, r2⟩ := hr et
      obtain ⟨p, s', p1, pE, p2, p3⟩ := piece_T hb hl hd IH u0 e0 (by omega)
      obtain ⟨x, s'', i1, i2, i3⟩ := ih s' (l ++ p) p2 (fun q => by
        have := p3 q
        have hk := this.1
        exact ⟨(r1.on u1 u3 u4).piece this, by omega⟩) (by rw [List.length_append]; omega)
      refine ⟨x, s'', ?_, i2, i3⟩
      apply M108_1_of
      have e1 := ends_E b (by omega) t (ht.i64 hl) u0.k0
      rw [hE] at e1
      rw [bT e1]
      simp only [stP, agA]
      rw [row_one.nF' rfl]
      refine (bT pE).trans ?_
      simp only [stP, agA]
      rw [ptsDat_len, ptsDat_len, cap144, dT (by omega), ← ptsDat_app]
      exact i1
where
  fin (t : PS) (l : List PT) (ht : SOk b t) (hr : t.e = 0 → RowSt s0 l t) (hll : l.length ≤ 10000) (hE0 : t.e = 0 → endsB b t = true) : ∃ x s', M108_1 (b.map .int) t.k t.fo t.li t.al t.wi t.gr (t.nm.map .str) t.e t.wh d 0 0 0 0 0 0 0 ByteArray.empty [] [] [] s0.k (ptsDat l) = some [ptDat x, pd b s'] ∧ SOk b s' ∧ (s'.e = 0 → PartOk s0 x s' ∧ ((szP x : Nat) : Int) ≤ 8 * (s'.k - s0.k) + 1) := by
    obtain ⟨u0, u1, u2, u3, u4⟩ := skip_T ht
    have hE : endsB b t = true := by
      by_cases c : t.e = 0
      · exact hE0 c
      · unfold endsB overB
        rw [u2, show (t.e != 0) = true by simp [c]]
        rfl
    have e1 := ends_E b (by omega) t (ht.i64 hl) u0.k0
    rw [hE] at e1
    have hR : (skipS b t).e = 0 → RowSt s0 l (skipS b t) := fun q => (hr (by rw [← u2]; exact q)).on u1 u3 u4
    cases l with
    | nil =>
      refine ⟨.mk ⟨1, s0.k, s0.k, 0, 0, 0, 0, ByteArray.empty, [], []⟩ [], skipS b t, ?_, u0, fun q => ⟨(hR q).empty hl h0 he0, (hR q).sizeCat⟩⟩
      apply M108_1_of
      rw [bT e1]
      simp only [stP, agA]
      rw [nF rfl]
      rfl
    | cons x r =>
      cases r with
      | nil =>
        refine ⟨x, skipS b t, ?_, u0, fun q => ⟨(hR q).one, (hR q).sizeOne⟩⟩
        obtain ⟨n, ks⟩ := x
        apply M108_1_of
        rw [bT e1]
        simp only [stP, agA]
        rw [nF rfl, ptsDat, ptsDat, ptDat]
        rfl
      | cons y r =>
        obtain ⟨pre, z, hz⟩ := last_of x (y :: r)
        refine ⟨.mk ⟨5, x.nd.frm, z.nd.to, 0, 0, 0, 0, ByteArray.empty, [], []⟩ (x :: y :: r), skipS b t, ?_, u0, fun q => ⟨(hR q).cat hl h0 (u0.kE q) (by simp) hz, (hR q).sizeCat⟩⟩
        have hlen : (ptsDat (x :: y :: r)).length = r.length + 2 := by rw [ptsDat_len]; rfl
        have hpre : pre.length = r.length + 1 := by
          have := congrArg List.length hz
          simp at this
          omega
        have hlast : rd (ptsDat (x :: y :: r)) (r.length + 1) = ptDat z := by
          rw [hz, ← hpre]
          exact ptsDat_rd pre z []
        have hfirst : rd (ptsDat (x :: y :: r)) 0 = ptDat x := by rw [ptsDat]; rfl
        simp only [List.length_cons] at hll
        apply M108_1_of
        rw [bT e1]
        simp only [stP, agA]
        rw [nF rfl, hlen, eF (show ((r.length + 2 : Nat) : Int) ≠ 0 by omega), eF (show ((r.length + 2 : Nat) : Int) ≠ 1 by omega), dT (by omega), dT (by omega), w64 (n := ((r.length + 2 : Nat) : Int) - 1) (by omega) (by omega), dT (by omega), dT (by omega), dT (by omega), show (((r.length + 2 : Nat) : Int) - 1).toNat = r.length + 1 by omega, hlast, hfirst]
        obtain ⟨xn, xk⟩ := x
        obtain ⟨zn, zk⟩ := z
        rw [ptDat, ptDat, ptDat]
        rfl
theorem row_T {b : List Int} (hb : isBytes b = true) (hl : b.length ≤ 4096) {d : Int} (hd : 0 ≤ d ∧ d ≤ 1000) (IH : d + 1 ≤ 100 → AltSpec b (d + 1)) {s : PS} (hs : SOk b s) (he : s.e = 0) : ∃ x s', E C 108 [pv b s, .int .i64 d] = some [ptDat x, pd b s'] ∧ SOk b s' ∧ (s'.e = 0 → PartOk s x s' ∧ ((szP x : Nat) : Int) ≤ 8 * (s'.k - s.k) + 1) := by
  have k0 := hs.k0
  obtain ⟨x, s', r1, r2, r3⟩ := rowT_loop hb hl hd IH hs he (b.length + 1) s [] hs (fun _ => ⟨RowSt.none s, by omega⟩) (by simp; omega)
  refine ⟨x, s', ?_, r2, r3⟩
  apply o108
  exact r1
theorem altT_fin {b : List Int} (hl : b.length ≤ 4096) {d : Int} {s0 : PS} (h0 : SOk b s0) (t : PS) (l : List PT) (ht : SOk b t) (hr : t.e = 0 → AltSt s0 l t) (h1 : 1 ≤ l.length) : ∃ x, ((bif ((ptsDat l).length : Int) == 1 then (bif decide (0 < ((ptsDat l).length : Int)) then (bif decide (0 < (ptsDat l).length) then (some [.agg [.int (((rd (ptsDat l) 0).C 0).I), .int (((rd (ptsDat l) 0).C 1).I), .int (((rd (ptsDat l) 0).C 2).I), .int (((rd (ptsDat l) 0).C 3).I), .int (((rd (ptsDat l) 0).C 4).I), .int (((rd (ptsDat l) 0).C 5).I), .int (((rd (ptsDat l) 0).C 6).I), .str (((rd (ptsDat l) 0).C 7).S), .list (((rd (ptsDat l) 0).C 8).L), .list (((rd (ptsDat l) 0).C 9).L), .list (((rd (ptsDat l) 0).C 10).L)], pd b t]) else none) else none) else (some [.agg [.int 6, .int s0.k, .int t.k, .int 0, .int 0, .int 0, .int 0, .str ByteArray.empty, .list ([] : List Dat), .list ([] : List Dat), .list (ptsDat l)], pd b t])) : R) = some [ptDat x, pd b t] ∧ (t.e = 0 → PartOk s0 x t ∧ ((szP x : Nat) : Int) ≤ 8 * (t.k - s0.k) + 1) := by
  cases l with
  | nil => simp at h1
  | cons x r =>
    cases r with
    | nil =>
      refine ⟨x, ?_, fun q => ⟨?_, (hr q).sizeOne⟩⟩
      · obtain ⟨n, ks⟩ := x
        rw [ptsDat, ptsDat, ptDat]
        rfl
      · exact (hr q).one x rfl
    | cons y r =>
      refine ⟨.mk ⟨6, s0.k, t.k, 0, 0, 0, 0, ByteArray.empty, [], []⟩ (x :: y :: r), ?_, fun q => ⟨(hr q).alt hl h0 (ht.kE q) (by simp), (hr q).sizeAlt (by simp)⟩⟩
      rw [ptsDat_len, eF (by simp only [List.length_cons]; omega), ptDat]
      rfl
theorem altT_loop {b : List Int} (hb : isBytes b = true) (hl : b.length ≤ 4096) {d : Int} (hd : 0 ≤ d ∧ d ≤ 1000) (IH : d + 1 ≤ 100 → AltSpec b (d + 1)) {s0 : PS} (h0 : SOk b s0) (he0 : s0.e = 0) : ∀ (m : Nat) (t : PS) (l : List PT), SOk b t → (t.e = 0 → AltSt s0 l t ∧ (b.length : Int) - t.k < m) → 1 ≤ l.length → l.length + m ≤ 10000 →
    ∃ x s', M66_1 (b.map .int) t.k t.fo t.li t.al t.wi t.gr (t.nm.map .str) t.e t.wh d 0 0 0 0 0 0 0 ByteArray.empty [] [] [] s0.k (ptsDat l) = some [ptDat x, pd b s'] ∧ SOk b s' ∧ (s'.e = 0 → PartOk s0 x s' ∧ ((szP x : Nat) : Int) ≤ 8 * (s'.k - s0.k) + 1) := by
  intro m
  induction m with
  | zero =>
    intro t l ht hr h1 hm
    obtain ⟨x, x1, x2⟩ := altT_fin hl (d := d) h0 t l ht (fun q => (hr q).1) h1
    refine ⟨x, t, ?_, ht, x2⟩
    have ho : overB b t = true := by
      unfold overB
      by_cases c : t.e = 0
      · have := (hr c).2
        have := ht.kE c
        omega
      · rw [show (t.e != 0) = true by simp [c]]; rfl
    apply M66_1_of
    rw [bT (over_E b t), ho]
    simp only [stP, agA]
    rw [nF rfl]
    exact x1
  | succ m ih =>
    intro t l ht hr h1 hm
    obtain ⟨x, x1, x2⟩ := altT_fin hl (d := d) h0 t l ht (fun q => (hr q).1) h1
    cases ho : overB b t with
    | true =>
      refine ⟨x, t, ?_, ht, x2⟩
      apply M66_1_of
      rw [bT (over_E b t), ho]
      simp only [stP, agA]
      rw [nF rfl]
      exact x1
    | false =>
      have ho' := ho
      unfold overB at ho'
      simp only [Bool.or_eq_false_iff, decide_eq_false_iff_not, bne_eq_false_iff_eq] at ho'
      obtain ⟨e0, k0⟩ := ho'
      have k00 := ht.k0
      by_cases c : atB b t.k = 124
      · have ht2 : SOk b { t with k := t.k + 1 } := ht.to (by omega) (by omega)
        obtain ⟨y, s', yE, y1, y2⟩ := row_T hb hl hd IH ht2 e0
        obtain ⟨r1, r2⟩ := hr e0
        obtain ⟨z, s'', z1, z2, z3⟩ := ih s' (l ++ [y]) y1 (fun q => by
          obtain ⟨q1, q2⟩ := y2 q
          have hk : t.k + 1 ≤ s'.k := q1.2.2.2.2.1
          exact ⟨r1.next h1 (t' := { t with k := t.k + 1 }) rfl rfl rfl q1 q2, by omega⟩) (by rw [List.length_append]; omega) (by rw [List.length_append, List.length_cons, List.length_nil]; omega)
        refine ⟨z, s'', ?_, z2, z3⟩
        obtain ⟨yn, yk⟩ := y
        rw [ptDat] at yE
        rw [ptsDat_app, ptsDat, ptsDat, ptDat] at z1
        apply M66_1_of
        rw [bT (over_E b t), ho]
        simp only [stP, agA]
        rw [row_one.nF' rfl, bT (byteAt_E b t _ k00)]
        simp only [stP, agA]
        rw [eT c, w64 (n := t.k + 1) (by omega) (by omega)]
        refine (bT yE).trans ?_
        simp only [stP, agA]
        rw [cap144, dT (by rw [ptsDat_len]; show _ + 1 ≤ _; omega)]
        exact z1
      · refine ⟨x, t, ?_, ht, x2⟩
        apply M66_1_of
        rw [bT (over_E b t), ho]
        simp only [stP, agA]
        rw [row_one.nF' rfl, bT (byteAt_E b t _ k00)]
        simp only [stP, agA]
        rw [eF c]
        exact x1
theorem alt_T {b : List Int} (hb : isBytes b = true) (hl : b.length ≤ 4096) {d : Int} (hd : 0 ≤ d ∧ d ≤ 1000) (IH : d + 1 ≤ 100 → AltSpec b (d + 1)) : AltSpec b d := fun s hs he => by
  have k0 := hs.k0
  obtain ⟨x, s1, rE, r1, r2⟩ := row_T hb hl hd IH hs he
  obtain ⟨z, s', z1, z2, z3⟩ := altT_loop hb hl hd IH hs he (b.length + 1) s1 [x] r1 (fun q => ⟨AltSt.first (r2 q).1 (r2 q).2, by have := r1.k0; omega⟩) (by simp) (by simp; omega)
  refine ⟨z, s', ?_, z2, z3⟩
  obtain ⟨xn, xk⟩ := x
  rw [ptDat] at rE
  rw [ptsDat, ptsDat, ptDat] at z1
  apply o66
  refine (bT rE).trans ?_
  simp only [stP, agA]
  exact z1
theorem alt_all {b : List Int} (hb : isBytes b = true) (hl : b.length ≤ 4096) : ∀ (j : Nat) (d : Int), 0 ≤ d → d ≤ 100 → 100 - d < j → AltSpec b d
  | 0, d, h1, h2, h3 => by omega
  | j + 1, d, h1, h2, h3 => alt_T hb hl ⟨h1, by omega⟩ fun h => alt_all hb hl j (d + 1) (by omega) h (by omega)
end Go.Proofs.YtlofoifcdmeopaaGreatDoor.V
namespace Go.Proofs.YtlofoifcdmeopaaGreatDoor.V
open Go Go.Ev Go.RowKit
set_option linter.unusedVariables false
set_option linter.unusedSimpArgs false
theorem idxB_loop (l : List ByteArray) (hl : l.length ≤ 20000000000000) (a : ByteArray) (z : Int) : ∀ (d k : Nat), k + d = l.length → ∃ i : Int, M70_1 (l.map .str) a z (l.length : Int) (k : Int) = some [.int i] ∧ -1 ≤ i ∧ i ≤ (l.length : Int) - 1
  | 0, k, h => ⟨-1, by
      apply M70_1_of
      rw [dF (by omega)], by omega, by omega⟩
  | d + 1, k, h => by
    obtain ⟨i, r1, r2⟩ := idxB_loop l hl a z d (k + 1) (by omega)
    cases q : (a.toList == ((rd (l.map Dat.str) k).S).toList) with
    | true =>
      refine ⟨(k : Int), ?_, by omega, by omega⟩
      apply M70_1_of
      rw [dT (by omega), List.length_map, ixT ⟨by omega, by omega⟩, Int.toNat_natCast, q, cond_true]
    | false =>
      refine ⟨i, ?_, r2⟩
      apply M70_1_of
      rw [dT (by omega), List.length_map, ixT ⟨by omega, by omega⟩, Int.toNat_natCast, q, cond_false, upk' (n := l.length) (by omega) hl]
      exact r1
theorem idxB_E (l : List ByteArray) (hl : l.length ≤ 20000000000000) (a : ByteArray) : ∃ i : Int, E C 70 [.shr 9 (l.map .str), .str a] = some [.int i] ∧ -1 ≤ i ∧ i ≤ (l.length : Int) - 1 := by
  obtain ⟨i, r1, r2⟩ := idxB_loop l hl a 0 l.length 0 (by omega)
  refine ⟨i, ?_, r2⟩
  apply o70
  rw [List.length_map]
  exact r1
theorem fix_loop {nm : List ByteArray} (hnm : nm.length ≤ 100) (tot : Nat) (htot : tot ≤ 1000000) (v0 v2_0 : List Dat) (v2_1 : Int) (v2_2 : List Dat) (v3 v4 v6_0 v6_1 v6_2 v6_3 v6_4 v6_5 v6_6 : Int) (v6_7 : ByteArray) (v6_8 v6_9 v6_10 : List Dat) (v7_1 : Int) (v7_2 v17_0 : List Dat) (v17_1 : Int) (v17_2 v17_3 v17_4 v17_5 : Bool) (v17_6 v17_8 v17_9 : Int) : ∀ (rest pre : List Nd), tot = pre.length + rest.length → ∃ l', FixL rest l' ∧
    M26_1 v0 v2_0 v2_1 v2_2 v3 v4 v6_0 v6_1 v6_2 v6_3 v6_4 v6_5 v6_6 v6_7 v6_8 v6_9 v6_10 (nsD (pre ++ rest)) v7_1 v7_2 v17_0 v17_1 v17_2 v17_3 v17_4 v17_5 v17_6 (nm.map .str) v17_8 v17_9 (tot : Int) (pre.length : Int) = some [.agg [.list (nsD (pre ++ l')), .int v7_1, .list v7_2], .int 0, .int 0]
  | [], pre, h => ⟨[], trivial, by
      apply M26_1_of
      rw [dF (by rw [h]; simp)]⟩
  | n :: rest, pre, h => by
    rw [List.length_cons] at h
    have hlen : (pre ++ n :: rest).length = pre.length + (rest.length + 1) := by rw [List.length_append, List.length_cons]
    have hrd : rd (nsD (pre ++ n :: rest)) pre.length = nodeD n := by
      rw [nsD_rd (by omega)]
      congr 1
      simp
    have hw : IntKind.i64.wrap ((pre.length : Int) + 1) = ((pre.length + 1 : Nat) : Int) := by rw [w64 (by omega) (by omega)]; omega
    have fin : ∀ m : Nd, Fix n m → (∀ r, M26_1 v0 v2_0 v2_1 v2_2 v3 v4 v6_0 v6_1 v6_2 v6_3 v6_4 v6_5 v6_6 v6_7 v6_8 v6_9 v6_10 (nsD (pre ++ m :: rest)) v7_1 v7_2 v17_0 v17_1 v17_2 v17_3 v17_4 v17_5 v17_6 (nm.map .str) v17_8 v17_9 (tot : Int) ((pre.length + 1 : Nat) : Int) = some r → M26_1 v0 v2_0 v2_1 v2_2 v3 v4 v6_0 v6_1 v6_2 v6_3 v6_4 v6_5 v6_6 v6_7 v6_8 v6_9 v6_10 (nsD (pre ++ n :: rest)) v7_1 v7_2 v17_0 v17_1 v17_2 v17_3 v17_4 v17_5 v17_6 (nm.map .str) v17_8 v17_9 (tot : Int) (pre.length : Int) = some r) → ∃ l', FixL (n :: rest) l' ∧
        M26_1 v0 v2_0 v2_1 v2_2 v3 v4 v6_0 v6_1 v6_2 v6_3 v6_4 v6_5 v6_6 v6_7 v6_8 v6_9 v6_10 (nsD (pre ++ n :: rest)) v7_1 v7_2 v17_0 v17_1 v17_2 v17_3 v17_4 v17_5 v17_6 (nm.map .str) v17_8 v17_9 (tot : Int) (pre.length : Int) = some [.agg [.list (nsD (pre ++ l')), .int v7_1, .list v7_2], .int 0, .int 0] := fun m hm e => by
      obtain ⟨l', f1, f2⟩ := fix_loop hnm tot htot v0 v2_0 v2_1 v2_2 v3 v4 v6_0 v6_1 v6_2 v6_3 v6_4 v6_5 v6_6 v6_7 v6_8 v6_9 v6_10 v7_1 v7_2 v17_0 v17_1 v17_2 v17_3 v17_4 v17_5 v17_6 v17_8 v17_9 rest (pre ++ [m]) (by rw [List.length_append, List.length_cons, List.length_nil]; omega)
      rw [List.append_assoc, List.append_assoc, List.length_append, List.length_cons, List.length_nil] at f2
      exact ⟨m :: l', ⟨hm, f1⟩, e _ f2⟩
    by_cases c4 : n.kind = 4
    · cases hq : emptyS n.name with
      | true =>
        refine fin n (.inl rfl) fun r hr => ?_
        unfold emptyS at hq
        apply M26_1_of
        rw [dT (by omega), nsD_len, hlen, ixT ⟨by omega, by omega⟩, Int.toNat_natCast, hrd, hw]
        simp only [nd0, nd7, datI, datS]
        rw [eT c4, hq, nF rfl]
        exact hr
      | false =>
        obtain ⟨i, i1, i2, i3⟩ := idxB_E nm (by omega) n.name
        refine fin { n with num := if 0 > i then 0 else i } (.inr ⟨c4, hq, if 0 > i then 0 else i, by split <;> omega, by split <;> omega, rfl⟩) fun r hr => ?_
        unfold emptyS at hq
        have hset : (nsD (pre ++ n :: rest)).set pre.length (nodeD { n with num := if 0 > i then 0 else i }) = nsD (pre ++ { n with num := if 0 > i then 0 else i } :: rest) := by
          unfold nsD
          simp
        apply M26_1_of
        rw [dT (by omega), nsD_len, hlen, ixT ⟨by omega, by omega⟩, Int.toNat_natCast, hrd, hw]
        simp only [nd0, nd7, datI, datS]
        rw [eT c4, hq, row_one.nF' rfl, bT i1]
        simp only [rd0, datI]
        rw [dT (by omega), dT (by omega), dT (by omega)]
        have := hset ▸ hr
        exact this
    · refine fin n (.inl rfl) fun r hr => ?_
      apply M26_1_of
      rw [dT (by omega), nsD_len, hlen, ixT ⟨by omega, by omega⟩, Int.toNat_natCast, hrd, hw]
      simp only [nd0, datI]
      rw [eF c4]
      exact hr
/-! Nodes that may be are within bounds. -/
theorem al3_in {num mi ma mode k : Int} {name : ByteArray} (h : al3 num mi ma mode name k = true) : (0 ≤ num ∧ num ≤ 99) ∧ (0 ≤ mi ∧ mi ≤ 1000) ∧ (-1 ≤ ma ∧ ma ≤ 1000) ∧ (0 ≤ mode ∧ mode ≤ 1) ∧ (k = 8 → ma = -1 ∨ mi ≤ ma) := by
  unfold al3 at h
  cases h8 : (k == 8) with
  | true =>
    rw [h8, cond_true] at h
    simp only [Bool.and_eq_true, beq_iff_eq, Bool.or_eq_true, decide_eq_true_eq, wi_iff] at h
    omega
  | false =>
    rw [h8, cond_false] at h
    rw [beq_eq_false_iff_ne] at h8
    unfold al4 at h
    simp only [Bool.and_eq_true, beq_iff_eq, wi_iff] at h
    obtain ⟨⟨⟨⟨h1, h2⟩, h3⟩, h4⟩, h5⟩ := h
    have : 0 ≤ num ∧ num ≤ 99 := by
      unfold al5 al6 al7 al8 at h5
      revert h5
      cases k == 3 <;> cases k == 4 <;> cases k == 7 <;> cases k == 10 <;> intro h5 <;> simp only [cond_true, cond_false, Bool.and_eq_true, beq_iff_eq, Bool.or_eq_true, wi_iff] at h5 <;> omega
    omega
theorem least_len : ∀ (l : List (Int × Int)) (c : Int), c ≤ 1114369 → (∀ r ∈ l, okR r ∧ c ≤ r.1) → l.Pairwise (fun a b => a.2 + 1 < b.1) → (l.length : Int) ≤ 1114369 - c
  | [], c, h, _, _ => by simp; omega
  | r :: l, c, h, h1, h2 => by
    obtain ⟨h3, h4⟩ := List.pairwise_cons.1 h2
    have h5 := h1 r List.mem_cons_self
    unfold okR at h5
    have := least_len l (r.2 + 2) (by omega) (fun q hq => ⟨(h1 q (List.mem_cons_of_mem _ hq)).1, by have := h3 q hq; omega⟩) h4
    rw [List.length_cons]
    omega
theorem okN_of {n : Nd} (h : aloneB n = true) (hk : ∀ x, x ∈ n.kids → i64P x) : OkN n := by
  unfold aloneB at h
  simp only [Bool.and_eq_true, Bool.not_eq_true', decide_eq_false_iff_not, wi_iff] at h
  obtain ⟨⟨⟨⟨⟨h1, h2⟩, h3⟩, h4⟩, h5⟩, h6, h7, h8⟩ := h
  have ha := al3_in h8
  unfold namB at h6
  simp only [Bool.and_eq_true] at h6
  have hl := (leastB_iff _).1 h6.2
  have hlen := least_len n.set 0 (by omega) (fun r hr => ⟨hl.1 r hr, (hl.1 r hr).1⟩) hl.2
  have hkn : (n.kids.length : Int) ≤ 4097 := by
    unfold kidsB at h7
    simp only [Bool.and_eq_true, Bool.not_eq_true', Bool.and_eq_false_iff, decide_eq_false_iff_not, bne_eq_false_iff_eq, beq_eq_false_iff_ne, Bool.not_eq_false', wi_iff] at h7
    omega
  refine ⟨?_, ?_, ?_, ?_, ?_, ?_, ?_, by omega, by omega, fun p hp => ?_, by omega, hk⟩
  · unfold i64P; omega
  · unfold i64P; omega
  · unfold i64P; omega
  · unfold i64P; omega
  · unfold i64P; omega
  · unfold i64P; omega
  · unfold i64P; omega
  · have := hl.1 p hp
    unfold okR at this
    unfold i64P
    omega
theorem rightL_alone {t : Tr} : ∀ (l : List Nd) (g : Nat), rightL t l g = true → ∀ n, n ∈ l → aloneB n = true
  | [], g, _, n, h => by cases h
  | m :: l, g, h, n, hn => by
    rw [rightL_cons, Bool.and_eq_true, Bool.and_eq_true] at h
    rw [List.mem_cons] at hn
    rcases hn with rfl | hn
    · exact h.1
    · have h2 := h.2.2
      split at h2
      · simp only [Bool.and_eq_true] at h2
        exact rightL_alone l _ h2.2.2.2 n hn
      · exact rightL_alone l _ h2 n hn
theorem right_alone {t : Tr} (h : rightB t = true) : ∀ n, n ∈ t.ns → aloneB n = true := by
  unfold rightB at h
  simp only [Bool.and_eq_true] at h
  exact rightL_alone _ _ h.2.2.2.2
theorem right_okT {t : Tr} (h : rightB t = true) (hl : t.ns.length ≤ 1000000) (hg : i64P t.groups) (hn : t.names.length ≤ 1000) : OkT t := by
  have hL := (right_laid h).1
  refine ⟨by omega, fun n hm => okN_of (right_alone h n hm) fun x hx => ?_, hg, by omega⟩
  obtain ⟨i, hi, rfl⟩ := List.getElem_of_mem hm
  obtain ⟨m, rfl, m1, m2⟩ := hL.kid hi hx
  unfold i64P
  omega
/-- What Parse answers. -/
def ParseOk (b : List Int) (t : Tr) (e w : Int) : Prop := (e ≠ 0 ∧ t = ⟨[], 0, []⟩ ∧ 0 ≤ w ∧ w ≤ (b.length : Int)) ∨ (e = 0 ∧ w = 0 ∧ OkT t ∧ t.ns.length ≤ 1000000 ∧ rightB t = true ∧ ∃ n l, t.ns = n :: l ∧ n.to ≤ (b.length : Int))
def ps0 : PS := ⟨0, false, false, false, false, 0, [ByteArray.empty], 0, 0⟩
theorem ps0_ok (b : List Int) : SOk b ps0 := ⟨Int.le_refl 0, by show (0 : Int) ≤ _; omega, fun _ => by show (0 : Int) ≤ _; omega, Int.le_refl 0, by decide, rfl, fun a ha => by
  have ha' : a ∈ [ByteArray.empty] := ha
  rw [List.mem_singleton] at ha'
  rw [ha']
  decide, Int.le_refl 0, by show (0 : Int) ≤ _; omega⟩
theorem Parse_T {b : List Int} (hb : isBytes b = true) : ∃ (t : Tr) (e w : Int), E C 26 [.shr 5 (b.map .int)] = some [treeD t, .int e, .int w] ∧ ParseOk b t e w := by
  by_cases hlong : (b.length : Int) > 4096
  · refine ⟨⟨[], 0, []⟩, 15, 0, ?_, .inl ⟨by decide, rfl, Int.le_refl 0, by omega⟩⟩
    apply o26
    rw [List.length_map, dT hlong]
    rfl
  have hl : b.length ≤ 4096 := by omega
  obtain ⟨x, s1, aE, a1, a2⟩ := alt_all hb hl 101 0 (by omega) (by omega) (by omega) ps0 (ps0_ok b) rfl
  have bad : s1.e ≠ 0 → ∃ (t : Tr) (e w : Int), (some [.agg [.list ([] : List Dat), .int 0, .list ([] : List Dat)], .int s1.e, .int s1.wh] : R) = some [treeD t, .int e, .int w] ∧ ParseOk b t e w := fun h => ⟨⟨[], 0, []⟩, s1.e, s1.wh, rfl, .inl ⟨h, rfl, a1.wh.1, a1.wh.2⟩⟩
  cases ho : overB b s1 with
  | false =>
    have hF := a1.fail 30 s1.k (by decide) (fun q => ⟨a1.k0, a1.kE q⟩)
    refine ⟨⟨[], 0, []⟩, (failS s1 30 s1.k).e, (failS s1 30 s1.k).wh, ?_, .inl ⟨hF.2, rfl, hF.1.wh.1, hF.1.wh.2⟩⟩
    apply o26
    rw [List.length_map, dF hlong]
    refine (bT aE).trans ?_
    simp only [stP, agA]
    rw [bT (over_E b s1), ho]
    simp only [stP, agA]
    rw [row_one.nF' rfl, bT (fail_E b s1 30 s1.k)]
    simp only [stP, agA]
    rw [neT hF.2]
    rfl
  | true =>
    by_cases he : s1.e ≠ 0
    · refine ⟨⟨[], 0, []⟩, s1.e, s1.wh, ?_, .inl ⟨he, rfl, a1.wh.1, a1.wh.2⟩⟩
      apply o26
      rw [List.length_map, dF hlong]
      refine (bT aE).trans ?_
      simp only [stP, agA]
      rw [bT (over_E b s1), ho]
      simp only [stP, agA]
      rw [nF rfl, neT he]
      rfl
    · have he0 : s1.e = 0 := by omega
      obtain ⟨p, psz⟩ := a2 he0
      have hk := a1.kE he0
      have hg0 := a1.g0
      have hg1 := a1.g1
      have hnm := a1.nm
      have hz : szP x ≤ 40000 := by
        have : ((szP x : Nat) : Int) ≤ 8 * (s1.k - 0) + 1 := psz
        omega
      have hN := number_T x [] (by simp; omega)
      rw [List.nil_append, List.length_nil] at hN
      have hfl := flat_len 0 x
      obtain ⟨xn, xk⟩ := x
      obtain ⟨l', f1, f2⟩ := fix_loop (nm := s1.nm) (by omega) (szP (.mk xn xk)) (by omega) (b.map .int) [] 0 [] 0 0 xn.kind xn.frm xn.to xn.num xn.min xn.max xn.mode xn.name (rs xn.set) (xn.kids.map .int) (ptsDat xk) s1.gr (s1.nm.map .str) (b.map .int) s1.k s1.fo s1.li s1.al s1.wi s1.gr s1.e s1.wh (flat 0 (.mk xn xk)) [] (by rw [hfl]; simp)
      have hR := right_of a1 f1 p.1 (s0 := ps0) rfl rfl p.2.2.2.2.2.2
      have hlen := f1.len
      rw [hfl] at hlen
      refine ⟨⟨l', s1.gr, s1.nm⟩, 0, 0, ?_, .inr ⟨rfl, rfl, right_okT hR (by show l'.length ≤ _; omega) (by show i64P s1.gr; unfold i64P; omega) (by show s1.nm.length ≤ _; omega), by show l'.length ≤ _; omega, hR, ?_⟩⟩
      · apply o26
        rw [List.length_map, dF hlong]
        refine (bT aE).trans ?_
        rw [ptDat]
        simp only [stP, agA]
        rw [bT (over_E b s1), ho]
        simp only [stP, agA]
        rw [nF rfl, neF he0]
        refine (bT hN).trans ?_
        simp only [stP, agA]
        rw [nsD_len, hfl]
        rw [List.nil_append, List.nil_append] at f2
        exact f2
      · have hto : xn.to ≤ s1.k := p.2.2.2.1
        rw [flat] at f1
        cases l' with
        | nil => exact absurd f1 id
        | cons m l' =>
          refine ⟨m, l', rfl, ?_⟩
          have : m.to = xn.to := f1.1.same.2.2.1
          omega
end Go.Proofs.YtlofoifcdmeopaaGreatDoor.V
namespace Go.Proofs.YtlofoifcdmeopaaGreatDoor.V
open Go Go.Ev
set_option maxRecDepth 100000
set_option linter.unusedVariables false
/-- (clew/ast.Tree).Right -/
noncomputable def f35 : Func := Tryz.f35
noncomputable def c35 (p : List Nat) : Code := pick f35 p
theorem o35 (a0_0 : List Dat) (a0_1 : Int) (a0_2 : List Dat) {r : List Dat} (h : ((E C 81 [.pbox [.shr 38 a0_0, .int .i64 a0_1, .shr 9 a0_2, .int .i64 0, .int .i64 0, .bool true], .int .i64 0, .int .i64 0, .int .i64 4096, .int .i64 0]).bind fun d1 => (bif ((rd d1 0).C 5).B then (bif (((rd d1 0).C 3).I) == (a0_0.length : Int) then (bif (((rd d1 0).C 4).I) == a0_1 then (bif (a0_2.length : Int) == (IntKind.i64.wrap (a0_1 + 1)) then (bif decide (0 < (a0_2.length : Int)) then (bif decide (0 < a0_2.length) then (some [.bool (((rd a0_2 0).S).toList == ByteArray.empty.toList)]) else none) else none) else (some [.bool false])) else (some [.bool false])) else (some [.bool false])) else (some [.bool false])) : R) = some r) : E C 35 [.agg [.shr 38 a0_0, .int .i64 a0_1, .shr 9 a0_2]] = some r := E_st h (Cont.bind (Cont.call C 81 _) fun _ => (Cont.bif (Cont.bif (Cont.bif (Cont.bif (Cont.bif (Cont.bif (Cont.const _) Cont.nn) Cont.nn) (Cont.const _)) (Cont.const _)) (Cont.const _)) (Cont.const _))) fun φ => by kernel_rfl
/-- (*clew/ast.walker).node -/
noncomputable def f81 : Func := Tryz.f81
def kp81 : List Nat := [0, 1, 2, 3, 4, 10, 12, 145, 146, 147]
noncomputable def c81 (p : List Nat) : Code := pick f81 p
noncomputable def L81_1 (n : Nat) (m1 : Nat) (v0_0 : List Dat) (v0_1 : Int) (v0_2 : List Dat) (v0_3 v0_4 : Int) (v0_5 : Bool) (v1 v2 v3 v4 v10_0 v10_1 v10_2 v10_3 v10_4 v10_5 v10_6 : Int) (v10_7 : ByteArray) (v10_8 v10_9 v145 : List Dat) (v146 v147 : Int) : R := loopIter (fun E K => evCode C (ev C n) n kp81 (c81 [1, 1, 1, 1, 1, 1, 0, 0]) E K) [0, 1, 2, 3, 4, 10, 145, 146, 147] (Kblk 0 (Ktop C 81 f81 (cn [.pbox []] (un 4 [])))) m1 (cn [.pbox [.shr 38 v0_0, .int .i64 v0_1, .shr 9 v0_2, .int .i64 v0_3, .int .i64 v0_4, .bool v0_5], .int .i64 v1, .int .i64 v2, .int .i64 v3, .int .i64 v4] (un 5 (cn [.box 38 [.int .i64 v10_0, .int .i64 v10_1, .int .i64 v10_2, .int .i64 v10_3, .int .i64 v10_4, .int .i64 v10_5, .int .i64 v10_6, .str v10_7, .shr 82 v10_8, .shr 3 v10_9]] (un 134 (cn [.shr 3 v145, .int .i64 v146, .int .i64 v147] (un 13 []))))))
noncomputable def M81_1 (v0_0 : List Dat) (v0_1 : Int) (v0_2 : List Dat) (v0_3 v0_4 : Int) (v0_5 : Bool) (v1 v2 v3 v4 v10_0 v10_1 v10_2 v10_3 v10_4 v10_5 v10_6 : Int) (v10_7 : ByteArray) (v10_8 v10_9 v145 : List Dat) (v146 v147 : Int) : R := lim fun φ => L81_1 (φ 0) (φ 1) v0_0 v0_1 v0_2 v0_3 v0_4 v0_5 v1 v2 v3 v4 v10_0 v10_1 v10_2 v10_3 v10_4 v10_5 v10_6 v10_7 v10_8 v10_9 v145 v146 v147
theorem M81_1_c (v0_0 : List Dat) (v0_1 : Int) (v0_2 : List Dat) (v0_3 v0_4 : Int) (v0_5 : Bool) (v1 v2 v3 v4 v10_0 v10_1 v10_2 v10_3 v10_4 v10_5 v10_6 : Int) (v10_7 : ByteArray) (v10_8 v10_9 v145 : List Dat) (v146 v147 : Int) : Cont (fun φ => L81_1 (φ 0) (φ 1) v0_0 v0_1 v0_2 v0_3 v0_4 v0_5 v1 v2 v3 v4 v10_0 v10_1 v10_2 v10_3 v10_4 v10_5 v10_6 v10_7 v10_8 v10_9 v145 v146 v147) (M81_1 v0_0 v0_1 v0_2 v0_3 v0_4 v0_5 v1 v2 v3 v4 v10_0 v10_1 v10_2 v10_3 v10_4 v10_5 v10_6 v10_7 v10_8 v10_9 v145 v146 v147) := Cont.re id _
theorem M81_1_e (v0_0 : List Dat) (v0_1 : Int) (v0_2 : List Dat) (v0_3 v0_4 : Int) (v0_5 : Bool) (v1 v2 v3 v4 v10_0 v10_1 v10_2 v10_3 v10_4 v10_5 v10_6 : Int) (v10_7 : ByteArray) (v10_8 v10_9 v145 : List Dat) (v146 v147 : Int) : Cont (fun φ => L81_1 (φ 0) (φ 0) v0_0 v0_1 v0_2 v0_3 v0_4 v0_5 v1 v2 v3 v4 v10_0 v10_1 v10_2 v10_3 v10_4 v10_5 v10_6 v10_7 v10_8 v10_9 v145 v146 v147) (M81_1 v0_0 v0_1 v0_2 v0_3 v0_4 v0_5 v1 v2 v3 v4 v10_0 v10_1 v10_2 v10_3 v10_4 v10_5 v10_6 v10_7 v10_8 v10_9 v145 v146 v147) := Cont.re (toZ 1) fun φ => L81_1 (φ 0) (φ 1) v0_0 v0_1 v0_2 v0_3 v0_4 v0_5 v1 v2 v3 v4 v10_0 v10_1 v10_2 v10_3 v10_4 v10_5 v10_6 v10_7 v10_8 v10_9 v145 v146 v147
theorem M81_1_of (v0_0 : List Dat) (v0_1 : Int) (v0_2 : List Dat) (v0_3 v0_4 : Int) (v0_5 : Bool) (v1 v2 v3 v4 v10_0 v10_1 v10_2 v10_3 v10_4 v10_5 v10_6 : Int) (v10_7 : ByteArray) (v10_8 v10_9 v145 : List Dat) (v146 v147 : Int) {r : List Dat} (h : (bif decide (v147 < v146) then (bif decide (0 ≤ v147) then (bif decide (v147 < (v145.length : Int)) then (bif decide (v147.toNat < v145.length) then ((E C 81 [.pbox [.shr 38 v0_0, .int .i64 v0_1, .shr 9 v0_2, .int .i64 v0_3, .int .i64 v0_4, .bool v0_5], .int .i64 ((rd v145 v147.toNat).I), .int .i64 v10_1, .int .i64 v10_2, .int .i64 (IntKind.i64.wrap (v4 + 1))]).bind fun d2 => (M81_1 (((rd d2 0).C 0).L) (((rd d2 0).C 1).I) (((rd d2 0).C 2).L) (((rd d2 0).C 3).I) (((rd d2 0).C 4).I) (((rd d2 0).C 5).B) v1 v2 v3 v4 v10_0 v10_1 v10_2 v10_3 v10_4 v10_5 v10_6 v10_7 v10_8 v10_9 v145 v146 (IntKind.i64.wrap (v147 + 1)))) else none) else none) else none) else (some [.agg [.list v0_0, .int v0_1, .list v0_2, .int v0_3, .int v0_4, .bool v0_5]]) : R) = some r) : M81_1 v0_0 v0_1 v0_2 v0_3 v0_4 v0_5 v1 v2 v3 v4 v10_0 v10_1 v10_2 v10_3 v10_4 v10_5 v10_6 v10_7 v10_8 v10_9 v145 v146 v147 = some r := lim_st (g := fun φ => L81_1 (φ 0) (φ 1) v0_0 v0_1 v0_2 v0_3 v0_4 v0_5 v1 v2 v3 v4 v10_0 v10_1 v10_2 v10_3 v10_4 v10_5 v10_6 v10_7 v10_8 v10_9 v145 v146 v147) 1 h (Cont.bif (Cont.bif (Cont.bif (Cont.bif (Cont.bind (Cont.call C 81 _) fun _ => (M81_1_c _ _ _ _ _ _ _ _ _ _ _ _ _ _ _ _ _ _ _ _ _ _ _)) Cont.nn) Cont.nn) Cont.nn) (Cont.const _)) fun φ m hm => (congrArg (fun q => L81_1 (φ 0) q v0_0 v0_1 v0_2 v0_3 v0_4 v0_5 v1 v2 v3 v4 v10_0 v10_1 v10_2 v10_3 v10_4 v10_5 v10_6 v10_7 v10_8 v10_9 v145 v146 v147) hm).trans (by kernel_rfl)
theorem o81 (p0_0 : List Dat) (p0_1 : Int) (p0_2 : List Dat) (p0_3 p0_4 : Int) (p0_5 : Bool) (a1 a2 a3 a4 : Int) {r : List Dat} (h : (bif p0_5 then (bif a1 == p0_3 then (bif decide (a1 ≥ 0) then (bif decide (a1 < (p0_0.length : Int)) then (bif !(decide (a4 ≤ (p0_0.length : Int))) then (some [.agg [.list p0_0, .int p0_1, .list p0_2, .int p0_3, .int p0_4, .bool (decide (a4 ≤ (p0_0.length : Int)))]]) else (bif decide (0 ≤ a1) then (bif decide (a1 < (p0_0.length : Int)) then (bif decide (a1.toNat < p0_0.length) then ((E C 120 [.agg [.int .i64 (((rd p0_0 a1.toNat).C 0).I), .int .i64 (((rd p0_0 a1.toNat).C 1).I), .int .i64 (((rd p0_0 a1.toNat).C 2).I), .int .i64 (((rd p0_0 a1.toNat).C 3).I), .int .i64 (((rd p0_0 a1.toNat).C 4).I), .int .i64 (((rd p0_0 a1.toNat).C 5).I), .int .i64 (((rd p0_0 a1.toNat).C 6).I), .str (((rd p0_0 a1.toNat).C 7).S), .shr 82 (((rd p0_0 a1.toNat).C 8).L), .shr 3 (((rd p0_0 a1.toNat).C 9).L)]]).bind fun d1 => (bif (rd d1 0).B then (bif decide ((((rd p0_0 a1.toNat).C 1).I) ≥ a2) then (bif decide ((((rd p0_0 a1.toNat).C 2).I) ≤ a3) then (bif (((rd p0_0 a1.toNat).C 0).I) == 7 then (bif (((rd p0_0 a1.toNat).C 3).I) == (IntKind.i64.wrap (p0_4 + 1)) then (bif decide ((IntKind.i64.wrap (p0_4 + 1)) < (p0_2.length : Int)) then (bif decide (0 ≤ (IntKind.i64.wrap (p0_4 + 1))) then (bif decide ((IntKind.i64.wrap (p0_4 + 1)) < (p0_2.length : Int)) then (bif decide ((IntKind.i64.wrap (p0_4 + 1)).toNat < p0_2.length) then (M81_1 p0_0 p0_1 p0_2 (IntKind.i64.wrap (p0_3 + 1)) (IntKind.i64.wrap (p0_4 + 1)) (((rd p0_2 ((IntKind.i64.wrap (p0_4 + 1)).toNat)).S).toList == (((rd p0_0 a1.toNat).C 7).S).toList) a1 a2 a3 a4 (((rd p0_0 a1.toNat).C 0).I) (((rd p0_0 a1.toNat).C 1).I) (((rd p0_0 a1.toNat).C 2).I) (((rd p0_0 a1.toNat).C 3).I) (((rd p0_0 a1.toNat).C 4).I) (((rd p0_0 a1.toNat).C 5).I) (((rd p0_0 a1.toNat).C 6).I) (((rd p0_0 a1.toNat).C 7).S) (((rd p0_0 a1.toNat).C 8).L) (((rd p0_0 a1.toNat).C 9).L) (((rd p0_0 a1.toNat).C 9).L) ((((rd p0_0 a1.toNat).C 9).L).length : Int) 0) else none) else none) else none) else (M81_1 p0_0 p0_1 p0_2 (IntKind.i64.wrap (p0_3 + 1)) (IntKind.i64.wrap (p0_4 + 1)) false a1 a2 a3 a4 (((rd p0_0 a1.toNat).C 0).I) (((rd p0_0 a1.toNat).C 1).I) (((rd p0_0 a1.toNat).C 2).I) (((rd p0_0 a1.toNat).C 3).I) (((rd p0_0 a1.toNat).C 4).I) (((rd p0_0 a1.toNat).C 5).I) (((rd p0_0 a1.toNat).C 6).I) (((rd p0_0 a1.toNat).C 7).S) (((rd p0_0 a1.toNat).C 8).L) (((rd p0_0 a1.toNat).C 9).L) (((rd p0_0 a1.toNat).C 9).L) ((((rd p0_0 a1.toNat).C 9).L).length : Int) 0)) else (M81_1 p0_0 p0_1 p0_2 (IntKind.i64.wrap (p0_3 + 1)) (IntKind.i64.wrap (p0_4 + 1)) false a1 a2 a3 a4 (((rd p0_0 a1.toNat).C 0).I) (((rd p0_0 a1.toNat).C 1).I) (((rd p0_0 a1.toNat).C 2).I) (((rd p0_0 a1.toNat).C 3).I) (((rd p0_0 a1.toNat).C 4).I) (((rd p0_0 a1.toNat).C 5).I) (((rd p0_0 a1.toNat).C 6).I) (((rd p0_0 a1.toNat).C 7).S) (((rd p0_0 a1.toNat).C 8).L) (((rd p0_0 a1.toNat).C 9).L) (((rd p0_0 a1.toNat).C 9).L) ((((rd p0_0 a1.toNat).C 9).L).length : Int) 0)) else (M81_1 p0_0 p0_1 p0_2 (IntKind.i64.wrap (p0_3 + 1)) p0_4 (decide ((((rd p0_0 a1.toNat).C 2).I) ≤ a3)) a1 a2 a3 a4 (((rd p0_0 a1.toNat).C 0).I) (((rd p0_0 a1.toNat).C 1).I) (((rd p0_0 a1.toNat).C 2).I) (((rd p0_0 a1.toNat).C 3).I) (((rd p0_0 a1.toNat).C 4).I) (((rd p0_0 a1.toNat).C 5).I) (((rd p0_0 a1.toNat).C 6).I) (((rd p0_0 a1.toNat).C 7).S) (((rd p0_0 a1.toNat).C 8).L) (((rd p0_0 a1.toNat).C 9).L) (((rd p0_0 a1.toNat).C 9).L) ((((rd p0_0 a1.toNat).C 9).L).length : Int) 0)) else (M81_1 p0_0 p0_1 p0_2 (IntKind.i64.wrap (p0_3 + 1)) p0_4 (decide ((((rd p0_0 a1.toNat).C 2).I) ≤ a3)) a1 a2 a3 a4 (((rd p0_0 a1.toNat).C 0).I) (((rd p0_0 a1.toNat).C 1).I) (((rd p0_0 a1.toNat).C 2).I) (((rd p0_0 a1.toNat).C 3).I) (((rd p0_0 a1.toNat).C 4).I) (((rd p0_0 a1.toNat).C 5).I) (((rd p0_0 a1.toNat).C 6).I) (((rd p0_0 a1.toNat).C 7).S) (((rd p0_0 a1.toNat).C 8).L) (((rd p0_0 a1.toNat).C 9).L) (((rd p0_0 a1.toNat).C 9).L) ((((rd p0_0 a1.toNat).C 9).L).length : Int) 0)) else (M81_1 p0_0 p0_1 p0_2 (IntKind.i64.wrap (p0_3 + 1)) p0_4 false a1 a2 a3 a4 (((rd p0_0 a1.toNat).C 0).I) (((rd p0_0 a1.toNat).C 1).I) (((rd p0_0 a1.toNat).C 2).I) (((rd p0_0 a1.toNat).C 3).I) (((rd p0_0 a1.toNat).C 4).I) (((rd p0_0 a1.toNat).C 5).I) (((rd p0_0 a1.toNat).C 6).I) (((rd p0_0 a1.toNat).C 7).S) (((rd p0_0 a1.toNat).C 8).L) (((rd p0_0 a1.toNat).C 9).L) (((rd p0_0 a1.toNat).C 9).L) ((((rd p0_0 a1.toNat).C 9).L).length : Int) 0)) else (M81_1 p0_0 p0_1 p0_2 (IntKind.i64.wrap (p0_3 + 1)) p0_4 false a1 a2 a3 a4 (((rd p0_0 a1.toNat).C 0).I) (((rd p0_0 a1.toNat).C 1).I) (((rd p0_0 a1.toNat).C 2).I) (((rd p0_0 a1.toNat).C 3).I) (((rd p0_0 a1.toNat).C 4).I) (((rd p0_0 a1.toNat).C 5).I) (((rd p0_0 a1.toNat).C 6).I) (((rd p0_0 a1.toNat).C 7).S) (((rd p0_0 a1.toNat).C 8).L) (((rd p0_0 a1.toNat).C 9).L) (((rd p0_0 a1.toNat).C 9).L) ((((rd p0_0 a1.toNat).C 9).L).length : Int) 0))) else none) else none) else none)) else (some [.agg [.list p0_0, .int p0_1, .list p0_2, .int p0_3, .int p0_4, .bool false]])) else (some [.agg [.list p0_0, .int p0_1, .list p0_2, .int p0_3, .int p0_4, .bool false]])) else (some [.agg [.list p0_0, .int p0_1, .list p0_2, .int p0_3, .int p0_4, .bool false]])) else (some [.agg [.list p0_0, .int p0_1, .list p0_2, .int p0_3, .int p0_4, .bool false]]) : R) = some r) : E C 81 [.pbox [.shr 38 p0_0, .int .i64 p0_1, .shr 9 p0_2, .int .i64 p0_3, .int .i64 p0_4, .bool p0_5], .int .i64 a1, .int .i64 a2, .int .i64 a3, .int .i64 a4] = some r := E_st h (Cont.bif (Cont.bif (Cont.bif (Cont.bif (Cont.bif (Cont.const _) (Cont.bif (Cont.bif (Cont.bif (Cont.bind (Cont.call C 120 _) fun _ => (Cont.bif (Cont.bif (Cont.bif (Cont.bif (Cont.bif (Cont.bif (Cont.bif (Cont.bif (Cont.bif (M81_1_e _ _ _ _ _ _ _ _ _ _ _ _ _ _ _ _ _ _ _ _ _ _ _) Cont.nn) Cont.nn) Cont.nn) (M81_1_e _ _ _ _ _ _ _ _ _ _ _ _ _ _ _ _ _ _ _ _ _ _ _)) (M81_1_e _ _ _ _ _ _ _ _ _ _ _ _ _ _ _ _ _ _ _ _ _ _ _)) (M81_1_e _ _ _ _ _ _ _ _ _ _ _ _ _ _ _ _ _ _ _ _ _ _ _)) (M81_1_e _ _ _ _ _ _ _ _ _ _ _ _ _ _ _ _ _ _ _ _ _ _ _)) (M81_1_e _ _ _ _ _ _ _ _ _ _ _ _ _ _ _ _ _ _ _ _ _ _ _)) (M81_1_e _ _ _ _ _ _ _ _ _ _ _ _ _ _ _ _ _ _ _ _ _ _ _))) Cont.nn) Cont.nn) Cont.nn)) (Cont.const _)) (Cont.const _)) (Cont.const _)) (Cont.const _)) fun φ => by kernel_rfl
/-- (clew/ast.Node).alone -/
noncomputable def f120 : Func := Tryz.f120
def kp120 : List Nat := [0, 1, 2, 3, 4, 5, 6]
noncomputable def c120 (p : List Nat) : Code := pick f120 p
noncomputable def cc120_1 : Code := cutC (c120 []) [1, 1, 1, 1, 1, 1, 1, 0] 1001
noncomputable def G120_1 (n : Nat) : Env → R := restC C (ev C n) n kp120 (c120 []) [1, 1, 1, 1, 1, 1, 1, 0] (Ktop C 120 f120 [.und])
noncomputable def cc120_2 : Code := cutC cc120_1 [1, 1, 1, 1, 1, 1, 0] 1002
noncomputable def G120_2 (n : Nat) : Env → R := restC C (ev C n) n kp120 cc120_1 [1, 1, 1, 1, 1, 1, 0] (Kcut 1001 (G120_1 n) (Ktop C 120 f120 [.und]))
noncomputable def cc120_3 : Code := cutC cc120_2 [1, 1, 1, 1, 1, 0] 1003
noncomputable def G120_3 (n : Nat) : Env → R := restC C (ev C n) n kp120 cc120_2 [1, 1, 1, 1, 1, 0] (Kcut 1002 (G120_2 n) (Kcut 1001 (G120_1 n) (Ktop C 120 f120 [.und])))
noncomputable def cc120_4 : Code := cutC cc120_3 [1, 1, 0] 1004
noncomputable def G120_4 (n : Nat) : Env → R := restC C (ev C n) n kp120 cc120_3 [1, 1, 0] (Kcut 1003 (G120_3 n) (Kcut 1002 (G120_2 n) (Kcut 1001 (G120_1 n) (Ktop C 120 f120 [.und]))))
noncomputable def J120_4 (n : Nat)  (v0 : AV) (v1_0 v1_1 v1_2 v1_3 v1_4 v1_5 v1_6 : Int) (v1_7 : ByteArray) (v1_8 v1_9 : List Dat) (v2 : Bool) (v3_0 v3_1 v3_2 v3_3 v4 : Int) (v5 v6 : Bool) (v7 v8 v9 v10 v11 v12 v13 v14 v15 v16 v17 v18 v19 v20 v21 v22 v23 v24 v25 v26 v27 v28 v29 v30 v31 v32 v33 v34 v35 v36 v37 v38 v39 v40 v41 v42 v43 v44 v45 v46 v47 v48 v49 v50 v51 v52 v53 v54 v55 v56 v57 v58 v59 v60 v61 v62 v63 v64 v65 v66 v67 v68 v69 v70 v71 v72 v73 : AV) : R := G120_1 n (cn [v0, .box 38 [.int .i64 v1_0, .int .i64 v1_1, .int .i64 v1_2, .int .i64 v1_3, .int .i64 v1_4, .int .i64 v1_5, .int .i64 v1_6, .str v1_7, .shr 82 v1_8, .shr 3 v1_9], .bool v2, .box 200 [.int .i64 v3_0, .int .i64 v3_1, .int .i64 v3_2, .int .i64 v3_3], .int .i64 v4, .bool v5, .bool v6, v7, v8, v9, v10, v11, v12, v13, v14, v15, v16, v17, v18, v19, v20, v21, v22, v23, v24, v25, v26, v27, v28, v29, v30, v31, v32, v33, v34, v35, v36, v37, v38, v39, v40, v41, v42, v43, v44, v45, v46, v47, v48, v49, v50, v51, v52, v53, v54, v55, v56, v57, v58, v59, v60, v61, v62, v63, v64, v65, v66, v67, v68, v69, v70, v71, v72, v73] (un 55 []))
noncomputable def J120_3 (n : Nat)  (v0 : AV) (v1_0 v1_1 v1_2 v1_3 v1_4 v1_5 v1_6 : Int) (v1_7 : ByteArray) (v1_8 v1_9 : List Dat) (v2 : Bool) (v3_0 v3_1 v3_2 v3_3 v4 : Int) (v5 : Bool) (v7 v8 v9 v10 v11 v12 v13 v14 v15 v16 v17 v18 v19 v20 v21 v22 v23 v24 v25 v26 v27 v28 v29 v30 v31 v32 v33 v34 v35 v36 v37 v38 v39 v40 v41 v42 v43 v44 v45 v46 v47 v48 v49 v50 v51 v52 v53 v54 v55 v56 v57 v58 v59 : AV) : R := G120_2 n (cn [v0, .box 38 [.int .i64 v1_0, .int .i64 v1_1, .int .i64 v1_2, .int .i64 v1_3, .int .i64 v1_4, .int .i64 v1_5, .int .i64 v1_6, .str v1_7, .shr 82 v1_8, .shr 3 v1_9], .bool v2, .box 200 [.int .i64 v3_0, .int .i64 v3_1, .int .i64 v3_2, .int .i64 v3_3], .int .i64 v4, .bool v5, .und, v7, v8, v9, v10, v11, v12, v13, v14, v15, v16, v17, v18, v19, v20, v21, v22, v23, v24, v25, v26, v27, v28, v29, v30, v31, v32, v33, v34, v35, v36, v37, v38, v39, v40, v41, v42, v43, v44, v45, v46, v47, v48, v49, v50, v51, v52, v53, v54, v55, v56, v57, v58, v59] (un 69 []))
noncomputable def J120_2 (n : Nat)  (v0 : AV) (v1_0 v1_1 v1_2 v1_3 v1_4 v1_5 v1_6 : Int) (v1_7 : ByteArray) (v1_8 v1_9 : List Dat) (v2 : Bool) (v3_0 v3_1 v3_2 v3_3 v4 : Int) (v7 v8 v9 v10 v11 v12 v13 v14 v15 v16 v17 v18 v19 v20 v21 v22 v23 v24 v25 v26 v27 v28 v29 v30 v31 v32 v33 v34 v35 v36 v37 v38 v39 v40 v41 v42 v43 v44 v45 v46 : AV) : R := G120_3 n (cn [v0, .box 38 [.int .i64 v1_0, .int .i64 v1_1, .int .i64 v1_2, .int .i64 v1_3, .int .i64 v1_4, .int .i64 v1_5, .int .i64 v1_6, .str v1_7, .shr 82 v1_8, .shr 3 v1_9], .bool v2, .box 200 [.int .i64 v3_0, .int .i64 v3_1, .int .i64 v3_2, .int .i64 v3_3], .int .i64 v4, .und, .und, v7, v8, v9, v10, v11, v12, v13, v14, v15, v16, v17, v18, v19, v20, v21, v22, v23, v24, v25, v26, v27, v28, v29, v30, v31, v32, v33, v34, v35, v36, v37, v38, v39, v40, v41, v42, v43, v44, v45, v46] (un 82 []))
noncomputable def J120_1 (n : Nat)  (v0 : AV) (v1_0 v1_1 v1_2 v1_3 v1_4 v1_5 v1_6 : Int) (v1_7 : ByteArray) (v1_8 v1_9 : List Dat) (v2 : Bool) (v7 v8 v9 v10 v11 v12 v13 v14 v15 v16 v17 v18 v19 v20 v21 v22 v23 v24 v25 v26 v27 v28 v29 v30 v31 : AV) : R := G120_4 n (cn [v0, .box 38 [.int .i64 v1_0, .int .i64 v1_1, .int .i64 v1_2, .int .i64 v1_3, .int .i64 v1_4, .int .i64 v1_5, .int .i64 v1_6, .str v1_7, .shr 82 v1_8, .shr 3 v1_9], .bool v2] (un 4 (cn [v7, v8, v9, v10, v11, v12, v13, v14, v15, v16, v17, v18, v19, v20, v21, v22, v23, v24, v25, v26, v27, v28, v29, v30, v31] (un 97 []))))
theorem J120_4_g (n : Nat) (v0 : AV) (v1_0 v1_1 v1_2 v1_3 v1_4 v1_5 v1_6 : Int) (v1_7 : ByteArray) (v1_8 v1_9 : List Dat) (v2 : Bool) (v3_0 v3_1 v3_2 v3_3 v4 : Int) (v5 v6 : Bool) (v7 v8 v9 v10 v11 v12 v13 v14 v15 v16 v17 v18 v19 v20 v21 v22 v23 v24 v25 v26 v27 v28 v29 v30 v31 v32 v33 v34 v35 v36 v37 v38 v39 v40 v41 v42 v43 v44 v45 v46 v47 v48 v49 v50 v51 v52 v53 v54 v55 v56 v57 v58 v59 v60 v61 v62 v63 v64 v65 v66 v67 v68 v69 v70 v71 v72 v73 : AV) : restC C (ev C n) n kp120 (c120 []) [1, 1, 1, 1, 1, 1, 1, 0] (Ktop C 120 f120 [.und]) (cn [v0, .box 38 [.int .i64 v1_0, .int .i64 v1_1, .int .i64 v1_2, .int .i64 v1_3, .int .i64 v1_4, .int .i64 v1_5, .int .i64 v1_6, .str v1_7, .shr 82 v1_8, .shr 3 v1_9], .bool v2, .box 200 [.int .i64 v3_0, .int .i64 v3_1, .int .i64 v3_2, .int .i64 v3_3], .int .i64 v4, .bool v5, .bool v6, v7, v8, v9, v10, v11, v12, v13, v14, v15, v16, v17, v18, v19, v20, v21, v22, v23, v24, v25, v26, v27, v28, v29, v30, v31, v32, v33, v34, v35, v36, v37, v38, v39, v40, v41, v42, v43, v44, v45, v46, v47, v48, v49, v50, v51, v52, v53, v54, v55, v56, v57, v58, v59, v60, v61, v62, v63, v64, v65, v66, v67, v68, v69, v70, v71, v72, v73] (un 55 [])) = bif decide ((v1_9.length : Int) ≥ v3_0) then (bif decide ((v1_9.length : Int) ≤ v3_1) then (bif decide (v1_3 ≥ v4) then (bif decide (v1_3 ≤ v3_2) then (bif decide (v1_6 ≥ 0) then (bif decide (v1_6 ≤ v3_3) then ((ev C n 154 [.agg [.int .i64 v1_0, .int .i64 v1_1, .int .i64 v1_2, .int .i64 v1_3, .int .i64 v1_4, .int .i64 v1_5, .int .i64 v1_6, .str v1_7, .shr 82 v1_8, .shr 3 v1_9]]).bind fun d1 => (bif (rd d1 0).B then (bif v5 then (bif v6 then (some [.bool (decide ((v1_7.size : Int) ≤ 32))]) else (some [.bool false])) else (some [.bool false])) else (some [.bool false]))) else (some [.bool false])) else (some [.bool false])) else (some [.bool false])) else (some [.bool false])) else (some [.bool false])) else (some [.bool false]) := by kernel_rfl
noncomputable def N120_4 (v1_0 v1_1 v1_2 v1_3 v1_4 v1_5 v1_6 : Int) (v1_7 : ByteArray) (v1_8 v1_9 : List Dat) (v3_0 v3_1 v3_2 v3_3 v4 : Int) (v5 v6 : Bool) : R := bif decide ((v1_9.length : Int) ≥ v3_0) then (bif decide ((v1_9.length : Int) ≤ v3_1) then (bif decide (v1_3 ≥ v4) then (bif decide (v1_3 ≤ v3_2) then (bif decide (v1_6 ≥ 0) then (bif decide (v1_6 ≤ v3_3) then ((E C 154 [.agg [.int .i64 v1_0, .int .i64 v1_1, .int .i64 v1_2, .int .i64 v1_3, .int .i64 v1_4, .int .i64 v1_5, .int .i64 v1_6, .str v1_7, .shr 82 v1_8, .shr 3 v1_9]]).bind fun d1 => (bif (rd d1 0).B then (bif v5 then (bif v6 then (some [.bool (decide ((v1_7.size : Int) ≤ 32))]) else (some [.bool false])) else (some [.bool false])) else (some [.bool false]))) else (some [.bool false])) else (some [.bool false])) else (some [.bool false])) else (some [.bool false])) else (some [.bool false])) else (some [.bool false])
theorem N120_4_c (v0 : AV) (v1_0 v1_1 v1_2 v1_3 v1_4 v1_5 v1_6 : Int) (v1_7 : ByteArray) (v1_8 v1_9 : List Dat) (v2 : Bool) (v3_0 v3_1 v3_2 v3_3 v4 : Int) (v5 v6 : Bool) (v7 v8 v9 v10 v11 v12 v13 v14 v15 v16 v17 v18 v19 v20 v21 v22 v23 v24 v25 v26 v27 v28 v29 v30 v31 v32 v33 v34 v35 v36 v37 v38 v39 v40 v41 v42 v43 v44 v45 v46 v47 v48 v49 v50 v51 v52 v53 v54 v55 v56 v57 v58 v59 v60 v61 v62 v63 v64 v65 v66 v67 v68 v69 v70 v71 v72 v73 : AV) : Cont (fun φ => J120_4 (φ 0)  v0 v1_0 v1_1 v1_2 v1_3 v1_4 v1_5 v1_6 v1_7 v1_8 v1_9 v2 v3_0 v3_1 v3_2 v3_3 v4 v5 v6 v7 v8 v9 v10 v11 v12 v13 v14 v15 v16 v17 v18 v19 v20 v21 v22 v23 v24 v25 v26 v27 v28 v29 v30 v31 v32 v33 v34 v35 v36 v37 v38 v39 v40 v41 v42 v43 v44 v45 v46 v47 v48 v49 v50 v51 v52 v53 v54 v55 v56 v57 v58 v59 v60 v61 v62 v63 v64 v65 v66 v67 v68 v69 v70 v71 v72 v73) (N120_4 v1_0 v1_1 v1_2 v1_3 v1_4 v1_5 v1_6 v1_7 v1_8 v1_9 v3_0 v3_1 v3_2 v3_3 v4 v5 v6) := Cont.eq2 (Cont.bif (Cont.bif (Cont.bif (Cont.bif (Cont.bif (Cont.bif (Cont.bind (Cont.call C 154 _) fun _ => (Cont.bif (Cont.bif (Cont.bif (Cont.const _) (Cont.const _)) (Cont.const _)) (Cont.const _))) (Cont.const _)) (Cont.const _)) (Cont.const _)) (Cont.const _)) (Cont.const _)) (Cont.const _)) fun φ => by
  delta J120_4 G120_1
  exact J120_4_g (φ 0) v0 v1_0 v1_1 v1_2 v1_3 v1_4 v1_5 v1_6 v1_7 v1_8 v1_9 v2 v3_0 v3_1 v3_2 v3_3 v4 v5 v6 v7 v8 v9 v10 v11 v12 v13 v14 v15 v16 v17 v18 v19 v20 v21 v22 v23 v24 v25 v26 v27 v28 v29 v30 v31 v32 v33 v34 v35 v36 v37 v38 v39 v40 v41 v42 v43 v44 v45 v46 v47 v48 v49 v50 v51 v52 v53 v54 v55 v56 v57 v58 v59 v60 v61 v62 v63 v64 v65 v66 v67 v68 v69 v70 v71 v72 v73
theorem J120_3_g (n : Nat) (v0 : AV) (v1_0 v1_1 v1_2 v1_3 v1_4 v1_5 v1_6 : Int) (v1_7 : ByteArray) (v1_8 v1_9 : List Dat) (v2 : Bool) (v3_0 v3_1 v3_2 v3_3 v4 : Int) (v5 : Bool) (v7 v8 v9 v10 v11 v12 v13 v14 v15 v16 v17 v18 v19 v20 v21 v22 v23 v24 v25 v26 v27 v28 v29 v30 v31 v32 v33 v34 v35 v36 v37 v38 v39 v40 v41 v42 v43 v44 v45 v46 v47 v48 v49 v50 v51 v52 v53 v54 v55 v56 v57 v58 v59 : AV) (g1 : Env → R) : restC C (ev C n) n kp120 cc120_1 [1, 1, 1, 1, 1, 1, 0] (Kcut 1001 g1 (Ktop C 120 f120 [.und])) (cn [v0, .box 38 [.int .i64 v1_0, .int .i64 v1_1, .int .i64 v1_2, .int .i64 v1_3, .int .i64 v1_4, .int .i64 v1_5, .int .i64 v1_6, .str v1_7, .shr 82 v1_8, .shr 3 v1_9], .bool v2, .box 200 [.int .i64 v3_0, .int .i64 v3_1, .int .i64 v3_2, .int .i64 v3_3], .int .i64 v4, .bool v5, .und, v7, v8, v9, v10, v11, v12, v13, v14, v15, v16, v17, v18, v19, v20, v21, v22, v23, v24, v25, v26, v27, v28, v29, v30, v31, v32, v33, v34, v35, v36, v37, v38, v39, v40, v41, v42, v43, v44, v45, v46, v47, v48, v49, v50, v51, v52, v53, v54, v55, v56, v57, v58, v59] (un 69 [])) = bif (v1_8.length : Int) == 0 then (g1 (cn [v0, .box 38 [.int .i64 v1_0, .int .i64 v1_1, .int .i64 v1_2, .int .i64 v1_3, .int .i64 v1_4, .int .i64 v1_5, .int .i64 v1_6, .str v1_7, .shr 82 v1_8, .shr 3 v1_9], .bool v2, .box 200 [.int .i64 v3_0, .int .i64 v3_1, .int .i64 v3_2, .int .i64 v3_3], .int .i64 v4, .bool v5, .bool true, v7, v8, v9, v10, v11, v12, v13, v14, v15, v16, v17, v18, v19, v20, v21, v22, v23, v24, v25, v26, v27, v28, v29, v30, v31, v32, v33, v34, v35, v36, v37, v38, v39, v40, v41, v42, v43, v44, v45, v46, v47, v48, v49, v50, v51, v52, v53, v54, v55, v56, v57, v58, v59, .ref 1 8, .shr 82 v1_8, .int .i64 (v1_8.length : Int), .bool ((v1_8.length : Int) == 0), .bool true, .skp, .skp, .skp, .skp, .skp, .skp, .skp, .dead, .bool true] (un 55 []))) else (bif v1_0 == 2 then ((ev C n 153 [.shr 82 v1_8]).bind fun d2 => (g1 (cn [v0, .box 38 [.int .i64 v1_0, .int .i64 v1_1, .int .i64 v1_2, .int .i64 v1_3, .int .i64 v1_4, .int .i64 v1_5, .int .i64 v1_6, .str v1_7, .shr 82 v1_8, .shr 3 v1_9], .bool v2, .box 200 [.int .i64 v3_0, .int .i64 v3_1, .int .i64 v3_2, .int .i64 v3_3], .int .i64 v4, .bool v5, .bool ((rd d2 0).B), v7, v8, v9, v10, v11, v12, v13, v14, v15, v16, v17, v18, v19, v20, v21, v22, v23, v24, v25, v26, v27, v28, v29, v30, v31, v32, v33, v34, v35, v36, v37, v38, v39, v40, v41, v42, v43, v44, v45, v46, v47, v48, v49, v50, v51, v52, v53, v54, v55, v56, v57, v58, v59, .ref 1 8, .shr 82 v1_8, .int .i64 (v1_8.length : Int), .bool ((v1_8.length : Int) == 0), .bool false, .ref 1 0, .int .i64 v1_0, .bool (v1_0 == 2), .bool true, .ref 1 8, .shr 82 v1_8, .dead, .dead, .bool ((rd d2 0).B)] (un 55 [])))) else (g1 (cn [v0, .box 38 [.int .i64 v1_0, .int .i64 v1_1, .int .i64 v1_2, .int .i64 v1_3, .int .i64 v1_4, .int .i64 v1_5, .int .i64 v1_6, .str v1_7, .shr 82 v1_8, .shr 3 v1_9], .bool v2, .box 200 [.int .i64 v3_0, .int .i64 v3_1, .int .i64 v3_2, .int .i64 v3_3], .int .i64 v4, .bool v5, .bool false, v7, v8, v9, v10, v11, v12, v13, v14, v15, v16, v17, v18, v19, v20, v21, v22, v23, v24, v25, v26, v27, v28, v29, v30, v31, v32, v33, v34, v35, v36, v37, v38, v39, v40, v41, v42, v43, v44, v45, v46, v47, v48, v49, v50, v51, v52, v53, v54, v55, v56, v57, v58, v59, .ref 1 8, .shr 82 v1_8, .int .i64 (v1_8.length : Int), .bool ((v1_8.length : Int) == 0), .bool false, .ref 1 0, .int .i64 v1_0, .bool (v1_0 == 2), .bool false, .skp, .skp, .dead, .dead, .bool false] (un 55 [])))) := by kernel_rfl
noncomputable def N120_3 (v1_0 v1_1 v1_2 v1_3 v1_4 v1_5 v1_6 : Int) (v1_7 : ByteArray) (v1_8 v1_9 : List Dat) (v3_0 v3_1 v3_2 v3_3 v4 : Int) (v5 : Bool) : R := bif (v1_8.length : Int) == 0 then (N120_4 v1_0 v1_1 v1_2 v1_3 v1_4 v1_5 v1_6 v1_7 v1_8 v1_9 v3_0 v3_1 v3_2 v3_3 v4 v5 true) else (bif v1_0 == 2 then ((E C 153 [.shr 82 v1_8]).bind fun d2 => (N120_4 v1_0 v1_1 v1_2 v1_3 v1_4 v1_5 v1_6 v1_7 v1_8 v1_9 v3_0 v3_1 v3_2 v3_3 v4 v5 ((rd d2 0).B))) else (N120_4 v1_0 v1_1 v1_2 v1_3 v1_4 v1_5 v1_6 v1_7 v1_8 v1_9 v3_0 v3_1 v3_2 v3_3 v4 v5 false))
theorem N120_3_c (v0 : AV) (v1_0 v1_1 v1_2 v1_3 v1_4 v1_5 v1_6 : Int) (v1_7 : ByteArray) (v1_8 v1_9 : List Dat) (v2 : Bool) (v3_0 v3_1 v3_2 v3_3 v4 : Int) (v5 : Bool) (v7 v8 v9 v10 v11 v12 v13 v14 v15 v16 v17 v18 v19 v20 v21 v22 v23 v24 v25 v26 v27 v28 v29 v30 v31 v32 v33 v34 v35 v36 v37 v38 v39 v40 v41 v42 v43 v44 v45 v46 v47 v48 v49 v50 v51 v52 v53 v54 v55 v56 v57 v58 v59 : AV) : Cont (fun φ => J120_3 (φ 0)  v0 v1_0 v1_1 v1_2 v1_3 v1_4 v1_5 v1_6 v1_7 v1_8 v1_9 v2 v3_0 v3_1 v3_2 v3_3 v4 v5 v7 v8 v9 v10 v11 v12 v13 v14 v15 v16 v17 v18 v19 v20 v21 v22 v23 v24 v25 v26 v27 v28 v29 v30 v31 v32 v33 v34 v35 v36 v37 v38 v39 v40 v41 v42 v43 v44 v45 v46 v47 v48 v49 v50 v51 v52 v53 v54 v55 v56 v57 v58 v59) (N120_3 v1_0 v1_1 v1_2 v1_3 v1_4 v1_5 v1_6 v1_7 v1_8 v1_9 v3_0 v3_1 v3_2 v3_3 v4 v5) := Cont.eq2 (Cont.bif (N120_4_c v0 _ _ _ _ _ _ _ _ _ _ v2 _ _ _ _ _ _ _ v7 v8 v9 v10 v11 v12 v13 v14 v15 v16 v17 v18 v19 v20 v21 v22 v23 v24 v25 v26 v27 v28 v29 v30 v31 v32 v33 v34 v35 v36 v37 v38 v39 v40 v41 v42 v43 v44 v45 v46 v47 v48 v49 v50 v51 v52 v53 v54 v55 v56 v57 v58 v59 (.ref 1 8) (.shr 82 v1_8) (.int .i64 (v1_8.length : Int)) (.bool ((v1_8.length : Int) == 0)) (.bool true) .skp .skp .skp .skp .skp .skp .skp .dead (.bool true)) (Cont.bif (Cont.bind (Cont.call C 153 _) fun d2 => (N120_4_c v0 _ _ _ _ _ _ _ _ _ _ v2 _ _ _ _ _ _ _ v7 v8 v9 v10 v11 v12 v13 v14 v15 v16 v17 v18 v19 v20 v21 v22 v23 v24 v25 v26 v27 v28 v29 v30 v31 v32 v33 v34 v35 v36 v37 v38 v39 v40 v41 v42 v43 v44 v45 v46 v47 v48 v49 v50 v51 v52 v53 v54 v55 v56 v57 v58 v59 (.ref 1 8) (.shr 82 v1_8) (.int .i64 (v1_8.length : Int)) (.bool ((v1_8.length : Int) == 0)) (.bool false) (.ref 1 0) (.int .i64 v1_0) (.bool (v1_0 == 2)) (.bool true) (.ref 1 8) (.shr 82 v1_8) .dead .dead (.bool ((rd d2 0).B)))) (N120_4_c v0 _ _ _ _ _ _ _ _ _ _ v2 _ _ _ _ _ _ _ v7 v8 v9 v10 v11 v12 v13 v14 v15 v16 v17 v18 v19 v20 v21 v22 v23 v24 v25 v26 v27 v28 v29 v30 v31 v32 v33 v34 v35 v36 v37 v38 v39 v40 v41 v42 v43 v44 v45 v46 v47 v48 v49 v50 v51 v52 v53 v54 v55 v56 v57 v58 v59 (.ref 1 8) (.shr 82 v1_8) (.int .i64 (v1_8.length : Int)) (.bool ((v1_8.length : Int) == 0)) (.bool false) (.ref 1 0) (.int .i64 v1_0) (.bool (v1_0 == 2)) (.bool false) .skp .skp .dead .dead (.bool false)))) fun φ => by
  delta J120_3 J120_4 G120_2
  exact J120_3_g (φ 0) v0 v1_0 v1_1 v1_2 v1_3 v1_4 v1_5 v1_6 v1_7 v1_8 v1_9 v2 v3_0 v3_1 v3_2 v3_3 v4 v5 v7 v8 v9 v10 v11 v12 v13 v14 v15 v16 v17 v18 v19 v20 v21 v22 v23 v24 v25 v26 v27 v28 v29 v30 v31 v32 v33 v34 v35 v36 v37 v38 v39 v40 v41 v42 v43 v44 v45 v46 v47 v48 v49 v50 v51 v52 v53 v54 v55 v56 v57 v58 v59 (G120_1 (φ 0))
theorem J120_2_g (n : Nat) (v0 : AV) (v1_0 v1_1 v1_2 v1_3 v1_4 v1_5 v1_6 : Int) (v1_7 : ByteArray) (v1_8 v1_9 : List Dat) (v2 : Bool) (v3_0 v3_1 v3_2 v3_3 v4 : Int) (v7 v8 v9 v10 v11 v12 v13 v14 v15 v16 v17 v18 v19 v20 v21 v22 v23 v24 v25 v26 v27 v28 v29 v30 v31 v32 v33 v34 v35 v36 v37 v38 v39 v40 v41 v42 v43 v44 v45 v46 : AV) (g1 g2 : Env → R) : restC C (ev C n) n kp120 cc120_2 [1, 1, 1, 1, 1, 0] (Kcut 1002 g2 (Kcut 1001 g1 (Ktop C 120 f120 [.und]))) (cn [v0, .box 38 [.int .i64 v1_0, .int .i64 v1_1, .int .i64 v1_2, .int .i64 v1_3, .int .i64 v1_4, .int .i64 v1_5, .int .i64 v1_6, .str v1_7, .shr 82 v1_8, .shr 3 v1_9], .bool v2, .box 200 [.int .i64 v3_0, .int .i64 v3_1, .int .i64 v3_2, .int .i64 v3_3], .int .i64 v4, .und, .und, v7, v8, v9, v10, v11, v12, v13, v14, v15, v16, v17, v18, v19, v20, v21, v22, v23, v24, v25, v26, v27, v28, v29, v30, v31, v32, v33, v34, v35, v36, v37, v38, v39, v40, v41, v42, v43, v44, v45, v46] (un 82 [])) = bif v1_7.toList == ByteArray.empty.toList then (g2 (cn [v0, .box 38 [.int .i64 v1_0, .int .i64 v1_1, .int .i64 v1_2, .int .i64 v1_3, .int .i64 v1_4, .int .i64 v1_5, .int .i64 v1_6, .str v1_7, .shr 82 v1_8, .shr 3 v1_9], .bool v2, .box 200 [.int .i64 v3_0, .int .i64 v3_1, .int .i64 v3_2, .int .i64 v3_3], .int .i64 v4, .bool true, .und, v7, v8, v9, v10, v11, v12, v13, v14, v15, v16, v17, v18, v19, v20, v21, v22, v23, v24, v25, v26, v27, v28, v29, v30, v31, v32, v33, v34, v35, v36, v37, v38, v39, v40, v41, v42, v43, v44, v45, v46, .ref 1 7, .str v1_7, .bool (v1_7.toList == ByteArray.empty.toList), .bool true, .skp, .skp, .dead, .bool true, .bool true, .skp, .skp, .dead, .bool true] (un 69 []))) else (bif v1_0 == 7 then (g2 (cn [v0, .box 38 [.int .i64 v1_0, .int .i64 v1_1, .int .i64 v1_2, .int .i64 v1_3, .int .i64 v1_4, .int .i64 v1_5, .int .i64 v1_6, .str v1_7, .shr 82 v1_8, .shr 3 v1_9], .bool v2, .box 200 [.int .i64 v3_0, .int .i64 v3_1, .int .i64 v3_2, .int .i64 v3_3], .int .i64 v4, .bool true, .und, v7, v8, v9, v10, v11, v12, v13, v14, v15, v16, v17, v18, v19, v20, v21, v22, v23, v24, v25, v26, v27, v28, v29, v30, v31, v32, v33, v34, v35, v36, v37, v38, v39, v40, v41, v42, v43, v44, v45, v46, .ref 1 7, .str v1_7, .bool (v1_7.toList == ByteArray.empty.toList), .bool false, .ref 1 0, .int .i64 v1_0, .dead, .bool (v1_0 == 7), .bool true, .skp, .skp, .dead, .bool true] (un 69 []))) else (g2 (cn [v0, .box 38 [.int .i64 v1_0, .int .i64 v1_1, .int .i64 v1_2, .int .i64 v1_3, .int .i64 v1_4, .int .i64 v1_5, .int .i64 v1_6, .str v1_7, .shr 82 v1_8, .shr 3 v1_9], .bool v2, .box 200 [.int .i64 v3_0, .int .i64 v3_1, .int .i64 v3_2, .int .i64 v3_3], .int .i64 v4, .bool (v1_0 == 4), .und, v7, v8, v9, v10, v11, v12, v13, v14, v15, v16, v17, v18, v19, v20, v21, v22, v23, v24, v25, v26, v27, v28, v29, v30, v31, v32, v33, v34, v35, v36, v37, v38, v39, v40, v41, v42, v43, v44, v45, v46, .ref 1 7, .str v1_7, .bool (v1_7.toList == ByteArray.empty.toList), .bool false, .ref 1 0, .int .i64 v1_0, .dead, .bool (v1_0 == 7), .bool false, .ref 1 0, .int .i64 v1_0, .dead, .bool (v1_0 == 4)] (un 69 [])))) := by kernel_rfl
noncomputable def N120_2 (v1_0 v1_1 v1_2 v1_3 v1_4 v1_5 v1_6 : Int) (v1_7 : ByteArray) (v1_8 v1_9 : List Dat) (v3_0 v3_1 v3_2 v3_3 v4 : Int) : R := bif v1_7.toList == ByteArray.empty.toList then (N120_3 v1_0 v1_1 v1_2 v1_3 v1_4 v1_5 v1_6 v1_7 v1_8 v1_9 v3_0 v3_1 v3_2 v3_3 v4 true) else (bif v1_0 == 7 then (N120_3 v1_0 v1_1 v1_2 v1_3 v1_4 v1_5 v1_6 v1_7 v1_8 v1_9 v3_0 v3_1 v3_2 v3_3 v4 true) else (N120_3 v1_0 v1_1 v1_2 v1_3 v1_4 v1_5 v1_6 v1_7 v1_8 v1_9 v3_0 v3_1 v3_2 v3_3 v4 (v1_0 == 4)))
theorem N120_2_c (v0 : AV) (v1_0 v1_1 v1_2 v1_3 v1_4 v1_5 v1_6 : Int) (v1_7 : ByteArray) (v1_8 v1_9 : List Dat) (v2 : Bool) (v3_0 v3_1 v3_2 v3_3 v4 : Int) (v7 v8 v9 v10 v11 v12 v13 v14 v15 v16 v17 v18 v19 v20 v21 v22 v23 v24 v25 v26 v27 v28 v29 v30 v31 v32 v33 v34 v35 v36 v37 v38 v39 v40 v41 v42 v43 v44 v45 v46 : AV) : Cont (fun φ => J120_2 (φ 0)  v0 v1_0 v1_1 v1_2 v1_3 v1_4 v1_5 v1_6 v1_7 v1_8 v1_9 v2 v3_0 v3_1 v3_2 v3_3 v4 v7 v8 v9 v10 v11 v12 v13 v14 v15 v16 v17 v18 v19 v20 v21 v22 v23 v24 v25 v26 v27 v28 v29 v30 v31 v32 v33 v34 v35 v36 v37 v38 v39 v40 v41 v42 v43 v44 v45 v46) (N120_2 v1_0 v1_1 v1_2 v1_3 v1_4 v1_5 v1_6 v1_7 v1_8 v1_9 v3_0 v3_1 v3_2 v3_3 v4) := Cont.eq2 (Cont.bif (N120_3_c v0 _ _ _ _ _ _ _ _ _ _ v2 _ _ _ _ _ _ v7 v8 v9 v10 v11 v12 v13 v14 v15 v16 v17 v18 v19 v20 v21 v22 v23 v24 v25 v26 v27 v28 v29 v30 v31 v32 v33 v34 v35 v36 v37 v38 v39 v40 v41 v42 v43 v44 v45 v46 (.ref 1 7) (.str v1_7) (.bool (v1_7.toList == ByteArray.empty.toList)) (.bool true) .skp .skp .dead (.bool true) (.bool true) .skp .skp .dead (.bool true)) (Cont.bif (N120_3_c v0 _ _ _ _ _ _ _ _ _ _ v2 _ _ _ _ _ _ v7 v8 v9 v10 v11 v12 v13 v14 v15 v16 v17 v18 v19 v20 v21 v22 v23 v24 v25 v26 v27 v28 v29 v30 v31 v32 v33 v34 v35 v36 v37 v38 v39 v40 v41 v42 v43 v44 v45 v46 (.ref 1 7) (.str v1_7) (.bool (v1_7.toList == ByteArray.empty.toList)) (.bool false) (.ref 1 0) (.int .i64 v1_0) .dead (.bool (v1_0 == 7)) (.bool true) .skp .skp .dead (.bool true)) (N120_3_c v0 _ _ _ _ _ _ _ _ _ _ v2 _ _ _ _ _ _ v7 v8 v9 v10 v11 v12 v13 v14 v15 v16 v17 v18 v19 v20 v21 v22 v23 v24 v25 v26 v27 v28 v29 v30 v31 v32 v33 v34 v35 v36 v37 v38 v39 v40 v41 v42 v43 v44 v45 v46 (.ref 1 7) (.str v1_7) (.bool (v1_7.toList == ByteArray.empty.toList)) (.bool false) (.ref 1 0) (.int .i64 v1_0) .dead (.bool (v1_0 == 7)) (.bool false) (.ref 1 0) (.int .i64 v1_0) .dead (.bool (v1_0 == 4))))) fun φ => by
  delta J120_2 J120_3 G120_3
  exact J120_2_g (φ 0) v0 v1_0 v1_1 v1_2 v1_3 v1_4 v1_5 v1_6 v1_7 v1_8 v1_9 v2 v3_0 v3_1 v3_2 v3_3 v4 v7 v8 v9 v10 v11 v12 v13 v14 v15 v16 v17 v18 v19 v20 v21 v22 v23 v24 v25 v26 v27 v28 v29 v30 v31 v32 v33 v34 v35 v36 v37 v38 v39 v40 v41 v42 v43 v44 v45 v46 (G120_1 (φ 0)) (G120_2 (φ 0))
theorem J120_1_g (n : Nat) (v0 : AV) (v1_0 v1_1 v1_2 v1_3 v1_4 v1_5 v1_6 : Int) (v1_7 : ByteArray) (v1_8 v1_9 : List Dat) (v2 : Bool) (v7 v8 v9 v10 v11 v12 v13 v14 v15 v16 v17 v18 v19 v20 v21 v22 v23 v24 v25 v26 v27 v28 v29 v30 v31 : AV) (g1 g2 g3 : Env → R) : restC C (ev C n) n kp120 cc120_3 [1, 1, 0] (Kcut 1003 g3 (Kcut 1002 g2 (Kcut 1001 g1 (Ktop C 120 f120 [.und])))) (cn [v0, .box 38 [.int .i64 v1_0, .int .i64 v1_1, .int .i64 v1_2, .int .i64 v1_3, .int .i64 v1_4, .int .i64 v1_5, .int .i64 v1_6, .str v1_7, .shr 82 v1_8, .shr 3 v1_9], .bool v2] (un 4 (cn [v7, v8, v9, v10, v11, v12, v13, v14, v15, v16, v17, v18, v19, v20, v21, v22, v23, v24, v25, v26, v27, v28, v29, v30, v31] (un 97 [])))) = bif decide (0 ≤ v1_0) then (bif decide (v1_0 < 11) then (bif decide (v1_0.toNat < rulesL.length) then (bif v1_0 == 4 then (bif !(v1_7.toList == ByteArray.empty.toList) then (g3 (cn [v0, .box 38 [.int .i64 v1_0, .int .i64 v1_1, .int .i64 v1_2, .int .i64 v1_3, .int .i64 v1_4, .int .i64 v1_5, .int .i64 v1_6, .str v1_7, .shr 82 v1_8, .shr 3 v1_9], .bool v2, .box 200 [.int .i64 (((rd rulesL v1_0.toNat).C 0).I), .int .i64 (((rd rulesL v1_0.toNat).C 1).I), .int .i64 (((rd rulesL v1_0.toNat).C 2).I), .int .i64 (((rd rulesL v1_0.toNat).C 3).I)], .int .i64 0, .und, .und, v7, v8, v9, v10, v11, v12, v13, v14, v15, v16, v17, v18, v19, v20, v21, v22, v23, v24, v25, v26, v27, v28, v29, v30, v31, .ref 1 0, .int .i64 v1_0, .sref 200 rulesL v1_0.toNat 0, .agg [.int .i64 (((rd rulesL v1_0.toNat).C 0).I), .int .i64 (((rd rulesL v1_0.toNat).C 1).I), .int .i64 (((rd rulesL v1_0.toNat).C 2).I), .int .i64 (((rd rulesL v1_0.toNat).C 3).I)], .ref 3 2, .int .i64 (((rd rulesL v1_0.toNat).C 2).I), .int .i64 (if 1 < (((rd rulesL v1_0.toNat).C 2).I) then 1 else (((rd rulesL v1_0.toNat).C 2).I)), .ref 1 0, .int .i64 v1_0, .bool (v1_0 == 4), .bool true, .ref 1 7, .str v1_7, .dead, .bool (!(v1_7.toList == ByteArray.empty.toList))] (un 82 []))) else (g3 (cn [v0, .box 38 [.int .i64 v1_0, .int .i64 v1_1, .int .i64 v1_2, .int .i64 v1_3, .int .i64 v1_4, .int .i64 v1_5, .int .i64 v1_6, .str v1_7, .shr 82 v1_8, .shr 3 v1_9], .bool v2, .box 200 [.int .i64 (((rd rulesL v1_0.toNat).C 0).I), .int .i64 (((rd rulesL v1_0.toNat).C 1).I), .int .i64 (((rd rulesL v1_0.toNat).C 2).I), .int .i64 (((rd rulesL v1_0.toNat).C 3).I)], .int .i64 (if 1 < (((rd rulesL v1_0.toNat).C 2).I) then 1 else (((rd rulesL v1_0.toNat).C 2).I)), .und, .und, v7, v8, v9, v10, v11, v12, v13, v14, v15, v16, v17, v18, v19, v20, v21, v22, v23, v24, v25, v26, v27, v28, v29, v30, v31, .ref 1 0, .int .i64 v1_0, .sref 200 rulesL v1_0.toNat 0, .agg [.int .i64 (((rd rulesL v1_0.toNat).C 0).I), .int .i64 (((rd rulesL v1_0.toNat).C 1).I), .int .i64 (((rd rulesL v1_0.toNat).C 2).I), .int .i64 (((rd rulesL v1_0.toNat).C 3).I)], .ref 3 2, .int .i64 (((rd rulesL v1_0.toNat).C 2).I), .int .i64 (if 1 < (((rd rulesL v1_0.toNat).C 2).I) then 1 else (((rd rulesL v1_0.toNat).C 2).I)), .ref 1 0, .int .i64 v1_0, .bool (v1_0 == 4), .bool true, .ref 1 7, .str v1_7, .dead, .bool (!(v1_7.toList == ByteArray.empty.toList))] (un 82 [])))) else (g3 (cn [v0, .box 38 [.int .i64 v1_0, .int .i64 v1_1, .int .i64 v1_2, .int .i64 v1_3, .int .i64 v1_4, .int .i64 v1_5, .int .i64 v1_6, .str v1_7, .shr 82 v1_8, .shr 3 v1_9], .bool v2, .box 200 [.int .i64 (((rd rulesL v1_0.toNat).C 0).I), .int .i64 (((rd rulesL v1_0.toNat).C 1).I), .int .i64 (((rd rulesL v1_0.toNat).C 2).I), .int .i64 (((rd rulesL v1_0.toNat).C 3).I)], .int .i64 (if 1 < (((rd rulesL v1_0.toNat).C 2).I) then 1 else (((rd rulesL v1_0.toNat).C 2).I)), .und, .und, v7, v8, v9, v10, v11, v12, v13, v14, v15, v16, v17, v18, v19, v20, v21, v22, v23, v24, v25, v26, v27, v28, v29, v30, v31, .ref 1 0, .int .i64 v1_0, .sref 200 rulesL v1_0.toNat 0, .agg [.int .i64 (((rd rulesL v1_0.toNat).C 0).I), .int .i64 (((rd rulesL v1_0.toNat).C 1).I), .int .i64 (((rd rulesL v1_0.toNat).C 2).I), .int .i64 (((rd rulesL v1_0.toNat).C 3).I)], .ref 3 2, .int .i64 (((rd rulesL v1_0.toNat).C 2).I), .int .i64 (if 1 < (((rd rulesL v1_0.toNat).C 2).I) then 1 else (((rd rulesL v1_0.toNat).C 2).I)), .ref 1 0, .int .i64 v1_0, .bool (v1_0 == 4), .bool false, .skp, .skp, .dead, .bool false] (un 82 [])))) else none) else none) else none := by kernel_rfl
noncomputable def N120_1 (v1_0 v1_1 v1_2 v1_3 v1_4 v1_5 v1_6 : Int) (v1_7 : ByteArray) (v1_8 v1_9 : List Dat) : R := bif decide (0 ≤ v1_0) then (bif decide (v1_0 < 11) then (bif decide (v1_0.toNat < rulesL.length) then (bif v1_0 == 4 then (bif !(v1_7.toList == ByteArray.empty.toList) then (N120_2 v1_0 v1_1 v1_2 v1_3 v1_4 v1_5 v1_6 v1_7 v1_8 v1_9 (((rd rulesL v1_0.toNat).C 0).I) (((rd rulesL v1_0.toNat).C 1).I) (((rd rulesL v1_0.toNat).C 2).I) (((rd rulesL v1_0.toNat).C 3).I) 0) else (N120_2 v1_0 v1_1 v1_2 v1_3 v1_4 v1_5 v1_6 v1_7 v1_8 v1_9 (((rd rulesL v1_0.toNat).C 0).I) (((rd rulesL v1_0.toNat).C 1).I) (((rd rulesL v1_0.toNat).C 2).I) (((rd rulesL v1_0.toNat).C 3).I) (if 1 < (((rd rulesL v1_0.toNat).C 2).I) then 1 else (((rd rulesL v1_0.toNat).C 2).I)))) else (N120_2 v1_0 v1_1 v1_2 v1_3 v1_4 v1_5 v1_6 v1_7 v1_8 v1_9 (((rd rulesL v1_0.toNat).C 0).I) (((rd rulesL v1_0.toNat).C 1).I) (((rd rulesL v1_0.toNat).C 2).I) (((rd rulesL v1_0.toNat).C 3).I) (if 1 < (((rd rulesL v1_0.toNat).C 2).I) then 1 else (((rd rulesL v1_0.toNat).C 2).I)))) else none) else none) else none
theorem N120_1_c (v0 : AV) (v1_0 v1_1 v1_2 v1_3 v1_4 v1_5 v1_6 : Int) (v1_7 : ByteArray) (v1_8 v1_9 : List Dat) (v2 : Bool) (v7 v8 v9 v10 v11 v12 v13 v14 v15 v16 v17 v18 v19 v20 v21 v22 v23 v24 v25 v26 v27 v28 v29 v30 v31 : AV) : Cont (fun φ => J120_1 (φ 0)  v0 v1_0 v1_1 v1_2 v1_3 v1_4 v1_5 v1_6 v1_7 v1_8 v1_9 v2 v7 v8 v9 v10 v11 v12 v13 v14 v15 v16 v17 v18 v19 v20 v21 v22 v23 v24 v25 v26 v27 v28 v29 v30 v31) (N120_1 v1_0 v1_1 v1_2 v1_3 v1_4 v1_5 v1_6 v1_7 v1_8 v1_9) := Cont.eq2 (Cont.bif (Cont.bif (Cont.bif (Cont.bif (Cont.bif (N120_2_c v0 _ _ _ _ _ _ _ _ _ _ v2 _ _ _ _ _ v7 v8 v9 v10 v11 v12 v13 v14 v15 v16 v17 v18 v19 v20 v21 v22 v23 v24 v25 v26 v27 v28 v29 v30 v31 (.ref 1 0) (.int .i64 v1_0) (.sref 200 rulesL v1_0.toNat 0) (.agg [.int .i64 (((rd rulesL v1_0.toNat).C 0).I), .int .i64 (((rd rulesL v1_0.toNat).C 1).I), .int .i64 (((rd rulesL v1_0.toNat).C 2).I), .int .i64 (((rd rulesL v1_0.toNat).C 3).I)]) (.ref 3 2) (.int .i64 (((rd rulesL v1_0.toNat).C 2).I)) (.int .i64 (if 1 < (((rd rulesL v1_0.toNat).C 2).I) then 1 else (((rd rulesL v1_0.toNat).C 2).I))) (.ref 1 0) (.int .i64 v1_0) (.bool (v1_0 == 4)) (.bool true) (.ref 1 7) (.str v1_7) .dead (.bool (!(v1_7.toList == ByteArray.empty.toList)))) (N120_2_c v0 _ _ _ _ _ _ _ _ _ _ v2 _ _ _ _ _ v7 v8 v9 v10 v11 v12 v13 v14 v15 v16 v17 v18 v19 v20 v21 v22 v23 v24 v25 v26 v27 v28 v29 v30 v31 (.ref 1 0) (.int .i64 v1_0) (.sref 200 rulesL v1_0.toNat 0) (.agg [.int .i64 (((rd rulesL v1_0.toNat).C 0).I), .int .i64 (((rd rulesL v1_0.toNat).C 1).I), .int .i64 (((rd rulesL v1_0.toNat).C 2).I), .int .i64 (((rd rulesL v1_0.toNat).C 3).I)]) (.ref 3 2) (.int .i64 (((rd rulesL v1_0.toNat).C 2).I)) (.int .i64 (if 1 < (((rd rulesL v1_0.toNat).C 2).I) then 1 else (((rd rulesL v1_0.toNat).C 2).I))) (.ref 1 0) (.int .i64 v1_0) (.bool (v1_0 == 4)) (.bool true) (.ref 1 7) (.str v1_7) .dead (.bool (!(v1_7.toList == ByteArray.empty.toList))))) (N120_2_c v0 _ _ _ _ _ _ _ _ _ _ v2 _ _ _ _ _ v7 v8 v9 v10 v11 v12 v13 v14 v15 v16 v17 v18 v19 v20 v21 v22 v23 v24 v25 v26 v27 v28 v29 v30 v31 (.ref 1 0) (.int .i64 v1_0) (.sref 200 rulesL v1_0.toNat 0) (.agg [.int .i64 (((rd rulesL v1_0.toNat).C 0).I), .int .i64 (((rd rulesL v1_0.toNat).C 1).I), .int .i64 (((rd rulesL v1_0.toNat).C 2).I), .int .i64 (((rd rulesL v1_0.toNat).C 3).I)]) (.ref 3 2) (.int .i64 (((rd rulesL v1_0.toNat).C 2).I)) (.int .i64 (if 1 < (((rd rulesL v1_0.toNat).C 2).I) then 1 else (((rd rulesL v1_0.toNat).C 2).I))) (.ref 1 0) (.int .i64 v1_0) (.bool (v1_0 == 4)) (.bool false) .skp .skp .dead (.bool false))) Cont.nn) Cont.nn) Cont.nn) fun φ => by
  delta J120_1 J120_2 G120_4
  exact J120_1_g (φ 0) v0 v1_0 v1_1 v1_2 v1_3 v1_4 v1_5 v1_6 v1_7 v1_8 v1_9 v2 v7 v8 v9 v10 v11 v12 v13 v14 v15 v16 v17 v18 v19 v20 v21 v22 v23 v24 v25 v26 v27 v28 v29 v30 v31 (G120_1 (φ 0)) (G120_2 (φ 0)) (G120_3 (φ 0))
theorem t120_0 (n : Nat) (a0_0 a0_1 a0_2 a0_3 a0_4 a0_5 a0_6 : Int) (a0_7 : ByteArray) (a0_8 a0_9 : List Dat) : ev C (n + 1) 120 [.agg [.int .i64 a0_0, .int .i64 a0_1, .int .i64 a0_2, .int .i64 a0_3, .int .i64 a0_4, .int .i64 a0_5, .int .i64 a0_6, .str a0_7, .shr 82 a0_8, .shr 3 a0_9]] = evCode C (ev C n) n kp120 (c120 []) (cn [.agg [.int .i64 a0_0, .int .i64 a0_1, .int .i64 a0_2, .int .i64 a0_3, .int .i64 a0_4, .int .i64 a0_5, .int .i64 a0_6, .str a0_7, .shr 82 a0_8, .shr 3 a0_9]] (un 128 [])) (Ktop C 120 f120 [.und]) := ev_cut0 (by kernel_rfl) (by kernel_rfl) (by kernel_rfl) (by kernel_rfl) (by kernel_rfl) (by kernel_rfl) (by kernel_rfl) (fun E => by kernel_rfl)
theorem u120_1 (n : Nat) (E : Env) : evCode C (ev C n) n kp120 (c120 []) E (Ktop C 120 f120 [.und]) = evCode C (ev C n) n kp120 cc120_1 E (Kcut 1001 (G120_1 n) (Ktop C 120 f120 [.und])) := evCode_cut (c120 []) [1, 1, 1, 1, 1, 1, 1, 0] (Ktop C 120 f120 [.und]) E (by kernel_rfl)
theorem u120_2 (n : Nat) (E : Env) : evCode C (ev C n) n kp120 cc120_1 E (Kcut 1001 (G120_1 n) (Ktop C 120 f120 [.und])) = evCode C (ev C n) n kp120 cc120_2 E (Kcut 1002 (G120_2 n) (Kcut 1001 (G120_1 n) (Ktop C 120 f120 [.und]))) := evCode_cut cc120_1 [1, 1, 1, 1, 1, 1, 0] (Kcut 1001 (G120_1 n) (Ktop C 120 f120 [.und])) E (by kernel_rfl)
theorem u120_3 (n : Nat) (E : Env) : evCode C (ev C n) n kp120 cc120_2 E (Kcut 1002 (G120_2 n) (Kcut 1001 (G120_1 n) (Ktop C 120 f120 [.und]))) = evCode C (ev C n) n kp120 cc120_3 E (Kcut 1003 (G120_3 n) (Kcut 1002 (G120_2 n) (Kcut 1001 (G120_1 n) (Ktop C 120 f120 [.und])))) := evCode_cut cc120_2 [1, 1, 1, 1, 1, 0] (Kcut 1002 (G120_2 n) (Kcut 1001 (G120_1 n) (Ktop C 120 f120 [.und]))) E (by kernel_rfl)
theorem u120_4 (n : Nat) (E : Env) : evCode C (ev C n) n kp120 cc120_3 E (Kcut 1003 (G120_3 n) (Kcut 1002 (G120_2 n) (Kcut 1001 (G120_1 n) (Ktop C 120 f120 [.und])))) = evCode C (ev C n) n kp120 cc120_4 E (Kcut 1004 (G120_4 n) (Kcut 1003 (G120_3 n) (Kcut 1002 (G120_2 n) (Kcut 1001 (G120_1 n) (Ktop C 120 f120 [.und]))))) := evCode_cut cc120_3 [1, 1, 0] (Kcut 1003 (G120_3 n) (Kcut 1002 (G120_2 n) (Kcut 1001 (G120_1 n) (Ktop C 120 f120 [.und])))) E (by kernel_rfl)
theorem t120_g (n : Nat) (a0_0 a0_1 a0_2 a0_3 a0_4 a0_5 a0_6 : Int) (a0_7 : ByteArray) (a0_8 a0_9 : List Dat) (g1 g2 g3 g4 : Env → R) : evCode C (ev C n) n kp120 cc120_4 (cn [.agg [.int .i64 a0_0, .int .i64 a0_1, .int .i64 a0_2, .int .i64 a0_3, .int .i64 a0_4, .int .i64 a0_5, .int .i64 a0_6, .str a0_7, .shr 82 a0_8, .shr 3 a0_9]] (un 128 [])) (Kcut 1004 g4 (Kcut 1003 g3 (Kcut 1002 g2 (Kcut 1001 g1 (Ktop C 120 f120 [.und]))))) = bif decide (a0_0 < 1) then (some [.bool false]) else (bif decide (a0_0 > 10) then (some [.bool false]) else (bif decide (a0_1 < 0) then (some [.bool false]) else (bif decide (a0_2 < a0_1) then (some [.bool false]) else (bif decide (a0_2 > 4096) then (some [.bool false]) else (g4 (cn [.agg [.int .i64 a0_0, .int .i64 a0_1, .int .i64 a0_2, .int .i64 a0_3, .int .i64 a0_4, .int .i64 a0_5, .int .i64 a0_6, .str a0_7, .shr 82 a0_8, .shr 3 a0_9], .box 38 [.int .i64 a0_0, .int .i64 a0_1, .int .i64 a0_2, .int .i64 a0_3, .int .i64 a0_4, .int .i64 a0_5, .int .i64 a0_6, .str a0_7, .shr 82 a0_8, .shr 3 a0_9], .bool false] (un 4 (cn [.ref 1 0, .int .i64 a0_0, .bool (decide (a0_0 < 1)), .bool false, .ref 1 0, .int .i64 a0_0, .dead, .bool (decide (a0_0 > 10)), .bool false, .ref 1 1, .int .i64 a0_1, .dead, .bool (decide (a0_1 < 0)), .bool false, .ref 1 2, .int .i64 a0_2, .ref 1 1, .int .i64 a0_1, .dead, .bool (decide (a0_2 < a0_1)), .bool false, .ref 1 2, .int .i64 a0_2, .dead, .bool (decide (a0_2 > 4096))] (un 97 []))))))))) := by kernel_rfl
theorem o120 (a0_0 a0_1 a0_2 a0_3 a0_4 a0_5 a0_6 : Int) (a0_7 : ByteArray) (a0_8 a0_9 : List Dat) {r : List Dat} (h : (bif decide (a0_0 < 1) then (some [.bool false]) else (bif decide (a0_0 > 10) then (some [.bool false]) else (bif decide (a0_1 < 0) then (some [.bool false]) else (bif decide (a0_2 < a0_1) then (some [.bool false]) else (bif decide (a0_2 > 4096) then (some [.bool false]) else (N120_1 a0_0 a0_1 a0_2 a0_3 a0_4 a0_5 a0_6 a0_7 a0_8 a0_9))))) : R) = some r) : E C 120 [.agg [.int .i64 a0_0, .int .i64 a0_1, .int .i64 a0_2, .int .i64 a0_3, .int .i64 a0_4, .int .i64 a0_5, .int .i64 a0_6, .str a0_7, .shr 82 a0_8, .shr 3 a0_9]] = some r := E_st h (Cont.bif (Cont.const _) (Cont.bif (Cont.const _) (Cont.bif (Cont.const _) (Cont.bif (Cont.const _) (Cont.bif (Cont.const _) (N120_1_c (.agg [.int .i64 a0_0, .int .i64 a0_1, .int .i64 a0_2, .int .i64 a0_3, .int .i64 a0_4, .int .i64 a0_5, .int .i64 a0_6, .str a0_7, .shr 82 a0_8, .shr 3 a0_9]) _ _ _ _ _ _ _ _ _ _ false (.ref 1 0) (.int .i64 a0_0) (.bool (decide (a0_0 < 1))) (.bool false) (.ref 1 0) (.int .i64 a0_0) .dead (.bool (decide (a0_0 > 10))) (.bool false) (.ref 1 1) (.int .i64 a0_1) .dead (.bool (decide (a0_1 < 0))) (.bool false) (.ref 1 2) (.int .i64 a0_2) (.ref 1 1) (.int .i64 a0_1) .dead (.bool (decide (a0_2 < a0_1))) (.bool false) (.ref 1 2) (.int .i64 a0_2) .dead (.bool (decide (a0_2 > 4096))))))))) fun φ => by
  delta J120_1
  exact (t120_0 (φ 0) a0_0 a0_1 a0_2 a0_3 a0_4 a0_5 a0_6 a0_7 a0_8 a0_9).trans ((u120_1 (φ 0) _).trans ((u120_2 (φ 0) _).trans ((u120_3 (φ 0) _).trans ((u120_4 (φ 0) _).trans (t120_g (φ 0) a0_0 a0_1 a0_2 a0_3 a0_4 a0_5 a0_6 a0_7 a0_8 a0_9 (G120_1 (φ 0)) (G120_2 (φ 0)) (G120_3 (φ 0)) (G120_4 (φ 0)))))))
theorem o154 (a0_0 a0_1 a0_2 a0_3 a0_4 a0_5 a0_6 : Int) (a0_7 : ByteArray) (a0_8 a0_9 : List Dat) {r : List Dat} (h : (bif a0_0 != 8 then (bif a0_4 == 0 then (some [.bool (a0_5 == 0)]) else (some [.bool false])) else (bif decide (a0_4 ≥ 0) then (bif decide (a0_4 ≤ 1000) then (bif a0_5 == (-1) then (some [.bool true]) else (bif decide (a0_5 ≥ a0_4) then (bif decide (a0_5 ≥ 1) then (some [.bool (decide (a0_5 ≤ 1000))]) else (some [.bool false])) else (some [.bool false]))) else (some [.bool false])) else (some [.bool false])) : R) = some r) : E C 154 [.agg [.int .i64 a0_0, .int .i64 a0_1, .int .i64 a0_2, .int .i64 a0_3, .int .i64 a0_4, .int .i64 a0_5, .int .i64 a0_6, .str a0_7, .shr 82 a0_8, .shr 3 a0_9]] = some r := E_st h (Cont.bif (Cont.bif (Cont.const _) (Cont.const _)) (Cont.bif (Cont.bif (Cont.bif (Cont.const _) (Cont.bif (Cont.bif (Cont.const _) (Cont.const _)) (Cont.const _))) (Cont.const _)) (Cont.const _))) fun φ => by kernel_rfl
end Go.Proofs.YtlofoifcdmeopaaGreatDoor.V
namespace Go.Proofs.YtlofoifcdmeopaaGreatDoor.V
open Go Go.Ev Go.RowKit
set_option linter.unusedVariables false
set_option linter.unusedSimpArgs false
theorem al3_all {num mi ma mode k : Int} {name : ByteArray} (h : al3 num mi ma mode name k = true) : (k = 8 ∧ num = 0 ∧ (0 ≤ mode ∧ mode ≤ 1) ∧ (0 ≤ mi ∧ mi ≤ 1000) ∧ (ma = -1 ∨ (ma ≥ mi ∧ 1 ≤ ma ∧ ma ≤ 1000))) ∨ (k ≠ 8 ∧ mi = 0 ∧ ma = 0 ∧ (0 ≤ mode ∧ mode ≤ 1) ∧ (mode = 0 ∨ k = 4) ∧ ((k = 3 ∧ 1 ≤ num ∧ num ≤ 7) ∨ (k = 4 ∧ ((1 ≤ num ∧ num ≤ 99) ∨ (num = 0 ∧ emptyS name = false))) ∨ (k = 7 ∧ 1 ≤ num ∧ num ≤ 99) ∨ (k = 10 ∧ 1 ≤ num ∧ num ≤ 4) ∨ (k ≠ 3 ∧ k ≠ 4 ∧ k ≠ 7 ∧ k ≠ 10 ∧ num = 0))) := by
  unfold al3 at h
  by_cases h8 : k = 8
  · rw [eT h8] at h
    simp only [Bool.and_eq_true, beq_iff_eq, Bool.or_eq_true, decide_eq_true_eq, wi_iff] at h
    exact .inl (by omega)
  · rw [eF h8] at h
    unfold al4 at h
    simp only [Bool.and_eq_true, beq_iff_eq, wi_iff, Bool.not_eq_true', Bool.and_eq_false_iff, bne_eq_false_iff_eq] at h
    obtain ⟨⟨⟨⟨h1, h2⟩, h3⟩, h4⟩, h5⟩ := h
    refine .inr ⟨h8, h1, h2, h4, by omega, ?_⟩
    unfold al5 at h5
    by_cases q3 : k = 3
    · rw [eT q3, wi_iff] at h5; exact .inl ⟨q3, h5⟩
    rw [eF q3] at h5
    unfold al6 at h5
    by_cases q4 : k = 4
    · rw [eT q4] at h5
      simp only [Bool.or_eq_true, Bool.and_eq_true, wi_iff, beq_iff_eq, Bool.not_eq_true'] at h5
      exact .inr (.inl ⟨q4, h5⟩)
    rw [eF q4] at h5
    unfold al7 at h5
    by_cases q7 : k = 7
    · rw [eT q7, wi_iff] at h5; exact .inr (.inr (.inl ⟨q7, h5⟩))
    rw [eF q7] at h5
    unfold al8 at h5
    by_cases q10 : k = 10
    · rw [eT q10, wi_iff] at h5; exact .inr (.inr (.inr (.inl ⟨q10, h5⟩)))
    · rw [eF q10, beq_iff_eq] at h5
      exact .inr (.inr (.inr (.inr ⟨q3, q4, q7, q10, h5⟩)))
theorem counted_T {n : Nd} (h : al3 n.num n.min n.max n.mode n.name n.kind = true) : E C 154 [.agg [.int .i64 n.kind, .int .i64 n.frm, .int .i64 n.to, .int .i64 n.num, .int .i64 n.min, .int .i64 n.max, .int .i64 n.mode, .str n.name, .shr 82 (rs n.set), .shr 3 (n.kids.map .int)]] = some [.bool true] := by
  apply o154
  rcases al3_all h with ⟨k8, -, -, h1, h2⟩ | ⟨k8, h1, h2, -⟩
  · rw [neF k8, dT h1.1, dT h1.2]
    by_cases c : n.max = -1
    · rw [eT c]
    · rw [eF c, dT (by omega), dT (by omega), decide_eq_true (by omega)]
  · rw [neT k8, eT h1, h2]
    rfl
theorem al4_T {n : Nd} (a b c d e : Int) (hc : E C 154 [.agg [.int .i64 n.kind, .int .i64 n.frm, .int .i64 n.to, .int .i64 n.num, .int .i64 n.min, .int .i64 n.max, .int .i64 n.mode, .str n.name, .shr 82 (rs n.set), .shr 3 (n.kids.map .int)]] = some [.bool true]) (h1 : a ≤ (n.kids.length : Int)) (h2 : (n.kids.length : Int) ≤ b) (h3 : e ≤ n.num) (h4 : n.num ≤ c) (h5 : 0 ≤ n.mode) (h6 : n.mode ≤ d) (h7 : (n.name.size : Int) ≤ 32) : N120_4 n.kind n.frm n.to n.num n.min n.max n.mode n.name (rs n.set) (n.kids.map .int) a b c d e true true = some [.bool true] := by
  unfold N120_4
  rw [List.length_map, dT h1, dT h2, dT h3, dT h4, dT h5, dT h6, bT hc]
  simp only [rd0, datB]
  rw [cond_true, cond_true, cond_true, decide_eq_true h7]
theorem al2_T {n : Nd} (hn : OkN n) (a b c d e : Int) (hc : E C 154 [.agg [.int .i64 n.kind, .int .i64 n.frm, .int .i64 n.to, .int .i64 n.num, .int .i64 n.min, .int .i64 n.max, .int .i64 n.mode, .str n.name, .shr 82 (rs n.set), .shr 3 (n.kids.map .int)]] = some [.bool true]) (hs : n.set = [] ∨ (n.kind = 2 ∧ leastB n.set = true)) (hm : emptyS n.name = true ∨ n.kind = 7 ∨ n.kind = 4) (h1 : a ≤ (n.kids.length : Int)) (h2 : (n.kids.length : Int) ≤ b) (h3 : e ≤ n.num) (h4 : n.num ≤ c) (h5 : 0 ≤ n.mode) (h6 : n.mode ≤ d) (h7 : (n.name.size : Int) ≤ 32) : N120_2 n.kind n.frm n.to n.num n.min n.max n.mode n.name (rs n.set) (n.kids.map .int) a b c d e = some [.bool true] := by
  have hsl := hn.set
  have t4 := al4_T a b c d e hc h1 h2 h3 h4 h5 h6 h7
  have t3 : N120_3 n.kind n.frm n.to n.num n.min n.max n.mode n.name (rs n.set) (n.kids.map .int) a b c d e true = some [.bool true] := by
    unfold N120_3
    rw [rs_len]
    by_cases q : (n.set.length : Int) = 0
    · rw [eT q]; exact t4
    · rw [eF q]
      rcases hs with h | ⟨h, hl⟩
      · rw [h] at q; simp at q
      · have hR := Right_E n.set (by omega)
        rw [hl] at hR
        rw [eT h, bT hR]
        simp only [rd0, datB]
        exact t4
  unfold N120_2
  unfold emptyS at hm
  cases q : (n.name.toList == ByteArray.empty.toList) with
  | true => rw [cond_true]; exact t3
  | false =>
    rw [q] at hm
    rw [cond_false]
    by_cases c7 : n.kind = 7
    · rw [eT c7]; exact t3
    · have c4 : n.kind = 4 := by
        rcases hm with h | h | h
        · cases h
        · exact absurd h c7
        · exact h
      rw [eF c7, show (n.kind == 4) = true by rw [c4]; rfl]
      exact t3
theorem rules_lenR : rulesL.length = 11 := rfl
theorem alone_T {n : Nd} (hn : OkN n) (h : aloneB n = true) : E C 120 [.agg [.int .i64 n.kind, .int .i64 n.frm, .int .i64 n.to, .int .i64 n.num, .int .i64 n.min, .int .i64 n.max, .int .i64 n.mode, .str n.name, .shr 82 (rs n.set), .shr 3 (n.kids.map .int)]] = some [.bool true] := by
  unfold aloneB at h
  simp only [Bool.and_eq_true, Bool.not_eq_true', decide_eq_false_iff_not, wi_iff] at h
  obtain ⟨⟨⟨⟨⟨h1, h2⟩, h3⟩, h4⟩, h5⟩, h6, h7, h8⟩ := h
  have hc := counted_T h8
  have ha := al3_all h8
  unfold namB at h6
  simp only [Bool.and_eq_true, Bool.not_eq_true', Bool.and_eq_false_iff, bne_eq_false_iff_eq, decide_eq_false_iff_not, Bool.not_eq_false'] at h6
  unfold kidsB at h7
  simp only [Bool.and_eq_true, Bool.not_eq_true', Bool.and_eq_false_iff, decide_eq_false_iff_not, bne_eq_false_iff_eq, beq_eq_false_iff_ne, Bool.not_eq_false', wi_iff] at h7
  have hs : n.set = [] ∨ (n.kind = 2 ∧ leastB n.set = true) := by
    rcases h6.1.2 with q | q
    · exact .inl (List.eq_nil_of_length_eq_zero (by omega))
    · exact .inr ⟨q, h6.2⟩
  have hm : emptyS n.name = true ∨ n.kind = 7 ∨ n.kind = 4 := by
    rcases h6.1.1 with (q | q) | q
    · exact .inl q
    · exact .inr (.inl q)
    · exact .inr (.inr q)
  have h5' : (n.name.size : Int) ≤ 32 := by omega
  have go := fun a b c d e => al2_T hn a b c d e hc hs hm
  apply o120
  rw [dF (by omega), dF (by omega), dF h2, dF h3, dF h4]
  unfold N120_1
  rw [dT (by omega), dT (by omega), dT (by rw [rules_lenR]; omega)]
  have hk : n.kind = 1 ∨ n.kind = 2 ∨ n.kind = 3 ∨ n.kind = 4 ∨ n.kind = 5 ∨ n.kind = 6 ∨ n.kind = 7 ∨ n.kind = 8 ∨ n.kind = 9 ∨ n.kind = 10 := by omega
  rcases hk with hk | hk | hk | hk | hk | hk | hk | hk | hk | hk
  · rw [eF (show n.kind ≠ 4 by omega)]
    rw [show rd rulesL n.kind.toNat = .agg [.int 0, .int 0, .int 0, .int 0] by rw [hk]; rfl]
    simp only [aggC0, aggC1, aggC2, aggC3, datI]
    exact go 0 0 0 0 0 (by omega) (by omega) (by omega) (by omega) (by omega) (by omega) h5'
  · rw [eF (show n.kind ≠ 4 by omega)]
    rw [show rd rulesL n.kind.toNat = .agg [.int 0, .int 0, .int 0, .int 0] by rw [hk]; rfl]
    simp only [aggC0, aggC1, aggC2, aggC3, datI]
    exact go 0 0 0 0 0 (by omega) (by omega) (by omega) (by omega) (by omega) (by omega) h5'
  · rw [eF (show n.kind ≠ 4 by omega)]
    rw [show rd rulesL n.kind.toNat = .agg [.int 0, .int 0, .int 7, .int 0] by rw [hk]; rfl]
    simp only [aggC0, aggC1, aggC2, aggC3, datI]
    exact go 0 0 7 0 1 (by omega) (by omega) (by omega) (by omega) (by omega) (by omega) h5'
  · rw [eT hk]
    cases hq : (n.name.toList == ByteArray.empty.toList) with
    | true =>
      have hq' : emptyS n.name = true := hq
      rw [nF rfl]
      rw [show rd rulesL n.kind.toNat = .agg [.int 0, .int 0, .int 99, .int 1] by rw [hk]; rfl]
      simp only [aggC0, aggC1, aggC2, aggC3, datI]
      exact go 0 0 99 1 1 (by omega) (by omega) (by
        rcases ha with q | ⟨-, -, -, -, -, q⟩
        · omega
        · rcases q with q | ⟨-, q⟩ | q | q | q
          · omega
          · rcases q with q | ⟨q1, q2⟩
            · omega
            · rw [hq'] at q2; cases q2
          · omega
          · omega
          · omega) (by omega) (by omega) (by omega) h5'
    | false =>
      rw [nT rfl]
      rw [show rd rulesL n.kind.toNat = .agg [.int 0, .int 0, .int 99, .int 1] by rw [hk]; rfl]
      simp only [aggC0, aggC1, aggC2, aggC3, datI]
      exact go 0 0 99 1 0 (by omega) (by omega) (by
        rcases ha with q | ⟨-, -, -, -, -, q⟩
        · omega
        · rcases q with q | ⟨-, q⟩ | q | q | q
          · omega
          · rcases q with q | ⟨q1, q2⟩
            · omega
            · omega
          · omega
          · omega
          · omega) (by omega) (by omega) (by omega) h5'
  · rw [eF (show n.kind ≠ 4 by omega)]
    rw [show rd rulesL n.kind.toNat = .agg [.int 2, .int 4096, .int 0, .int 0] by rw [hk]; rfl]
    simp only [aggC0, aggC1, aggC2, aggC3, datI]
    exact go 2 4096 0 0 0 (by omega) (by omega) (by omega) (by omega) (by omega) (by omega) h5'
  · rw [eF (show n.kind ≠ 4 by omega)]
    rw [show rd rulesL n.kind.toNat = .agg [.int 2, .int 4097, .int 0, .int 0] by rw [hk]; rfl]
    simp only [aggC0, aggC1, aggC2, aggC3, datI]
    exact go 2 4097 0 0 0 (by omega) (by omega) (by omega) (by omega) (by omega) (by omega) h5'
  · rw [eF (show n.kind ≠ 4 by omega)]
    rw [show rd rulesL n.kind.toNat = .agg [.int 1, .int 1, .int 99, .int 0] by rw [hk]; rfl]
    simp only [aggC0, aggC1, aggC2, aggC3, datI]
    exact go 1 1 99 0 1 (by omega) (by omega) (by omega) (by omega) (by omega) (by omega) h5'
  · rw [eF (show n.kind ≠ 4 by omega)]
    rw [show rd rulesL n.kind.toNat = .agg [.int 1, .int 1, .int 0, .int 1] by rw [hk]; rfl]
    simp only [aggC0, aggC1, aggC2, aggC3, datI]
    exact go 1 1 0 1 0 (by omega) (by omega) (by omega) (by omega) (by omega) (by omega) h5'
  · rw [eF (show n.kind ≠ 4 by omega)]
    rw [show rd rulesL n.kind.toNat = .agg [.int 1, .int 1, .int 0, .int 0] by rw [hk]; rfl]
    simp only [aggC0, aggC1, aggC2, aggC3, datI]
    exact go 1 1 0 0 0 (by omega) (by omega) (by omega) (by omega) (by omega) (by omega) h5'
  · rw [eF (show n.kind ≠ 4 by omega)]
    rw [show rd rulesL n.kind.toNat = .agg [.int 1, .int 1, .int 4, .int 0] by rw [hk]; rfl]
    simp only [aggC0, aggC1, aggC2, aggC3, datI]
    exact go 1 1 4 0 1 (by omega) (by omega) (by omega) (by omega) (by omega) (by omega) h5'
abbrev avWR (t : Tr) (a g : Int) (ok : Bool) : AV := .pbox [.shr 38 (nsD t.ns), .int .i64 t.groups, .shr 9 (t.names.map .str), .int .i64 a, .int .i64 g, .bool ok]
def wkR (t : Tr) (a g : Nat) : List Dat := [.agg [.list (nsD t.ns), .int t.groups, .list (t.names.map .str), .int (a : Int), .int (g : Int), .bool true]]
theorem node_R {t : Tr} (ht : OkT t) (hnm : (t.names.length : Int) = t.groups + 1) (hl : t.ns.length ≤ 1000000) : ∀ (f i e g : Nat) (frm to depth : Int) (hi : i < t.ns.length), endK t.ns f i = some e → rightL t (t.ns.drop i) g = true → g ≤ i → frm ≤ t.ns[i].frm → t.ns[i].to ≤ to → 0 ≤ depth ∧ depth ≤ i → ∃ g' : Nat, g' ≤ e ∧ E C 81 [avWR t (i : Int) (g : Int) true, .int .i64 (i : Int), .int .i64 frm, .int .i64 to, .int .i64 depth] = some (wkR t e g') ∧ rightL t (t.ns.drop e) g' = true
  | 0, i, e, g, frm, to, depth, hi, he, hr, hg, h1, h2, h3 => by cases he
  | f + 1, i, e, g, frm, to, depth, hi, he, hr, hg, h1, h2, h3 => by
    have hnl := ht.names
    have hn : OkN t.ns[i] := ht.nd _ (List.getElem_mem hi)
    have hkl := hn.kids
    have hb := endK_bound _ _ _ he
    unfold endK at he
    rw [List.getElem?_eq_getElem hi] at he
    replace he : walkK (endK t.ns f) t.ns[i].kids (i + 1) = some e := he
    rw [List.drop_eq_getElem_cons hi, rightL_cons, Bool.and_eq_true, Bool.and_eq_true] at hr
    obtain ⟨r1, r2, r3⟩ := hr
    have e1 : IntKind.i64.wrap ((i : Int) + 1) = ((i + 1 : Nat) : Int) := by rw [w64 (by omega) (by omega)]; omega
    have e2 : IntKind.i64.wrap ((g : Int) + 1) = ((g + 1 : Nat) : Int) := by rw [w64 (by omega) (by omega)]; omega
    have loop : ∀ (rest pre : List Int) (a g : Nat), t.ns[i].kids = pre ++ rest → walkK (endK t.ns f) rest a = some e → rightL t (t.ns.drop a) g = true → i + 1 ≤ a → g ≤ a → ∃ g' : Nat, g' ≤ e ∧
        M81_1 (nsD t.ns) t.groups (t.names.map .str) (a : Int) (g : Int) true (i : Int) frm to depth t.ns[i].kind t.ns[i].frm t.ns[i].to t.ns[i].num t.ns[i].min t.ns[i].max t.ns[i].mode t.ns[i].name (rs t.ns[i].set) (t.ns[i].kids.map .int) (t.ns[i].kids.map .int) (t.ns[i].kids.length : Int) (pre.length : Int) = some (wkR t e g') ∧ rightL t (t.ns.drop e) g' = true := by
      intro rest
      induction rest with
      | nil =>
        intro pre a g hx hw hr ha hg
        rw [List.append_nil] at hx
        obtain rfl : a = e := Option.some.inj hw
        refine ⟨g, hg, ?_, hr⟩
        apply M81_1_of
        rw [hx, dF (by omega)]
        rfl
      | cons k rest ihr =>
        intro pre a g hx hw hr ha hg
        have hlen : t.ns[i].kids.length = pre.length + (rest.length + 1) := by rw [hx, List.length_append, List.length_cons]
        have hk : (rd (t.ns[i].kids.map Dat.int) pre.length).I = k := by rw [hx, rdI]; simp
        have e3 : IntKind.i64.wrap ((pre.length : Int) + 1) = ((pre.length + 1 : Nat) : Int) := by rw [w64 (by omega) (by omega)]; omega
        have e4 : IntKind.i64.wrap (depth + 1) = depth + 1 := w64 (by omega) (by omega)
        unfold walkK at hw
        split at hw
        · cases hw
        · rename_i hka
          have hka' : k = (a : Int) := by omega
          cases hg2 : endK t.ns f a with
          | none => rw [hg2] at hw; cases hw
          | some m =>
            rw [hg2] at hw
            have hbm := endK_bound _ _ _ hg2
            have ha2 : a < t.ns.length := by omega
            have hfit : fitsB t.ns t.ns[i] k = true := List.all_eq_true.1 r2 k (by rw [hx]; simp)
            unfold fitsB at hfit
            have hgd : t.ns.getD k.toNat t.ns[i] = t.ns[a] := by
              rw [hka', Int.toNat_natCast]
              simp [List.getD_eq_getElem?_getD, ha2]
            rw [hgd] at hfit
            simp only [Bool.and_eq_true, Bool.not_eq_true', decide_eq_false_iff_not] at hfit
            obtain ⟨g2, i1, i2, i3⟩ := node_R ht hnm hl f a m g t.ns[i].frm t.ns[i].to (depth + 1) ha2 hg2 hr hg (by omega) (by omega) ⟨by omega, by omega⟩
            obtain ⟨g3, j1, j2, j3⟩ := ihr (pre ++ [k]) m g2 (by rw [hx, List.append_assoc]; rfl) hw i3 (by omega) i1
            rw [List.length_append, List.length_cons, List.length_nil] at j2
            refine ⟨g3, j1, ?_, j3⟩
            apply M81_1_of
            rw [dT (by omega), List.length_map, ixT ⟨by omega, by omega⟩, Int.toNat_natCast, hk, e3, e4, hka', bT i2]
            simp only [wkR, rd0, aggC0, aggC1, aggC2, aggC3, aggC4, aggC5, datL, datI, datB]
            exact j2
    have hal := alone_T hn r1
    by_cases c7 : t.ns[i].kind = 7
    · rw [if_pos c7] at r3
      simp only [Bool.and_eq_true, beq_iff_eq, Bool.not_eq_true', decide_eq_false_iff_not] at r3
      obtain ⟨s1, s2, s3, s4⟩ := r3
      obtain ⟨g', j1, j2, j3⟩ := loop t.ns[i].kids [] (i + 1) (g + 1) rfl he s4 (Nat.le_refl _) (by omega)
      refine ⟨g', j1, ?_, j3⟩
      apply o81
      rw [cond_true, eT rfl, dT (by omega), nsD_len, dT (by omega), decide_eq_true (show depth ≤ (t.ns.length : Int) by omega), nF rfl, dT (by omega), dT (by omega), dT (by omega), Int.toNat_natCast, nsD_rd hi]
      simp only [nd0, nd1, nd2, nd3, nd4, nd5, nd6, nd7, nd8, nd9, datI, datS, datL, List.length_map]
      rw [bT hal]
      simp only [rd0, datB]
      rw [cond_true, dT (show t.ns[i].frm ≥ frm from h1), dT h2, eT c7, e1, e2, eT s1, dT (by omega), dT (by omega), dT (by omega), dT (by omega), Int.toNat_natCast, name_rd (by omega), s3, beq_self_eq_true]
      exact j2
    · rw [if_neg c7] at r3
      obtain ⟨g', j1, j2, j3⟩ := loop t.ns[i].kids [] (i + 1) g rfl he r3 (Nat.le_refl _) (by omega)
      refine ⟨g', j1, ?_, j3⟩
      apply o81
      rw [cond_true, eT rfl, dT (by omega), nsD_len, dT (by omega), decide_eq_true (show depth ≤ (t.ns.length : Int) by omega), nF rfl, dT (by omega), dT (by omega), dT (by omega), Int.toNat_natCast, nsD_rd hi]
      simp only [nd0, nd1, nd2, nd3, nd4, nd5, nd6, nd7, nd8, nd9, datI, datS, datL, List.length_map]
      rw [bT hal]
      simp only [rd0, datB]
      rw [cond_true, dT (show t.ns[i].frm ≥ frm from h1), dT h2, eF c7, e1, decide_eq_true h2]
      exact j2
theorem Right_T {t : Tr} (ht : OkT t) (hl : t.ns.length ≤ 1000000) (hr : rightB t = true) (h0 : ∀ (h : 0 < t.ns.length), 0 ≤ t.ns[0].frm ∧ t.ns[0].to ≤ 4096) : E C 35 [.agg [.shr 38 (nsD t.ns), .int .i64 t.groups, .shr 9 (t.names.map .str)]] = some [.bool true] := by
  have hnl := ht.names
  unfold rightB at hr
  simp only [Bool.and_eq_true, beq_iff_eq, decide_eq_true_eq] at hr
  obtain ⟨r1, r2, r3, r4, r5⟩ := hr
  have hb := endK_bound _ _ _ r1
  obtain ⟨g', j1, j2, j3⟩ := node_R ht (by omega) hl (t.ns.length + 1) 0 t.ns.length 0 0 4096 0 (by omega) r1 (by rw [List.drop_zero]; exact r5) (Nat.le_refl _) (h0 (by omega)).1 (h0 (by omega)).2 ⟨by omega, by omega⟩
  rw [List.drop_length] at j3
  have j3' : (((g' : Nat) : Int) == t.groups) = true := j3
  rw [beq_iff_eq] at j3'
  apply o35
  have j2' : E C 81 [avWR t 0 0 true, .int .i64 0, .int .i64 0, .int .i64 4096, .int .i64 0] = some (wkR t t.ns.length g') := j2
  rw [bT j2']
  simp only [wkR, rd0, aggC3, aggC4, aggC5, datI, datB]
  rw [cond_true, nsD_len, eT rfl, eT j3', List.length_map, w64 (n := t.groups + 1) (by omega) (by omega), eT (by omega), dT (by omega), dT (by omega), name_rd (by omega)]
  unfold emptyS at r4
  rw [r4]
end Go.Proofs.YtlofoifcdmeopaaGreatDoor.V
namespace Go.Proofs.YtlofoifcdmeopaaGreatDoor.V
open Go Go.Ev Go.RowKit
def tree81 : Dat := .agg [.list [nodeD ⟨6, 0, 7, 0, 0, 0, 0, ByteArray.empty, [], [1, 2]⟩, nodeD ⟨2, 0, 1, 0, 0, 0, 0, ByteArray.empty, [(97, 97)], []⟩, nodeD ⟨9, 2, 7, 0, 0, 0, 0, ByteArray.empty, [], [3]⟩, nodeD ⟨8, 2, 7, 0, 0, -1, 0, ByteArray.empty, [], [4]⟩, nodeD ⟨7, 2, 5, 1, 0, 0, 0, ByteArray.empty, [], [5]⟩, nodeD ⟨2, 3, 4, 0, 0, 0, 0, ByteArray.empty, [(98, 98)], []⟩], .int 1, .list [.str ByteArray.empty, .str ByteArray.empty]]
theorem parse81 : E C 26 [.shr 5 ([.int 97, .int 124, .int 40, .int 98, .int 41, .int 42, .int 43] : List Dat)] = some [tree81, .int 0, .int 0] := E_from 60 fun n => by kernel_rfl
end Go.Proofs.YtlofoifcdmeopaaGreatDoor.V
