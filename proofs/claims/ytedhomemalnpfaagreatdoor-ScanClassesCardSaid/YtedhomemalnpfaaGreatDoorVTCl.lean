/- Told functions: what each answers, as plain trees; written by a program of this session (tell.py). -/
import Derived.Test.YtedhomemalnpfaaGreatDoorVCa
import Derived.Test.YtedhomemalnpfaaGreatDoorEc
import Derived.KernelRfl
import Derived.Test.YtedhomemalnpfaaGreatDoorVT0
namespace Go.Proofs.YtedhomemalnpfaaGreatDoor.V
open Go Go.Ev
set_option maxRecDepth 100000
set_option linter.unusedVariables false
/-- clew/class.Of -/
noncomputable def f52 : Func := Tryz.f52
def kp52 : List Nat := [0, 2, 3, 4, 6]
noncomputable def c52 (p : List Nat) : Code := pick f52 p
theorem o52 (a0 : Int) {r : List Dat} (h : (bif a0 == 100 then ((E C 72 [.str (bs [100, 105, 103, 105, 116])]).bind fun d1 => (some [.list ((rd d1 0).L), .bool true])) else (bif a0 == 119 then ((E C 72 [.str (bs [119, 111, 114, 100])]).bind fun d2 => (some [.list ((rd d2 0).L), .bool true])) else (bif a0 == 115 then ((E C 72 [.str (bs [115, 112, 97, 99, 101])]).bind fun d3 => (some [.list ((rd d3 0).L), .bool true])) else (bif a0 == 68 then (bif a0 == 68 then ((E C 52 [.int .u8 (IntKind.u8.wrap ((IntKind.u8.wrap (a0 + 97)) - 65))]).bind fun d4 => ((E C 43 [.shr 85 ((rd d4 0).L)]).bind fun d5 => (some [.list ((rd d5 0).L), .bool true]))) else (some [.list ([] : List Dat), .bool false])) else (bif a0 == 87 then (bif a0 == 87 then ((E C 52 [.int .u8 (IntKind.u8.wrap ((IntKind.u8.wrap (a0 + 97)) - 65))]).bind fun d6 => ((E C 43 [.shr 85 ((rd d6 0).L)]).bind fun d7 => (some [.list ((rd d7 0).L), .bool true]))) else (some [.list ([] : List Dat), .bool false])) else (bif a0 == 83 then ((E C 52 [.int .u8 (IntKind.u8.wrap ((IntKind.u8.wrap (a0 + 97)) - 65))]).bind fun d8 => ((E C 43 [.shr 85 ((rd d8 0).L)]).bind fun d9 => (some [.list ((rd d9 0).L), .bool true]))) else (some [.list ([] : List Dat), .bool false])))))) : R) = some r) : E C 52 [.int .u8 a0] = some r := E_st h (Cont.bif (Cont.bind (Cont.call C 72 _) fun _ => (Cont.const _)) (Cont.bif (Cont.bind (Cont.call C 72 _) fun _ => (Cont.const _)) (Cont.bif (Cont.bind (Cont.call C 72 _) fun _ => (Cont.const _)) (Cont.bif (Cont.bif (Cont.bind (Cont.call C 52 _) fun _ => (Cont.bind (Cont.call C 43 _) fun _ => (Cont.const _))) (Cont.const _)) (Cont.bif (Cont.bif (Cont.bind (Cont.call C 52 _) fun _ => (Cont.bind (Cont.call C 43 _) fun _ => (Cont.const _))) (Cont.const _)) (Cont.bif (Cont.bind (Cont.call C 52 _) fun _ => (Cont.bind (Cont.call C 43 _) fun _ => (Cont.const _))) (Cont.const _))))))) fun φ => by kernel_rfl
/-- clew/class.must -/
noncomputable def f72 : Func := Tryz.f72
def kp72 : List Nat := [0, 2, 3]
noncomputable def c72 (p : List Nat) : Code := pick f72 p
theorem o72 (a0 : ByteArray) {r : List Dat} (h : ((E C 87 [.str a0]).bind fun d1 => (some [.list ((rd d1 0).L)]) : R) = some r) : E C 72 [.str a0] = some r := E_st h (Cont.bind (Cont.call C 87 _) fun _ => (Cont.const _)) fun φ => by kernel_rfl
/-- clew/class.Named -/
noncomputable def f87 : Func := Tryz.f87
def kp87 : List Nat := [0, 1, 2, 3, 4, 5]
noncomputable def c87 (p : List Nat) : Code := pick f87 p
theorem o87 (a0 : ByteArray) {r : List Dat} (h : ((E C 103 []).bind fun d1 => ((E C 104 [.shr 148 ((rd d1 0).L), .clo 105 [] [.sref 9 ([.str a0] : List Dat) 0 0]]).bind fun d2 => (bif decide (((rd d2 0).I) < 0) then (some [.list ([] : List Dat), .bool false]) else (bif decide (0 ≤ ((rd d2 0).I)) then (bif decide (((rd d2 0).I) < (((rd d1 0).L).length : Int)) then (bif decide (((rd d2 0).I).toNat < ((rd d1 0).L).length) then (some [.list (((rd ((rd d1 0).L) (((rd d2 0).I).toNat)).C 1).L), .bool true]) else none) else none) else none))) : R) = some r) : E C 87 [.str a0] = some r := E_st h (Cont.bind (Cont.call C 103 _) fun _ => (Cont.bind (Cont.call C 104 _) fun _ => (Cont.bif (Cont.const _) (Cont.bif (Cont.bif (Cont.bif (Cont.const _) Cont.nn) Cont.nn) Cont.nn)))) fun φ => by kernel_rfl
/-- clew/class.all -/
noncomputable def f103 : Func := Tryz.f103
def kp103 : List Nat := [0, 1, 2, 3]
noncomputable def c103 (p : List Nat) : Code := pick f103 p
theorem o103 {r : List Dat} (h : (some [.list ([.agg [.str (bs [97, 108, 110, 117, 109]), .list ([.agg [.int 48, .int 57], .agg [.int 65, .int 90], .agg [.int 97, .int 122]] : List Dat)], .agg [.str (bs [97, 108, 112, 104, 97]), .list ([.agg [.int 65, .int 90], .agg [.int 97, .int 122]] : List Dat)], .agg [.str (bs [97, 115, 99, 105, 105]), .list ([.agg [.int 0, .int 127]] : List Dat)], .agg [.str (bs [98, 108, 97, 110, 107]), .list ([.agg [.int 9, .int 9], .agg [.int 32, .int 32]] : List Dat)], .agg [.str (bs [99, 110, 116, 114, 108]), .list ([.agg [.int 0, .int 31], .agg [.int 127, .int 127]] : List Dat)], .agg [.str (bs [100, 105, 103, 105, 116]), .list ([.agg [.int 48, .int 57]] : List Dat)], .agg [.str (bs [103, 114, 97, 112, 104]), .list ([.agg [.int 33, .int 126]] : List Dat)], .agg [.str (bs [108, 111, 119, 101, 114]), .list ([.agg [.int 97, .int 122]] : List Dat)], .agg [.str (bs [112, 114, 105, 110, 116]), .list ([.agg [.int 32, .int 126]] : List Dat)], .agg [.str (bs [112, 117, 110, 99, 116]), .list ([.agg [.int 33, .int 47], .agg [.int 58, .int 64], .agg [.int 91, .int 96], .agg [.int 123, .int 126]] : List Dat)], .agg [.str (bs [115, 112, 97, 99, 101]), .list ([.agg [.int 9, .int 13], .agg [.int 32, .int 32]] : List Dat)], .agg [.str (bs [117, 112, 112, 101, 114]), .list ([.agg [.int 65, .int 90]] : List Dat)], .agg [.str (bs [119, 111, 114, 100]), .list ([.agg [.int 48, .int 57], .agg [.int 65, .int 90], .agg [.int 95, .int 95], .agg [.int 97, .int 122]] : List Dat)], .agg [.str (bs [120, 100, 105, 103, 105, 116]), .list ([.agg [.int 48, .int 57], .agg [.int 65, .int 70], .agg [.int 97, .int 102]] : List Dat)]] : List Dat)] : R) = some r) : E C 103 [] = some r := E_st h (Cont.const _) fun φ => by kernel_rfl
/-- slices.IndexFunc[[]clew/class.named,clew/class.named] -/
noncomputable def f104 : Func := Tryz.f104
def kp104 : List Nat := [0, 1, 4, 5, 7, 8]
noncomputable def c104 (p : List Nat) : Code := pick f104 p
noncomputable def L104_a_1 (n : Nat) (m1 : Nat) (v0 : List Dat) (v1c0d0 : ByteArray) (v4 v7 v8 : Int) : R := loopIter (fun E K => evCode C (ev C n) n kp104 (c104 [1, 0, 1, 0, 0]) E K) [0, 1, 4, 7, 8] (Kblk 0 (Kseq C (ev C n) n kp104 (c104 [1, 1]) (Ktop C 104 f104 [.und, .und]))) m1 [.shr 148 v0, .clo 105 [] [.sref 9 ([.str v1c0d0] : List Dat) 0 0], .und, .und, .int .i64 v4, .und, .und, .int .i64 v7, .int .i64 v8, .und, .und, .und, .und, .und, .und, .und, .und, .und, .und]
noncomputable def M104_a_1 (v0 : List Dat) (v1c0d0 : ByteArray) (v4 v7 v8 : Int) : R := lim fun φ => L104_a_1 (φ 0) (φ 1) v0 v1c0d0 v4 v7 v8
theorem M104_a_1_c (v0 : List Dat) (v1c0d0 : ByteArray) (v4 v7 v8 : Int) : Cont (fun φ => L104_a_1 (φ 0) (φ 1) v0 v1c0d0 v4 v7 v8) (M104_a_1 v0 v1c0d0 v4 v7 v8) := Cont.re id _
theorem M104_a_1_e (v0 : List Dat) (v1c0d0 : ByteArray) (v4 v7 v8 : Int) : Cont (fun φ => L104_a_1 (φ 0) (φ 0) v0 v1c0d0 v4 v7 v8) (M104_a_1 v0 v1c0d0 v4 v7 v8) := Cont.re (toZ 1) fun φ => L104_a_1 (φ 0) (φ 1) v0 v1c0d0 v4 v7 v8
theorem M104_a_1_of (v0 : List Dat) (v1c0d0 : ByteArray) (v4 v7 v8 : Int) {r : List Dat} (h : (bif decide (v8 < v7) then (bif decide (0 ≤ v8) then (bif decide (v8 < (v0.length : Int)) then (bif decide (v8.toNat < v0.length) then ((E C 105 [.agg [.str (((rd v0 v8.toNat).C 0).S), .shr 85 (((rd v0 v8.toNat).C 1).L)], .sref 9 ([.str v1c0d0] : List Dat) 0 0]).bind fun d1 => (bif (rd d1 0).B then (some [.int v8]) else (M104_a_1 v0 v1c0d0 v4 v7 (IntKind.i64.wrap (v8 + 1))))) else none) else none) else none) else (some [.int (-1)]) : R) = some r) : M104_a_1 v0 v1c0d0 v4 v7 v8 = some r := lim_st (g := fun φ => L104_a_1 (φ 0) (φ 1) v0 v1c0d0 v4 v7 v8) 1 h (Cont.bif (Cont.bif (Cont.bif (Cont.bif (Cont.bind (Cont.call C 105 _) fun _ => (Cont.bif (Cont.const _) (M104_a_1_c _ _ _ _ _))) Cont.nn) Cont.nn) Cont.nn) (Cont.const _)) fun φ m hm => (congrArg (fun q => L104_a_1 (φ 0) q v0 v1c0d0 v4 v7 v8) hm).trans (by kernel_rfl)
theorem o104_a (a0 : List Dat) (a1c0d0 : ByteArray) {r : List Dat} (h : (M104_a_1 a0 a1c0d0 0 (a0.length : Int) 0 : R) = some r) : E C 104 [.shr 148 a0, .clo 105 [] [.sref 9 ([.str a1c0d0] : List Dat) 0 0]] = some r := E_st h (M104_a_1_e _ _ _ _ _) fun φ => by kernel_rfl
/-- clew/class.Named$1 -/
noncomputable def f105 : Func := Tryz.f105
def kp105 : List Nat := [0, 1, 2, 3]
noncomputable def c105 (p : List Nat) : Code := pick f105 p
theorem o105_a (a0_0 : ByteArray) (a0_1 : List Dat) (a1d0 : ByteArray) {r : List Dat} (h : (bif decide (0 < ([.str a1d0] : List Dat).length) then (some [.bool (a0_0.toList == ((rd ([.str a1d0] : List Dat) 0).S).toList)]) else none : R) = some r) : E C 105 [.agg [.str a0_0, .shr 85 a0_1], .sref 9 ([.str a1d0] : List Dat) 0 0] = some r := E_st h (Cont.bif (Cont.const _) Cont.nn) fun φ => by kernel_rfl
end Go.Proofs.YtedhomemalnpfaaGreatDoor.V
