/- Told functions: what each answers, as plain trees; written by a program of this session (tell.py). -/
import Derived.Test.YtbhffcogeeeidaaDoorVCa
import Derived.Test.YtbhffcogeeeidaaDoorEc
import Derived.KernelRfl
import Derived.Test.YtbhffcogeeeidaaDoorVR0
namespace Go.Proofs.YtbhffcogeeeidaaDoor.V
open Go Go.Ev
set_option maxRecDepth 100000
set_option linter.unusedVariables false
/-- clew/clewlaw11.digits -/
noncomputable def f10 : Func := Tryd.f10
def kp10 : List Nat := [0, 2, 3]
noncomputable def c10 (p : List Nat) : Code := pick f10 p
noncomputable def L10_1 (n : Nat) (m1 : Nat) (v0 : Int) (v2 v3 : ByteArray) : R := loopIter (fun E K => evCode C (ev C n) n kp10 (c10 [1, 1, 1, 1, 0, 0, 0]) E K) [0, 2, 3] (Kblk 0 (Kseq C (ev C n) n kp10 (c10 [1, 1, 1, 1, 1]) (Ktop C 10 f10 [.und]))) m1 [.int .i64 v0, .und, .str v2, .str v3, .und, .und, .und, .und, .und, .und, .und, .und, .und, .und, .und, .und, .und, .und, .und, .und, .und, .und, .und, .und, .und, .und, .und]
noncomputable def M10_1 (v0 : Int) (v2 v3 : ByteArray) : R := lim fun φ => L10_1 (φ 0) (φ 1) v0 v2 v3
theorem M10_1_c (v0 : Int) (v2 v3 : ByteArray) : Cont (fun φ => L10_1 (φ 0) (φ 1) v0 v2 v3) (M10_1 v0 v2 v3) := Cont.re id _
theorem M10_1_e (v0 : Int) (v2 v3 : ByteArray) : Cont (fun φ => L10_1 (φ 0) (φ 0) v0 v2 v3) (M10_1 v0 v2 v3) := Cont.re (toZ 1) fun φ => L10_1 (φ 0) (φ 1) v0 v2 v3
theorem M10_1_of (v0 : Int) (v2 v3 : ByteArray) {r : List Dat} (h : (bif decide (v0 > 0) then (bif decide (0 ≤ (v0.tmod 10)) then (bif decide ((v0.tmod 10) < ((bs [48, 49, 50, 51, 52, 53, 54, 55, 56, 57]).size : Int)) then (bif decide ((Utf8.encode (bt (bs [48, 49, 50, 51, 52, 53, 54, 55, 56, 57]) ((v0.tmod 10).toNat))).size + v3.size ≤ 9223372036854775807) then (M10_1 (IntKind.i64.wrap (v0.tdiv 10)) v2 ((Utf8.encode (bt (bs [48, 49, 50, 51, 52, 53, 54, 55, 56, 57]) ((v0.tmod 10).toNat))) ++ v3)) else none) else none) else none) else (bif v3.toList == ByteArray.empty.toList then (bif decide (0 ≤ (v0.tmod 10)) then (bif decide ((v0.tmod 10) < ((bs [48, 49, 50, 51, 52, 53, 54, 55, 56, 57]).size : Int)) then (bif decide ((Utf8.encode (bt (bs [48, 49, 50, 51, 52, 53, 54, 55, 56, 57]) ((v0.tmod 10).toNat))).size + v3.size ≤ 9223372036854775807) then (M10_1 (IntKind.i64.wrap (v0.tdiv 10)) v2 ((Utf8.encode (bt (bs [48, 49, 50, 51, 52, 53, 54, 55, 56, 57]) ((v0.tmod 10).toNat))) ++ v3)) else none) else none) else none) else (some [.str v3])) : R) = some r) : M10_1 v0 v2 v3 = some r := lim_st (g := fun φ => L10_1 (φ 0) (φ 1) v0 v2 v3) 1 h (Cont.bif (Cont.bif (Cont.bif (Cont.bif (M10_1_c _ _ _) Cont.nn) Cont.nn) Cont.nn) (Cont.bif (Cont.bif (Cont.bif (Cont.bif (M10_1_c _ _ _) Cont.nn) Cont.nn) Cont.nn) (Cont.const _))) fun φ m hm => (congrArg (fun q => L10_1 (φ 0) q v0 v2 v3) hm).trans (by kernel_rfl)
theorem o10 (a0 : Int) {r : List Dat} (h : (bif a0 == (-9223372036854775808) then (some [.str (bs [45, 57, 50, 50, 51, 51, 55, 50, 48, 51, 54, 56, 53, 52, 55, 55, 53, 56, 48, 56])]) else (bif decide (a0 < 0) then ((E C 10 [.int .i64 (IntKind.i64.wrap (0 - a0))]).bind fun d1 => (bif decide ((bs [45]).size + ((rd d1 0).S).size ≤ 9223372036854775807) then (some [.str ((bs [45]) ++ ((rd d1 0).S))]) else none)) else (M10_1 a0 ByteArray.empty ByteArray.empty)) : R) = some r) : E C 10 [.int .i64 a0] = some r := E_st h (Cont.bif (Cont.const _) (Cont.bif (Cont.bind (Cont.call C 10 _) fun _ => (Cont.bif (Cont.const _) Cont.nn)) (M10_1_e _ _ _))) fun φ => by kernel_rfl
end Go.Proofs.YtbhffcogeeeidaaDoor.V
