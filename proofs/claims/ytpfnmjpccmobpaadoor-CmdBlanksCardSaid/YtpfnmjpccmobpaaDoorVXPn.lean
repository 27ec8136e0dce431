/- Told functions: what each answers, as plain trees; written by a program of this session (tell.py). -/
import Derived.Test.YtpfnmjpccmobpaaDoorVCd
import Derived.Test.YtpfnmjpccmobpaaDoorEc
import Derived.KernelRfl
import Derived.Test.YtpfnmjpccmobpaaDoorVX0
namespace Go.Proofs.YtpfnmjpccmobpaaDoor.V
open Go Go.Ev
set_option maxRecDepth 100000
set_option linter.unusedVariables false
/-- clew/point.Word -/
noncomputable def f20 : Func := Tryd.f20
def kp20 : List Nat := [0, 2, 3]
noncomputable def c20 (p : List Nat) : Code := pick f20 p
theorem o20 (a0 : Int) {r : List Dat} (h : ((E C 65 [.int .i64 a0, .int .i64 1, .int .i64 5]).bind fun d1 => (bif !((rd d1 0).B) then (some [.str ByteArray.empty]) else (bif decide (0 ≤ a0) then (bif decide (a0 < 6) then (bif decide (a0.toNat < tabf4bf8e.length) then (some [.str ((rd tabf4bf8e a0.toNat).S)]) else none) else none) else none)) : R) = some r) : E C 20 [.int .i64 a0] = some r := E_st h (Cont.bind (Cont.call C 65 _) fun _ => (Cont.bif (Cont.const _) (Cont.bif (Cont.bif (Cont.bif (Cont.const _) Cont.nn) Cont.nn) Cont.nn))) fun φ => by kernel_rfl
/-- (clew/point.Point).Text -/
noncomputable def f21 : Func := Tryd.f21
def kp21 : List Nat := [0, 1, 2, 3]
noncomputable def c21 (p : List Nat) : Code := pick f21 p
theorem o21 (a0_0 a0_1 : Int) {r : List Dat} (h : ((E C 66 [.int .i64 a0_1]).bind fun d1 => (bif a0_0 == 3 then ((E C 67 [.int .i64 a0_1]).bind fun d2 => (bif !(((rd d2 0).S).toList == ByteArray.empty.toList) then ((E C 67 [.int .i64 a0_1]).bind fun d3 => ((E C 20 [.int .i64 a0_0]).bind fun d4 => (bif decide (((rd d4 0).S).size + (bs [32]).size ≤ 9223372036854775807) then (bif decide ((((rd d4 0).S) ++ (bs [32])).size + ((rd d3 0).S).size ≤ 9223372036854775807) then (some [.str ((((rd d4 0).S) ++ (bs [32])) ++ ((rd d3 0).S))]) else none) else none))) else ((E C 20 [.int .i64 a0_0]).bind fun d5 => (bif decide (((rd d5 0).S).size + (bs [32]).size ≤ 9223372036854775807) then (bif decide ((((rd d5 0).S) ++ (bs [32])).size + ((rd d1 0).S).size ≤ 9223372036854775807) then (some [.str ((((rd d5 0).S) ++ (bs [32])) ++ ((rd d1 0).S))]) else none) else none)))) else ((E C 20 [.int .i64 a0_0]).bind fun d6 => (bif decide (((rd d6 0).S).size + (bs [32]).size ≤ 9223372036854775807) then (bif decide ((((rd d6 0).S) ++ (bs [32])).size + ((rd d1 0).S).size ≤ 9223372036854775807) then (some [.str ((((rd d6 0).S) ++ (bs [32])) ++ ((rd d1 0).S))]) else none) else none))) : R) = some r) : E C 21 [.agg [.int .i64 a0_0, .int .i64 a0_1]] = some r := E_st h (Cont.bind (Cont.call C 66 _) fun _ => (Cont.bif (Cont.bind (Cont.call C 67 _) fun _ => (Cont.bif (Cont.bind (Cont.call C 67 _) fun _ => (Cont.bind (Cont.call C 20 _) fun _ => (Cont.bif (Cont.bif (Cont.const _) Cont.nn) Cont.nn))) (Cont.bind (Cont.call C 20 _) fun _ => (Cont.bif (Cont.bif (Cont.const _) Cont.nn) Cont.nn)))) (Cont.bind (Cont.call C 20 _) fun _ => (Cont.bif (Cont.bif (Cont.const _) Cont.nn) Cont.nn)))) fun φ => by kernel_rfl
/-- clew/point.within -/
noncomputable def f65 : Func := Tryd.f65
def kp65 : List Nat := [0, 1, 2, 6]
noncomputable def c65 (p : List Nat) : Code := pick f65 p
theorem o65 (a0 a1 a2 : Int) {r : List Dat} (h : (bif decide (a0 ≥ a1) then (some [.bool (decide (a0 ≤ a2))]) else (some [.bool false]) : R) = some r) : E C 65 [.int .i64 a0, .int .i64 a1, .int .i64 a2] = some r := E_st h (Cont.bif (Cont.const _) (Cont.const _)) fun φ => by kernel_rfl
end Go.Proofs.YtpfnmjpccmobpaaDoor.V
