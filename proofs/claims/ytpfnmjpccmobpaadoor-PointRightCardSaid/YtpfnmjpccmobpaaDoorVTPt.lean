/- Told functions: what each answers, as plain trees; written by a program of this session (tell.py). -/
import Derived.Test.YtpfnmjpccmobpaaDoorVCa
import Derived.Test.YtpfnmjpccmobpaaDoorEc
import Derived.KernelRfl
import Derived.Test.YtpfnmjpccmobpaaDoorVT0
namespace Go.Proofs.YtpfnmjpccmobpaaDoor.V
open Go Go.Ev
set_option maxRecDepth 100000
set_option linter.unusedVariables false
/-- (clew/point.Point).Right -/
noncomputable def f27 : Func := Tryd.f27
def kp27 : List Nat := [0, 1, 2, 3, 4, 6]
noncomputable def c27 (p : List Nat) : Code := pick f27 p
theorem o27 (a0_0 a0_1 : Int) (a1_0 : List Dat) (a1_1 : Int) (a1_2 : List Dat) {r : List Dat} (h : (bif a0_0 == 1 then ((E C 65 [.int .i64 a0_1, .int .i64 0, .int .i64 (IntKind.i64.wrap ((a1_0.length : Int) - 1))]).bind fun d1 => (some [.bool ((rd d1 0).B)])) else (bif a0_0 == 2 then ((E C 65 [.int .i64 a0_1, .int .i64 0, .int .i64 65536]).bind fun d2 => (some [.bool ((rd d2 0).B)])) else (bif a0_0 == 3 then ((E C 65 [.int .i64 a0_1, .int .i64 1, .int .i64 14]).bind fun d3 => (some [.bool ((rd d3 0).B)])) else (bif a0_0 == 4 then ((E C 65 [.int .i64 a0_1, .int .i64 0, .int .i64 a1_1]).bind fun d4 => (some [.bool ((rd d4 0).B)])) else (bif a0_0 == 5 then ((E C 65 [.int .i64 a0_1, .int .i64 1, .int .i64 65536]).bind fun d5 => (some [.bool ((rd d5 0).B)])) else (some [.bool false]))))) : R) = some r) : E C 27 [.agg [.int .i64 a0_0, .int .i64 a0_1], .agg [.shr 57 a1_0, .int .i64 a1_1, .shr 9 a1_2]] = some r := E_st h (Cont.bif (Cont.bind (Cont.call C 65 _) fun _ => (Cont.const _)) (Cont.bif (Cont.bind (Cont.call C 65 _) fun _ => (Cont.const _)) (Cont.bif (Cont.bind (Cont.call C 65 _) fun _ => (Cont.const _)) (Cont.bif (Cont.bind (Cont.call C 65 _) fun _ => (Cont.const _)) (Cont.bif (Cont.bind (Cont.call C 65 _) fun _ => (Cont.const _)) (Cont.const _)))))) fun φ => by kernel_rfl
/-- clew/point.within -/
noncomputable def f65 : Func := Tryd.f65
def kp65 : List Nat := [0, 1, 2, 6]
noncomputable def c65 (p : List Nat) : Code := pick f65 p
theorem o65 (a0 a1 a2 : Int) {r : List Dat} (h : (bif decide (a0 ≥ a1) then (some [.bool (decide (a0 ≤ a2))]) else (some [.bool false]) : R) = some r) : E C 65 [.int .i64 a0, .int .i64 a1, .int .i64 a2] = some r := E_st h (Cont.bif (Cont.const _) (Cont.const _)) fun φ => by kernel_rfl
end Go.Proofs.YtpfnmjpccmobpaaDoor.V
