/- Told functions: what each answers, as plain trees; written by a program of this session (tell.py). -/
import Derived.Test.YtpfnmjpccmobpaaDoorVCa
import Derived.Test.YtpfnmjpccmobpaaDoorEc
import Derived.KernelRfl
import Derived.Test.YtpfnmjpccmobpaaDoorVT0
namespace Go.Proofs.YtpfnmjpccmobpaaDoor.V
open Go Go.Ev
set_option maxRecDepth 100000
set_option linter.unusedVariables false
/-- clew/clewlaw22.PointRight -/
noncomputable def f5 : Func := Tryd.f5
def kp5 : List Nat := [0, 1, 2, 3, 4, 5, 6]
noncomputable def c5 (p : List Nat) : Code := pick f5 p
theorem o5 (a0_0 : List Dat) (a0_1 : Int) (a0_2 : List Dat) (a1_0 a1_1 : Int) {r : List Dat} (h : ((E C 18 []).bind fun d1 => (bif !((rd d1 0).B) then (some [.bool false]) else (bif decide ((a0_0.length : Int) > 60) then (some [.bool true]) else ((E C 23 [.agg [.shr 57 a0_0, .int .i64 a0_1, .shr 9 a0_2]]).bind fun d2 => ((E C 22 [.agg [.shr 119 (((rd d2 0).C 0).L), .int .i64 (((rd d2 0).C 1).I), .shr 9 (((rd d2 0).C 2).L)]]).bind fun d3 => (bif !((rd d3 0).B) then (some [.bool true]) else (bif decide (a1_0 < 1) then ((E C 27 [.agg [.int .i64 a1_0, .int .i64 a1_1], .agg [.shr 57 a0_0, .int .i64 a0_1, .shr 9 a0_2]]).bind fun d4 => (some [.bool (!((rd d4 0).B))])) else (bif decide (a1_0 > 5) then ((E C 27 [.agg [.int .i64 a1_0, .int .i64 a1_1], .agg [.shr 57 a0_0, .int .i64 a0_1, .shr 9 a0_2]]).bind fun d5 => (some [.bool (!((rd d5 0).B))])) else ((E C 27 [.agg [.int .i64 a1_0, .int .i64 a1_1], .agg [.shr 57 a0_0, .int .i64 a0_1, .shr 9 a0_2]]).bind fun d6 => (bif decide (0 ≤ a1_0) then (bif decide (a1_0 < 6) then (bif decide (a1_0.toNat < tab3b6e57.length) then (bif decide (a1_1 ≥ ((rd tab3b6e57 a1_0.toNat).I)) then (bif decide (0 ≤ a1_0) then (bif decide (a1_0 < 6) then (bif decide (a1_0.toNat < ([.int 0, .int (IntKind.i64.wrap ((a0_0.length : Int) - 1)), .int 65536, .int 14, .int a0_1, .int 65536] : List Dat).length) then (some [.bool (((rd d6 0).B) == (decide (a1_1 ≤ ((rd ([.int 0, .int (IntKind.i64.wrap ((a0_0.length : Int) - 1)), .int 65536, .int 14, .int a0_1, .int 65536] : List Dat) a1_0.toNat).I))))]) else none) else none) else none) else (some [.bool (((rd d6 0).B) == false)])) else none) else none) else none))))))))) : R) = some r) : E C 5 [.agg [.shr 57 a0_0, .int .i64 a0_1, .shr 9 a0_2], .agg [.int .i64 a1_0, .int .i64 a1_1]] = some r := E_st h (Cont.bind (Cont.call C 18 _) fun _ => (Cont.bif (Cont.const _) (Cont.bif (Cont.const _) (Cont.bind (Cont.call C 23 _) fun _ => (Cont.bind (Cont.call C 22 _) fun _ => (Cont.bif (Cont.const _) (Cont.bif (Cont.bind (Cont.call C 27 _) fun _ => (Cont.const _)) (Cont.bif (Cont.bind (Cont.call C 27 _) fun _ => (Cont.const _)) (Cont.bind (Cont.call C 27 _) fun _ => (Cont.bif (Cont.bif (Cont.bif (Cont.bif (Cont.bif (Cont.bif (Cont.bif (Cont.const _) Cont.nn) Cont.nn) Cont.nn) (Cont.const _)) Cont.nn) Cont.nn) Cont.nn)))))))))) fun φ => by kernel_rfl
end Go.Proofs.YtpfnmjpccmobpaaDoor.V
