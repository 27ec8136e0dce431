/- Told functions: what each answers, as plain trees; written by a program of this session (tell.py). -/
import Derived.Test.YtpfnmjpccmobpaaDoorVCa
import Derived.Test.YtpfnmjpccmobpaaDoorEc
import Derived.KernelRfl
import Derived.Test.YtpfnmjpccmobpaaDoorVT0
namespace Go.Proofs.YtpfnmjpccmobpaaDoor.V
open Go Go.Ev
set_option maxRecDepth 100000
set_option linter.unusedVariables false
/-- clew/clewlaw22.holds -/
noncomputable def f24 : Func := Tryd.f24
def kp24 : List Nat := [0, 1, 2, 3, 4, 5, 6, 7, 8, 10]
noncomputable def c24 (p : List Nat) : Code := pick f24 p
theorem o24 (a0_0 a0_1 : Int) (a1_0 : List Dat) (a1_1 : Int) (a1_2 : List Dat) (a2_0 a2_1 a2_2 a2_3 a2_4 a2_5 a2_6 : Int) (a2_7 : List Dat) (a3_0 a3_1 a3_2 a3_3 a3_4 a3_5 a3_6 : Int) (a3_7 : List Dat) {r : List Dat} (h : (bif a0_0 == 1 then (bif decide (a0_1 ≥ 0) then (bif decide (a0_1 < (a1_0.length : Int)) then (bif decide (a3_1 ≥ a0_1) then ((E C 23 [.agg [.shr 57 a1_0, .int .i64 a1_1, .shr 9 a1_2]]).bind fun d1 => ((E C 34 [.agg [.shr 119 (((rd d1 0).C 0).L), .int .i64 (((rd d1 0).C 1).I), .shr 9 (((rd d1 0).C 2).L)], .int .i64 a0_1]).bind fun d2 => (some [.bool (decide (a3_1 < ((rd d2 0).I)))]))) else (some [.bool false])) else (some [.bool false])) else (some [.bool false])) else (bif a0_0 == 2 then (bif a3_3 == a0_1 then (some [.bool (a2_3 != a0_1)]) else (some [.bool false])) else (bif a0_0 == 3 then (some [.bool (a3_0 == a0_1)]) else (bif a0_0 == 4 then ((E C 70 [.agg [.int .i64 a2_0, .int .i64 a2_1, .int .i64 a2_2, .int .i64 a2_3, .int .i64 a2_4, .int .i64 a2_5, .int .i64 a2_6, .shr 3 a2_7], .int .i64 a0_1]).bind fun d3 => ((E C 70 [.agg [.int .i64 a3_0, .int .i64 a3_1, .int .i64 a3_2, .int .i64 a3_3, .int .i64 a3_4, .int .i64 a3_5, .int .i64 a3_6, .shr 3 a3_7], .int .i64 a0_1]).bind fun d4 => (some [.bool (!(((((rd d3 0).C 0).I) == (((rd d4 0).C 0).I)) && (((((rd d3 0).C 1).I) == (((rd d4 0).C 1).I)) && true)))]))) else (bif a0_0 == 5 then (bif decide (a3_5 ≥ a0_1) then (some [.bool (decide (a2_5 < a0_1))]) else (some [.bool false])) else (some [.bool false]))))) : R) = some r) : E C 24 [.agg [.int .i64 a0_0, .int .i64 a0_1], .agg [.shr 57 a1_0, .int .i64 a1_1, .shr 9 a1_2], .agg [.int .i64 a2_0, .int .i64 a2_1, .int .i64 a2_2, .int .i64 a2_3, .int .i64 a2_4, .int .i64 a2_5, .int .i64 a2_6, .shr 3 a2_7], .agg [.int .i64 a3_0, .int .i64 a3_1, .int .i64 a3_2, .int .i64 a3_3, .int .i64 a3_4, .int .i64 a3_5, .int .i64 a3_6, .shr 3 a3_7]] = some r := E_st h (Cont.bif (Cont.bif (Cont.bif (Cont.bif (Cont.bind (Cont.call C 23 _) fun _ => (Cont.bind (Cont.call C 34 _) fun _ => (Cont.const _))) (Cont.const _)) (Cont.const _)) (Cont.const _)) (Cont.bif (Cont.bif (Cont.const _) (Cont.const _)) (Cont.bif (Cont.const _) (Cont.bif (Cont.bind (Cont.call C 70 _) fun _ => (Cont.bind (Cont.call C 70 _) fun _ => (Cont.const _))) (Cont.bif (Cont.bif (Cont.const _) (Cont.const _)) (Cont.const _)))))) fun φ => by kernel_rfl
end Go.Proofs.YtpfnmjpccmobpaaDoor.V
