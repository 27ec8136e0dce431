/- Told functions: what each answers, as plain trees; written by a program of this session (tell.py). -/
import Derived.Test.YtpfnmjpccmobpaaDoorVCd
import Derived.Test.YtpfnmjpccmobpaaDoorEc
import Derived.KernelRfl
import Derived.Test.YtpfnmjpccmobpaaDoorVX0
namespace Go.Proofs.YtpfnmjpccmobpaaDoor.V
open Go Go.Ev
set_option maxRecDepth 100000
set_option linter.unusedVariables false
/-- clew/clewlaw26.CmdTexts -/
noncomputable def f14 : Func := Tryd.f14
def kp14 : List Nat := [0, 1, 2, 3, 4]
noncomputable def c14 (p : List Nat) : Code := pick f14 p
theorem o14 (a0_0 a0_1 a0_2 a0_3 : Int) {r : List Dat} (h : ((E C 49 []).bind fun d1 => (bif !((rd d1 0).B) then (some [.bool false]) else ((E C 54 [.agg [.int .i64 a0_0, .int .i64 a0_1, .int .i64 a0_2, .int .i64 a0_3]]).bind fun d2 => ((E C 55 [.agg [.int .i64 a0_0, .int .i64 a0_1, .int .i64 a0_2, .int .i64 a0_3]]).bind fun d3 => (bif !(((rd d2 0).B) == ((rd d3 0).B)) then (some [.bool false]) else ((E C 55 [.agg [.int .i64 a0_0, .int .i64 a0_1, .int .i64 a0_2, .int .i64 a0_3]]).bind fun d4 => (bif !((rd d4 0).B) then (some [.bool true]) else ((E C 56 [.agg [.int .i64 a0_0, .int .i64 a0_1, .int .i64 a0_2, .int .i64 a0_3]]).bind fun d5 => ((E C 51 [.str ((rd d5 0).S)]).bind fun d6 => (bif ((rd d6 1).I) == 0 then (bif ((((rd d6 0).C 0).I) == a0_0) && (((((rd d6 0).C 1).I) == a0_1) && (((((rd d6 0).C 2).I) == a0_2) && (((((rd d6 0).C 3).I) == a0_3) && true))) then ((E C 56 [.agg [.int .i64 a0_0, .int .i64 a0_1, .int .i64 a0_2, .int .i64 a0_3]]).bind fun d7 => ((E C 50 [.str ((rd d7 0).S)]).bind fun d8 => (some [.bool (decide ((((rd d8 0).L).length : Int) ≤ 3))]))) else (some [.bool false])) else (some [.bool false])))))))))) : R) = some r) : E C 14 [.agg [.int .i64 a0_0, .int .i64 a0_1, .int .i64 a0_2, .int .i64 a0_3]] = some r := E_st h (Cont.bind (Cont.call C 49 _) fun _ => (Cont.bif (Cont.const _) (Cont.bind (Cont.call C 54 _) fun _ => (Cont.bind (Cont.call C 55 _) fun _ => (Cont.bif (Cont.const _) (Cont.bind (Cont.call C 55 _) fun _ => (Cont.bif (Cont.const _) (Cont.bind (Cont.call C 56 _) fun _ => (Cont.bind (Cont.call C 51 _) fun _ => (Cont.bif (Cont.bif (Cont.bind (Cont.call C 56 _) fun _ => (Cont.bind (Cont.call C 50 _) fun _ => (Cont.const _))) (Cont.const _)) (Cont.const _))))))))))) fun φ => by kernel_rfl
end Go.Proofs.YtpfnmjpccmobpaaDoor.V
