/- Told functions: what each answers, as plain trees; written by a program of this session (tell.py). -/
import Derived.Test.YtpfnmjpccmobpaaDoorVCd
import Derived.Test.YtpfnmjpccmobpaaDoorEc
import Derived.KernelRfl
import Derived.Test.YtpfnmjpccmobpaaDoorVX0
namespace Go.Proofs.YtpfnmjpccmobpaaDoor.V
open Go Go.Ev
set_option maxRecDepth 100000
set_option linter.unusedVariables false
/-- clew/clewlaw26.CmdReads -/
noncomputable def f13 : Func := Tryd.f13
def kp13 : List Nat := [0, 2, 3, 4, 5, 6]
noncomputable def c13 (p : List Nat) : Code := pick f13 p
theorem o13 (a0 : ByteArray) {r : List Dat} (h : ((E C 49 []).bind fun d1 => (bif !((rd d1 0).B) then (some [.bool false]) else (bif decide ((a0.size : Int) > 1000) then (some [.bool true]) else ((E C 51 [.str a0]).bind fun d2 => ((E C 53 [.str a0]).bind fun d3 => (bif ((rd d2 1).I) == ((rd d3 1).I) then (bif ((((rd d2 0).C 0).I) == (((rd d3 0).C 0).I)) && (((((rd d2 0).C 1).I) == (((rd d3 0).C 1).I)) && (((((rd d2 0).C 2).I) == (((rd d3 0).C 2).I)) && (((((rd d2 0).C 3).I) == (((rd d3 0).C 3).I)) && true))) then ((E C 54 [.agg [.int .i64 (((rd d2 0).C 0).I), .int .i64 (((rd d2 0).C 1).I), .int .i64 (((rd d2 0).C 2).I), .int .i64 (((rd d2 0).C 3).I)]]).bind fun d4 => (some [.bool (((rd d4 0).B) == (((rd d3 1).I) == 0))])) else (some [.bool false])) else (some [.bool false])))))) : R) = some r) : E C 13 [.str a0] = some r := E_st h (Cont.bind (Cont.call C 49 _) fun _ => (Cont.bif (Cont.const _) (Cont.bif (Cont.const _) (Cont.bind (Cont.call C 51 _) fun _ => (Cont.bind (Cont.call C 53 _) fun _ => (Cont.bif (Cont.bif (Cont.bind (Cont.call C 54 _) fun _ => (Cont.const _)) (Cont.const _)) (Cont.const _))))))) fun φ => by kernel_rfl
end Go.Proofs.YtpfnmjpccmobpaaDoor.V
