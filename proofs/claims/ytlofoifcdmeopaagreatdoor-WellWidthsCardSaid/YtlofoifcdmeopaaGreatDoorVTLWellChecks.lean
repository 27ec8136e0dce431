/- Told functions: what each answers, as plain trees; written by a program of this session (tell.py). -/
import Derived.Test.YtlofoifcdmeopaaGreatDoorVCa
import Derived.Test.YtlofoifcdmeopaaGreatDoorEc
import Derived.KernelRfl
import Derived.Test.YtlofoifcdmeopaaGreatDoorVT0
namespace Go.Proofs.YtlofoifcdmeopaaGreatDoor.V
open Go Go.Ev
set_option maxRecDepth 100000
set_option linter.unusedVariables false
/-- clew/clewlaw09.WellChecks -/
noncomputable def f10 : Func := Tryz.f10
def kp10 : List Nat := [0, 1, 2, 3, 4, 5, 6]
noncomputable def c10 (p : List Nat) : Code := pick f10 p
theorem o10 (a0_0 : List Dat) (a0_1 : Int) (a0_2 : List Dat) {r : List Dat} (h : ((E C 36 []).bind fun d1 => (bif !((rd d1 0).B) then (some [.bool false]) else (bif decide ((a0_0.length : Int) > 150) then (some [.bool true]) else ((E C 37 [.agg [.shr 38 a0_0, .int .i64 a0_1, .shr 9 a0_2]]).bind fun d2 => ((E C 21 [.agg [.shr 42 (((rd d2 0).C 0).L), .int .i64 (((rd d2 0).C 1).I), .shr 9 (((rd d2 0).C 2).L)]]).bind fun d3 => (bif !((rd d3 0).B) then (some [.bool true]) else ((E C 40 [.agg [.shr 38 a0_0, .int .i64 a0_1, .shr 9 a0_2]]).bind fun d4 => ((E C 37 [.agg [.shr 38 a0_0, .int .i64 a0_1, .shr 9 a0_2]]).bind fun d5 => ((E C 41 [.agg [.shr 42 (((rd d5 0).C 0).L), .int .i64 (((rd d5 0).C 1).I), .shr 9 (((rd d5 0).C 2).L)]]).bind fun d6 => (bif ((rd d4 0).I) == ((rd d6 0).I) then (some [.bool (((rd d4 1).I) == ((rd d6 1).I))]) else (some [.bool false])))))))))) : R) = some r) : E C 10 [.agg [.shr 38 a0_0, .int .i64 a0_1, .shr 9 a0_2]] = some r := E_st h (Cont.bind (Cont.call C 36 _) fun _ => (Cont.bif (Cont.const _) (Cont.bif (Cont.const _) (Cont.bind (Cont.call C 37 _) fun _ => (Cont.bind (Cont.call C 21 _) fun _ => (Cont.bif (Cont.const _) (Cont.bind (Cont.call C 40 _) fun _ => (Cont.bind (Cont.call C 37 _) fun _ => (Cont.bind (Cont.call C 41 _) fun _ => (Cont.bif (Cont.const _) (Cont.const _))))))))))) fun φ => by kernel_rfl
end Go.Proofs.YtlofoifcdmeopaaGreatDoor.V
