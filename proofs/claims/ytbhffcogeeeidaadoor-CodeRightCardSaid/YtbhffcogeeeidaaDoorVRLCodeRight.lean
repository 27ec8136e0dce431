/- Told functions: what each answers, as plain trees; written by a program of this session (tell.py). -/
import Derived.Test.YtbhffcogeeeidaaDoorVCa
import Derived.Test.YtbhffcogeeeidaaDoorEc
import Derived.KernelRfl
import Derived.Test.YtbhffcogeeeidaaDoorVR0
namespace Go.Proofs.YtbhffcogeeeidaaDoor.V
open Go Go.Ev
set_option maxRecDepth 100000
set_option linter.unusedVariables false
/-- clew/clewlaw11.CodeRight -/
noncomputable def f3 : Func := Tryd.f3
def kp3 : List Nat := [0, 1, 2]
noncomputable def c3 (p : List Nat) : Code := pick f3 p
theorem o3 (a0_0 a0_1 a0_2 : List Dat) (a0_3 : Int) {r : List Dat} (h : ((E C 6 []).bind fun d1 => (bif !((rd d1 0).B) then (some [.bool false]) else (bif decide ((a0_0.length : Int) > 300) then (some [.bool true]) else (bif decide ((a0_1.length : Int) > 50) then (some [.bool true]) else (bif decide ((a0_2.length : Int) > 50) then (some [.bool true]) else ((E C 7 [.agg [.shr 37 a0_0, .shr 44 a0_1, .shr 47 a0_2, .int .i64 a0_3]]).bind fun d2 => ((E C 9 [.agg [.shr 37 a0_0, .shr 44 a0_1, .shr 47 a0_2, .int .i64 a0_3]]).bind fun d3 => ((E C 8 [.agg [.shr 52 (((rd d3 0).C 0).L), .shr 50 (((rd d3 0).C 1).L), .shr 51 (((rd d3 0).C 2).L), .int .i64 (((rd d3 0).C 3).I)]]).bind fun d4 => (some [.bool (((rd d2 0).B) == ((rd d4 0).B))])))))))) : R) = some r) : E C 3 [.agg [.shr 37 a0_0, .shr 44 a0_1, .shr 47 a0_2, .int .i64 a0_3]] = some r := E_st h (Cont.bind (Cont.call C 6 _) fun _ => (Cont.bif (Cont.const _) (Cont.bif (Cont.const _) (Cont.bif (Cont.const _) (Cont.bif (Cont.const _) (Cont.bind (Cont.call C 7 _) fun _ => (Cont.bind (Cont.call C 9 _) fun _ => (Cont.bind (Cont.call C 8 _) fun _ => (Cont.const _))))))))) fun φ => by kernel_rfl
end Go.Proofs.YtbhffcogeeeidaaDoor.V
