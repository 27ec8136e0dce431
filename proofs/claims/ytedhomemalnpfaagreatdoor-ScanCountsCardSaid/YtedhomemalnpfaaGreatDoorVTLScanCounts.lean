/- Told functions: what each answers, as plain trees; written by a program of this session (tell.py). -/
import Derived.Test.YtedhomemalnpfaaGreatDoorVCa
import Derived.Test.YtedhomemalnpfaaGreatDoorEc
import Derived.KernelRfl
import Derived.Test.YtedhomemalnpfaaGreatDoorVT0
namespace Go.Proofs.YtedhomemalnpfaaGreatDoor.V
open Go Go.Ev
set_option maxRecDepth 100000
set_option linter.unusedVariables false
/-- clew/clewlaw07.ScanCounts -/
noncomputable def f4 : Func := Tryz.f4
def kp4 : List Nat := [0, 1, 4, 5, 6, 7, 8, 9, 10]
noncomputable def c4 (p : List Nat) : Code := pick f4 p
theorem t4_eq (n : Nat) (a0 : List Dat) (a1 : Int) : ev C (n + 1) 4 [.shr 5 a0, .int .i64 a1] = (ev C n 8 []).bind fun d1 => (bif !((rd d1 0).B) then (some [.bool false]) else ((ev C n 11 [.shr 5 a0, .int .i64 a1]).bind fun d2 => ((ev C n 12 [.shr 5 a0, .int .i64 a1]).bind fun d3 => (bif ((rd d2 1).B) == ((rd d3 1).B) then (bif ((rd d2 2).I) == ((rd d3 2).I) then (some [.bool (((((rd d2 0).C 0).I) == (((rd d3 0).C 0).I)) && (((((rd d2 0).C 1).I) == (((rd d3 0).C 1).I)) && (((((rd d2 0).C 2).I) == (((rd d3 0).C 2).I)) && (((((rd d2 0).C 3).I) == (((rd d3 0).C 3).I)) && true))))]) else (some [.bool false])) else (some [.bool false]))))) := by kernel_rfl
theorem o4 (a0 : List Dat) (a1 : Int) {r : List Dat} (h : ((E C 8 []).bind fun d1 => (bif !((rd d1 0).B) then (some [.bool false]) else ((E C 11 [.shr 5 a0, .int .i64 a1]).bind fun d2 => ((E C 12 [.shr 5 a0, .int .i64 a1]).bind fun d3 => (bif ((rd d2 1).B) == ((rd d3 1).B) then (bif ((rd d2 2).I) == ((rd d3 2).I) then (some [.bool (((((rd d2 0).C 0).I) == (((rd d3 0).C 0).I)) && (((((rd d2 0).C 1).I) == (((rd d3 0).C 1).I)) && (((((rd d2 0).C 2).I) == (((rd d3 0).C 2).I)) && (((((rd d2 0).C 3).I) == (((rd d3 0).C 3).I)) && true))))]) else (some [.bool false])) else (some [.bool false]))))) : R) = some r) : E C 4 [.shr 5 a0, .int .i64 a1] = some r := E_of (fun n => t4_eq n a0 a1) (Cont.bind (Cont.call C 8 _) fun _ => (Cont.bif (Cont.const _) (Cont.bind (Cont.call C 11 _) fun _ => (Cont.bind (Cont.call C 12 _) fun _ => (Cont.bif (Cont.bif (Cont.const _) (Cont.const _)) (Cont.const _)))))) h
end Go.Proofs.YtedhomemalnpfaaGreatDoor.V
