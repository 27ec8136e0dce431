/- Told functions: what each answers, as plain trees; written by a program of this session (tell.py). -/
import Derived.Test.YtedhomemalnpfaaGreatDoorVCa
import Derived.Test.YtedhomemalnpfaaGreatDoorEc
import Derived.KernelRfl
import Derived.Test.YtedhomemalnpfaaGreatDoorVT0
namespace Go.Proofs.YtedhomemalnpfaaGreatDoor.V
open Go Go.Ev
set_option maxRecDepth 100000
set_option linter.unusedVariables false
/-- clew/clewlaw07.ScanNames -/
noncomputable def f3 : Func := Tryz.f3
def kp3 : List Nat := [0, 1, 4, 5, 6, 7, 8, 9, 10]
noncomputable def c3 (p : List Nat) : Code := pick f3 p
theorem t3_eq (n : Nat) (a0 : List Dat) (a1 : Int) : ev C (n + 1) 3 [.shr 5 a0, .int .i64 a1] = (ev C n 8 []).bind fun d1 => (bif !((rd d1 0).B) then (some [.bool false]) else ((ev C n 9 [.shr 5 a0, .int .i64 a1]).bind fun d2 => ((ev C n 10 [.shr 5 a0, .int .i64 a1]).bind fun d3 => (bif ((rd d2 0).S).toList == ((rd d3 0).S).toList then (bif ((rd d2 1).I) == ((rd d3 1).I) then (some [.bool (((rd d2 2).I) == ((rd d3 2).I))]) else (some [.bool false])) else (some [.bool false]))))) := by kernel_rfl
theorem o3 (a0 : List Dat) (a1 : Int) {r : List Dat} (h : ((E C 8 []).bind fun d1 => (bif !((rd d1 0).B) then (some [.bool false]) else ((E C 9 [.shr 5 a0, .int .i64 a1]).bind fun d2 => ((E C 10 [.shr 5 a0, .int .i64 a1]).bind fun d3 => (bif ((rd d2 0).S).toList == ((rd d3 0).S).toList then (bif ((rd d2 1).I) == ((rd d3 1).I) then (some [.bool (((rd d2 2).I) == ((rd d3 2).I))]) else (some [.bool false])) else (some [.bool false]))))) : R) = some r) : E C 3 [.shr 5 a0, .int .i64 a1] = some r := E_of (fun n => t3_eq n a0 a1) (Cont.bind (Cont.call C 8 _) fun _ => (Cont.bif (Cont.const _) (Cont.bind (Cont.call C 9 _) fun _ => (Cont.bind (Cont.call C 10 _) fun _ => (Cont.bif (Cont.bif (Cont.const _) (Cont.const _)) (Cont.const _)))))) h
end Go.Proofs.YtedhomemalnpfaaGreatDoor.V
