/- Told functions: what each answers, as plain trees; written by a program of this session (tell.py). -/
import Derived.Test.YtedhomemalnpfaaGreatDoorVCa
import Derived.Test.YtedhomemalnpfaaGreatDoorEc
import Derived.KernelRfl
import Derived.Test.YtedhomemalnpfaaGreatDoorVT0
namespace Go.Proofs.YtedhomemalnpfaaGreatDoor.V
open Go Go.Ev
set_option maxRecDepth 100000
set_option linter.unusedVariables false
/-- clew/clewlaw07.ScanBlanks -/
noncomputable def f7 : Func := Tryz.f7
def kp7 : List Nat := [0, 1, 4, 5]
noncomputable def c7 (p : List Nat) : Code := pick f7 p
theorem t7_eq (n : Nat) (a0 : List Dat) (a1 : Int) : ev C (n + 1) 7 [.shr 5 a0, .int .i64 a1] = (ev C n 8 []).bind fun d1 => (bif !((rd d1 0).B) then (some [.bool false]) else ((ev C n 24 [.shr 5 a0, .int .i64 a1]).bind fun d2 => ((ev C n 25 [.shr 5 a0, .int .i64 a1]).bind fun d3 => (bif ((rd d2 0).I) == ((rd d3 0).I) then ((ev C n 24 [.shr 5 a0, .int .i64 ((rd d2 0).I)]).bind fun d4 => (some [.bool (((rd d4 0).I) == ((rd d2 0).I))])) else (some [.bool false]))))) := by kernel_rfl
theorem o7 (a0 : List Dat) (a1 : Int) {r : List Dat} (h : ((E C 8 []).bind fun d1 => (bif !((rd d1 0).B) then (some [.bool false]) else ((E C 24 [.shr 5 a0, .int .i64 a1]).bind fun d2 => ((E C 25 [.shr 5 a0, .int .i64 a1]).bind fun d3 => (bif ((rd d2 0).I) == ((rd d3 0).I) then ((E C 24 [.shr 5 a0, .int .i64 ((rd d2 0).I)]).bind fun d4 => (some [.bool (((rd d4 0).I) == ((rd d2 0).I))])) else (some [.bool false]))))) : R) = some r) : E C 7 [.shr 5 a0, .int .i64 a1] = some r := E_of (fun n => t7_eq n a0 a1) (Cont.bind (Cont.call C 8 _) fun _ => (Cont.bif (Cont.const _) (Cont.bind (Cont.call C 24 _) fun _ => (Cont.bind (Cont.call C 25 _) fun _ => (Cont.bif (Cont.bind (Cont.call C 24 _) fun _ => (Cont.const _)) (Cont.const _)))))) h
end Go.Proofs.YtedhomemalnpfaaGreatDoor.V
