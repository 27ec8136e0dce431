/- Told functions: what each answers, as plain trees; written by a program of this session (tell.py). -/
import Derived.Test.YtbhffcogeeeidaaDoorVCa
import Derived.Test.YtbhffcogeeeidaaDoorEc
import Derived.KernelRfl
import Derived.Test.YtbhffcogeeeidaaDoorVR0
namespace Go.Proofs.YtbhffcogeeeidaaDoor.V
open Go Go.Ev
set_option maxRecDepth 100000
set_option linter.unusedVariables false
/-- clew/clewlaw11.anchor -/
noncomputable def f6 : Func := Tryd.f6
def kp6 : List Nat := [0, 1, 2]
noncomputable def c6 (p : List Nat) : Code := pick f6 p
theorem o6 {r : List Dat} (h : ((E C 7 [.agg [.shr 37 ([.agg [.int 19, .int 0, .int 0, .int 0, .int 0, .int 0]] : List Dat), .shr 44 ([] : List Dat), .shr 47 ([] : List Dat), .int .i64 0]]).bind fun d1 => (bif (rd d1 0).B then ((E C 7 [.agg [.shr 37 ([.agg [.int 16, .int 0, .int 0, .int 0, .int 0, .int 0], .agg [.int 19, .int 0, .int 0, .int 0, .int 0, .int 0]] : List Dat), .shr 44 ([] : List Dat), .shr 47 ([] : List Dat), .int .i64 0]]).bind fun d2 => (bif !((rd d2 0).B) then ((E C 12 [.agg [.int .i64 6, .int .i64 7, .int .i64 0, .int .i64 0, .int .i64 3, .int .i64 0]]).bind fun d3 => (some [.bool (((rd d3 0).S).toList == (bs [106, 117, 109, 112, 32, 55, 32, 48, 32, 48, 32, 51, 32, 48]).toList)])) else (some [.bool false]))) else (some [.bool false])) : R) = some r) : E C 6 [] = some r := E_st h (Cont.bind (Cont.call C 7 _) fun _ => (Cont.bif (Cont.bind (Cont.call C 7 _) fun _ => (Cont.bif (Cont.bind (Cont.call C 12 _) fun _ => (Cont.const _)) (Cont.const _))) (Cont.const _))) fun φ => by kernel_rfl
end Go.Proofs.YtbhffcogeeeidaaDoor.V
