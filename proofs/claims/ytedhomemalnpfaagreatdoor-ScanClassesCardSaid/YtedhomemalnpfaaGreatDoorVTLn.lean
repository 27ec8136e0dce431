/- Told functions: what each answers, as plain trees; written by a program of this session (tell.py). -/
import Derived.Test.YtedhomemalnpfaaGreatDoorVCa
import Derived.Test.YtedhomemalnpfaaGreatDoorEc
import Derived.KernelRfl
import Derived.Test.YtedhomemalnpfaaGreatDoorVT0
namespace Go.Proofs.YtedhomemalnpfaaGreatDoor.V
open Go Go.Ev
set_option maxRecDepth 100000
set_option linter.unusedVariables false
/-- clew/clewlaw07.numbers -/
noncomputable def f19 : Func := Tryz.f19
def kp19 : List Nat := [0, 2, 3]
noncomputable def c19 (p : List Nat) : Code := pick f19 p
theorem o19 (a0 : Int) {r : List Dat} (h : (some [.list ([.int a0, .int 0, .int 8, .int 9, .int 10, .int 13, .int 14, .int 31, .int 32, .int 45, .int 47, .int 48, .int 57, .int 58, .int 64, .int 65, .int 75, .int 90, .int 91, .int 94, .int 95, .int 97, .int 107, .int 115, .int 122, .int 123, .int 127, .int 128, .int 181, .int 229, .int 255, .int 383, .int 956, .int 8490, .int 1114111, .int 1114112, .int 1114367] : List Dat)] : R) = some r) : E C 19 [.int .i64 a0] = some r := E_st h (Cont.const _) fun φ => by kernel_rfl
end Go.Proofs.YtedhomemalnpfaaGreatDoor.V
