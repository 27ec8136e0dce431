/- Told functions: what each answers, as plain trees; written by a program of this session (tell.py). -/
import Derived.Test.YtpfnmjpccmobpaaDoorVCd
import Derived.Test.YtpfnmjpccmobpaaDoorEc
import Derived.KernelRfl
import Derived.Test.YtpfnmjpccmobpaaDoorVX0
namespace Go.Proofs.YtpfnmjpccmobpaaDoor.V
open Go Go.Ev
set_option maxRecDepth 100000
set_option linter.unusedVariables false
/-- clew/event.Name -/
noncomputable def f67 : Func := Tryd.f67
def kp67 : List Nat := [0, 2, 3]
noncomputable def c67 (p : List Nat) : Code := pick f67 p
theorem o67 (a0 : Int) {r : List Dat} (h : (bif decide (a0 < 1) then (some [.str ByteArray.empty]) else (bif decide (a0 > 14) then (some [.str ByteArray.empty]) else (bif decide (0 ≤ a0) then (bif decide (a0 < 15) then (bif decide (a0.toNat < tabcec582.length) then (some [.str ((rd tabcec582 a0.toNat).S)]) else none) else none) else none)) : R) = some r) : E C 67 [.int .i64 a0] = some r := E_st h (Cont.bif (Cont.const _) (Cont.bif (Cont.const _) (Cont.bif (Cont.bif (Cont.bif (Cont.const _) Cont.nn) Cont.nn) Cont.nn))) fun φ => by kernel_rfl
end Go.Proofs.YtpfnmjpccmobpaaDoor.V
