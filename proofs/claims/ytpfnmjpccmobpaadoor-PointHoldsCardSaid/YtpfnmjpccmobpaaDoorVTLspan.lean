/- Told functions: what each answers, as plain trees; written by a program of this session (tell.py). -/
import Derived.Test.YtpfnmjpccmobpaaDoorVCa
import Derived.Test.YtpfnmjpccmobpaaDoorEc
import Derived.KernelRfl
import Derived.Test.YtpfnmjpccmobpaaDoorVT0
namespace Go.Proofs.YtpfnmjpccmobpaaDoor.V
open Go Go.Ev
set_option maxRecDepth 100000
set_option linter.unusedVariables false
/-- clew/clewlaw22.span -/
noncomputable def f70 : Func := Tryd.f70
def kp70 : List Nat := [0, 1, 2, 4]
noncomputable def c70 (p : List Nat) : Code := pick f70 p
theorem o70 (a0_0 a0_1 a0_2 a0_3 a0_4 a0_5 a0_6 : Int) (a0_7 : List Dat) (a1 : Int) {r : List Dat} (h : (bif decide (a1 < 0) then (some [.agg [.int (-1), .int (-1)]]) else (bif decide (a1 > 100) then (some [.agg [.int (-1), .int (-1)]]) else (bif decide ((IntKind.i64.wrap ((IntKind.i64.wrap (2 * a1)) + 1)) ≥ (a0_7.length : Int)) then (some [.agg [.int (-1), .int (-1)]]) else (bif decide (0 ≤ (IntKind.i64.wrap (2 * a1))) then (bif decide ((IntKind.i64.wrap (2 * a1)) < (a0_7.length : Int)) then (bif decide ((IntKind.i64.wrap (2 * a1)).toNat < a0_7.length) then (bif decide (((rd a0_7 ((IntKind.i64.wrap (2 * a1)).toNat)).I) < 0) then (some [.agg [.int (-1), .int (-1)]]) else (bif decide (0 ≤ (IntKind.i64.wrap ((IntKind.i64.wrap (2 * a1)) + 1))) then (bif decide ((IntKind.i64.wrap ((IntKind.i64.wrap (2 * a1)) + 1)) < (a0_7.length : Int)) then (bif decide ((IntKind.i64.wrap ((IntKind.i64.wrap (2 * a1)) + 1)).toNat < a0_7.length) then (bif decide (((rd a0_7 ((IntKind.i64.wrap ((IntKind.i64.wrap (2 * a1)) + 1)).toNat)).I) < 0) then (some [.agg [.int (-1), .int (-1)]]) else (bif decide (0 ≤ (IntKind.i64.wrap (2 * a1))) then (bif decide ((IntKind.i64.wrap (2 * a1)) < (a0_7.length : Int)) then (bif decide ((IntKind.i64.wrap (2 * a1)).toNat < a0_7.length) then (bif decide (0 ≤ (IntKind.i64.wrap ((IntKind.i64.wrap (2 * a1)) + 1))) then (bif decide ((IntKind.i64.wrap ((IntKind.i64.wrap (2 * a1)) + 1)) < (a0_7.length : Int)) then (bif decide ((IntKind.i64.wrap ((IntKind.i64.wrap (2 * a1)) + 1)).toNat < a0_7.length) then (some [.agg [.int ((rd a0_7 ((IntKind.i64.wrap (2 * a1)).toNat)).I), .int ((rd a0_7 ((IntKind.i64.wrap ((IntKind.i64.wrap (2 * a1)) + 1)).toNat)).I)]]) else none) else none) else none) else none) else none) else none)) else none) else none) else none)) else none) else none) else none))) : R) = some r) : E C 70 [.agg [.int .i64 a0_0, .int .i64 a0_1, .int .i64 a0_2, .int .i64 a0_3, .int .i64 a0_4, .int .i64 a0_5, .int .i64 a0_6, .shr 3 a0_7], .int .i64 a1] = some r := E_st h (Cont.bif (Cont.const _) (Cont.bif (Cont.const _) (Cont.bif (Cont.const _) (Cont.bif (Cont.bif (Cont.bif (Cont.bif (Cont.const _) (Cont.bif (Cont.bif (Cont.bif (Cont.bif (Cont.const _) (Cont.bif (Cont.bif (Cont.bif (Cont.bif (Cont.bif (Cont.bif (Cont.const _) Cont.nn) Cont.nn) Cont.nn) Cont.nn) Cont.nn) Cont.nn)) Cont.nn) Cont.nn) Cont.nn)) Cont.nn) Cont.nn) Cont.nn)))) fun φ => by kernel_rfl
end Go.Proofs.YtpfnmjpccmobpaaDoor.V
