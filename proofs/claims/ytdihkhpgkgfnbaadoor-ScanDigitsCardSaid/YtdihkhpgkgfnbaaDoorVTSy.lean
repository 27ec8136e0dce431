/- Told functions: what each answers, as plain trees; written by a program of this session (tell.py). -/
import Derived.Test.YtdihkhpgkgfnbaaDoorVCa
import Derived.Test.YtdihkhpgkgfnbaaDoorEc
import Derived.KernelRfl
import Derived.Test.YtdihkhpgkgfnbaaDoorVT0
namespace Go.Proofs.YtdihkhpgkgfnbaaDoor.V
open Go Go.Ev
set_option maxRecDepth 100000
set_option linter.unusedVariables false
/-- clew/sym.At -/
noncomputable def f23 : Func := Tryd.f23
def kp23 : List Nat := [0, 1, 4, 5, 6, 7]
noncomputable def c23 (p : List Nat) : Code := pick f23 p
theorem o23 (a0 : List Dat) (a1 : Int) {r : List Dat} (h : (bif decide (a1 < 0) then (some [.int 0, .int 0]) else (bif decide (a1 ≥ (a0.length : Int)) then (some [.int 0, .int 0]) else (bif decide (0 ≤ a1) then (bif decide (a1 ≤ (a0.length : Int)) then (bif decide ((a0.length : Int) ≤ (a0.length : Int)) then ((E C 39 [.shr 5 ((a0.take ((a0.length : Int).toNat)).drop a1.toNat)]).bind fun d1 => (bif ((rd d1 0).I) == 65533 then (bif decide (((rd d1 1).I) ≤ 1) then (bif decide (0 ≤ a1) then (bif decide (a1 < (a0.length : Int)) then (bif decide (a1.toNat < a0.length) then (some [.int (IntKind.i64.wrap (1114112 + (IntKind.i64.wrap ((rd a0 a1.toNat).I)))), .int 1]) else none) else none) else none) else (some [.int (IntKind.i64.wrap ((rd d1 0).I)), .int ((rd d1 1).I)])) else (some [.int (IntKind.i64.wrap ((rd d1 0).I)), .int ((rd d1 1).I)]))) else none) else none) else none)) : R) = some r) : E C 23 [.shr 5 a0, .int .i64 a1] = some r := E_st h (Cont.bif (Cont.const _) (Cont.bif (Cont.const _) (Cont.bif (Cont.bif (Cont.bif (Cont.bind (Cont.call C 39 _) fun _ => (Cont.bif (Cont.bif (Cont.bif (Cont.bif (Cont.bif (Cont.const _) Cont.nn) Cont.nn) Cont.nn) (Cont.const _)) (Cont.const _))) Cont.nn) Cont.nn) Cont.nn))) fun φ => by kernel_rfl
/-- clew/sym.Is -/
noncomputable def f37 : Func := Tryd.f37
def kp37 : List Nat := [0, 2]
noncomputable def c37 (p : List Nat) : Code := pick f37 p
theorem o37 (a0 : Int) {r : List Dat} (h : (bif decide (a0 < 0) then (some [.bool false]) else (bif decide (a0 > 1114367) then (some [.bool false]) else (bif decide (a0 > 1114111) then (some [.bool (decide (a0 ≥ 1114240))]) else (bif decide (a0 < 55296) then (some [.bool true]) else (some [.bool (decide (a0 > 57343))])))) : R) = some r) : E C 37 [.int .i64 a0] = some r := E_st h (Cont.bif (Cont.const _) (Cont.bif (Cont.const _) (Cont.bif (Cont.const _) (Cont.bif (Cont.const _) (Cont.const _))))) fun φ => by kernel_rfl
end Go.Proofs.YtdihkhpgkgfnbaaDoor.V
