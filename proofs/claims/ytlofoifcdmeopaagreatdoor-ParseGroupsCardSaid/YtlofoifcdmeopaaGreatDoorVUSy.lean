/- Told functions: what each answers, as plain trees; written by a program of this session (tell.py). -/
import Derived.Test.YtlofoifcdmeopaaGreatDoorVCa
import Derived.Test.YtlofoifcdmeopaaGreatDoorEc
import Derived.KernelRfl
import Derived.Test.YtlofoifcdmeopaaGreatDoorVU0
namespace Go.Proofs.YtlofoifcdmeopaaGreatDoor.V
open Go Go.Ev
set_option maxRecDepth 100000
set_option linter.unusedVariables false
/-- clew/clewref01.Is -/
noncomputable def f29 : Func := Tryz.f29
def kp29 : List Nat := [0, 2]
noncomputable def c29 (p : List Nat) : Code := pick f29 p
theorem o29 (a0 : Int) {r : List Dat} (h : (bif decide (a0 ≥ 0) then (bif decide (a0 ≤ 55295) then (some [.bool true]) else (bif decide (a0 ≥ 57344) then (bif decide (a0 ≤ 1114111) then (some [.bool true]) else (bif decide (a0 ≥ 1114240) then (some [.bool (decide (a0 ≤ 1114367))]) else (some [.bool false]))) else (bif decide (a0 ≥ 1114240) then (some [.bool (decide (a0 ≤ 1114367))]) else (some [.bool false])))) else (bif decide (a0 ≥ 57344) then (bif decide (a0 ≤ 1114111) then (some [.bool true]) else (bif decide (a0 ≥ 1114240) then (some [.bool (decide (a0 ≤ 1114367))]) else (some [.bool false]))) else (bif decide (a0 ≥ 1114240) then (some [.bool (decide (a0 ≤ 1114367))]) else (some [.bool false]))) : R) = some r) : E C 29 [.int .i64 a0] = some r := E_st h (Cont.bif (Cont.bif (Cont.const _) (Cont.bif (Cont.bif (Cont.const _) (Cont.bif (Cont.const _) (Cont.const _))) (Cont.bif (Cont.const _) (Cont.const _)))) (Cont.bif (Cont.bif (Cont.const _) (Cont.bif (Cont.const _) (Cont.const _))) (Cont.bif (Cont.const _) (Cont.const _)))) fun φ => by kernel_rfl
/-- clew/sym.At -/
noncomputable def f213 : Func := Tryz.f213
def kp213 : List Nat := [0, 1, 4, 5, 6, 7]
noncomputable def c213 (p : List Nat) : Code := pick f213 p
theorem o213 (a0 : List Dat) (a1 : Int) {r : List Dat} (h : (bif decide (a1 < 0) then (some [.int 0, .int 0]) else (bif decide (a1 ≥ (a0.length : Int)) then (some [.int 0, .int 0]) else (bif decide (0 ≤ a1) then (bif decide (a1 ≤ (a0.length : Int)) then (bif decide ((a0.length : Int) ≤ (a0.length : Int)) then ((E C 233 [.shr 5 ((a0.take ((a0.length : Int).toNat)).drop a1.toNat)]).bind fun d1 => (bif ((rd d1 0).I) == 65533 then (bif decide (((rd d1 1).I) ≤ 1) then (bif decide (0 ≤ a1) then (bif decide (a1 < (a0.length : Int)) then (bif decide (a1.toNat < a0.length) then (some [.int (IntKind.i64.wrap (1114112 + (IntKind.i64.wrap ((rd a0 a1.toNat).I)))), .int 1]) else none) else none) else none) else (some [.int (IntKind.i64.wrap ((rd d1 0).I)), .int ((rd d1 1).I)])) else (some [.int (IntKind.i64.wrap ((rd d1 0).I)), .int ((rd d1 1).I)]))) else none) else none) else none)) : R) = some r) : E C 213 [.shr 5 a0, .int .i64 a1] = some r := E_st h (Cont.bif (Cont.const _) (Cont.bif (Cont.const _) (Cont.bif (Cont.bif (Cont.bif (Cont.bind (Cont.call C 233 _) fun _ => (Cont.bif (Cont.bif (Cont.bif (Cont.bif (Cont.bif (Cont.const _) Cont.nn) Cont.nn) Cont.nn) (Cont.const _)) (Cont.const _))) Cont.nn) Cont.nn) Cont.nn))) fun φ => by kernel_rfl
/-- clew/sym.Is -/
noncomputable def f97 : Func := Tryz.f97
def kp97 : List Nat := [0, 2]
noncomputable def c97 (p : List Nat) : Code := pick f97 p
theorem o97 (a0 : Int) {r : List Dat} (h : (bif decide (a0 < 0) then (some [.bool false]) else (bif decide (a0 > 1114367) then (some [.bool false]) else (bif decide (a0 > 1114111) then (some [.bool (decide (a0 ≥ 1114240))]) else (bif decide (a0 < 55296) then (some [.bool true]) else (some [.bool (decide (a0 > 57343))])))) : R) = some r) : E C 97 [.int .i64 a0] = some r := E_st h (Cont.bif (Cont.const _) (Cont.bif (Cont.const _) (Cont.bif (Cont.const _) (Cont.bif (Cont.const _) (Cont.const _))))) fun φ => by kernel_rfl
end Go.Proofs.YtlofoifcdmeopaaGreatDoor.V
