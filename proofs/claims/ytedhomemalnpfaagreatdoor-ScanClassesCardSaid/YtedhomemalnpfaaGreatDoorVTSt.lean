/- Told functions: what each answers, as plain trees; written by a program of this session (tell.py). -/
import Derived.Test.YtedhomemalnpfaaGreatDoorVCa
import Derived.Test.YtedhomemalnpfaaGreatDoorEc
import Derived.KernelRfl
import Derived.Test.YtedhomemalnpfaaGreatDoorVT0
namespace Go.Proofs.YtedhomemalnpfaaGreatDoor.V
open Go Go.Ev
set_option maxRecDepth 100000
set_option linter.unusedVariables false
/-- strings.HasPrefix -/
noncomputable def f76 : Func := Tryz.f76
def kp76 : List Nat := [0, 1, 4]
noncomputable def c76 (p : List Nat) : Code := pick f76 p
theorem o76 (a0 a1 : ByteArray) {r : List Dat} (h : ((E C 89 [.str a0, .str a1]).bind fun d1 => (some [.bool ((rd d1 0).B)]) : R) = some r) : E C 76 [.str a0, .str a1] = some r := E_st h (Cont.bind (Cont.call C 89 _) fun _ => (Cont.const _)) fun φ => by kernel_rfl
/-- internal/stringslite.HasPrefix -/
noncomputable def f89 : Func := Tryz.f89
def kp89 : List Nat := [0, 1, 4]
noncomputable def c89 (p : List Nat) : Code := pick f89 p
theorem o89 (a0 a1 : ByteArray) {r : List Dat} (h : (bif decide ((a0.size : Int) ≥ (a1.size : Int)) then (bif decide (0 ≤ (a1.size : Int)) then (bif decide ((a1.size : Int) ≤ (a0.size : Int)) then (some [.bool ((subS a0 0 ((a1.size : Int).toNat)).toList == a1.toList)]) else none) else none) else (some [.bool false]) : R) = some r) : E C 89 [.str a0, .str a1] = some r := E_st h (Cont.bif (Cont.bif (Cont.bif (Cont.const _) Cont.nn) Cont.nn) (Cont.const _)) fun φ => by kernel_rfl
/-- strings.CutPrefix -/
noncomputable def f91 : Func := Tryz.f91
def kp91 : List Nat := [0, 1, 4, 5]
noncomputable def c91 (p : List Nat) : Code := pick f91 p
theorem o91 (a0 a1 : ByteArray) {r : List Dat} (h : ((E C 107 [.str a0, .str a1]).bind fun d1 => (some [.str ((rd d1 0).S), .bool ((rd d1 1).B)]) : R) = some r) : E C 91 [.str a0, .str a1] = some r := E_st h (Cont.bind (Cont.call C 107 _) fun _ => (Cont.const _)) fun φ => by kernel_rfl
/-- internal/stringslite.CutPrefix -/
noncomputable def f107 : Func := Tryz.f107
def kp107 : List Nat := [0, 1, 4, 5]
noncomputable def c107 (p : List Nat) : Code := pick f107 p
theorem o107 (a0 a1 : ByteArray) {r : List Dat} (h : ((E C 89 [.str a0, .str a1]).bind fun d1 => (bif !((rd d1 0).B) then (some [.str a0, .bool false]) else (bif decide (0 ≤ (a1.size : Int)) then (bif decide ((a1.size : Int) ≤ (a0.size : Int)) then (bif decide ((a0.size : Int) ≤ (a0.size : Int)) then (some [.str (subS a0 ((a1.size : Int).toNat) ((a0.size : Int).toNat)), .bool true]) else none) else none) else none)) : R) = some r) : E C 107 [.str a0, .str a1] = some r := E_st h (Cont.bind (Cont.call C 89 _) fun _ => (Cont.bif (Cont.const _) (Cont.bif (Cont.bif (Cont.bif (Cont.const _) Cont.nn) Cont.nn) Cont.nn))) fun φ => by kernel_rfl
end Go.Proofs.YtedhomemalnpfaaGreatDoor.V
