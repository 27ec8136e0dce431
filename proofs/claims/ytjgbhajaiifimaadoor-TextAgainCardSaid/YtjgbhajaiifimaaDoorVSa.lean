/- Told functions: what each answers, as plain trees; written by a program of this session (tell.py). -/
import Derived.Test.YtjgbhajaiifimaaDoorVCb
import Derived.Test.YtjgbhajaiifimaaDoorEc
import Derived.KernelRfl
namespace Go.Proofs.YtjgbhajaiifimaaDoor.V0
open Go Go.Ev
set_option maxRecDepth 100000
set_option linter.unusedVariables false
/-- clew/sym.At -/
noncomputable def f16 : Func := Tryd.f16
def kp16 : List Nat := [0, 1, 4, 5, 6, 7]
noncomputable def c16 (p : List Nat) : Code := pick f16 p
theorem t16_eq (n : Nat) (a0 : List Dat) (a1 : Int) : ev C (n + 1) 16 [.shr 5 a0, .int .i64 a1] = bif decide (a1 < 0) then (some [.int 0, .int 0]) else (bif decide (a1 ≥ (a0.length : Int)) then (some [.int 0, .int 0]) else (bif decide (0 ≤ a1) then (bif decide (a1 ≤ (a0.length : Int)) then (bif decide ((a0.length : Int) ≤ (a0.length : Int)) then ((ev C n 40 [.shr 5 ((a0.take ((a0.length : Int).toNat)).drop a1.toNat)]).bind fun d1 => (bif ((rd d1 0).I) == 65533 then (bif decide (((rd d1 1).I) ≤ 1) then (bif decide (0 ≤ a1) then (bif decide (a1 < (a0.length : Int)) then (bif decide (a1.toNat < a0.length) then (some [.int (IntKind.i64.wrap (1114112 + (IntKind.i64.wrap ((rd a0 a1.toNat).I)))), .int 1]) else none) else none) else none) else (some [.int (IntKind.i64.wrap ((rd d1 0).I)), .int ((rd d1 1).I)])) else (some [.int (IntKind.i64.wrap ((rd d1 0).I)), .int ((rd d1 1).I)]))) else none) else none) else none)) := by kernel_rfl
theorem o16 (a0 : List Dat) (a1 : Int) {r : List Dat} (h : (bif decide (a1 < 0) then (some [.int 0, .int 0]) else (bif decide (a1 ≥ (a0.length : Int)) then (some [.int 0, .int 0]) else (bif decide (0 ≤ a1) then (bif decide (a1 ≤ (a0.length : Int)) then (bif decide ((a0.length : Int) ≤ (a0.length : Int)) then ((E C 40 [.shr 5 ((a0.take ((a0.length : Int).toNat)).drop a1.toNat)]).bind fun d1 => (bif ((rd d1 0).I) == 65533 then (bif decide (((rd d1 1).I) ≤ 1) then (bif decide (0 ≤ a1) then (bif decide (a1 < (a0.length : Int)) then (bif decide (a1.toNat < a0.length) then (some [.int (IntKind.i64.wrap (1114112 + (IntKind.i64.wrap ((rd a0 a1.toNat).I)))), .int 1]) else none) else none) else none) else (some [.int (IntKind.i64.wrap ((rd d1 0).I)), .int ((rd d1 1).I)])) else (some [.int (IntKind.i64.wrap ((rd d1 0).I)), .int ((rd d1 1).I)]))) else none) else none) else none)) : R) = some r) : E C 16 [.shr 5 a0, .int .i64 a1] = some r := E_of (fun n => t16_eq n a0 a1) (Cont.bif (Cont.const _) (Cont.bif (Cont.const _) (Cont.bif (Cont.bif (Cont.bif (Cont.bind (Cont.call C 40 _) fun _ => (Cont.bif (Cont.bif (Cont.bif (Cont.bif (Cont.bif (Cont.const _) Cont.no) Cont.no) Cont.no) (Cont.const _)) (Cont.const _))) Cont.no) Cont.no) Cont.no))) h
end Go.Proofs.YtjgbhajaiifimaaDoor.V0
