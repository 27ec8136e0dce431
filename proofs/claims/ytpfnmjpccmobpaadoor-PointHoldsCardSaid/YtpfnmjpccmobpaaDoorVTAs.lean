/- Told functions: what each answers, as plain trees; written by a program of this session (tell.py). -/
import Derived.Test.YtpfnmjpccmobpaaDoorVCa
import Derived.Test.YtpfnmjpccmobpaaDoorEc
import Derived.KernelRfl
import Derived.Test.YtpfnmjpccmobpaaDoorVT0
namespace Go.Proofs.YtpfnmjpccmobpaaDoor.V
open Go Go.Ev
set_option maxRecDepth 100000
set_option linter.unusedVariables false
/-- (clew/ast.Tree).Inside -/
noncomputable def f33 : Func := Tryd.f33
def kp33 : List Nat := [0, 1, 2, 3, 6]
noncomputable def c33 (p : List Nat) : Code := pick f33 p
theorem o33 (a0_0 : List Dat) (a0_1 : Int) (a0_2 : List Dat) (a1 a2 : Int) {r : List Dat} (h : (bif decide (a2 ≥ 0) then (bif decide (a1 ≥ a2) then ((E C 31 [.agg [.shr 57 a0_0, .int .i64 a0_1, .shr 9 a0_2], .int .i64 a2]).bind fun d1 => (some [.bool (decide (a1 < ((rd d1 0).I)))])) else (some [.bool false])) else (some [.bool false]) : R) = some r) : E C 33 [.agg [.shr 57 a0_0, .int .i64 a0_1, .shr 9 a0_2], .int .i64 a1, .int .i64 a2] = some r := E_st h (Cont.bif (Cont.bif (Cont.bind (Cont.call C 31 _) fun _ => (Cont.const _)) (Cont.const _)) (Cont.const _)) fun φ => by kernel_rfl
/-- (clew/ast.Tree).End -/
noncomputable def f31 : Func := Tryd.f31
def kp31 : List Nat := [0, 1, 2, 4, 5]
noncomputable def c31 (p : List Nat) : Code := pick f31 p
noncomputable def L31_1 (n : Nat) (m1 : Nat) (v0_0 : List Dat) (v0_1 : Int) (v0_2 : List Dat) (v1 : Int) (v2_0 : List Dat) (v2_1 : Int) (v2_2 : List Dat) (v4 : Int) : R := loopIter (fun E K => evCode C (ev C n) n kp31 (c31 [1, 1, 0, 0, 0]) E K) [0, 1, 2, 4] (Kblk 0 (Kseq C (ev C n) n kp31 (c31 [1, 1, 1]) (Ktop C 31 f31 [.und, .und]))) m1 [.agg [.shr 57 v0_0, .int .i64 v0_1, .shr 9 v0_2], .int .i64 v1, .box 33 [.shr 57 v2_0, .int .i64 v2_1, .shr 9 v2_2], .und, .int .i64 v4, .und, .und, .und, .und, .und, .und, .und, .und, .und, .und, .und, .und, .und, .und, .und, .und, .und, .und, .und, .und, .und, .und, .und, .und, .und, .und, .und, .und, .und, .und, .und, .und]
noncomputable def M31_1 (v0_0 : List Dat) (v0_1 : Int) (v0_2 : List Dat) (v1 : Int) (v2_0 : List Dat) (v2_1 : Int) (v2_2 : List Dat) (v4 : Int) : R := lim fun φ => L31_1 (φ 0) (φ 1) v0_0 v0_1 v0_2 v1 v2_0 v2_1 v2_2 v4
theorem M31_1_c (v0_0 : List Dat) (v0_1 : Int) (v0_2 : List Dat) (v1 : Int) (v2_0 : List Dat) (v2_1 : Int) (v2_2 : List Dat) (v4 : Int) : Cont (fun φ => L31_1 (φ 0) (φ 1) v0_0 v0_1 v0_2 v1 v2_0 v2_1 v2_2 v4) (M31_1 v0_0 v0_1 v0_2 v1 v2_0 v2_1 v2_2 v4) := Cont.re id _
theorem M31_1_e (v0_0 : List Dat) (v0_1 : Int) (v0_2 : List Dat) (v1 : Int) (v2_0 : List Dat) (v2_1 : Int) (v2_2 : List Dat) (v4 : Int) : Cont (fun φ => L31_1 (φ 0) (φ 0) v0_0 v0_1 v0_2 v1 v2_0 v2_1 v2_2 v4) (M31_1 v0_0 v0_1 v0_2 v1 v2_0 v2_1 v2_2 v4) := Cont.re (toZ 1) fun φ => L31_1 (φ 0) (φ 1) v0_0 v0_1 v0_2 v1 v2_0 v2_1 v2_2 v4
theorem M31_1_of (v0_0 : List Dat) (v0_1 : Int) (v0_2 : List Dat) (v1 : Int) (v2_0 : List Dat) (v2_1 : Int) (v2_2 : List Dat) (v4 : Int) {r : List Dat} (h : (bif decide (0 ≤ v1) then (bif decide (v1 < (v2_0.length : Int)) then (bif decide (v1.toNat < v2_0.length) then (bif decide (((((rd v2_0 v1.toNat).C 9).L).length : Int) > 0) then (bif decide (0 ≤ v1) then (bif decide (v1 < (v2_0.length : Int)) then (bif decide (v1.toNat < v2_0.length) then (bif decide (0 ≤ (IntKind.i64.wrap (((((rd v2_0 v1.toNat).C 9).L).length : Int) - 1))) then (bif decide ((IntKind.i64.wrap (((((rd v2_0 v1.toNat).C 9).L).length : Int) - 1)) < ((((rd v2_0 v1.toNat).C 9).L).length : Int)) then (bif decide ((IntKind.i64.wrap (((((rd v2_0 v1.toNat).C 9).L).length : Int) - 1)).toNat < (((rd v2_0 v1.toNat).C 9).L).length) then (M31_1 v0_0 v0_1 v0_2 ((rd (((rd v2_0 v1.toNat).C 9).L) ((IntKind.i64.wrap (((((rd v2_0 v1.toNat).C 9).L).length : Int) - 1)).toNat)).I) v2_0 v2_1 v2_2 v4) else none) else none) else none) else none) else none) else none) else (some [.int (IntKind.i64.wrap (v1 + 1))])) else none) else none) else none : R) = some r) : M31_1 v0_0 v0_1 v0_2 v1 v2_0 v2_1 v2_2 v4 = some r := lim_st (g := fun φ => L31_1 (φ 0) (φ 1) v0_0 v0_1 v0_2 v1 v2_0 v2_1 v2_2 v4) 1 h (Cont.bif (Cont.bif (Cont.bif (Cont.bif (Cont.bif (Cont.bif (Cont.bif (Cont.bif (Cont.bif (Cont.bif (M31_1_c _ _ _ _ _ _ _ _) Cont.nn) Cont.nn) Cont.nn) Cont.nn) Cont.nn) Cont.nn) (Cont.const _)) Cont.nn) Cont.nn) Cont.nn) fun φ m hm => (congrArg (fun q => L31_1 (φ 0) q v0_0 v0_1 v0_2 v1 v2_0 v2_1 v2_2 v4) hm).trans (by kernel_rfl)
theorem o31 (a0_0 : List Dat) (a0_1 : Int) (a0_2 : List Dat) (a1 : Int) {r : List Dat} (h : (bif decide (a1 < 0) then (some [.int 0]) else (bif decide (a1 ≥ (a0_0.length : Int)) then (some [.int 0]) else (M31_1 a0_0 a0_1 a0_2 a1 a0_0 a0_1 a0_2 0)) : R) = some r) : E C 31 [.agg [.shr 57 a0_0, .int .i64 a0_1, .shr 9 a0_2], .int .i64 a1] = some r := E_st h (Cont.bif (Cont.const _) (Cont.bif (Cont.const _) (M31_1_e _ _ _ _ _ _ _ _))) fun φ => by kernel_rfl
end Go.Proofs.YtpfnmjpccmobpaaDoor.V
