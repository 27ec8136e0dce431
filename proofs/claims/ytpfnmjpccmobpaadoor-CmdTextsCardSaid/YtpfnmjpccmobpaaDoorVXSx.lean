/- Told functions: what each answers, as plain trees; written by a program of this session (tell.py). -/
import Derived.Test.YtpfnmjpccmobpaaDoorVCd
import Derived.Test.YtpfnmjpccmobpaaDoorEc
import Derived.KernelRfl
import Derived.Test.YtpfnmjpccmobpaaDoorVX0
namespace Go.Proofs.YtpfnmjpccmobpaaDoor.V
open Go Go.Ev
set_option maxRecDepth 100000
set_option linter.unusedVariables false
/-- slices.Index[[]string,string] -/
noncomputable def f93 : Func := Tryd.f93
def kp93 : List Nat := [0, 1, 4, 5, 7, 8]
noncomputable def c93 (p : List Nat) : Code := pick f93 p
noncomputable def L93_1 (n : Nat) (m1 : Nat) (v0 : List Dat) (v1 : ByteArray) (v4 v7 v8 : Int) : R := loopIter (fun E K => evCode C (ev C n) n kp93 (c93 [1, 0, 1, 0, 0]) E K) [0, 1, 4, 7, 8] (Kblk 0 (Kseq C (ev C n) n kp93 (c93 [1, 1]) (Ktop C 93 f93 [.und, .und]))) m1 [.shr 9 v0, .str v1, .und, .und, .int .i64 v4, .und, .und, .int .i64 v7, .int .i64 v8, .und, .und, .und, .und, .und, .und, .und, .und, .und, .und]
noncomputable def M93_1 (v0 : List Dat) (v1 : ByteArray) (v4 v7 v8 : Int) : R := lim fun φ => L93_1 (φ 0) (φ 1) v0 v1 v4 v7 v8
theorem M93_1_c (v0 : List Dat) (v1 : ByteArray) (v4 v7 v8 : Int) : Cont (fun φ => L93_1 (φ 0) (φ 1) v0 v1 v4 v7 v8) (M93_1 v0 v1 v4 v7 v8) := Cont.re id _
theorem M93_1_e (v0 : List Dat) (v1 : ByteArray) (v4 v7 v8 : Int) : Cont (fun φ => L93_1 (φ 0) (φ 0) v0 v1 v4 v7 v8) (M93_1 v0 v1 v4 v7 v8) := Cont.re (toZ 1) fun φ => L93_1 (φ 0) (φ 1) v0 v1 v4 v7 v8
theorem M93_1_of (v0 : List Dat) (v1 : ByteArray) (v4 v7 v8 : Int) {r : List Dat} (h : (bif decide (v8 < v7) then (bif decide (0 ≤ v8) then (bif decide (v8 < (v0.length : Int)) then (bif decide (v8.toNat < v0.length) then (bif v1.toList == ((rd v0 v8.toNat).S).toList then (some [.int v8]) else (M93_1 v0 v1 v4 v7 (IntKind.i64.wrap (v8 + 1)))) else none) else none) else none) else (some [.int (-1)]) : R) = some r) : M93_1 v0 v1 v4 v7 v8 = some r := lim_st (g := fun φ => L93_1 (φ 0) (φ 1) v0 v1 v4 v7 v8) 1 h (Cont.bif (Cont.bif (Cont.bif (Cont.bif (Cont.bif (Cont.const _) (M93_1_c _ _ _ _ _)) Cont.nn) Cont.nn) Cont.nn) (Cont.const _)) fun φ m hm => (congrArg (fun q => L93_1 (φ 0) q v0 v1 v4 v7 v8) hm).trans (by kernel_rfl)
theorem o93 (a0 : List Dat) (a1 : ByteArray) {r : List Dat} (h : (M93_1 a0 a1 0 (a0.length : Int) 0 : R) = some r) : E C 93 [.shr 9 a0, .str a1] = some r := E_st h (M93_1_e _ _ _ _ _) fun φ => by kernel_rfl
end Go.Proofs.YtpfnmjpccmobpaaDoor.V
