/- clew/cmd.number as a function that is given: over the library's contract of strconv.ParseUint. -/
import Derived.Test.YtpfnmjpccmobpaaDoorVCd
import Derived.Test.YtpfnmjpccmobpaaDoorUNum
import Derived.Test.YtpfnmjpccmobpaaDoorLayPu
import Derived.WalkKit
import Derived.BigCall
import Derived.Lib.AtoiErrMem
namespace Go.Proofs.YtpfnmjpccmobpaaDoor.V
open Go Go.Ev Go.RowKit Go.Shelf
set_option linter.unusedVariables false
set_option linter.unusedSimpArgs false
set_option maxRecDepth 100000
theorem number_bad (s : ByteArray) (w : World)
    (hI : Calls Tryd.prog 128 #[.string s, .int .i64 10, .int .i64 64] w fun e w' => ∃ n t p, e = .returned (.tuple #[.int .u64 n, .iface t p]) ∧ Below w.heap.size w w') :
    Calls Tryd.prog 97 #[.string s] w fun e w' => e = .returned (.tuple #[.int .i64 0, .int .i64 61]) ∧ Below w.heap.size w w' := by
  go_enter Tryd.func97, Tryd.ntmps97
  go_wp2_with (go_at_call 128; refine hI.mono ?_; rintro e W1 ⟨n, t, p, rfl, hW⟩)
  go_wp2
  go_ret2
  exact ⟨rfl, hW⟩
theorem number_big (s : ByteArray) (w : World) (u : Nat) (hu : ¬ u ≤ 2147483647)
    (hI : Calls Tryd.prog 128 #[.string s, .int .i64 10, .int .i64 64] w fun e w' => e = .returned (.tuple #[.int .u64 u, .nilIface]) ∧ Below w.heap.size w w') :
    Calls Tryd.prog 97 #[.string s] w fun e w' => e = .returned (.tuple #[.int .i64 0, .int .i64 61]) ∧ Below w.heap.size w w' := by
  have hu' : ((u : Int) > 2147483647) := by omega
  go_enter Tryd.func97, Tryd.ntmps97
  go_wp2_with (go_at_call 128; refine hI.mono ?_; rintro e W1 ⟨rfl, hW⟩)
  go_wp2
  go_ret2
  exact ⟨rfl, hW⟩
theorem number_good (s : ByteArray) (w : World) (u : Nat) (hu : u ≤ 2147483647) (hpos : 0 < s.size) (h43 : ∀ hp : 0 < s.size, ¬ (s[0]'hp).toNat = 43)
    (hI : Calls Tryd.prog 128 #[.string s, .int .i64 10, .int .i64 64] w fun e w' => e = .returned (.tuple #[.int .u64 u, .nilIface]) ∧ Below w.heap.size w w') :
    Calls Tryd.prog 97 #[.string s] w fun e w' => e = .returned (.tuple #[.int .i64 u, .int .i64 0]) ∧ Below w.heap.size w w' := by
  have hu' : ¬ ((u : Int) > 2147483647) := by omega
  go_enter Tryd.func97, Tryd.ntmps97
  go_wp2_with (go_at_call 128; refine hI.mono ?_; rintro e W1 ⟨rfl, hW⟩)
  go_wp2
  · exfalso
    rename_i hh
    rcases hh with hh | hh
    · omega
    · rw [beq_iff_eq] at hh
      exact h43 hpos (by omega)
  · go_ret2
    exact ⟨by first | rfl | (congr 3; omega), hW⟩
theorem ok_calls (s : ByteArray) (hs : s.size ≤ 281474976710656) (w : World) (ev0 ev1 : Value) (hv0 : w.cell? ⟨3, 0, none⟩ = some ev0) (he0 : ev0 = .nilIface ∨ ∃ te pe, ev0 = .iface te pe) (hv1 : w.cell? ⟨4, 0, none⟩ = some ev1) (he1 : ev1 = .nilIface ∨ ∃ te pe, ev1 = .iface te pe) :
    Calls Tryd.prog 97 #[.string s] w fun e w' => e = .returned (.tuple #[.int .i64 (match numL s.data.toList with | some n => (n : Int) | none => 0), .int .i64 (match numL s.data.toList with | some n => 0 | none => 61)]) ∧ Below w.heap.size w w' := by
  rcases num_top s.data.toList with ⟨u, h1, h2, h3, h4, h5⟩ | ⟨h1, h2⟩
  · have hI : Calls Tryd.prog 128 #[.string s, .int .i64 10, .int .i64 64] w fun e w' => e = .returned (.tuple #[.int .u64 u, .nilIface]) ∧ Below w.heap.size w w' := by
      refine (Any.strconv_ParseUint_10_at64_ok Tryd.laysPu s (by omega) u h1 w).mono ?_
      rintro e w' ⟨rfl, hw⟩
      refine ⟨rfl, ?_⟩
      rcases hw with rfl | rfl
      · exact Below.refl _ _
      · exact Lib.bytesWorld_below _ _ _
    by_cases hu : u ≤ 2147483647
    · rw [h5, if_pos hu]
      have hpos : 0 < s.size := List.length_pos_iff.2 h3
      refine number_good s w u hu hpos (fun hp e => h4 ?_) hI
      have hl : 0 < s.data.toList.length := hp
      rw [List.head?_eq_getElem?, List.getElem?_eq_getElem hl]
      congr 1
      exact UInt8.toNat_inj.1 e
    · rw [h5, if_neg hu]
      exact number_big s w u hu hI
  · rw [h2]
    refine number_bad s w ?_
    cases hp : Lib.parseUintB 64 s.data.toList
    · exact absurd hp (h1 _)
    · refine (Any.strconv_ParseUint_10_at64_syntax Tryd.laysPu s hs hp ev0 w hv0 he0).mono ?_
      rintro e w' ⟨N, rfl, -, -, hb⟩
      exact ⟨_, _, _, rfl, hb⟩
    · refine (Any.strconv_ParseUint_10_at64_range Tryd.laysPu s hs hp ev1 w hv1 he1).mono ?_
      rintro e w' ⟨N, rfl, -, -, hb⟩
      exact ⟨_, _, _, rfl, hb⟩
theorem number_ok {args : List AV} {ds : List Dat} (h : gNum args = some ds) : FnR Tryd.prog C 97 args ds := by
  refine FnOk.r ?_ (by kernel_rfl)
  unfold gNum at h
  split at h
  case h_2 => cases h
  rename_i s
  cases hb : decide (s.size ≤ 281474976710656) with
  | false => rw [hb] at h; cases h
  | true =>
    rw [hb] at h
    obtain rfl := Option.some.inj h
    rw [decide_eq_true_eq] at hb
    refine fnOk_of pok (by kernel_rfl) (fun j cs => by match j with | 0 => simp [geti] | j + 1 => simp [geti]) fun S us H F hS hi => ?_
    obtain ⟨_, o0, ho0, cs0, t0, f0, v0, rfl, k0, m0⟩ := hS.gi (3, ifaceO) (by first | exact List.mem_cons_self | exact List.mem_cons_of_mem _ List.mem_cons_self | exact List.mem_cons_of_mem _ (List.mem_cons_of_mem _ List.mem_cons_self))
    obtain ⟨_, o1, ho1, cs1, t1, f1, v1, rfl, k1, m1⟩ := hS.gi (4, ifaceO) (by first | exact List.mem_cons_self | exact List.mem_cons_of_mem _ List.mem_cons_self | exact List.mem_cons_of_mem _ (List.mem_cons_of_mem _ List.mem_cons_self))
    have hlen : us.size = 1 := by have := hi.len; simpa using this.symm
    obtain ⟨u0, rfl⟩ : ∃ u0, us = #[u0] := by
      obtain ⟨us⟩ := us
      match us, hlen with
      | [a], _ => exact ⟨a, rfl⟩
    have e0 : u0 = .string s := (hi.rel 0 (by simp)).2
    subst e0
    have hkr : C.rk 97 = [.int .i64, .int .i64] := by kernel_rfl
    rw [hkr]
    refine Calls.mono (ok_calls s hb S.w0 v0 v1 (by simp [World.cell?, ho0, k0]) m0 (by simp [World.cell?, ho1, k1]) m1) ?_
    rintro e w' ⟨rfl, hbel⟩
    refine ⟨_, rfl, hbel, [], fun _ => (none, 0, 0), List.nodup_nil, fun b hb => by (cases hb), fun Hc d _ => ?_⟩
    cases numL s.data.toList with
    | none => exact ⟨_, rfl, [], [], rfl, ⟨rfl, rfl⟩, [], [], rfl, ⟨rfl, rfl⟩, rfl⟩
    | some n => exact ⟨_, rfl, [], [], rfl, ⟨rfl, rfl⟩, [], [], rfl, ⟨rfl, rfl⟩, rfl⟩
end Go.Proofs.YtpfnmjpccmobpaaDoor.V
