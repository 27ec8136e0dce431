/- PointHolds: any point holds at any state, behind any other one, just if the document says so; one of some, just if one of them does. -/
import Derived.Test.YtpfnmjpccmobpaaDoorUSpn
import Derived.Test.YtpfnmjpccmobpaaDoorVTOt
import Derived.Test.YtpfnmjpccmobpaaDoorVTLPointHolds
import Derived.Test.YtpfnmjpccmobpaaDoorUA22
namespace Go.Proofs.YtpfnmjpccmobpaaDoor.V
open Go Go.Ev Go.RowKit
set_option linter.unusedVariables false
set_option linter.unusedSimpArgs false
def ptsD (l : List (Int × Int)) : List Dat := l.map fun p => .agg [.int p.1, .int p.2]
theorem ptsD_rd {l : List (Int × Int)} {i : Nat} (h : i < l.length) : rd (ptsD l) i = .agg [.int (l[i]).1, .int (l[i]).2] := by simp [rd, ptsD, h]
theorem ptsD_len (l : List (Int × Int)) : (ptsD l).length = l.length := List.length_map ..
theorem fit_points {k : Nat} {d : Dat} (h : fitT C.T (k + 3) 34 d) : ∃ l : List (Int × Int), d = .list (ptsD l) ∧ l.length ≤ 8796093021952 := by
  obtain ⟨l, rfl, h1, h2⟩ := fit_slice (t := 34) (te := ⟨2, 16, [.int .i64, .int .i64], true, .struct [(0, 3), (1, 3)]⟩) rfl rfl rfl h
  have one : ∀ x, x ∈ l → ∃ p : Int × Int, x = Dat.agg [.int p.1, .int p.2] ∧ True := by
    intro x hx
    obtain ⟨l, rfl, h1⟩ := fit_struct (t := 23) (ti := ⟨2, 16, [.int .i64, .int .i64], true, .struct [(0, 3), (1, 3)]⟩) rfl rfl (h2 x hx)
    obtain ⟨d0, l, rfl, g0, h1⟩ := fitF_one h1 tyi rfl
    obtain ⟨d1, l, rfl, g1, h1⟩ := fitF_one h1 tyi rfl
    obtain rfl : l = [] := h1
    obtain ⟨a, rfl, ha⟩ := fit_i64 g0
    obtain ⟨b, rfl, hb⟩ := fit_i64 g1
    exact ⟨(a, b), rfl, trivial⟩
  obtain ⟨m, e, _⟩ := list_of (fun p : Int × Int => Dat.agg [.int p.1, .int p.2]) (fun _ => True) l one
  subst e
  refine ⟨m, rfl, ?_⟩
  rw [List.length_map] at h1
  simp only at h1
  omega
def anyB (t : Tr) (was now : Sta) (l : List (Int × Int)) : Bool := l.any fun p => holdsB t p.1 p.2 was now
theorem Any1_E {t : Tr} (ht : OkT t) (hl : Laid t) {was now : Sta} (h1 : OkS was) (h2 : OkS now) (w a : Int) : E C 73 [.agg [.int .i64 w, .int .i64 a], .sref 33 [treeD t] 0 0, .sref 37 [staD was] 0 0, .sref 37 [staD now] 0 0] = some [.bool (holdsB t w a was now)] := by
  apply o73_a
  rw [dT (by simp), dT (by simp), dT (by simp)]
  have e := Holds_E ht hl h1 h2 w a
  simp only [rd0, aggC0, aggC1, aggC2, aggC3, aggC4, aggC5, aggC6, aggC7, datI, datL]
  rw [bT e]
  rfl
where
  aggC6 (a b c d e f g : Dat) (l : List Dat) : (Dat.agg (a :: b :: c :: d :: e :: f :: g :: l)).C 6 = g := (rfl)
  aggC7 (a b c d e f g h : Dat) (l : List Dat) : (Dat.agg (a :: b :: c :: d :: e :: f :: g :: h :: l)).C 7 = h := (rfl)
theorem idx_loop {t : Tr} (ht : OkT t) (hl : Laid t) {was now : Sta} (h1 : OkS was) (h2 : OkS now) (l : List (Int × Int)) (hlen : l.length ≤ 8796093021952) (v4 : Int) : ∀ (rest pre : List (Int × Int)), l = pre ++ rest →
    ∃ r : Int, M112_a_1 (ptsD l) (nsD t.ns) t.groups (t.names.map .str) was.kind was.node was.phase was.pos was.start was.depth was.origin (was.caps.map .int) now.kind now.node now.phase now.pos now.start now.depth now.origin (now.caps.map .int) v4 (l.length : Int) (pre.length : Int) = some [.int r] ∧ decide (r ≥ 0) = anyB t was now rest := by
  intro rest
  induction rest with
  | nil =>
    intro pre hx
    rw [List.append_nil] at hx
    refine ⟨-1, ?_, rfl⟩
    apply M112_a_1_of
    rw [hx, dF (by omega)]
  | cons p rest ih =>
    intro pre hx
    have hll : l.length = pre.length + (rest.length + 1) := by rw [hx, List.length_append, List.length_cons]
    have hp : rd (ptsD l) pre.length = .agg [.int p.1, .int p.2] := by
      rw [ptsD_rd (by omega)]
      simp [hx]
    have e1 : IntKind.i64.wrap ((pre.length : Int) + 1) = (((pre ++ [p]).length : Nat) : Int) := by rw [w64 (by omega) (by omega), List.length_append]; simp
    obtain ⟨r, g1, g2⟩ := ih (pre ++ [p]) (by rw [hx, List.append_assoc]; rfl)
    have hA := Any1_E ht hl h1 h2 p.1 p.2
    simp only [treeD, staD] at hA
    by_cases hh : holdsB t p.1 p.2 was now = true
    · refine ⟨(pre.length : Int), ?_, ?_⟩
      · apply M112_a_1_of
        rw [dT (by omega), ptsD_len, ixT ⟨by omega, by omega⟩, Int.toNat_natCast, hp]
        simp only [aggC0, aggC1, datI]
        rw [hA, hh]
        rfl
      · unfold anyB
        rw [List.any_cons, hh, decide_eq_true (by omega)]
        rfl
    · rw [Bool.not_eq_true] at hh
      refine ⟨r, ?_, ?_⟩
      · apply M112_a_1_of
        rw [dT (by omega), ptsD_len, ixT ⟨by omega, by omega⟩, Int.toNat_natCast, hp, e1]
        simp only [aggC0, aggC1, datI]
        rw [hA, hh]
        exact g1
      · rw [g2]
        unfold anyB
        rw [List.any_cons, hh, Bool.false_or]
theorem Any_E {t : Tr} (ht : OkT t) (hl : Laid t) {was now : Sta} (h1 : OkS was) (h2 : OkS now) (l : List (Int × Int)) (hlen : l.length ≤ 8796093021952) : E C 26 [.shr 23 (ptsD l), avT t, avS was, avS now] = some [.bool (anyB t was now l)] := by
  obtain ⟨r, g1, g2⟩ := idx_loop ht hl h1 h2 l hlen 0 l [] rfl
  have e1 : E C 112 [.shr 23 (ptsD l), .clo 73 [] [.sref 33 [treeD t] 0 0, .sref 37 [staD was] 0 0, .sref 37 [staD now] 0 0]] = some [.int r] := by
    apply o112_a
    rw [ptsD_len]
    exact g1
  have e2 : E C 72 [.shr 23 (ptsD l), .clo 73 [] [.sref 33 [treeD t] 0 0, .sref 37 [staD was] 0 0, .sref 37 [staD now] 0 0]] = some [.bool (anyB t was now l)] := by
    apply o72_a
    simp only [treeD, staD] at e1
    rw [e1, ← g2]
    rfl
  apply o26
  simp only [treeD, staD] at e2
  rw [e2]
  rfl
theorem main_loop {t : Tr} (ht : OkT t) (hl : Laid t) {was now : Sta} (h1 : OkS was) (h2 : OkS now) (l : List (Int × Int)) (hlen : l.length ≤ 100) (a0 a2 : List Dat) (a1 : Int) (b0 b1 b2 b3 b4 b5 b6 : Int) (b7 : List Dat) (c0 c1 c2 c3 c4 c5 c6 : Int) (c7 : List Dat) (v8 : Bool) : ∀ (rest pre : List (Int × Int)), l = pre ++ rest →
    M4_1 a0 a1 a2 (ptsD l) b0 b1 b2 b3 b4 b5 b6 b7 c0 c1 c2 c3 c4 c5 c6 c7 (nsD t.ns) t.groups (t.names.map .str) was.kind was.node was.phase was.pos was.start was.depth was.origin (was.caps.map .int) now.kind now.node now.phase now.pos now.start now.depth now.origin (now.caps.map .int) v8 (anyB t was now pre) (ptsD l) (l.length : Int) (pre.length : Int) = some [.bool true] := by
  intro rest
  induction rest with
  | nil =>
    intro pre hx
    rw [List.append_nil] at hx
    apply M4_1_of
    rw [hx, dF (by omega), bT (Any_E ht hl h1 h2 pre (by rw [← hx]; omega))]
    simp
  | cons p rest ih =>
    intro pre hx
    have hll : l.length = pre.length + (rest.length + 1) := by rw [hx, List.length_append, List.length_cons]
    have hp : rd (ptsD l) pre.length = .agg [.int p.1, .int p.2] := by
      rw [ptsD_rd (by omega)]
      simp [hx]
    have e1 : IntKind.i64.wrap ((pre.length : Int) + 1) = (((pre ++ [p]).length : Nat) : Int) := by rw [w64 (by omega) (by omega), List.length_append]; simp
    have hrec := ih (pre ++ [p]) (by rw [hx, List.append_assoc]; rfl)
    have hany : anyB t was now (pre ++ [p]) = (anyB t was now pre || holdsB t p.1 p.2 was now) := by
      unfold anyB
      rw [List.any_append, List.any_cons, List.any_nil, Bool.or_false]
    have hH := Holds_E ht hl h1 h2 p.1 p.2
    apply M4_1_of
    rw [dT (by omega), ptsD_len, ixT ⟨by omega, by omega⟩, Int.toNat_natCast, hp, e1]
    simp only [aggC0, aggC1, datI]
    by_cases hbig : p.2 > 100 ∧ p.1 = 4
    · rw [dT hbig.1, eT hbig.2]
    have hh := holds_E ht hl h1 h2 p.1 p.2 (fun e => by omega)
    have tail : ((E C 24 [.agg [.int .i64 p.1, .int .i64 p.2], avT t, avS was, avS now]).bind fun d4 => bif anyB t was now pre then ((E C 25 [.agg [.int .i64 p.1, .int .i64 p.2], avT t, avS was, avS now]).bind fun d5 => bif !(((rd d5 0).B) == ((rd d4 0).B)) then (some [.bool false]) else (M4_1 a0 a1 a2 (ptsD l) b0 b1 b2 b3 b4 b5 b6 b7 c0 c1 c2 c3 c4 c5 c6 c7 (nsD t.ns) t.groups (t.names.map .str) was.kind was.node was.phase was.pos was.start was.depth was.origin (was.caps.map .int) now.kind now.node now.phase now.pos now.start now.depth now.origin (now.caps.map .int) v8 true (ptsD l) (l.length : Int) (((pre ++ [p]).length : Nat) : Int))) else ((E C 25 [.agg [.int .i64 p.1, .int .i64 p.2], avT t, avS was, avS now]).bind fun d6 => bif !(((rd d6 0).B) == ((rd d4 0).B)) then (some [.bool false]) else (M4_1 a0 a1 a2 (ptsD l) b0 b1 b2 b3 b4 b5 b6 b7 c0 c1 c2 c3 c4 c5 c6 c7 (nsD t.ns) t.groups (t.names.map .str) was.kind was.node was.phase was.pos was.start was.depth was.origin (was.caps.map .int) now.kind now.node now.phase now.pos now.start now.depth now.origin (now.caps.map .int) v8 ((rd d4 0).B) (ptsD l) (l.length : Int) (((pre ++ [p]).length : Nat) : Int)))) = some [.bool true] := by
      rw [bT hh, hH]
      simp only [Option.bind_some, rd0, datB, beq_self_eq_true, Bool.not_true, cond_false]
      rw [hany] at hrec
      cases hA : anyB t was now pre with
      | true => rw [hA, Bool.true_or] at hrec; exact hrec
      | false => rw [hA, Bool.false_or] at hrec; exact hrec
    by_cases h100 : p.2 > 100
    · rw [dT h100, eF (fun e => hbig ⟨h100, e⟩)]
      exact tail
    · rw [dF h100]
      exact tail
theorem PointHolds_pure (e0 e1 e2 e3 : Dat) (h0 : fitT C.T 9 33 e0) (h1 : fitT C.T 9 34 e1) (h2 : fitT C.T 9 37 e2) (h3 : fitT C.T 9 37 e3) : E C 4 [.agg [.shr 57 (e0.C 0).L, .int .i64 (e0.C 1).I, .shr 9 (e0.C 2).L], .shr 23 e1.L, .agg [.int .i64 (e2.C 0).I, .int .i64 (e2.C 1).I, .int .i64 (e2.C 2).I, .int .i64 (e2.C 3).I, .int .i64 (e2.C 4).I, .int .i64 (e2.C 5).I, .int .i64 (e2.C 6).I, .shr 3 (e2.C 7).L], .agg [.int .i64 (e3.C 0).I, .int .i64 (e3.C 1).I, .int .i64 (e3.C 2).I, .int .i64 (e3.C 3).I, .int .i64 (e3.C 4).I, .int .i64 (e3.C 5).I, .int .i64 (e3.C 6).I, .shr 3 (e3.C 7).L]] = some [.bool true] := by
  obtain ⟨t, rfl, ht⟩ := fit_tree h0
  obtain ⟨l, rfl, hl⟩ := fit_points h1
  obtain ⟨was, rfl, hwas⟩ := fit_state h2
  obtain ⟨now, rfl, hnow⟩ := fit_state h3
  have hns := ht.ns
  apply o4
  rw [bT anchor22_E]
  simp only [treeD, aggC0, aggC1, aggC2, rd0, datB, datI, datL]
  rw [nF rfl, nsD_len, ptsD_len]
  by_cases hl1 : (t.ns.length : Int) > 60
  · rw [dT hl1]
  rw [dF hl1]
  by_cases hl2 : (l.length : Int) > 20
  · rw [dT hl2]
  rw [dF hl2, bT (of_E ht)]
  simp only [treeD, aggC0, aggC1, aggC2, rd0, datB, datI, datL]
  rw [bT (RightR_E ht)]
  simp only [rd0, datB]
  cases hr : rightB t with
  | false => rfl
  | true =>
    rw [nF rfl]
    exact main_loop ht (rightB_laid hr) hwas hnow l (by omega) _ _ _ _ _ _ _ _ _ _ _ _ _ _ _ _ _ _ _ false l [] rfl
end Go.Proofs.YtpfnmjpccmobpaaDoor.V
