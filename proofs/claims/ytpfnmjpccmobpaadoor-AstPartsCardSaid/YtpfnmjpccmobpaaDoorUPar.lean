/- The node whose kid a node is. -/
import Derived.Test.YtpfnmjpccmobpaaDoorUTen
namespace Go.Proofs.YtpfnmjpccmobpaaDoor.V
open Go Go.Ev Go.RowKit
set_option linter.unusedVariables false
set_option linter.unusedSimpArgs false
theorem upw {k n : Nat} (h : k < n) (hn : n ≤ 20000000000000) : IntKind.i64.wrap ((k : Int) + 1) = ((k + 1 : Nat) : Int) := by rw [w64 (by omega) (by omega)]; omega
theorem at_mid {pre : List Int} {x : Int} {rest : List Int} : (rd ((pre ++ x :: rest).map Dat.int) pre.length).I = x := by rw [rdI]; simp
theorem Index_loop (l : List Int) (hl : l.length ≤ 17592186043904) (v v4 : Int) : ∀ (rest pre : List Int), l = pre ++ rest → ∃ k : Int, M114_1 (l.map .int) v v4 (l.length : Int) (pre.length : Int) = some [.int k] ∧ (k ≥ 0 ↔ v ∈ rest) := by
  intro rest
  induction rest with
  | nil =>
    intro pre h
    rw [List.append_nil] at h
    refine ⟨-1, ?_, by simp⟩
    apply M114_1_of
    rw [h, dF (by omega)]
  | cons x rest ih =>
    intro pre h
    have k1 : l.length = pre.length + (rest.length + 1) := by rw [h, List.length_append, List.length_cons]
    have hx : (rd (l.map Dat.int) pre.length).I = x := by rw [h]; exact at_mid
    by_cases hv : v = x
    · refine ⟨(pre.length : Int), ?_, ⟨fun _ => by rw [hv]; exact List.mem_cons_self, fun _ => by omega⟩⟩
      apply M114_1_of
      rw [dT (by omega), List.length_map, ixT ⟨by omega, by omega⟩, Int.toNat_natCast, hx, eT hv]
    · obtain ⟨k, h1, h2⟩ := ih (pre ++ [x]) (by rw [h, List.append_assoc]; rfl)
      rw [List.length_append, List.length_cons, List.length_nil] at h1
      refine ⟨k, ?_, by rw [h2]; simp [hv]⟩
      apply M114_1_of
      rw [dT (by omega), List.length_map, ixT ⟨by omega, by omega⟩, Int.toNat_natCast, hx, eF hv, upw (n := l.length) (by omega) (by omega)]
      exact h1
theorem Contains_E (l : List Int) (hl : l.length ≤ 17592186043904) (v : Int) : E C 76 [.shr 3 (l.map .int), .int .i64 v] = some [.bool (decide (v ∈ l))] := by
  obtain ⟨k, h1, h2⟩ := Index_loop l hl v 0 l [] rfl
  have e : E C 114 [.shr 3 (l.map .int), .int .i64 v] = some [.int k] := by
    apply o114
    rw [List.length_map]
    exact h1
  apply o76
  rw [bT e]
  simp only [rd0, datI]
  congr 3
  exact decide_eq_decide.2 h2
/-- The first node of a list, from a number on, whose kid a node is. -/
def parF (i : Int) : List Nd → Nat → Int
  | [], _ => -1
  | n :: l, p => if i ∈ n.kids then (p : Int) else parF i l (p + 1)
theorem parF_app (i : Int) : ∀ (a b : List Nd) (p : Nat), (∀ n, n ∈ b → i ∉ n.kids) → parF i (a ++ b) p = parF i a p
  | [], b, p, h => by
    have : ∀ (b : List Nd) (p : Nat), (∀ n, n ∈ b → i ∉ n.kids) → parF i b p = -1 := by
      intro b
      induction b with
      | nil => intro p h; rfl
      | cons n b ih => intro p h; rw [parF, if_neg (h n List.mem_cons_self)]; exact ih _ fun m hm => h m (List.mem_cons_of_mem _ hm)
    exact this b p h
  | n :: a, b, p, h => by
    show (if i ∈ n.kids then (p : Int) else parF i (a ++ b) (p + 1)) = if i ∈ n.kids then (p : Int) else parF i a (p + 1)
    rw [parF_app i a b (p + 1) h]
def parT (t : Tr) (i : Int) : Int := parF i t.ns 0
theorem nd_mid {pre : List Nd} {n : Nd} {rest : List Nd} : rd (nsD (pre ++ n :: rest)) pre.length = nodeD n := by
  rw [nsD_rd (by simp)]
  simp
theorem Laid.kid {t : Tr} (h : Laid t) {p : Nat} (hp : p < t.ns.length) {k : Int} (hk : k ∈ t.ns[p].kids) : ∃ m : Nat, k = (m : Int) ∧ p < m ∧ m < t.ns.length := endK_kids t.ns _ 0 h.all p hp (Nat.zero_le _) hp k hk
theorem Parent_loop {t : Tr} (ht : OkT t) (i : Int) (N : Nat) (hN : N ≤ t.ns.length) (x0 x2 : List Dat) (x1 v4 : Int) : ∀ (rest pre tail : List Nd), t.ns = pre ++ (rest ++ tail) → pre.length + rest.length = N →
    M32_1 x0 x1 x2 i (nsD t.ns) t.groups (t.names.map .str) v4 (N : Int) (pre.length : Int) = some [.int (parF i rest pre.length)] := by
  have hns := ht.ns
  intro rest
  induction rest with
  | nil =>
    intro pre tail h hl
    apply M32_1_of
    rw [dF (by simp only [List.length_nil] at hl; omega)]
    rfl
  | cons n rest ih =>
    intro pre tail h hl
    rw [List.length_cons] at hl
    have hn : OkN n := ht.nd n (by rw [h]; simp)
    have hr : rd (nsD t.ns) pre.length = nodeD n := by rw [h]; exact nd_mid
    apply M32_1_of
    rw [dT (by omega), nsD_len, ixT ⟨by omega, by omega⟩, Int.toNat_natCast, hr, nd9, datL, bT (Contains_E n.kids hn.kids i)]
    simp only [rd0, datB]
    rw [parF]
    by_cases hi : i ∈ n.kids
    · rw [dT hi, if_pos hi]
    · rw [dF hi, if_neg hi, upw (n := t.ns.length) (by omega) (by omega)]
      have := ih (pre ++ [n]) tail (by rw [h, List.append_assoc]; rfl) (by rw [List.length_append, List.length_cons, List.length_nil]; omega)
      rw [List.length_append, List.length_cons, List.length_nil] at this
      exact this
theorem Parent_E {t : Tr} (ht : OkT t) (h : Laid t) (i : Int) : E C 32 [.agg [.shr 57 (nsD t.ns), .int .i64 t.groups, .shr 9 (t.names.map .str)], .int .i64 i] = some [.int (parT t i)] := by
  obtain ⟨N, hN⟩ : ∃ N : Nat, N = min i.toNat t.ns.length := ⟨_, rfl⟩
  apply o32
  rw [nsD_len]
  have e : (if (t.ns.length : Int) < (if 0 > i then 0 else i) then (t.ns.length : Int) else (if 0 > i then 0 else i)) = (N : Int) := by
    split
    · split at * <;> omega
    · split at * <;> omega
  rw [e]
  have hl := Parent_loop ht i N (by omega) (nsD t.ns) (t.names.map .str) t.groups 0 (t.ns.take N) [] (t.ns.drop N) (by simp) (by simp; omega)
  refine hl.trans ?_
  unfold parT
  conv => rhs; rw [← List.take_append_drop N t.ns]
  rw [parF_app]
  · rfl
  · intro n hn hi
    obtain ⟨j, hj, rfl⟩ := List.mem_iff_getElem.1 hn
    rw [List.getElem_drop] at hi
    rw [List.length_drop] at hj
    obtain ⟨m, h1, h2, h3⟩ := h.kid (by omega) hi
    omega
theorem ParentR_in (l : List Dat) (g : Int) (nm : List Dat) (i : Int) (n : Nd) (p : Nat) (hn : n.kids.length ≤ 17592186043904) (hp : p < l.length) (hr : rd l p = nodeD n) (x0 x2 : List Dat) (x1 v4 : Int) {r : Int}
    (hnext : M35_1 x0 x1 x2 i l g nm v4 (IntKind.i64.wrap ((p : Int) + 1)) = some [.int r]) : ∀ (rest pre : List Int), n.kids = pre ++ rest →
    M35_2 x0 x1 x2 i l g nm v4 (p : Int) (pre.length : Int) = some [.int (if i ∈ rest then (p : Int) else r)] := by
  intro rest
  induction rest with
  | nil =>
    intro pre h
    rw [List.append_nil] at h
    apply M35_2_of
    rw [ixT ⟨by omega, by omega⟩, Int.toNat_natCast, hr, nd9, datL, List.length_map, h, dF (by omega), hnext]
    simp
  | cons x rest ih =>
    intro pre h
    have k1 : n.kids.length = pre.length + (rest.length + 1) := by rw [h, List.length_append, List.length_cons]
    have hx : (rd (n.kids.map Dat.int) pre.length).I = x := by rw [h]; exact at_mid
    have hrec := ih (pre ++ [x]) (by rw [h, List.append_assoc]; rfl)
    rw [List.length_append, List.length_cons, List.length_nil] at hrec
    apply M35_2_of
    rw [ixT ⟨by omega, by omega⟩, Int.toNat_natCast, hr, nd9, datL, List.length_map, dT (by omega), dT (by omega), dT (by omega), dT (by omega), ixT ⟨by omega, by omega⟩, Int.toNat_natCast, hx]
    by_cases hv : x = i
    · rw [eT hv, if_pos (by rw [hv]; exact List.mem_cons_self)]
    · rw [eF hv, upw (n := n.kids.length) (by omega) (by omega), hrec]
      have : (i ∈ x :: rest) ↔ i ∈ rest := by rw [List.mem_cons]; exact ⟨fun h => h.resolve_left fun e => hv e.symm, .inr⟩
      simp only [this]
theorem ParentR_loop {t : Tr} (ht : OkT t) (i : Int) (x0 x2 : List Dat) (x1 v4 : Int) : ∀ (rest pre : List Nd), t.ns = pre ++ rest →
    M35_1 x0 x1 x2 i (nsD t.ns) t.groups (t.names.map .str) v4 (pre.length : Int) = some [.int (parF i rest pre.length)] := by
  have hns := ht.ns
  intro rest
  induction rest with
  | nil =>
    intro pre h
    rw [List.append_nil] at h
    apply M35_1_of
    rw [nsD_len, h, dF (by omega)]
    rfl
  | cons n rest ih =>
    intro pre h
    have k1 : t.ns.length = pre.length + (rest.length + 1) := by rw [h, List.length_append, List.length_cons]
    have hn : OkN n := ht.nd n (by rw [h]; simp)
    have hr : rd (nsD t.ns) pre.length = nodeD n := by rw [h]; exact nd_mid
    have hrec := ih (pre ++ [n]) (by rw [h, List.append_assoc]; rfl)
    rw [List.length_append, List.length_cons, List.length_nil] at hrec
    apply M35_1_of
    rw [nsD_len, dT (by omega), parF]
    exact ParentR_in (nsD t.ns) t.groups (t.names.map .str) i n pre.length hn.kids (by rw [nsD_len]; omega) hr x0 x2 x1 v4 (by rw [upw (n := t.ns.length) (by omega) (by omega)]; exact hrec) n.kids [] rfl
theorem ParentR_E {t : Tr} (ht : OkT t) (i : Int) : E C 35 [.agg [.shr 119 (nsD t.ns), .int .i64 t.groups, .shr 9 (t.names.map .str)], .int .i64 i] = some [.int (parT t i)] := by
  apply o35
  exact ParentR_loop ht i _ _ _ _ t.ns [] rfl
/-- A node that is not there has no parent. -/
theorem Laid.noPar {t : Tr} (h : Laid t) {i : Int} (hi : ¬ (0 ≤ i ∧ i < (t.ns.length : Int))) : parT t i = -1 := by
  have := parF_app i [] t.ns 0 fun n hn hk => by
    obtain ⟨j, hj, rfl⟩ := List.mem_iff_getElem.1 hn
    obtain ⟨m, h1, h2, h3⟩ := h.kid hj hk
    omega
  exact this
end Go.Proofs.YtpfnmjpccmobpaaDoor.V
