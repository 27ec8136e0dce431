/- Right trees, as the document has them. -/
import Derived.Test.YtlofoifcdmeopaaGreatDoorUTra
import Derived.Test.YtlofoifcdmeopaaGreatDoorUTrk
namespace Go.Proofs.YtlofoifcdmeopaaGreatDoor.V
open Go Go.Ev Go.RowKit
set_option linter.unusedVariables false
set_option linter.unusedSimpArgs false
/-- May a tree be? -/
def fitsB (ns : List Nd) (n : Nd) (k : Int) : Bool := !decide ((ns.getD k.toNat n).frm < n.frm) && !decide ((ns.getD k.toNat n).to > n.to)
def rightL (t : Tr) : List Nd → Nat → Bool
  | [], g => (g : Int) == t.groups
  | n :: l, g => aloneB n && (n.kids.all (fitsB t.ns n) && (if n.kind = 7 then (n.num == ((g + 1 : Nat) : Int) && (!decide (((g + 1 : Nat) : Int) > t.groups) && ((t.names.getD (g + 1) ByteArray.empty).toList == n.name.toList && rightL t l (g + 1)))) else rightL t l g))
def rightB (t : Tr) : Bool := (endK t.ns (t.ns.length + 1) 0 == some t.ns.length) && (decide (t.names.length ≠ 0) && (((t.names.length : Int) - 1 == t.groups) && (emptyS (t.names.getD 0 ByteArray.empty) && rightL t t.ns 0)))
theorem name_rd {l : List ByteArray} {i : Nat} (h : i < l.length) : (rd (l.map Dat.str) i).S = l.getD i ByteArray.empty := by simp [rd, h, List.getD_eq_getElem?_getD]
theorem kids_loop {t : Tr} (ht : OkT t) (n : Nd) (hn : OkN n) (hk : ∀ k, k ∈ n.kids → ∃ m : Nat, k = (m : Int) ∧ m < t.ns.length) (v2 : Bool) (g : Nat) (v4 : Int) {z : Bool}
    (hz : (bif n.kind == 7 then (bif n.num != (IntKind.i64.wrap ((g : Int) + 1)) then (some [.bool false]) else (bif decide ((IntKind.i64.wrap ((g : Int) + 1)) > t.groups) then (some [.bool false]) else (bif decide (0 ≤ (IntKind.i64.wrap ((g : Int) + 1))) then (bif decide ((IntKind.i64.wrap ((g : Int) + 1)) < ((t.names.map Dat.str).length : Int)) then (bif decide ((IntKind.i64.wrap ((g : Int) + 1)).toNat < (t.names.map Dat.str).length) then (bif !(((rd (t.names.map Dat.str) ((IntKind.i64.wrap ((g : Int) + 1)).toNat)).S).toList == n.name.toList) then (some [.bool false]) else (M21_1 (nsD t.ns) t.groups (t.names.map .str) (nsD t.ns) t.groups (t.names.map .str) v2 (IntKind.i64.wrap ((g : Int) + 1)) (IntKind.i64.wrap (v4 + 1)))) else none) else none) else none))) else (M21_1 (nsD t.ns) t.groups (t.names.map .str) (nsD t.ns) t.groups (t.names.map .str) v2 (g : Int) (IntKind.i64.wrap (v4 + 1))) : R) = some [.bool z]) : ∀ (rest pre : List Int), n.kids = pre ++ rest →
    M21_2 (nsD t.ns) t.groups (t.names.map .str) (nsD t.ns) t.groups (t.names.map .str) v2 (g : Int) v4 n.kind n.frm n.to n.num n.min n.max n.mode n.name (rs n.set) (n.kids.map .int) (pre.length : Int) = some [.bool (rest.all (fitsB t.ns n) && z)] := by
  intro rest
  induction rest with
  | nil =>
    intro pre hx
    rw [List.append_nil] at hx
    apply M21_2_of
    rw [List.length_map, hx, dF (by omega)]
    exact hz
  | cons k rest ih =>
    intro pre hx
    have hkl := hn.kids
    have hlen : n.kids.length = pre.length + (rest.length + 1) := by rw [hx, List.length_append, List.length_cons]
    have hkr : (rd (n.kids.map Dat.int) pre.length).I = k := by rw [hx, rdI]; simp
    have e1 : IntKind.i64.wrap ((pre.length : Int) + 1) = (((pre ++ [k]).length : Nat) : Int) := by rw [w64 (by omega) (by omega), List.length_append]; simp
    obtain ⟨m, rfl, hm⟩ := hk k (by rw [hx]; simp)
    have hrec := ih (pre ++ [(m : Int)]) (by rw [hx, List.append_assoc]; rfl)
    have hd : t.ns.getD m n = t.ns[m] := by simp [List.getD_eq_getElem?_getD, hm]
    apply M21_2_of
    rw [e1, hrec, List.length_map, dT (by omega), ixT ⟨by omega, by omega⟩, Int.toNat_natCast, hkr, nsD_len, ixT ⟨by omega, by omega⟩, Int.toNat_natCast, nsD_rd hm, nd1, nd2, dT (show (0 : Int) ≤ (pre.length : Int) by omega), dT (show (pre.length : Int) < (n.kids.length : Int) by omega), dT (show pre.length < n.kids.length by omega), dT (show (0 : Int) ≤ (m : Int) by omega), dT (show (m : Int) < (t.ns.length : Int) by omega), dT hm, List.all_cons]
    unfold fitsB
    rw [Int.toNat_natCast, hd]
    simp only [datI]
    cases decide (t.ns[m].frm < n.frm) with
    | true => rfl
    | false => cases decide (t.ns[m].to > n.to) <;> rfl
theorem Right_loop {t : Tr} (ht : OkT t) (hnames : (t.names.length : Int) - 1 = t.groups) (hk : ∀ n, n ∈ t.ns → ∀ k, k ∈ n.kids → ∃ m : Nat, k = (m : Int) ∧ m < t.ns.length) (v2 : Bool) : ∀ (rest pre : List Nd) (g : Nat), t.ns = pre ++ rest → g ≤ pre.length →
    M21_1 (nsD t.ns) t.groups (t.names.map .str) (nsD t.ns) t.groups (t.names.map .str) v2 (g : Int) (pre.length : Int) = some [.bool (rightL t rest g)] := by
  have hns := ht.ns
  intro rest
  induction rest with
  | nil =>
    intro pre g hx hg
    rw [List.append_nil] at hx
    apply M21_1_of
    rw [nsD_len, hx, dF (by omega)]
    rfl
  | cons n rest ih =>
    intro pre g hx hg
    have hlen : t.ns.length = pre.length + (rest.length + 1) := by rw [hx, List.length_append, List.length_cons]
    have hn : OkN n := ht.nd n (by rw [hx]; simp)
    have hrd : rd (nsD t.ns) pre.length = nodeD n := by
      rw [nsD_rd (by omega)]
      congr 1
      simp [hx]
    have e1 : IntKind.i64.wrap ((pre.length : Int) + 1) = (((pre ++ [n]).length : Nat) : Int) := by rw [w64 (by omega) (by omega), List.length_append]; simp
    have e2 : IntKind.i64.wrap ((g : Int) + 1) = ((g + 1 : Nat) : Int) := by rw [w64 (by omega) (by omega)]; omega
    apply M21_1_of
    rw [nsD_len, dT (by omega), ixT ⟨by omega, by omega⟩, Int.toNat_natCast, hrd]
    simp only [nd0, nd1, nd2, nd3, nd4, nd5, nd6, nd7, nd8, nd9, datI, datS, datL]
    rw [bT (Alone_E n hn)]
    simp only [rd0, datB]
    unfold rightL
    cases aloneB n with
    | false => rfl
    | true =>
      refine kids_loop ht n hn (hk n (by rw [hx]; simp)) v2 g (pre.length : Int) (z := if n.kind = 7 then (n.num == ((g + 1 : Nat) : Int) && (!decide (((g + 1 : Nat) : Int) > t.groups) && ((t.names.getD (g + 1) ByteArray.empty).toList == n.name.toList && rightL t rest (g + 1)))) else rightL t rest g) ?_ n.kids [] rfl
      rw [e1, e2, List.length_map]
      by_cases h7 : n.kind = 7
      · rw [eT h7, if_pos h7]
        by_cases hnum : n.num = ((g + 1 : Nat) : Int)
        · rw [neF hnum, hnum, beq_self_eq_true]
          by_cases hgr : ((g + 1 : Nat) : Int) > t.groups
          · rw [dT hgr, decide_eq_true hgr]; rfl
          · rw [dF hgr, decide_eq_false hgr, dT (by omega), dT (by omega), dT (by omega), Int.toNat_natCast, name_rd (by omega), ih (pre ++ [n]) (g + 1) (by rw [hx, List.append_assoc]; rfl) (by rw [List.length_append]; simp only [List.length_cons, List.length_nil]; omega)]
            cases ((t.names.getD (g + 1) ByteArray.empty).toList == n.name.toList) <;> rfl
        · rw [neT hnum, beq_eq_false_iff_ne.2 hnum]; rfl
      · rw [eF h7, if_neg h7]
        exact ih (pre ++ [n]) g (by rw [hx, List.append_assoc]; rfl) (by rw [List.length_append]; simp only [List.length_cons, List.length_nil]; omega)
theorem RightR_E {t : Tr} (ht : OkT t) : E C 21 [.agg [.shr 42 (nsD t.ns), .int .i64 t.groups, .shr 9 (t.names.map .str)]] = some [.bool (rightB t)] := by
  have hns := ht.ns
  have hnm := ht.names
  apply o21
  have he0 : E C 57 [.agg [.shr 42 (nsD t.ns), .int .i64 t.groups, .shr 9 (t.names.map .str)], .int .i64 0] = _ := end_E ht (t.ns.length + 1) 0 (by omega) (by omega)
  rw [bT he0, nsD_len, List.length_map]
  simp only [rd0, datI]
  unfold rightB
  by_cases h1 : endK t.ns (t.ns.length + 1) 0 = some t.ns.length
  · rw [h1, neF (by rfl), beq_self_eq_true]
    by_cases h2 : t.names.length = 0
    · rw [eT (by omega), decide_eq_false (show ¬ t.names.length ≠ 0 by omega)]; rfl
    · rw [eF (by omega), decide_eq_true (show t.names.length ≠ 0 from h2), w64 (by omega) (by omega)]
      by_cases h3 : (t.names.length : Int) - 1 = t.groups
      · rw [neF h3, beq_iff_eq.2 h3, dT (by omega), dT (by omega), name_rd (by omega)]
        unfold emptyS
        cases ((t.names.getD 0 ByteArray.empty).toList == ByteArray.empty.toList) with
        | false => rfl
        | true =>
          refine Right_loop ht h3 ?_ false t.ns [] 0 rfl (Nat.le_refl _)
          intro n hn k hk
          obtain ⟨j, hj, rfl⟩ := List.mem_iff_getElem.1 hn
          obtain ⟨m, g1, g2, g3⟩ := endK_kids t.ns _ 0 h1 j hj (Nat.zero_le _) hj k hk
          exact ⟨m, g1, g3⟩
      · rw [neT h3, beq_eq_false_iff_ne.2 h3]; rfl
  · have hne : optI (endK t.ns (t.ns.length + 1) 0) ≠ (t.ns.length : Int) := by
      cases he : endK t.ns (t.ns.length + 1) 0 with
      | none => show (-1 : Int) ≠ _; omega
      | some e =>
        rw [he] at h1
        show (e : Int) ≠ _
        intro hh
        exact h1 (by rw [show e = t.ns.length by omega])
    rw [neT hne, beq_eq_false_iff_ne.2 h1]
    rfl
end Go.Proofs.YtlofoifcdmeopaaGreatDoor.V
