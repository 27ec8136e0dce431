/- The law's own copy of a tree, as the document has it. -/
import Derived.Test.YtlofoifcdmeopaaGreatDoorUTre
import Derived.Test.YtlofoifcdmeopaaGreatDoorVTOf
namespace Go.Proofs.YtlofoifcdmeopaaGreatDoor.V
open Go Go.Ev Go.RowKit
set_option linter.unusedVariables false
set_option linter.unusedSimpArgs false
theorem cap16c : capB 16 = 8796093022208 := by decide
theorem cap120c : capB 120 = 1172812402961 := by decide
theorem of_2 (a0 a2 b0 b2 c0 c2 acc : List Dat) (a1 b1 c1 : Int) (n : Nd) (hn : OkN n) (hacc : acc.length < 1172812402940) (v10 : List Dat) (v11 v12 : Int) {r : List Dat}
    (hnext : M37_1 a0 a1 a2 b0 b1 b2 c0 c1 c2 (acc ++ [nodeD n]) v10 v11 (IntKind.i64.wrap (v12 + 1)) = some r) : ∀ (rest pre : List (Int × Int)), n.set = pre ++ rest →
    M37_2 a0 a1 a2 b0 b1 b2 c0 c1 c2 acc n.kind n.frm n.to n.num n.min n.max n.mode n.name (rs n.set) (n.kids.map .int) n.kind n.frm n.to n.num n.min n.max n.mode n.name (rs pre) (n.kids.map .int) v10 v11 v12 (rs n.set) (n.set.length : Int) (pre.length : Int) = some r := by
  intro rest
  induction rest with
  | nil =>
    intro pre hx
    rw [List.append_nil] at hx
    apply M37_2_of
    rw [hx, dF (by omega), cap120c, dT (by simp only [List.length_cons, List.length_nil]; omega), ← hx]
    exact hnext
  | cons p rest ih =>
    intro pre hx
    have hs := hn.set
    have hlen : n.set.length = pre.length + (rest.length + 1) := by rw [hx, List.length_append, List.length_cons]
    have hp : rd (rs n.set) pre.length = .agg [.int p.1, .int p.2] := by
      rw [hx, rs_rd _ _ (by simp)]
      simp
    have e1 : IntKind.i64.wrap ((pre.length : Int) + 1) = (((pre ++ [p]).length : Nat) : Int) := by rw [w64 (by omega) (by omega), List.length_append]; simp
    have e2 : rs pre ++ [Dat.agg [.int p.1, .int p.2]] = rs (pre ++ [p]) := by simp [rs, prs]
    apply M37_2_of
    rw [dT (by omega), rs_len, ixT ⟨by omega, by omega⟩, Int.toNat_natCast, hp, rs_len, cap16c, dT (by simp only [List.length_cons, List.length_nil]; omega), e1]
    simp only [aggC0, aggC1, datI]
    rw [e2]
    exact ih (pre ++ [p]) (by rw [hx, List.append_assoc]; rfl)
theorem of_1 {t : Tr} (ht : OkT t) (a0 a2 c0 c2 : List Dat) (a1 c1 : Int) (b0 : List Dat) : ∀ (rest pre : List Nd), t.ns = pre ++ rest →
    M37_1 a0 a1 a2 b0 t.groups (t.names.map .str) c0 c1 c2 (nsD pre) (nsD t.ns) (t.ns.length : Int) (pre.length : Int) = some [treeD t] := by
  have hns := ht.ns
  intro rest
  induction rest with
  | nil =>
    intro pre hx
    rw [List.append_nil] at hx
    apply M37_1_of
    rw [hx, dF (by omega), ← hx]
    rfl
  | cons n rest ih =>
    intro pre hx
    have hlen : t.ns.length = pre.length + (rest.length + 1) := by rw [hx, List.length_append, List.length_cons]
    have hn : OkN n := ht.nd n (by rw [hx]; simp)
    have hrd : rd (nsD t.ns) pre.length = nodeD n := by
      rw [nsD_rd (by omega)]
      congr 1
      simp [hx]
    have e1 : IntKind.i64.wrap ((pre.length : Int) + 1) = (((pre ++ [n]).length : Nat) : Int) := by rw [w64 (by omega) (by omega), List.length_append]; simp
    apply M37_1_of
    rw [dT (by omega), nsD_len, ixT ⟨by omega, by omega⟩, Int.toNat_natCast, hrd]
    simp only [nd0, nd1, nd2, nd3, nd4, nd5, nd6, nd7, nd8, nd9, datI, datS, datL]
    rw [rs_len]
    refine of_2 a0 a2 b0 (t.names.map .str) c0 c2 (nsD pre) a1 t.groups c1 n hn (by rw [nsD_len]; omega) (nsD t.ns) (t.ns.length : Int) (pre.length : Int) ?_ n.set [] rfl
    rw [nsD_append, e1]
    exact ih (pre ++ [n]) (by rw [hx, List.append_assoc]; rfl)
theorem of_E {t : Tr} (ht : OkT t) : E C 37 [.agg [.shr 38 (nsD t.ns), .int .i64 t.groups, .shr 9 (t.names.map .str)]] = some [treeD t] := by
  apply o37
  rw [nsD_len]
  exact of_1 ht (nsD t.ns) (t.names.map .str) [] [] t.groups 0 (nsD t.ns) t.ns [] rfl
end Go.Proofs.YtlofoifcdmeopaaGreatDoor.V
