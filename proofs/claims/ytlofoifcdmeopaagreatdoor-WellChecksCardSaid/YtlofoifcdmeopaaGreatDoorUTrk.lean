/- Where the parts of trees end. -/
import Derived.Test.YtlofoifcdmeopaaGreatDoorUTre
import Derived.Test.YtlofoifcdmeopaaGreatDoorVTT6
namespace Go.Proofs.YtlofoifcdmeopaaGreatDoor.V
open Go Go.Ev Go.RowKit
set_option linter.unusedVariables false
set_option linter.unusedSimpArgs false
/-- Where a node's part ends, if it is laid as it must be. -/
def walkK (g : Nat → Option Nat) : List Int → Nat → Option Nat
  | [], nx => some nx
  | k :: ks, nx => if k ≠ (nx : Int) then none else match g nx with
    | none => none
    | some m => walkK g ks m
def endK (ns : List Nd) : Nat → Nat → Option Nat
  | 0, _ => none
  | f + 1, i => match ns[i]? with
    | none => none
    | some n => walkK (endK ns f) n.kids (i + 1)
def optI : Option Nat → Int
  | none => -1
  | some e => (e : Int)
theorem endK_bound (ns : List Nd) : ∀ (f i : Nat) {e : Nat}, endK ns f i = some e → i < e ∧ e ≤ ns.length
  | 0, i, e, h => by cases h
  | f + 1, i, e, h => by
    unfold endK at h
    cases hn : ns[i]? with
    | none => rw [hn] at h; cases h
    | some n =>
      rw [hn] at h
      have hi : i < ns.length := (List.getElem?_eq_some_iff.1 hn).1
      have w : ∀ (ks : List Int) (nx e : Nat), nx ≤ ns.length → walkK (endK ns f) ks nx = some e → nx ≤ e ∧ e ≤ ns.length := by
        intro ks
        induction ks with
        | nil => intro nx e hx he; obtain rfl := Option.some.inj he; exact ⟨Nat.le_refl _, hx⟩
        | cons k ks ih =>
          intro nx e hx he
          unfold walkK at he
          split at he
          · cases he
          · cases hg : endK ns f nx with
            | none => rw [hg] at he; cases he
            | some m =>
              rw [hg] at he
              have h1 := endK_bound ns f nx hg
              have h2 := ih m e h1.2 he
              exact ⟨by omega, h2.2⟩
      have := w n.kids (i + 1) e (by omega) h
      omega
/-- All kids of a part stand within it, behind their parents. -/
theorem endK_kids (ns : List Nd) : ∀ (f i : Nat) {e : Nat}, endK ns f i = some e → ∀ (j : Nat) (hj : j < ns.length), i ≤ j → j < e → ∀ k, k ∈ (ns[j]).kids → ∃ m : Nat, k = (m : Int) ∧ j < m ∧ m < e
  | 0, i, e, h => by cases h
  | f + 1, i, e, h => by
    have hb := endK_bound ns (f + 1) i h
    unfold endK at h
    cases hn : ns[i]? with
    | none => rw [hn] at h; cases h
    | some n =>
      rw [hn] at h
      obtain ⟨hi, hni⟩ := List.getElem?_eq_some_iff.1 hn
      have w : ∀ (ks : List Int) (nx e : Nat), i < nx → walkK (endK ns f) ks nx = some e → nx ≤ e ∧ (∀ k, k ∈ ks → ∃ m : Nat, k = (m : Int) ∧ i < m ∧ m < e) ∧ ∀ (j : Nat) (hj : j < ns.length), nx ≤ j → j < e → ∀ k, k ∈ (ns[j]).kids → ∃ m : Nat, k = (m : Int) ∧ j < m ∧ m < e := by
        intro ks
        induction ks with
        | nil =>
          intro nx e hx he
          obtain rfl := Option.some.inj he
          exact ⟨Nat.le_refl _, fun k hk => (by cases hk), fun j hj h1 h2 => absurd h1 (by omega)⟩
        | cons k0 ks ih =>
          intro nx e hx he
          unfold walkK at he
          split at he
          · cases he
          · rename_i hk0
            cases hg : endK ns f nx with
            | none => rw [hg] at he; cases he
            | some m =>
              rw [hg] at he
              have h1 := endK_bound ns f nx hg
              obtain ⟨h2, h3, h4⟩ := ih m e (by omega) he
              refine ⟨by omega, fun k hk => ?_, fun j hj h5 h6 k hk => ?_⟩
              · rw [List.mem_cons] at hk
                cases hk with
                | inl hk => exact ⟨nx, by rw [hk]; exact Classical.byContradiction hk0, by omega, by omega⟩
                | inr hk => exact h3 k hk
              · by_cases h7 : j < m
                · obtain ⟨q, g1, g2, g3⟩ := endK_kids ns f nx hg j hj h5 h7 k hk
                  exact ⟨q, g1, g2, by omega⟩
                · exact h4 j hj (by omega) h6 k hk
      obtain ⟨w1, w2, w3⟩ := w n.kids (i + 1) e (by omega) h
      intro j hj h1 h2 k hk
      by_cases hji : j = i
      · subst hji
        rw [hni] at hk
        exact w2 k hk
      · exact w3 j hj (by omega) h2 k hk
theorem kid_rd {l : List Int} {i : Nat} (h : i < l.length) : (rd (l.map Dat.int) i).I = l[i] := by rw [rdI]; simp [List.getD_eq_getElem?_getD, h]
theorem end_E {t : Tr} (ht : OkT t) : ∀ (f i : Nat), t.ns.length < f + i → i ≤ t.ns.length + 5 → E C 57 [.agg [.shr 42 (nsD t.ns), .int .i64 t.groups, .shr 9 (t.names.map .str)], .int .i64 (i : Int)] = some [.int (optI (endK t.ns f i))] := by
  intro f
  have hns := ht.ns
  induction f with
  | zero =>
    intro i h1 h2
    apply o57
    rw [nsD_len, dT (by omega)]
    rfl
  | succ f ih =>
    intro i h1 h2
    apply o57
    rw [nsD_len]
    unfold endK
    by_cases hi : i < t.ns.length
    · rw [dF (by omega), List.getElem?_eq_getElem hi]
      have hok := ht.nd t.ns[i] (List.getElem_mem hi)
      have hkl := hok.kids
      have loop : ∀ (rest pre : List Int) (nx : Nat), t.ns[i].kids = pre ++ rest → i < nx → nx ≤ t.ns.length + 1 → M57_1 (nsD t.ns) t.groups (t.names.map .str) (i : Int) (nsD t.ns) t.groups (t.names.map .str) 0 (nx : Int) (pre.length : Int) = some [.int (optI (walkK (endK t.ns f) rest nx))] := by
        intro rest
        induction rest with
        | nil =>
          intro pre nx hx h3 h4
          rw [List.append_nil] at hx
          apply M57_1_of
          rw [nsD_len, ixT ⟨by omega, by omega⟩, Int.toNat_natCast, nsD_rd hi, nd9, datL, List.length_map, hx, dF (by omega)]
          rfl
        | cons k rest ihr =>
          intro pre nx hx h3 h4
          have hlen : t.ns[i].kids.length = pre.length + (rest.length + 1) := by rw [hx, List.length_append, List.length_cons]
          have hk : (rd (t.ns[i].kids.map Dat.int) pre.length).I = k := by rw [hx, rdI]; simp
          have e1 : IntKind.i64.wrap ((pre.length : Int) + 1) = (((pre ++ [k]).length : Nat) : Int) := by rw [w64 (by omega) (by omega), List.length_append]; simp
          apply M57_1_of
          rw [nsD_len, ixT ⟨by omega, by omega⟩, Int.toNat_natCast, nsD_rd hi, nd9, datL, List.length_map, dT (by omega), dT (by omega), dT (by omega), dT (by omega), ixT ⟨by omega, by omega⟩, Int.toNat_natCast, hk, e1]
          unfold walkK
          by_cases hkn : k = (nx : Int)
          · rw [neF hkn, if_neg (by simpa using hkn), bT (ih nx (by omega) (by omega))]
            simp only [rd0, datI]
            cases hg : endK t.ns f nx with
            | none => rw [dT (by show (-1 : Int) < 0; omega)]; rfl
            | some m =>
              have hb := endK_bound t.ns f nx hg
              rw [dF (by show ¬ (m : Int) < 0; omega)]
              exact ihr (pre ++ [k]) m (by rw [hx, List.append_assoc]; rfl) (by omega) (by omega)
          · rw [neT hkn, if_pos hkn]
            rfl
      rw [w64 (by omega) (by omega), show ((i : Int) + 1) = ((i + 1 : Nat) : Int) by omega]
      exact loop t.ns[i].kids [] (i + 1) rfl (by omega) (by omega)
    · rw [dT (by omega), List.getElem?_eq_none (by omega)]
      rfl
end Go.Proofs.YtlofoifcdmeopaaGreatDoor.V
