/- Where a node's part ends; what is within it. -/
import Derived.Test.YtpfnmjpccmobpaaDoorUTrk
import Derived.Test.YtpfnmjpccmobpaaDoorVUAs
namespace Go.Proofs.YtpfnmjpccmobpaaDoor.V
open Go Go.Ev Go.RowKit
set_option linter.unusedVariables false
set_option linter.unusedSimpArgs false
theorem endK_mono (ns : List Nd) : ∀ (f i : Nat) {e : Nat}, endK ns f i = some e → endK ns (f + 1) i = some e
  | 0, i, e, h => by cases h
  | f + 1, i, e, h => by
    unfold endK at h
    cases hn : ns[i]? with
    | none => rw [hn] at h; cases h
    | some n =>
      rw [hn] at h
      have w : ∀ (ks : List Int) (nx e : Nat), walkK (endK ns f) ks nx = some e → walkK (endK ns (f + 1)) ks nx = some e := by
        intro ks
        induction ks with
        | nil => intro nx e h; exact h
        | cons k ks ih =>
          intro nx e h
          unfold walkK at h ⊢
          split at h
          · cases h
          · rename_i hk
            rw [if_neg hk]
            cases hg : endK ns f nx with
            | none => rw [hg] at h; cases h
            | some m =>
              rw [hg] at h
              rw [endK_mono ns f nx hg]
              exact ih m e h
      show (match ns[i]? with | none => none | some n => walkK (endK ns (f + 1)) n.kids (i + 1)) = some e
      rw [hn]
      exact w n.kids (i + 1) e h
theorem endK_monos (ns : List Nd) {f i e : Nat} (h : endK ns f i = some e) : ∀ g : Nat, endK ns (f + g) i = some e
  | 0 => h
  | g + 1 => endK_mono ns (f + g) i (endK_monos ns h g)
/-- Each node within a part has a part of its own, within it. -/
theorem endK_in (ns : List Nd) : ∀ (f i : Nat) {e : Nat}, endK ns f i = some e → ∀ j : Nat, i ≤ j → j < e → ∃ e', endK ns f j = some e' ∧ e' ≤ e
  | 0, i, e, h => by cases h
  | f + 1, i, e, h => by
    intro j hij hje
    by_cases hji : j = i
    · subst hji
      exact ⟨e, h, Nat.le_refl _⟩
    unfold endK at h
    cases hn : ns[i]? with
    | none => rw [hn] at h; cases h
    | some n =>
      rw [hn] at h
      have w : ∀ (ks : List Int) (nx : Nat), nx ≤ j → walkK (endK ns f) ks nx = some e → ∃ e', endK ns f j = some e' ∧ e' ≤ e := by
        intro ks
        induction ks with
        | nil => intro nx hx h; obtain rfl := Option.some.inj h; omega
        | cons k ks ih =>
          intro nx hx h
          unfold walkK at h
          split at h
          · cases h
          · cases hg : endK ns f nx with
            | none => rw [hg] at h; cases h
            | some m =>
              rw [hg] at h
              by_cases hjm : j < m
              · obtain ⟨e', h1, h2⟩ := endK_in ns f nx hg j hx hjm
                have hme : m ≤ e := walk_le m e ks h
                exact ⟨e', h1, by omega⟩
              · exact ih m (by omega) h
      obtain ⟨e', h1, h2⟩ := w n.kids (i + 1) (by omega) h
      exact ⟨e', endK_mono ns f j h1, h2⟩
where
  walk_le {ns : List Nd} {f : Nat} : ∀ (nx e : Nat) (ks : List Int), walkK (endK ns f) ks nx = some e → nx ≤ e
    | nx, e, [], h => by obtain rfl := Option.some.inj h; exact Nat.le_refl _
    | nx, e, k :: ks, h => by
      unfold walkK at h
      split at h
      · cases h
      · cases hg : endK ns f nx with
        | none => rw [hg] at h; cases h
        | some m =>
          rw [hg] at h
          have h1 := endK_bound ns f nx hg
          have h2 := walk_le m e ks h
          omega
/-- Where a node's part ends, in a right tree. -/
def endT (t : Tr) (i : Nat) : Nat := (endK t.ns (t.ns.length + 1) i).getD 0
structure Laid (t : Tr) : Prop where
  all : endK t.ns (t.ns.length + 1) 0 = some t.ns.length
theorem Laid.at {t : Tr} (h : Laid t) {i : Nat} (hi : i < t.ns.length) : endK t.ns (t.ns.length + 1) i = some (endT t i) := by
  obtain ⟨e, h1, _⟩ := endK_in t.ns _ 0 h.all i (Nat.zero_le _) hi
  unfold endT
  rw [h1]
  rfl
theorem Laid.bound {t : Tr} (h : Laid t) {i : Nat} (hi : i < t.ns.length) : i < endT t i ∧ endT t i ≤ t.ns.length := endK_bound _ _ _ (h.at hi)
/-- The last kid's part ends where the part ends. -/
theorem Laid.last {t : Tr} (h : Laid t) {i : Nat} (hi : i < t.ns.length) : (t.ns[i].kids = [] ∧ endT t i = i + 1) ∨ ∃ m : Nat, t.ns[i].kids.getLast? = some (m : Int) ∧ i < m ∧ m < t.ns.length ∧ endT t m = endT t i := by
  have hg := h.at hi
  have hg0 := hg
  unfold endK at hg
  rw [List.getElem?_eq_getElem hi] at hg
  replace hg : walkK (endK t.ns t.ns.length) t.ns[i].kids (i + 1) = some (endT t i) := hg
  have w : ∀ (ks : List Int) (nx : Nat), ks ≠ [] → i < nx → walkK (endK t.ns t.ns.length) ks nx = some (endT t i) → ∃ m : Nat, ks.getLast? = some (m : Int) ∧ i < m ∧ m < t.ns.length ∧ endT t m = endT t i := by
    intro ks
    induction ks with
    | nil => intro nx hne; exact absurd rfl hne
    | cons k ks ih =>
      intro nx _ hx hw
      unfold walkK at hw
      split at hw
      · cases hw
      · rename_i hk
        cases hg2 : endK t.ns t.ns.length nx with
        | none => rw [hg2] at hw; cases hw
        | some m =>
          rw [hg2] at hw
          have hb := endK_bound _ _ _ hg2
          cases ks with
          | nil =>
            obtain rfl : m = endT t i := Option.some.inj hw
            refine ⟨nx, by rw [show k = (nx : Int) from Classical.byContradiction hk]; rfl, hx, by omega, ?_⟩
            unfold endT
            rw [endK_mono _ _ _ hg2]
            rfl
          | cons k2 ks =>
            rw [List.getLast?_cons_cons]
            exact ih m (by simp) (by omega) hw
  cases hk : t.ns[i].kids with
  | nil =>
    rw [hk] at hg
    exact .inl ⟨rfl, (Option.some.inj hg).symm⟩
  | cons k ks =>
    rw [hk] at hg
    exact .inr (w (k :: ks) (i + 1) (by simp) (by omega) hg)
theorem end_loop {t : Tr} (ht : OkT t) (h : Laid t) : ∀ (d i : Nat), t.ns.length - i ≤ d → (hi : i < t.ns.length) → ∀ (a0 a2 : List Dat) (a1 : Int), M31_1 a0 a1 a2 (i : Int) (nsD t.ns) t.groups (t.names.map .str) 0 = some [.int (endT t i : Int)] := by
  intro d
  have hns := ht.ns
  induction d with
  | zero => intro i hd hi; omega
  | succ d ih =>
    intro i hd hi a0 a2 a1
    have hkl := (ht.nd t.ns[i] (List.getElem_mem hi)).kids
    apply M31_1_of
    rw [nsD_len, ixT ⟨by omega, by omega⟩, Int.toNat_natCast, nsD_rd hi, nd9, datL, List.length_map]
    rcases h.last hi with ⟨h1, h2⟩ | ⟨m, h1, h2, h3, h4⟩
    · rw [h1, dF (by simp), h2, w64 (by omega) (by omega)]
      rfl
    · have hne : t.ns[i].kids ≠ [] := fun e => by rw [e] at h1; cases h1
      have hpos : 0 < t.ns[i].kids.length := List.length_pos_iff.2 hne
      have hlast : (rd (t.ns[i].kids.map Dat.int) (t.ns[i].kids.length - 1)).I = (m : Int) := by
        rw [List.getLast?_eq_getElem?] at h1
        rw [rdI]
        simp [List.getD_eq_getElem?_getD, h1]
      have e1 : IntKind.i64.wrap ((t.ns[i].kids.length : Int) - 1) = ((t.ns[i].kids.length - 1 : Nat) : Int) := by rw [w64 (by omega) (by omega)]; omega
      rw [dT (by omega), dT (by omega), dT (by omega), dT hi, e1, ixT ⟨by omega, by omega⟩, Int.toNat_natCast, hlast, ← h4]
      exact ih m (by omega) h3 a0 a2 a1
theorem End_E {t : Tr} (ht : OkT t) (h : Laid t) (i : Int) : E C 31 [.agg [.shr 57 (nsD t.ns), .int .i64 t.groups, .shr 9 (t.names.map .str)], .int .i64 i] = some [.int (if 0 ≤ i ∧ i < (t.ns.length : Int) then (endT t i.toNat : Int) else 0)] := by
  apply o31
  rw [nsD_len]
  by_cases h1 : i < 0
  · rw [dT h1, if_neg (by omega)]
  rw [dF h1]
  by_cases h2 : i ≥ (t.ns.length : Int)
  · rw [dT h2, if_neg (by omega)]
  · rw [dF h2, if_pos ⟨by omega, by omega⟩]
    have := end_loop ht h (t.ns.length) i.toNat (by omega) (by omega) (nsD t.ns) (t.names.map .str) t.groups
    rw [show ((i.toNat : Nat) : Int) = i by omega] at this
    exact this
theorem EndR_E {t : Tr} (ht : OkT t) (h : Laid t) {i : Nat} (hi : i < t.ns.length) : E C 34 [.agg [.shr 119 (nsD t.ns), .int .i64 t.groups, .shr 9 (t.names.map .str)], .int .i64 (i : Int)] = some [.int (endT t i : Int)] := by
  apply o34
  rw [bT (end_E ht (t.ns.length + 1) i (by omega) (by omega)), h.at hi]
  rfl
def insideB (t : Tr) (i o : Int) : Bool := decide (o ≥ 0) && decide (i ≥ o) && decide (i < (if 0 ≤ o ∧ o < (t.ns.length : Int) then (endT t o.toNat : Int) else 0))
theorem Inside_E {t : Tr} (ht : OkT t) (h : Laid t) (i o : Int) : E C 33 [.agg [.shr 57 (nsD t.ns), .int .i64 t.groups, .shr 9 (t.names.map .str)], .int .i64 i, .int .i64 o] = some [.bool (insideB t i o)] := by
  apply o33
  unfold insideB
  cases decide (o ≥ 0) with
  | false => rfl
  | true =>
    cases decide (i ≥ o) with
    | false => rfl
    | true =>
      rw [cond_true, cond_true, bT (End_E ht h o)]
      rfl
end Go.Proofs.YtpfnmjpccmobpaaDoor.V
