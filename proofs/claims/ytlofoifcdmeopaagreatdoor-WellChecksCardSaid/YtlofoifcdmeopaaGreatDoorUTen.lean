/- Where a node's part ends; what is within it. -/
import Derived.Test.YtlofoifcdmeopaaGreatDoorUTrk
namespace Go.Proofs.YtlofoifcdmeopaaGreatDoor.V
open Go Go.Ev Go.RowKit
set_option linter.unusedVariables false
set_option linter.unusedSimpArgs false
theorem endK_mono (ns : List Nd) : ∀ (f i : Nat) {e : Nat}, endK ns f i = some e → endK ns (f + 1) i = some e
  | 0, i, e, h => by cases h
  | f + 1, i, e, h => by
    unfold endK at h
    cases hn : ns[i]? with
    | none => rw [hn] at h; cases h
    | some n =>
      rw [hn] at h
      have w : ∀ (ks : List Int) (nx e : Nat), walkK (endK ns f) ks nx = some e → walkK (endK ns (f + 1)) ks nx = some e := by
        intro ks
        induction ks with
        | nil => intro nx e h; exact h
        | cons k ks ih =>
          intro nx e h
          unfold walkK at h ⊢
          split at h
          · cases h
          · rename_i hk
            rw [if_neg hk]
            cases hg : endK ns f nx with
            | none => rw [hg] at h; cases h
            | some m =>
              rw [hg] at h
              rw [endK_mono ns f nx hg]
              exact ih m e h
      show (match ns[i]? with | none => none | some n => walkK (endK ns (f + 1)) n.kids (i + 1)) = some e
      rw [hn]
      exact w n.kids (i + 1) e h
theorem endK_monos (ns : List Nd) {f i e : Nat} (h : endK ns f i = some e) : ∀ g : Nat, endK ns (f + g) i = some e
  | 0 => h
  | g + 1 => endK_mono ns (f + g) i (endK_monos ns h g)
/-- Each node within a part has a part of its own, within it. -/
theorem endK_in (ns : List Nd) : ∀ (f i : Nat) {e : Nat}, endK ns f i = some e → ∀ j : Nat, i ≤ j → j < e → ∃ e', endK ns f j = some e' ∧ e' ≤ e
  | 0, i, e, h => by cases h
  | f + 1, i, e, h => by
    intro j hij hje
    by_cases hji : j = i
    · subst hji
      exact ⟨e, h, Nat.le_refl _⟩
    unfold endK at h
    cases hn : ns[i]? with
    | none => rw [hn] at h; cases h
    | some n =>
      rw [hn] at h
      have w : ∀ (ks : List Int) (nx : Nat), nx ≤ j → walkK (endK ns f) ks nx = some e → ∃ e', endK ns f j = some e' ∧ e' ≤ e := by
        intro ks
        induction ks with
        | nil => intro nx hx h; obtain rfl := Option.some.inj h; omega
        | cons k ks ih =>
          intro nx hx h
          unfold walkK at h
          split at h
          · cases h
          · cases hg : endK ns f nx with
            | none => rw [hg] at h; cases h
            | some m =>
              rw [hg] at h
              by_cases hjm : j < m
              · obtain ⟨e', h1, h2⟩ := endK_in ns f nx hg j hx hjm
                have hme : m ≤ e := walk_le m e ks h
                exact ⟨e', h1, by omega⟩
              · exact ih m (by omega) h
      obtain ⟨e', h1, h2⟩ := w n.kids (i + 1) (by omega) h
      exact ⟨e', endK_mono ns f j h1, h2⟩
where
  walk_le {ns : List Nd} {f : Nat} : ∀ (nx e : Nat) (ks : List Int), walkK (endK ns f) ks nx = some e → nx ≤ e
    | nx, e, [], h => by obtain rfl := Option.some.inj h; exact Nat.le_refl _
    | nx, e, k :: ks, h => by
      unfold walkK at h
      split at h
      · cases h
      · cases hg : endK ns f nx with
        | none => rw [hg] at h; cases h
        | some m =>
          rw [hg] at h
          have h1 := endK_bound ns f nx hg
          have h2 := walk_le m e ks h
          omega
/-- Where a node's part ends, in a right tree. -/
def endT (t : Tr) (i : Nat) : Nat := (endK t.ns (t.ns.length + 1) i).getD 0
structure Laid (t : Tr) : Prop where
  all : endK t.ns (t.ns.length + 1) 0 = some t.ns.length
theorem Laid.at {t : Tr} (h : Laid t) {i : Nat} (hi : i < t.ns.length) : endK t.ns (t.ns.length + 1) i = some (endT t i) := by
  obtain ⟨e, h1, _⟩ := endK_in t.ns _ 0 h.all i (Nat.zero_le _) hi
  unfold endT
  rw [h1]
  rfl
theorem Laid.bound {t : Tr} (h : Laid t) {i : Nat} (hi : i < t.ns.length) : i < endT t i ∧ endT t i ≤ t.ns.length := endK_bound _ _ _ (h.at hi)
/-- The last kid's part ends where the part ends. -/
theorem Laid.last {t : Tr} (h : Laid t) {i : Nat} (hi : i < t.ns.length) : (t.ns[i].kids = [] ∧ endT t i = i + 1) ∨ ∃ m : Nat, t.ns[i].kids.getLast? = some (m : Int) ∧ i < m ∧ m < t.ns.length ∧ endT t m = endT t i := by
  have hg := h.at hi
  have hg0 := hg
  unfold endK at hg
  rw [List.getElem?_eq_getElem hi] at hg
  replace hg : walkK (endK t.ns t.ns.length) t.ns[i].kids (i + 1) = some (endT t i) := hg
  have w : ∀ (ks : List Int) (nx : Nat), ks ≠ [] → i < nx → walkK (endK t.ns t.ns.length) ks nx = some (endT t i) → ∃ m : Nat, ks.getLast? = some (m : Int) ∧ i < m ∧ m < t.ns.length ∧ endT t m = endT t i := by
    intro ks
    induction ks with
    | nil => intro nx hne; exact absurd rfl hne
    | cons k ks ih =>
      intro nx _ hx hw
      unfold walkK at hw
      split at hw
      · cases hw
      · rename_i hk
        cases hg2 : endK t.ns t.ns.length nx with
        | none => rw [hg2] at hw; cases hw
        | some m =>
          rw [hg2] at hw
          have hb := endK_bound _ _ _ hg2
          cases ks with
          | nil =>
            obtain rfl : m = endT t i := Option.some.inj hw
            refine ⟨nx, by rw [show k = (nx : Int) from Classical.byContradiction hk]; rfl, hx, by omega, ?_⟩
            unfold endT
            rw [endK_mono _ _ _ hg2]
            rfl
          | cons k2 ks =>
            rw [List.getLast?_cons_cons]
            exact ih m (by simp) (by omega) hw
  cases hk : t.ns[i].kids with
  | nil =>
    rw [hk] at hg
    exact .inl ⟨rfl, (Option.some.inj hg).symm⟩
  | cons k ks =>
    rw [hk] at hg
    exact .inr (w (k :: ks) (i + 1) (by simp) (by omega) hg)
def insideB (t : Tr) (i o : Int) : Bool := decide (o ≥ 0) && decide (i ≥ o) && decide (i < (if 0 ≤ o ∧ o < (t.ns.length : Int) then (endT t o.toNat : Int) else 0))
end Go.Proofs.YtlofoifcdmeopaaGreatDoor.V
