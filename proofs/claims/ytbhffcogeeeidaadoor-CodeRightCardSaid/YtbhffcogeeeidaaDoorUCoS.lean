/- CodeRight: what the reference's barred answers. -/
import Derived.Test.YtbhffcogeeeidaaDoorUCoQ
namespace Go.Proofs.YtbhffcogeeeidaaDoor.V
open Go Go.Ev Go.RowKit
set_option linter.unusedVariables false
set_option linter.unusedSimpArgs false
def unS (l : List Bool) : Nat := (l.filter fun b => !b).length
theorem unS_set : ∀ (l : List Bool) (k : Nat), k < l.length → l.getD k false = false → unS (l.set k true) + 1 = unS l
  | [], k, h, _ => by simp at h
  | b :: l, 0, _, h => by
    have hb : b = false := h
    subst hb
    rfl
  | b :: l, k + 1, h, h' => by
    have := unS_set l k (by rw [List.length_cons] at h; omega) h'
    unfold unS at this ⊢
    rw [List.set_cons_succ]
    cases b
    · rw [List.filter_cons_of_pos rfl, List.filter_cons_of_pos rfl, List.length_cons, List.length_cons, this]
    · rw [List.filter_cons_of_neg (by simp), List.filter_cons_of_neg (by simp)]
      exact this
theorem leads_0 (a : Int) (i : Ins) (n : Int) : leadsL a i n = (leadsL a i 0).map fun l => (l.1, n + l.2) := by
  unfold leadsL
  repeat' split
  all_goals simp [Int.sub_eq_add_neg]
/-- What is known of an instruction of a program that may be. -/
structure OkI (is : List Ins) : Prop where
  op : ∀ k (h : k < is.length), 1 ≤ is[k].op ∧ is[k].op ≤ 19
  ld : ∀ (a : Nat) (h : a < is.length) (n : Int), ∀ l, l ∈ leadsL (a : Int) is[a] n → 0 ≤ l.1 ∧ l.1 < (is.length : Int)
  x : ∀ k (h : k < is.length), is[k].op = 4 ∨ is[k].op = 5 ∨ is[k].op = 13 → (is[k].x ≥ 0 ↔ is[k].x ≠ -1)
  few : is.length ≤ 1000000
/-- The two rows of a sweep: barriers, and what has been come to. -/
structure BS (is : List Ins) (bars : List Int) (seen : List Bool) : Prop where
  lb : bars.length = is.length
  ls : seen.length = is.length
  s0 : seen.getD 0 false = true
  b0 : bars.getD 0 0 = 0
  dv : ∀ k : Nat, seen.getD k false = true → Dv is (k : Int) (bars.getD k 0)
  bd : ∀ k : Nat, seen.getD k false = true → -(is.length : Int) + unS seen ≤ bars.getD k 0 ∧ bars.getD k 0 ≤ (is.length : Int) - unS seen
/-- All that has been come to below k leads on only to what has been come to. -/
def Clo (is : List Ins) (bars : List Int) (seen : List Bool) (k : Nat) : Prop :=
  ∀ a (h : a < is.length), a < k → seen.getD a false = true → Ev.barredB is[a] (bars.getD a 0) = true ∧ ∀ l, l ∈ leadsL (a : Int) is[a] (bars.getD a 0) → seen.getD l.1.toNat false = true ∧ bars.getD l.1.toNat 0 = l.2
theorem good_of_clo {is : List Ins} {bars : List Int} {seen : List Bool} (hI : OkI is) (h : BS is bars seen) (hn : 0 < is.length) (hc : Clo is bars seen is.length) : GoodB is := by
  have all : ∀ a n, Dv is a n → 0 ≤ a ∧ a < (is.length : Int) ∧ seen.getD a.toNat false = true ∧ bars.getD a.toNat 0 = n := by
    intro a n hd
    induction hd with
    | zero => exact ⟨by omega, by omega, h.s0, h.b0⟩
    | @step a n i l hd ha hi hl ih =>
      obtain ⟨h0, h1, h2, h3⟩ := ih
      obtain ⟨k, rfl⟩ : ∃ k : Nat, a = (k : Int) := ⟨a.toNat, by omega⟩
      rw [Int.toNat_natCast] at hi h2 h3
      obtain ⟨hk, hi⟩ := List.getElem?_eq_some_iff.1 hi
      have := hc k hk hk h2
      rw [hi, h3] at this
      have hr := hI.ld k hk n l (by rw [hi]; exact hl)
      exact ⟨hr.1, hr.2, this.2 l hl⟩
  refine ⟨fun a n i hd ha hi => ?_, fun a n n' hd hd' => by rw [← (all a n hd).2.2.2, ← (all a n' hd').2.2.2]⟩
  obtain ⟨h0, h1, h2, h3⟩ := all a n hd
  obtain ⟨k, rfl⟩ : ∃ k : Nat, a = (k : Int) := ⟨a.toNat, by omega⟩
  rw [Int.toNat_natCast] at hi h2 h3
  obtain ⟨hk, hi⟩ := List.getElem?_eq_some_iff.1 hi
  have := (hc k hk hk h2).1
  rw [hi, h3] at this
  exact this
theorem getD_set {α : Type} (l : List α) (k j : Nat) (x d : α) (hk : k < l.length) : (l.set k x).getD j d = if k = j then x else l.getD j d := by
  rw [List.getD_eq_getElem?_getD, List.getD_eq_getElem?_getD, List.getElem?_set]
  by_cases h : k = j
  · rw [if_pos h, if_pos h, if_pos (by omega)]
    rfl
  · rw [if_neg h, if_neg h]
/-- A place that is come to for the first time. -/
theorem BS.new {is : List Ins} {bars : List Int} {seen : List Bool} (h : BS is bars seen) {t : Nat} {v : Int} (ht : t < is.length) (hs : seen.getD t false = false) (hd : Dv is (t : Int) v) (hv : -(is.length : Int) + unS seen - 1 ≤ v ∧ v ≤ (is.length : Int) - unS seen + 1) : BS is (bars.set t v) (seen.set t true) := by
  have hu := unS_set seen t (by rw [h.ls]; exact ht) hs
  have e1 := fun j => getD_set bars t j v 0 (by rw [h.lb]; exact ht)
  have e2 := fun j => getD_set seen t j true false (by rw [h.ls]; exact ht)
  have ht0 : t ≠ 0 := fun e => by rw [e, h.s0] at hs; cases hs
  refine ⟨by rw [List.length_set]; exact h.lb, by rw [List.length_set]; exact h.ls, ?_, ?_, fun k hk => ?_, fun k hk => ?_⟩
  · rw [e2, if_neg ht0]; exact h.s0
  · rw [e1, if_neg ht0]; exact h.b0
  · rw [e2] at hk
    rw [e1]
    by_cases e : t = k
    · rw [if_pos e, ← e]; exact hd
    · rw [if_neg e] at hk ⊢; exact h.dv k hk
  · rw [e2] at hk
    rw [e1]
    by_cases e : t = k
    · rw [if_pos e]; omega
    · rw [if_neg e] at hk ⊢
      have := h.bd k hk
      omega
end Go.Proofs.YtbhffcogeeeidaaDoor.V
