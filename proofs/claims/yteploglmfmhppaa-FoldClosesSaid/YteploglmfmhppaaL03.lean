/- Chapter 03 in plain Lean: orbits, as the code and as the document has them. -/
import Derived.Test.YteploglmfmhppaaL00
import Derived.Test.YteploglmfmhppaaPx10
import Derived.Test.YteploglmfmhppaaPx11
import Derived.Test.YteploglmfmhppaaPx12
namespace Go.Proofs.Yteploglmfmhppaa.P
open Go.RowKit Go.Proofs.YteploglmfmhppaaW.PrintWords Go.Proofs.YteploglmfmhppaaW.PrintLast Go.Proofs.YteploglmfmhppaaW.PrintMore
set_option linter.unusedVariables false
set_option linter.unusedSimpArgs false

/-! ### sorted lists -/
theorem sortI_perm (l : List Int) : (sortI l).Perm l := List.mergeSort_perm _ _
theorem sortI_sorted (l : List Int) : (sortI l).Pairwise (· ≤ ·) := by
  have h : (sortI l).Pairwise (fun x y => decide (x ≤ y) = true) := by
    refine List.pairwise_mergeSort (le := fun x y : Int => decide (x ≤ y)) ?_ ?_ l
    · intro a b c h1 h2
      rw [decide_eq_true_eq] at *
      omega
    · intro a b
      rw [Bool.or_eq_true, decide_eq_true_eq, decide_eq_true_eq]
      omega
  exact h.imp fun hab => of_decide_eq_true hab
theorem sorted_unique {a b : List Int} (h : a.Perm b) (ha : a.Pairwise (· ≤ ·)) (hb : b.Pairwise (· ≤ ·)) : a = b :=
  List.Perm.eq_of_pairwise (fun x y _ _ h1 h2 => Int.le_antisymm h1 h2) ha hb h
theorem sortI_eq {a b : List Int} (h : a.Perm b) : sortI a = sortI b := sorted_unique ((sortI_perm a).trans (h.trans (sortI_perm b).symm)) (sortI_sorted a) (sortI_sorted b)
theorem sortI_of_sorted {a b : List Int} (h : a.Perm b) (ha : a.Pairwise (· ≤ ·)) : a = sortI b := sorted_unique (h.trans (sortI_perm b).symm) ha (sortI_sorted b)
/-- Two lists without doubles that have the same members are the same, sorted. -/
theorem sortI_same {a b : List Int} (ha : a.Nodup) (hb : b.Nodup) (h : ∀ x, x ∈ a ↔ x ∈ b) : sortI a = sortI b := sortI_eq ((List.perm_ext_iff_of_nodup ha hb).mpr h)
theorem mem_sortI {l : List Int} {x : Int} : x ∈ sortI l ↔ x ∈ l := (sortI_perm l).mem_iff
theorem sortI_nodup {l : List Int} (h : l.Nodup) : (sortI l).Nodup := (sortI_perm l).nodup_iff.mpr h
theorem sortI_lt {l : List Int} (h : l.Nodup) : (sortI l).Pairwise (· < ·) := by
  have h1 := sortI_sorted l
  have h2 : (sortI l).Pairwise (· ≠ ·) := sortI_nodup h
  exact (h1.and h2).imp fun ⟨a, b⟩ => by omega

/-! ### the tables -/
abbrev Rw := Int × Int × Int × Int
theorem rows_apart : refRows.Pairwise fun r s => r.2.1 < s.1 := by decide +kernel
theorem rows_in : ∀ r ∈ refRows, 0 ≤ r.1 ∧ r.1 ≤ r.2.1 ∧ r.2.1 + r.2.2.2 ≤ 1114367 ∧ (r.2.2.1 = 1 ∨ r.2.2.1 = 2) ∧ 1 ≤ r.2.2.2 ∧ r.2.2.2 ∈ ([80, 48, 40, 32, 26, 1] : List Int) := by decide +kernel
theorem rows_low : ∀ r ∈ refRows, ∀ s ∈ refRows, r.2.1 + r.2.2.2 < s.1 ∨ s.2.1 < r.1 + r.2.2.2 ∨ (r.2.2.1 = 2 ∧ s.2.2.1 = 2 ∧ (r.1 + r.2.2.2) % 2 ≠ s.1 % 2) := by decide +kernel
theorem rows_single : ∀ r ∈ refRows, ∀ s ∈ refSingles, (s.1 < r.1 ∨ r.2.1 < s.1 ∨ (r.2.2.1 = 2 ∧ s.1 % 2 ≠ r.1 % 2)) ∧ (s.1 < r.1 + r.2.2.2 ∨ r.2.1 + r.2.2.2 < s.1 ∨ (r.2.2.1 = 2 ∧ s.1 % 2 ≠ (r.1 + r.2.2.2) % 2)) := by decide +kernel
theorem singles_in : ∀ s ∈ refSingles, 0 ≤ s.1 ∧ s.1 ≤ 1114367 ∧ 0 ≤ s.2 ∧ s.2 ≤ 1114367 ∧ refWith s.2 = s.2 ∧ refWith s.1 = s.2 ∧ s.1 ≠ s.2 := by decide +kernel
theorem singles_nodup : (refSingles.map (·.1)).Nodup := by decide +kernel

def inRw (x : Int) (r : Rw) : Prop := r.1 ≤ x ∧ x ≤ r.2.1 ∧ (r.2.2.1 = 1 ∨ x % 2 = r.1 % 2)
theorem rowHas_iff {x : Int} {r : Rw} (hr : r ∈ refRows) : rowHas x r = true ↔ inRw x r := by
  have h := rows_in r hr
  unfold rowHas inRw
  simp only [Bool.and_eq_true, Bool.or_eq_true, decide_eq_true_eq]
  constructor
  · rintro ⟨⟨h1, h2⟩, h3⟩
    rw [Int.tmod_eq_emod_of_nonneg (by omega), Int.tmod_eq_emod_of_nonneg (by omega)] at h3
    exact ⟨h1, h2, h3⟩
  · rintro ⟨h1, h2, h3⟩
    rw [Int.tmod_eq_emod_of_nonneg (by omega), Int.tmod_eq_emod_of_nonneg (by omega)]
    exact ⟨⟨h1, h2⟩, h3⟩
theorem inRw_unique {x : Int} {r s : Rw} (hr : r ∈ refRows) (hs : s ∈ refRows) (h1 : inRw x r) (h2 : inRw x s) : r = s := by
  have key : ∀ (L : List Rw), L.Pairwise (fun r s => r.2.1 < s.1) → ∀ r ∈ L, ∀ s ∈ L, inRw x r → inRw x s → r = s := by
    intro L
    induction L with
    | nil => intro _ r hr; cases hr
    | cons a L ih =>
      intro hp r hr s hs g1 g2
      have hp2 := List.pairwise_cons.mp hp
      unfold inRw at g1 g2
      rcases List.mem_cons.mp hr with e1 | hr2 <;> rcases List.mem_cons.mp hs with e2 | hs2
      · rw [e1, e2]
      · have := hp2.1 s hs2
        rw [e1] at g1
        omega
      · have := hp2.1 r hr2
        rw [e2] at g2
        omega
      · exact ih hp2.2 r hr2 s hs2 g1 g2
  exact key refRows rows_apart r hr s hs h1 h2

theorem with_single {s : Int × Int} (hs : s ∈ refSingles) : refWith s.1 = s.2 := (singles_in s hs).2.2.2.2.2.1
theorem single_row {s : Int × Int} (hs : s ∈ refSingles) {r : Rw} (hr : r ∈ refRows) : ¬ inRw s.1 r := by
  have := (rows_single r hr s hs).1
  unfold inRw
  omega
theorem find_single_none {x : Int} (h : ∀ s ∈ refSingles, s.1 ≠ x) : refSingles.find? (fun s => decide (s.1 = x)) = none := by
  rw [List.find?_eq_none]
  intro s hs
  simpa using h s hs
theorem with_row {x : Int} {r : Rw} (hr : r ∈ refRows) (h : inRw x r) : refWith x = x + r.2.2.2 := by
  unfold refWith
  rw [find_single_none (fun s hs e => single_row hs hr (e ▸ h))]
  dsimp only
  cases hf : refRows.find? (rowHas x) with
  | none => exact absurd ((rowHas_iff hr).mpr h) (by simpa using List.find?_eq_none.mp hf r hr)
  | some s =>
    have hs := List.mem_of_find?_eq_some hf
    have h2 := (rowHas_iff hs).mp (List.find?_some hf)
    rw [inRw_unique hs hr h2 h]
theorem with_cases (x : Int) : (∃ s ∈ refSingles, s.1 = x ∧ refWith x = s.2) ∨ (∃ r ∈ refRows, inRw x r ∧ refWith x = x + r.2.2.2) ∨ ((∀ s ∈ refSingles, s.1 ≠ x) ∧ (∀ r ∈ refRows, ¬ inRw x r) ∧ refWith x = x) := by
  by_cases h1 : ∃ s ∈ refSingles, s.1 = x
  · obtain ⟨s, hs, rfl⟩ := h1
    exact .inl ⟨s, hs, rfl, with_single hs⟩
  · have h1' : ∀ s ∈ refSingles, s.1 ≠ x := fun s hs e => h1 ⟨s, hs, e⟩
    by_cases h2 : ∃ r ∈ refRows, inRw x r
    · obtain ⟨r, hr, h⟩ := h2
      exact .inr (.inl ⟨r, hr, h, with_row hr h⟩)
    · have h2' : ∀ r ∈ refRows, ¬ inRw x r := fun r hr h => h2 ⟨r, hr, h⟩
      refine .inr (.inr ⟨h1', h2', ?_⟩)
      unfold refWith
      rw [find_single_none h1']
      dsimp only
      have : refRows.find? (rowHas x) = none := by
        rw [List.find?_eq_none]
        intro r hr h
        exact h2' r hr ((rowHas_iff hr).mp h)
      rw [this]
theorem with_idem (x : Int) : refWith (refWith x) = refWith x := by
  rcases with_cases x with ⟨s, hs, _, e⟩ | ⟨r, hr, h, e⟩ | ⟨_, _, e⟩
  · rw [e]
    exact (singles_in s hs).2.2.2.2.1
  · rw [e]
    unfold inRw at h
    have hb := rows_in r hr
    rcases with_cases (x + r.2.2.2) with ⟨s, hs, e2, _⟩ | ⟨q, hq, h2, _⟩ | ⟨_, _, e2⟩
    · have := (rows_single r hr s hs).2
      omega
    · have := rows_low r hr q hq
      unfold inRw at h2
      omega
    · exact e2
  · rw [e, e]
theorem with_in {x : Int} (h0 : 0 ≤ x) (h1 : x ≤ 1114367) : 0 ≤ refWith x ∧ refWith x ≤ 1114367 := by
  rcases with_cases x with ⟨s, hs, _, e⟩ | ⟨r, hr, h, e⟩ | ⟨_, _, e⟩
  · have := singles_in s hs
    omega
  · have := rows_in r hr
    unfold inRw at h
    omega
  · omega

/-! ### the orbit, before it is sorted -/
def upL (b : Int) : List Int := (refRows.filter fun r => rowHas (b - r.2.2.2) r).map fun r => b - r.2.2.2
def siL (b : Int) : List Int := (refSingles.filter fun s => decide (s.2 = b)).map (·.1)
def orbF (b : Int) : List Int := b :: (upL b ++ siL b)
theorem mem_upL {b y : Int} : y ∈ upL b ↔ ∃ r ∈ refRows, inRw y r ∧ b = y + r.2.2.2 := by
  unfold upL
  constructor
  · intro h
    obtain ⟨r, hr, rfl⟩ := List.mem_map.mp h
    obtain ⟨h1, h2⟩ := List.mem_filter.mp hr
    exact ⟨r, h1, (rowHas_iff h1).mp h2, by omega⟩
  · rintro ⟨r, hr, h, rfl⟩
    have e : y + r.2.2.2 - r.2.2.2 = y := by omega
    exact List.mem_map.mpr ⟨r, List.mem_filter.mpr ⟨hr, by rw [e]; exact (rowHas_iff hr).mpr h⟩, e⟩
theorem mem_siL {b y : Int} : y ∈ siL b ↔ ∃ s ∈ refSingles, s.1 = y ∧ s.2 = b := by
  unfold siL
  simp only [List.mem_map, List.mem_filter, decide_eq_true_eq]
  exact ⟨fun ⟨s, ⟨h1, h2⟩, h3⟩ => ⟨s, h1, h3, h2⟩, fun ⟨s, h1, h3, h2⟩ => ⟨s, ⟨h1, h2⟩, h3⟩⟩
theorem mem_orbF {b y : Int} (hb : refWith b = b) : y ∈ orbF b ↔ refWith y = b := by
  unfold orbF
  rw [List.mem_cons, List.mem_append, mem_upL, mem_siL]
  constructor
  · rintro (rfl | ⟨r, hr, h, rfl⟩ | ⟨s, hs, rfl, rfl⟩)
    · exact hb
    · exact with_row hr h
    · exact with_single hs
  · intro h
    rcases with_cases y with ⟨s, hs, e1, e⟩ | ⟨r, hr, h2, e⟩ | ⟨_, _, e⟩
    · exact .inr (.inr ⟨s, hs, e1, by omega⟩)
    · exact .inr (.inl ⟨r, hr, h2, by omega⟩)
    · exact .inl (by omega)
theorem upL_nodup (b : Int) : (upL b).Nodup := by
  have key : ∀ (L : List Rw), L.Pairwise (fun r s => r.2.1 < s.1) → (∀ r ∈ L, r ∈ refRows) → ((L.filter fun r => rowHas (b - r.2.2.2) r).map fun r => b - r.2.2.2).Nodup := by
    intro L
    induction L with
    | nil => intro _ _; exact List.nodup_nil
    | cons a L ih =>
      intro hp hin
      have hp2 := List.pairwise_cons.mp hp
      have h3 := ih hp2.2 (fun r hr => hin r (by simp [hr]))
      rw [List.filter_cons]
      split
      · rename_i ha
        rw [List.map_cons, List.nodup_cons]
        refine ⟨fun hm => ?_, h3⟩
        obtain ⟨r, hr, e⟩ := List.mem_map.mp hm
        obtain ⟨hr1, hr2⟩ := List.mem_filter.mp hr
        have g1 := (rowHas_iff (hin a (by simp))).mp ha
        have g2 := (rowHas_iff (hin r (by simp [hr1]))).mp hr2
        rw [e] at g2
        have := hp2.1 r hr1
        unfold inRw at g1 g2
        omega
      · exact h3
  exact key refRows rows_apart (fun _ h => h)
theorem siL_nodup (b : Int) : (siL b).Nodup := by
  have h : (siL b).Sublist (refSingles.map fun s => s.1) := List.Sublist.map (fun s : Int × Int => s.1) List.filter_sublist
  exact h.nodup singles_nodup
theorem orbF_nodup {b : Int} (hb : refWith b = b) : (orbF b).Nodup := by
  unfold orbF
  rw [List.nodup_cons, List.nodup_append]
  refine ⟨?_, upL_nodup b, siL_nodup b, ?_⟩
  · rw [List.mem_append, mem_upL, mem_siL]
    rintro (⟨r, hr, h, e⟩ | ⟨s, hs, e1, e2⟩)
    · have := rows_in r hr
      omega
    · have := singles_in s hs
      omega
  · intro x hx y hy e
    subst e
    obtain ⟨r, hr, h, _⟩ := mem_upL.mp hx
    obtain ⟨s, hs, e1, _⟩ := mem_siL.mp hy
    exact single_row hs hr (e1 ▸ h)
/-- All that are the same as a symbol, rising. -/
def orb (x : Int) : List Int := if 0 ≤ x ∧ x ≤ 1114367 then sortI (orbF (refWith x)) else []
theorem mem_orb {x y : Int} : y ∈ orb x ↔ 0 ≤ x ∧ x ≤ 1114367 ∧ refWith y = refWith x := by
  unfold orb
  split
  · rename_i h
    rw [mem_sortI, mem_orbF (with_idem x)]
    exact ⟨fun e => ⟨h.1, h.2, e⟩, fun e => e.2.2⟩
  · rename_i h
    simp only [List.not_mem_nil, false_iff]
    exact fun e => h ⟨e.1, e.2.1⟩
theorem orb_in {x y : Int} (h : y ∈ orb x) : 0 ≤ y ∧ y ≤ 1114367 := by
  obtain ⟨h0, h1, e⟩ := mem_orb.mp h
  have hx := with_in h0 h1
  rcases with_cases y with ⟨s, hs, e1, _⟩ | ⟨r, hr, h2, _⟩ | ⟨_, _, e2⟩
  · have := singles_in s hs
    omega
  · have := rows_in r hr
    unfold inRw at h2
    omega
  · omega
theorem orb_lt (x : Int) : (orb x).Pairwise (· < ·) := by
  unfold orb
  split
  · exact sortI_lt (orbF_nodup (with_idem x))
  · exact List.Pairwise.nil
theorem orb_self {x : Int} (h0 : 0 ≤ x) (h1 : x ≤ 1114367) : x ∈ orb x := mem_orb.mpr ⟨h0, h1, rfl⟩
theorem orb_same {x y : Int} (h : y ∈ orb x) : orb y = orb x := by
  have h1 := orb_in h
  obtain ⟨h2, h3, e⟩ := mem_orb.mp h
  unfold orb
  rw [if_pos h1, if_pos ⟨h2, h3⟩, e]
def foldI (x : Int) : Int := match orb x with | [] => x | y :: _ => y

end Go.Proofs.Yteploglmfmhppaa.P
