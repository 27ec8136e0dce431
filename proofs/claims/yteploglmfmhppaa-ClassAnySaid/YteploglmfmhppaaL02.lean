/- Chapter 02 in plain Lean: what the printed functions of package rset compute. -/
import Derived.Test.YteploglmfmhppaaL00
import Derived.Test.YteploglmfmhppaaPx3
import Derived.Test.YteploglmfmhppaaGHas
namespace Go.Proofs.Yteploglmfmhppaa.P
open Go.RowKit Go.Proofs.YteploglmfmhppaaW.PrintWords Go.Proofs.YteploglmfmhppaaW.PrintLast Go.Proofs.YteploglmfmhppaaW.PrintMore
set_option linter.unusedVariables false
set_option linter.unusedSimpArgs false

theorem rd42_app (pre : List S42) (a : S42) (rest : List S42) : rd_T42 (pre ++ a :: rest) (pre.length : Int) = a := by simp [rd_T42]
theorem rd58_app (pre : List S58) (a : S58) (rest : List S58) : rd_T58 (pre ++ a :: rest) (pre.length : Int) = a := by simp [rd_T58]
theorem rd42_last (pre : List S42) (a : S42) : rd_T42 (pre ++ [a]) (pre.length : Int) = a := rd42_app pre a []

/-! ### Make -/
def clipR (r : S42) : Option S42 := if mx r.f0 0 ≤ mn r.f1 1114367 then some ⟨mx r.f0 0, mn r.f1 1114367⟩ else none
def mg : S42 → List S42 → List S42
  | c, [] => [c]
  | c, r :: rest => if r.f0 ≤ c.f1 + 1 then mg ⟨c.f0, mx c.f1 r.f1⟩ rest else c :: mg r rest
def mgT : List S42 → List S42
  | [] => []
  | c :: rest => mg c rest
def mk (l : List S42) : List S42 := mgT (sortR (l.filterMap clipR))

def okR (r : S42) : Prop := 0 ≤ r.f0 ∧ r.f0 ≤ r.f1 ∧ r.f1 ≤ 1114367
theorem okR_clip {r c : S42} (h : clipR r = some c) : okR c := by
  unfold clipR at h
  split at h
  · rename_i hle
    obtain rfl := Option.some.inj h
    unfold okR mx mn at *
    dsimp only
    split <;> split <;> simp_all <;> omega
  · cases h
theorem okR_all {l : List S42} : ∀ r ∈ l.filterMap clipR, okR r := by
  intro r hr
  obtain ⟨a, _, ha⟩ := List.mem_filterMap.mp hr
  exact okR_clip ha
theorem mem_sortR {l : List S42} {r : S42} : r ∈ sortR l ↔ r ∈ l := List.mem_mergeSort
theorem length_sortR (l : List S42) : (sortR l).length = l.length := List.length_mergeSort _

theorem Make_l1 (xs : List S42) (hx : ∀ r ∈ xs, okR r) (hlen : xs.length < 8796093022208) : ∀ (rest pre done : List S42) (c : S42) (k : Nat), xs = pre ++ rest → done.length + 1 ≤ pre.length → 0 ≤ c.f1 ∧ c.f1 ≤ 1114367 → rest.length + 1 ≤ k →
    rset_Make.l1 k xs (done ++ [c]) (xs.length : Int) (pre.length : Int) = some (done ++ mg c rest) := by
  intro rest
  induction rest with
  | nil =>
    intro pre done c k hxs hd hc hk
    obtain ⟨k, rfl⟩ : ∃ j, k = j + 1 := ⟨k - 1, by simp only [List.length_nil] at hk; omega⟩
    simp only [List.append_nil] at hxs
    subst hxs
    simp only [rset_Make.l1, Int.lt_irrefl, if_false, mg]
  | cons r rest ih =>
    intro pre done c k hxs hd hc hk
    simp only [List.length_cons] at hk
    obtain ⟨k, rfl⟩ : ∃ j, k = j + 1 := ⟨k - 1, by omega⟩
    have hl : xs.length = pre.length + (rest.length + 1) := by rw [hxs]; simp
    have hr : rd_T42 xs (pre.length : Int) = r := by rw [hxs]; exact rd42_app _ _ _
    have hrx : okR r := hx r (by rw [hxs]; simp)
    have hw : wrap64 (((done ++ [c]).length : Int) - 1) = (done.length : Int) := by
      rw [w64 (by first | omega | (simp; done) | (simp only [List.length_append, List.length_cons, List.length_nil, List.length_singleton] at *; omega) | (simp; omega)) (by first | omega | (simp; done) | (simp only [List.length_append, List.length_cons, List.length_nil, List.length_singleton] at *; omega) | (simp; omega))]
      simp
    have hw2 : wrap64 ((pre.length : Int) + 1) = ((pre ++ [r]).length : Int) := by
      rw [w64 (by omega) (by omega)]
      simp
    have hw3 : wrap64 (c.f1 + 1) = c.f1 + 1 := w64 (by omega) (by omega)
    simp only [rset_Make.l1, hr, hw, hw2, rd42_last, hw3]
    rw [if_pos (by omega), if_pos (by omega), if_pos (by omega), if_pos (by first | omega | (simp; done) | (simp only [List.length_append, List.length_cons, List.length_nil, List.length_singleton] at *; omega) | (simp; omega)), if_pos (by omega), if_pos (by first | omega | (simp; done) | (simp only [List.length_append, List.length_cons, List.length_nil, List.length_singleton] at *; omega) | (simp; omega))]
    have hnext : xs = (pre ++ [r]) ++ rest := by rw [hxs]; simp
    by_cases hle : r.f0 ≤ c.f1 + 1
    · rw [if_pos hle]
      have hset : (done ++ [c]).set (done.length : Int).toNat (⟨c.f0, mx c.f1 r.f1⟩ : S42) = done ++ [⟨c.f0, mx c.f1 r.f1⟩] := by simp
      rw [hset, ih (pre ++ [r]) done ⟨c.f0, mx c.f1 r.f1⟩ k hnext (by first | omega | (simp; done) | (simp only [List.length_append, List.length_cons, List.length_nil, List.length_singleton] at *; omega) | (simp; omega)) (by unfold okR at hrx; dsimp only; unfold mx; split <;> omega) (by omega)]
      simp only [mg, if_pos hle]
    · rw [if_neg hle, if_pos (by first | omega | (simp; done) | (simp only [List.length_append, List.length_cons, List.length_nil, List.length_singleton] at *; omega) | (simp; omega))]
      rw [ih (pre ++ [r]) (done ++ [c]) ⟨r.f0, r.f1⟩ k hnext (by first | omega | (simp; done) | (simp only [List.length_append, List.length_cons, List.length_nil, List.length_singleton] at *; omega) | (simp; omega)) (by unfold okR at hrx; dsimp only; omega) (by omega)]
      simp only [mg, if_neg hle, List.append_assoc, List.singleton_append]

theorem Make_l1_top (xs : List S42) (hx : ∀ r ∈ xs, okR r) (hlen : xs.length < 8796093022208) (k : Nat) (hk : xs.length + 1 ≤ k) : rset_Make.l1 k xs [] (xs.length : Int) 0 = some (mgT xs) := by
  cases xs with
  | nil =>
    obtain ⟨k, rfl⟩ : ∃ j, k = j + 1 := ⟨k - 1, by simp only [List.length_nil] at hk; omega⟩
    simp [rset_Make.l1, mgT]
  | cons r rest =>
    simp only [List.length_cons] at hk hlen
    obtain ⟨k, rfl⟩ : ∃ j, k = j + 1 := ⟨k - 1, by omega⟩
    have hr : rd_T42 (r :: rest) 0 = r := rfl
    have hrx : okR r := hx r (by simp)
    simp only [rset_Make.l1, hr]
    rw [if_pos (by first | omega | (simp; done) | (simp only [List.length_append, List.length_cons, List.length_nil, List.length_singleton] at *; omega) | (simp; omega)), if_pos (by omega), if_pos (by first | omega | (simp; done) | (simp only [List.length_append, List.length_cons, List.length_nil, List.length_singleton] at *; omega) | (simp; omega)), if_neg (by simp), if_pos (by simp)]
    have h := Make_l1 (r :: rest) hx (by first | omega | (simp; done) | (simp only [List.length_append, List.length_cons, List.length_nil, List.length_singleton] at *; omega) | (simp; omega)) rest [r] [] ⟨r.f0, r.f1⟩ k rfl (by simp) (by unfold okR at hrx; dsimp only; omega) (by omega)
    simp only [List.nil_append, List.length_singleton] at h
    have hw : wrap64 (0 + 1) = ((1 : Nat) : Int) := w64 (by omega) (by omega)
    rw [List.nil_append, hw, h]
    rfl

theorem Make_l0 (xs : List S42) (hlen : xs.length < 8796093022208) : ∀ (rest pre acc : List S42) (k : Nat), xs = pre ++ rest → acc.length ≤ pre.length → (∀ r ∈ acc, okR r) → 2 * rest.length + acc.length + 3 ≤ k →
    rset_Make.l0 k acc xs (xs.length : Int) (pre.length : Int) = some (mgT (sortR (acc ++ rest.filterMap clipR))) := by
  intro rest
  induction rest with
  | nil =>
    intro pre acc k hxs hd hok hk
    obtain ⟨k, rfl⟩ : ∃ j, k = j + 1 := ⟨k - 1, by omega⟩
    simp only [List.append_nil] at hxs
    subst hxs
    simp only [List.length_nil] at hk
    simp only [rset_Make.l0, Int.lt_irrefl, if_false, List.filterMap_nil, List.append_nil, slices_SortFunc_rset_Range_rset_Range.f]
    rw [if_pos (by omega), Option.bind_some]
    have h := Make_l1_top (sortR acc) (fun r hr => hok r (mem_sortR.mp hr)) (by rw [length_sortR]; omega) k (by rw [length_sortR]; omega)
    rw [length_sortR] at h
    exact h
  | cons r rest ih =>
    intro pre acc k hxs hd hok hk
    simp only [List.length_cons] at hk
    obtain ⟨k, rfl⟩ : ∃ j, k = j + 1 := ⟨k - 1, by omega⟩
    have hl : xs.length = pre.length + (rest.length + 1) := by rw [hxs]; simp
    have hr : rd_T42 xs (pre.length : Int) = r := by rw [hxs]; exact rd42_app _ _ _
    have hw2 : wrap64 ((pre.length : Int) + 1) = ((pre ++ [r]).length : Int) := by
      rw [w64 (by omega) (by omega)]
      simp
    have hnext : xs = (pre ++ [r]) ++ rest := by rw [hxs]; simp
    simp only [rset_Make.l0, hr, hw2, rset_clip.f, Option.bind_some]
    rw [if_pos (by omega), if_pos (by omega), if_pos (by omega)]
    by_cases hc : mx r.f0 0 ≤ mn r.f1 1114367
    · have hcl : clipR r = some ⟨mx r.f0 0, mn r.f1 1114367⟩ := by unfold clipR; rw [if_pos hc]
      rw [if_pos (decide_eq_true hc), if_pos (by omega)]
      rw [ih (pre ++ [r]) (acc ++ [(⟨mx r.f0 0, mn r.f1 1114367⟩ : S42)]) k hnext (by first | omega | (simp; done) | (simp only [List.length_append, List.length_cons, List.length_nil, List.length_singleton] at *; omega) | (simp; omega)) (by
        intro q hq
        rcases List.mem_append.mp hq with hq | hq
        · exact hok q hq
        · rw [List.mem_singleton.mp hq]; exact okR_clip hcl) (by first | omega | (simp; done) | (simp only [List.length_append, List.length_cons, List.length_nil, List.length_singleton] at *; omega) | (simp; omega))]
      rw [List.filterMap_cons, hcl, List.append_assoc]
      rfl
    · have hcl : clipR r = none := by unfold clipR; rw [if_neg hc]
      rw [if_neg (by simpa using hc), ih (pre ++ [r]) acc k hnext (by first | omega | (simp; done) | (simp only [List.length_append, List.length_cons, List.length_nil, List.length_singleton] at *; omega) | (simp; omega)) hok (by omega), List.filterMap_cons, hcl]

theorem Make_ev (l : List S42) (hlen : l.length < 8796093022208) : Ev (fun k => rset_Make.f k l) (mk l) :=
  ⟨2 * l.length + 3, fun k hk => Make_l0 l hlen l [] [] k rfl (by simp) (by simp) (by simpa using hk)⟩

/-! ### the least list -/
def leastP (l : List S42) : Prop := (∀ r ∈ l, okR r) ∧ l.Pairwise fun a b => a.f1 + 1 < b.f0
def hasP (l : List S42) (x : Int) : Prop := ∃ r ∈ l, r.f0 ≤ x ∧ x ≤ r.f1

theorem mg_has : ∀ (rest : List S42) (c : S42), okR c → (∀ r ∈ rest, okR r ∧ c.f0 ≤ r.f0) → rest.Pairwise (fun a b => a.f0 ≤ b.f0) → ∀ x, hasP (mg c rest) x ↔ hasP (c :: rest) x := by
  intro rest
  induction rest with
  | nil => intro c _ _ _ x; rfl
  | cons r rest ih =>
    intro c hc hr hp x
    have h1 := hr r (by simp)
    have h2 : ∀ q ∈ rest, okR q ∧ c.f0 ≤ q.f0 := fun q hq => hr q (by simp [hq])
    have hp2 := List.pairwise_cons.mp hp
    unfold mg
    split
    · rename_i hle
      rw [ih ⟨c.f0, mx c.f1 r.f1⟩ (by unfold okR mx at *; dsimp only; split <;> omega) h2 hp2.2 x]
      constructor
      · rintro ⟨q, hq, hx⟩
        rcases List.mem_cons.mp hq with rfl | hq
        · dsimp only at hx
          unfold mx at hx
          by_cases hxc : x ≤ c.f1
          · exact ⟨c, by simp, hx.1, hxc⟩
          · refine ⟨r, by simp, by omega, ?_⟩
            split at hx <;> omega
        · exact ⟨q, by simp [hq], hx⟩
      · rintro ⟨q, hq, hx⟩
        rcases List.mem_cons.mp hq with rfl | hq
        · exact ⟨(⟨q.f0, mx q.f1 r.f1⟩ : S42), List.mem_cons_self, hx.1, by dsimp only; unfold mx; split <;> omega⟩
        · rcases List.mem_cons.mp hq with rfl | hq
          · exact ⟨(⟨c.f0, mx c.f1 q.f1⟩ : S42), List.mem_cons_self, by dsimp only; omega, by dsimp only; unfold mx; split <;> omega⟩
          · exact ⟨q, by simp [hq], hx⟩
    · have h := ih r h1.1 (fun q hq => ⟨(h2 q hq).1, hp2.1 q hq⟩) hp2.2 x
      constructor
      · rintro ⟨q, hq, hx⟩
        rcases List.mem_cons.mp hq with rfl | hq
        · exact ⟨q, by simp, hx⟩
        · obtain ⟨q', hq', hx'⟩ := h.mp ⟨q, hq, hx⟩
          exact ⟨q', List.mem_cons_of_mem _ hq', hx'⟩
      · rintro ⟨q, hq, hx⟩
        rcases List.mem_cons.mp hq with rfl | hq
        · exact ⟨q, by simp, hx⟩
        · obtain ⟨q', hq', hx'⟩ := h.mpr ⟨q, hq, hx⟩
          exact ⟨q', List.mem_cons_of_mem _ hq', hx'⟩

theorem mg_least : ∀ (rest : List S42) (c : S42), okR c → (∀ r ∈ rest, okR r ∧ c.f0 ≤ r.f0) → rest.Pairwise (fun a b => a.f0 ≤ b.f0) → leastP (mg c rest) ∧ ∀ r ∈ mg c rest, c.f0 ≤ r.f0 := by
  intro rest
  induction rest with
  | nil =>
    intro c hc _ _
    refine ⟨⟨?_, ?_⟩, ?_⟩
    · intro r hr; rw [List.mem_singleton.mp hr]; exact hc
    · exact List.pairwise_singleton _ _
    · intro r hr; rw [List.mem_singleton.mp hr]; exact Int.le_refl _
  | cons r rest ih =>
    intro c hc hr hp
    have h1 := hr r (by simp)
    have h2 : ∀ q ∈ rest, okR q ∧ c.f0 ≤ q.f0 := fun q hq => hr q (by simp [hq])
    have hp2 := List.pairwise_cons.mp hp
    unfold mg
    split
    · exact ih ⟨c.f0, mx c.f1 r.f1⟩ (by unfold okR mx at *; dsimp only; split <;> omega) h2 hp2.2
    · rename_i hle
      obtain ⟨⟨g1, g2⟩, g3⟩ := ih r h1.1 (fun q hq => ⟨(h2 q hq).1, hp2.1 q hq⟩) hp2.2
      refine ⟨⟨?_, List.pairwise_cons.mpr ⟨?_, g2⟩⟩, ?_⟩
      · intro q hq
        rcases List.mem_cons.mp hq with rfl | hq
        · exact hc
        · exact g1 q hq
      · intro q hq
        have := g3 q hq
        omega
      · intro q hq
        rcases List.mem_cons.mp hq with rfl | hq
        · exact Int.le_refl _
        · have := g3 q hq
          omega

theorem leR_key {x y : S42} : (!(ltOf cmpR) y x) = true ↔ (x.f0 < y.f0 ∨ x.f0 = y.f0 ∧ x.f1 ≤ y.f1) := by
  rw [ltOf_cmpR]
  simp only [keyLt, Bool.not_eq_true', decide_eq_false_iff_not, Bool.or_eq_false_iff, Bool.and_eq_false_iff]
  omega
theorem sortR_sorted (l : List S42) : (sortR l).Pairwise fun a b => a.f0 ≤ b.f0 := by
  have h : (sortR l).Pairwise (fun x y => (!(ltOf cmpR) y x) = true) := by
    refine List.pairwise_mergeSort (le := fun x y => !(ltOf cmpR) y x) ?_ ?_ l
    · intro a b c h1 h2
      rw [leR_key] at *
      omega
    · intro a b
      rw [Bool.or_eq_true, leR_key, leR_key]
      omega
  exact h.imp fun hab => by rw [leR_key] at hab; omega

theorem mk_least (l : List S42) : leastP (mk l) := by
  have hs := sortR_sorted (l.filterMap clipR)
  have hok : ∀ r ∈ sortR (l.filterMap clipR), okR r := fun r hr => okR_all r (mem_sortR.mp hr)
  unfold mk
  generalize sortR (l.filterMap clipR) = s at hs hok
  cases s with
  | nil => exact ⟨by simp [mgT], by simp [mgT]⟩
  | cons c rest =>
    have hp := List.pairwise_cons.mp hs
    exact (mg_least rest c (hok c (by simp)) (fun r hr => ⟨hok r (by simp [hr]), hp.1 r hr⟩) hp.2).1

theorem mx_le {a b x : Int} : mx a b ≤ x ↔ a ≤ x ∧ b ≤ x := by unfold mx; split <;> omega
theorem le_mn {a b x : Int} : x ≤ mn a b ↔ x ≤ a ∧ x ≤ b := by unfold mn; split <;> omega
theorem clip_has (r : S42) (x : Int) : (∃ c, clipR r = some c ∧ c.f0 ≤ x ∧ x ≤ c.f1) ↔ 0 ≤ x ∧ x ≤ 1114367 ∧ r.f0 ≤ x ∧ x ≤ r.f1 := by
  unfold clipR
  constructor
  · rintro ⟨c, h, h1, h2⟩
    by_cases hle : mx r.f0 0 ≤ mn r.f1 1114367
    · rw [if_pos hle] at h
      obtain rfl := Option.some.inj h
      have h3 := mx_le.mp h1
      have h4 := le_mn.mp h2
      omega
    · rw [if_neg hle] at h
      cases h
  · rintro ⟨h0, h1, h2, h3⟩
    have h4 : mx r.f0 0 ≤ x := mx_le.mpr ⟨h2, h0⟩
    have h5 : x ≤ mn r.f1 1114367 := le_mn.mpr ⟨h3, h1⟩
    exact ⟨⟨mx r.f0 0, mn r.f1 1114367⟩, if_pos (Int.le_trans h4 h5), h4, h5⟩

theorem mk_has (l : List S42) (x : Int) : hasP (mk l) x ↔ 0 ≤ x ∧ x ≤ 1114367 ∧ hasP l x := by
  have hs := sortR_sorted (l.filterMap clipR)
  have hok : ∀ r ∈ sortR (l.filterMap clipR), okR r := fun r hr => okR_all r (mem_sortR.mp hr)
  have h1 : hasP (mk l) x ↔ hasP (sortR (l.filterMap clipR)) x := by
    unfold mk
    generalize sortR (l.filterMap clipR) = s at hs hok
    cases s with
    | nil => rfl
    | cons c rest =>
      have hp := List.pairwise_cons.mp hs
      exact mg_has rest c (hok c (by simp)) (fun r hr => ⟨hok r (by simp [hr]), hp.1 r hr⟩) hp.2 x
  rw [h1]
  constructor
  · rintro ⟨c, hc, hx⟩
    obtain ⟨r, hr, hrc⟩ := List.mem_filterMap.mp (mem_sortR.mp hc)
    obtain ⟨a, b, c1, c2⟩ := (clip_has r x).mp ⟨c, hrc, hx⟩
    exact ⟨a, b, r, hr, c1, c2⟩
  · rintro ⟨a, b, r, hr, hx⟩
    obtain ⟨c, hc, hx⟩ := (clip_has r x).mpr ⟨a, b, hx⟩
    exact ⟨c, mem_sortR.mpr (List.mem_filterMap.mpr ⟨r, hr, hc⟩), hx⟩

theorem hasB_iff (l : List S42) (x : Int) : hasB l x = true ↔ 0 ≤ x ∧ x ≤ 1114367 ∧ hasP l x := by
  simp only [hasB, Bool.and_eq_true, decide_eq_true_eq, List.any_eq_true, inR, hasP]
  exact ⟨fun ⟨⟨a, b⟩, c⟩ => ⟨a, b, c⟩, fun ⟨a, b, c⟩ => ⟨⟨a, b⟩, c⟩⟩
theorem mk_hasB (l : List S42) (x : Int) : hasB (mk l) x = hasB l x := by
  rw [Bool.eq_iff_iff, hasB_iff, hasB_iff, mk_has]
  exact ⟨fun ⟨a, b, _, _, c⟩ => ⟨a, b, c⟩, fun ⟨a, b, c⟩ => ⟨a, b, a, b, c⟩⟩

/-- Two least lists for the same numbers are the same. -/
theorem least_unique : ∀ (a b : List S42), leastP a → leastP b → (∀ x, hasP a x ↔ hasP b x) → a = b := by
  intro a
  induction a with
  | nil =>
    intro b _ hb h
    cases b with
    | nil => rfl
    | cons r b =>
      have := hb.1 r (by simp)
      unfold okR at this
      obtain ⟨q, hq, _⟩ := (h r.f0).mpr ⟨r, by simp, by omega, by omega⟩
      cases hq
  | cons p a ih =>
    intro b ha hb h
    have hp := ha.1 p (by simp)
    cases b with
    | nil =>
      unfold okR at hp
      obtain ⟨q, hq, _⟩ := (h p.f0).mp ⟨p, by simp, by omega, by omega⟩
      cases hq
    | cons r b =>
      have hr := hb.1 r (by simp)
      have pa := List.pairwise_cons.mp ha.2
      have pb := List.pairwise_cons.mp hb.2
      unfold okR at hp hr
      have lowa : ∀ x, hasP (p :: a) x → p.f0 ≤ x ∧ (x ≤ p.f1 ∨ p.f1 + 1 < x ∧ hasP a x) := by
        rintro x ⟨q, hq, h1, h2⟩
        rcases List.mem_cons.mp hq with rfl | hq
        · exact ⟨h1, .inl h2⟩
        · have := pa.1 q hq
          exact ⟨by omega, .inr ⟨by omega, q, hq, h1, h2⟩⟩
      have lowb : ∀ x, hasP (r :: b) x → r.f0 ≤ x ∧ (x ≤ r.f1 ∨ r.f1 + 1 < x ∧ hasP b x) := by
        rintro x ⟨q, hq, h1, h2⟩
        rcases List.mem_cons.mp hq with rfl | hq
        · exact ⟨h1, .inl h2⟩
        · have := pb.1 q hq
          exact ⟨by omega, .inr ⟨by omega, q, hq, h1, h2⟩⟩
      have ina : ∀ x, p.f0 ≤ x → x ≤ p.f1 → hasP (p :: a) x := fun x h1 h2 => ⟨p, by simp, h1, h2⟩
      have inb : ∀ x, r.f0 ≤ x → x ≤ r.f1 → hasP (r :: b) x := fun x h1 h2 => ⟨r, by simp, h1, h2⟩
      have e0 : p.f0 = r.f0 := by
        have h1 := (lowb p.f0 ((h _).mp (ina _ (by omega) (by omega)))).1
        have h2 := (lowa r.f0 ((h _).mpr (inb _ (by omega) (by omega)))).1
        omega
      have e1 : p.f1 = r.f1 := by
        rcases Int.lt_trichotomy p.f1 r.f1 with hlt | heq | hgt
        · exfalso
          have := (lowa (p.f1 + 1) ((h _).mpr (inb _ (by omega) (by omega)))).2
          omega
        · exact heq
        · exfalso
          have := (lowb (r.f1 + 1) ((h _).mp (ina _ (by omega) (by omega)))).2
          omega
      have epr : p = r := by
        cases p; cases r
        simp only at e0 e1
        rw [e0, e1]
      subst epr
      have : a = b := by
        refine ih b ⟨fun q hq => ha.1 q (by simp [hq]), pa.2⟩ ⟨fun q hq => hb.1 q (by simp [hq]), pb.2⟩ fun x => ⟨fun hx => ?_, fun hx => ?_⟩
        · obtain ⟨q, hq, h1, h2⟩ := hx
          have hq' := pa.1 q hq
          rcases (lowb x ((h x).mp ⟨q, by simp [hq], h1, h2⟩)).2 with h3 | h3
          · omega
          · exact h3.2
        · obtain ⟨q, hq, h1, h2⟩ := hx
          have hq' := pb.1 q hq
          rcases (lowa x ((h x).mpr ⟨q, by simp [hq], h1, h2⟩)).2 with h3 | h3
          · omega
          · exact h3.2
      rw [this]

theorem mk_of_least {l : List S42} (h : leastP l) : mk l = l := by
  refine least_unique _ _ (mk_least l) h fun x => ?_
  rw [mk_has]
  constructor
  · exact fun ⟨_, _, hx⟩ => hx
  · rintro ⟨r, hr, h1, h2⟩
    have := h.1 r hr
    unfold okR at this
    exact ⟨by omega, by omega, r, hr, h1, h2⟩
theorem mk_eq_iff (l : List S42) : mk l = l ↔ leastP l := ⟨fun h => h ▸ mk_least l, mk_of_least⟩

end Go.Proofs.Yteploglmfmhppaa.P
