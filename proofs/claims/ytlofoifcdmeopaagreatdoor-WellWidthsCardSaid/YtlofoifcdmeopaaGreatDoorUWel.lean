/- How many symbols the nodes of right trees take: the program's widths and the document's. -/
import Derived.Test.YtlofoifcdmeopaaGreatDoorUTri
import Derived.Test.YtlofoifcdmeopaaGreatDoorUTlc
import Derived.Test.YtlofoifcdmeopaaGreatDoorVTWe
import Derived.Test.YtlofoifcdmeopaaGreatDoorVTW9
namespace Go.Proofs.YtlofoifcdmeopaaGreatDoor.V
open Go Go.Ev Go.RowKit
set_option linter.unusedVariables false
set_option linter.unusedSimpArgs false
/-- What is known of the nodes of a right tree. -/
structure NdOk (n : Nd) : Prop where
  k : 1 ≤ n.kind ∧ n.kind ≤ 10
  leaf : n.kind ≤ 4 → n.kids = []
  many : n.kind = 5 ∨ n.kind = 6 → 2 ≤ n.kids.length
  one : 7 ≤ n.kind → n.kids.length = 1
  cnt : n.kind = 8 → (0 ≤ n.min ∧ n.min ≤ 1000) ∧ (n.max = -1 ∨ 1 ≤ n.max ∧ n.max ≤ 1000)
  look : n.kind = 10 → 1 ≤ n.num ∧ n.num ≤ 4
theorem wi_iff {x a b : Int} : wi x a b = true ↔ a ≤ x ∧ x ≤ b := by simp [wi]
theorem ndOk {n : Nd} (h : aloneB n = true) : NdOk n := by
  unfold aloneB kidsB at h
  simp only [Bool.and_eq_true, Bool.not_eq_true', Bool.and_eq_false_iff, decide_eq_false_iff_not, bne_eq_false_iff_eq, beq_eq_false_iff_ne, Bool.not_eq_false', wi_iff] at h
  obtain ⟨⟨⟨⟨⟨hk, -⟩, -⟩, -⟩, -⟩, -, ⟨⟨⟨h1, h2⟩, h3⟩, h4⟩, h5⟩ := h
  refine ⟨hk, fun hh => ?_, fun hh => ?_, fun hh => ?_, fun hh => ?_, fun hh => ?_⟩
  · rcases h1 with h1 | h1
    · exact absurd hh h1
    · exact List.eq_nil_of_length_eq_zero (by omega)
  · rcases hh with hh | hh
    · rcases h2 with h2 | h2
      · exact absurd hh h2
      · omega
    · rcases h3 with h3 | h3
      · exact absurd hh h3
      · omega
  · rcases h4 with h4 | h4
    · exact absurd hh h4
    · omega
  · unfold al3 at h5
    rw [eT hh] at h5
    simp only [Bool.and_eq_true, Bool.or_eq_true, wi_iff, beq_iff_eq, decide_eq_true_eq] at h5
    omega
  · unfold al3 al4 al5 al6 al7 al8 at h5
    rw [eF (show n.kind ≠ 8 by omega), eF (show n.kind ≠ 3 by omega), eF (show n.kind ≠ 4 by omega), eF (show n.kind ≠ 7 by omega), eT hh] at h5
    simp only [Bool.and_eq_true, wi_iff] at h5
    exact h5.2
theorem rightL_all {t : Tr} : ∀ (l : List Nd) (g : Nat), rightL t l g = true → ∀ n, n ∈ l → NdOk n
  | [], g, _, n, h => by cases h
  | m :: l, g, h, n, hn => by
    unfold rightL at h
    rw [Bool.and_eq_true, Bool.and_eq_true] at h
    rw [List.mem_cons] at hn
    rcases hn with rfl | hn
    · exact ndOk h.1
    · have h2 := h.2.2
      split at h2
      · simp only [Bool.and_eq_true] at h2
        exact rightL_all l _ h2.2.2.2 n hn
      · exact rightL_all l _ h2 n hn
theorem right_laid {t : Tr} (h : rightB t = true) : Laid t ∧ ∀ n, n ∈ t.ns → NdOk n := by
  unfold rightB at h
  simp only [Bool.and_eq_true, beq_iff_eq] at h
  exact ⟨⟨h.1⟩, rightL_all _ _ h.2.2.2.2⟩
def capM (x : Int) : Int := if 1048576 < x then 1048576 else x
def sumK (g : Int → Int) : List Int → Int
  | [] => 0
  | k :: ks => g k + sumK g ks
def minK (g : Int → Int) (w : Int) : List Int → Int
  | [] => w
  | k :: ks => minK g (if g k < w then g k else w) ks
def addH (w v : Int) : Int := if w = -1 ∨ v = -1 then -1 else if w + v > 1048576 then -1 else w + v
def orH (w v : Int) : Int := if w = -1 ∨ v = -1 then -1 else if v > w then v else w
def foldH (op : Int → Int → Int) (g : Int → Int) (w : Int) : List Int → Int
  | [] => w
  | k :: ks => foldH op g (op w (g k)) ks
def timesH (w m : Int) : Int := if w = 0 then 0 else if w = -1 ∨ m = -1 then -1 else if w * m > 1048576 then -1 else w * m
def k0 (n : Nd) : Int := n.kids.headD 0
def lowN (n : Nd) (g : Int → Int) : Int :=
  if n.kind = 2 then 1 else if n.kind = 5 then capM (sumK g n.kids) else if n.kind = 6 then minK g (g (k0 n)) n.kids.tail else if n.kind = 8 then capM (g (k0 n) * n.min) else if n.kind = 7 ∨ n.kind = 9 then g (k0 n) else 0
def highN (n : Nd) (g : Int → Int) : Int :=
  if n.kind = 4 then -1 else if n.kind = 2 then 1 else if n.kind = 5 then foldH addH g (g (k0 n)) n.kids.tail else if n.kind = 6 then foldH orH g (g (k0 n)) n.kids.tail else if n.kind = 8 then timesH (g (k0 n)) n.max else if n.kind = 7 ∨ n.kind = 9 then g (k0 n) else 0
def wdF (ns : List Nd) : Nat → Int → Int × Int
  | 0, _ => (0, 0)
  | f + 1, i => match ns[i.toNat]? with
    | none => (0, 0)
    | some n => (lowN n fun k => (wdF ns f k).1, highN n fun k => (wdF ns f k).2)
def wd (ns : List Nd) (i : Int) : Int × Int := wdF ns ns.length i
theorem sumK_congr {g g' : Int → Int} : ∀ {ks : List Int}, (∀ k, k ∈ ks → g k = g' k) → sumK g ks = sumK g' ks
  | [], _ => rfl
  | k :: ks, h => by rw [sumK, sumK, h k List.mem_cons_self, sumK_congr fun x hx => h x (List.mem_cons_of_mem _ hx)]
theorem minK_congr {g g' : Int → Int} : ∀ {ks : List Int} {w : Int}, (∀ k, k ∈ ks → g k = g' k) → minK g w ks = minK g' w ks
  | [], _, _ => rfl
  | k :: ks, w, h => by rw [minK, minK, h k List.mem_cons_self, minK_congr fun x hx => h x (List.mem_cons_of_mem _ hx)]
theorem foldH_congr {op : Int → Int → Int} {g g' : Int → Int} : ∀ {ks : List Int} {w : Int}, (∀ k, k ∈ ks → g k = g' k) → foldH op g w ks = foldH op g' w ks
  | [], _, _ => rfl
  | k :: ks, w, h => by rw [foldH, foldH, h k List.mem_cons_self, foldH_congr fun x hx => h x (List.mem_cons_of_mem _ hx)]
theorem k0_in {n : Nd} (h : n.kids ≠ []) : k0 n ∈ n.kids := by
  unfold k0
  cases hk : n.kids with
  | nil => exact absurd hk h
  | cons k ks => exact List.mem_cons_self
theorem kids_ne {n : Nd} (h : NdOk n) (hk : 5 ≤ n.kind) : n.kids ≠ [] := fun e => by
  have e0 : n.kids.length = 0 := by rw [e]; rfl
  by_cases c : n.kind = 5 ∨ n.kind = 6
  · have := h.many c; omega
  · have := h.one (by omega); omega
theorem lowN_congr {n : Nd} (hn : NdOk n) {g g' : Int → Int} (h : ∀ k, k ∈ n.kids → g k = g' k) : lowN n g = lowN n g' := by
  have ht : ∀ k, k ∈ n.kids.tail → g k = g' k := fun k hk => h k (List.mem_of_mem_tail hk)
  have h0 : 5 ≤ n.kind → g (k0 n) = g' (k0 n) := fun hk => h _ (k0_in (kids_ne hn hk))
  unfold lowN
  by_cases c2 : n.kind = 2
  · rw [if_pos c2, if_pos c2]
  rw [if_neg c2, if_neg c2]
  by_cases c5 : n.kind = 5
  · rw [if_pos c5, if_pos c5, sumK_congr h]
  rw [if_neg c5, if_neg c5]
  by_cases c6 : n.kind = 6
  · rw [if_pos c6, if_pos c6, h0 (by omega), minK_congr ht]
  rw [if_neg c6, if_neg c6]
  by_cases c8 : n.kind = 8
  · rw [if_pos c8, if_pos c8, h0 (by omega)]
  rw [if_neg c8, if_neg c8]
  by_cases c7 : n.kind = 7 ∨ n.kind = 9
  · rw [if_pos c7, if_pos c7, h0 (by omega)]
  · rw [if_neg c7, if_neg c7]
theorem highN_congr {n : Nd} (hn : NdOk n) {g g' : Int → Int} (h : ∀ k, k ∈ n.kids → g k = g' k) : highN n g = highN n g' := by
  have ht : ∀ k, k ∈ n.kids.tail → g k = g' k := fun k hk => h k (List.mem_of_mem_tail hk)
  have h0 : 5 ≤ n.kind → g (k0 n) = g' (k0 n) := fun hk => h _ (k0_in (kids_ne hn hk))
  unfold highN
  by_cases c4 : n.kind = 4
  · rw [if_pos c4, if_pos c4]
  rw [if_neg c4, if_neg c4]
  by_cases c2 : n.kind = 2
  · rw [if_pos c2, if_pos c2]
  rw [if_neg c2, if_neg c2]
  by_cases c5 : n.kind = 5
  · rw [if_pos c5, if_pos c5, h0 (by omega), foldH_congr ht]
  rw [if_neg c5, if_neg c5]
  by_cases c6 : n.kind = 6
  · rw [if_pos c6, if_pos c6, h0 (by omega), foldH_congr ht]
  rw [if_neg c6, if_neg c6]
  by_cases c8 : n.kind = 8
  · rw [if_pos c8, if_pos c8, h0 (by omega)]
  rw [if_neg c8, if_neg c8]
  by_cases c7 : n.kind = 7 ∨ n.kind = 9
  · rw [if_pos c7, if_pos c7, h0 (by omega)]
  · rw [if_neg c7, if_neg c7]
structure RT (t : Tr) : Prop where
  laid : Laid t
  nd : ∀ n, n ∈ t.ns → NdOk n
theorem wdF_stable {t : Tr} (h : RT t) : ∀ (f i : Nat), t.ns.length - i ≤ f → i < t.ns.length → wdF t.ns (f + 1) (i : Int) = wdF t.ns f (i : Int)
  | 0, i, h1, h2 => by omega
  | f + 1, i, h1, h2 => by
    have hn : NdOk t.ns[i] := h.nd _ (List.getElem_mem h2)
    have key : ∀ k, k ∈ t.ns[i].kids → wdF t.ns (f + 1) k = wdF t.ns f k := fun k hk => by
      obtain ⟨m, rfl, m1, m2⟩ := h.laid.kid h2 hk
      exact wdF_stable h f m (by omega) m2
    show (match t.ns[((i : Int)).toNat]? with | none => ((0 : Int), (0 : Int)) | some n => (lowN n fun k => (wdF t.ns (f + 1) k).1, highN n fun k => (wdF t.ns (f + 1) k).2)) = (match t.ns[((i : Int)).toNat]? with | none => ((0 : Int), (0 : Int)) | some n => (lowN n fun k => (wdF t.ns f k).1, highN n fun k => (wdF t.ns f k).2))
    rw [Int.toNat_natCast, List.getElem?_eq_getElem h2]
    show (lowN t.ns[i] _, highN t.ns[i] _) = (lowN t.ns[i] _, highN t.ns[i] _)
    rw [lowN_congr hn (fun k hk => by rw [key k hk]), highN_congr hn (fun k hk => by rw [key k hk])]
theorem wd_eq {t : Tr} (h : RT t) {i : Nat} (hi : i < t.ns.length) : wd t.ns (i : Int) = (lowN t.ns[i] (fun k => (wd t.ns k).1), highN t.ns[i] (fun k => (wd t.ns k).2)) := by
  have e : wd t.ns (i : Int) = wdF t.ns (t.ns.length + 1) (i : Int) := (wdF_stable h _ i (by omega) hi).symm
  rw [e]
  show (match t.ns[((i : Int)).toNat]? with | none => ((0 : Int), (0 : Int)) | some n => (lowN n fun k => (wdF t.ns t.ns.length k).1, highN n fun k => (wdF t.ns t.ns.length k).2)) = _
  rw [Int.toNat_natCast, List.getElem?_eq_getElem hi]
  rfl
theorem capM_in {x : Int} (h : 0 ≤ x) : 0 ≤ capM x ∧ capM x ≤ 1048576 := by unfold capM; split <;> omega
theorem sumK_in {g : Int → Int} : ∀ {ks : List Int}, (∀ k, k ∈ ks → 0 ≤ g k ∧ g k ≤ 1048576) → 0 ≤ sumK g ks ∧ sumK g ks ≤ 1048576 * ks.length
  | [], _ => ⟨Int.le_refl _, by simp [sumK]⟩
  | k :: ks, h => by
    have h1 := h k List.mem_cons_self
    have h2 := sumK_in (g := g) (ks := ks) fun x hx => h x (List.mem_cons_of_mem _ hx)
    rw [sumK, List.length_cons]
    omega
theorem minK_in {g : Int → Int} : ∀ {ks : List Int} {w : Int}, 0 ≤ w ∧ w ≤ 1048576 → (∀ k, k ∈ ks → 0 ≤ g k ∧ g k ≤ 1048576) → 0 ≤ minK g w ks ∧ minK g w ks ≤ 1048576
  | [], w, hw, _ => hw
  | k :: ks, w, hw, h => by
    have h1 := h k List.mem_cons_self
    rw [minK]
    exact minK_in (by split <;> omega) fun x hx => h x (List.mem_cons_of_mem _ hx)
def HB (x : Int) : Prop := -1 ≤ x ∧ x ≤ 1048576
theorem addH_in {w v : Int} (hw : HB w) (hv : HB v) : HB (addH w v) := by
  unfold HB addH at *
  split
  · omega
  · split <;> omega
theorem orH_in {w v : Int} (hw : HB w) (hv : HB v) : HB (orH w v) := by
  unfold HB orH at *
  split
  · omega
  · split <;> omega
theorem foldH_in {op : Int → Int → Int} (hop : ∀ w v, HB w → HB v → HB (op w v)) {g : Int → Int} : ∀ {ks : List Int} {w : Int}, HB w → (∀ k, k ∈ ks → HB (g k)) → HB (foldH op g w ks)
  | [], w, hw, _ => hw
  | k :: ks, w, hw, h => foldH_in hop (ks := ks) (hop _ _ hw (h k List.mem_cons_self)) fun x hx => h x (List.mem_cons_of_mem _ hx)
theorem mul_small {a b : Int} (h1 : 0 ≤ a ∧ a ≤ 1048576) (h2 : 0 ≤ b ∧ b ≤ 1000) : 0 ≤ a * b ∧ a * b ≤ 1048576000 := by
  refine ⟨Int.mul_nonneg h1.1 h2.1, ?_⟩
  have := Int.mul_le_mul h1.2 h2.2 h2.1 (by omega)
  omega
theorem timesH_in {w m : Int} (hw : HB w) (hm : m = -1 ∨ 1 ≤ m ∧ m ≤ 1000) : HB (timesH w m) := by
  unfold HB timesH at *
  by_cases c0 : w = 0
  · rw [if_pos c0]; omega
  rw [if_neg c0]
  by_cases c1 : w = -1 ∨ m = -1
  · rw [if_pos c1]; omega
  rw [if_neg c1]
  have := mul_small (a := w) (b := m) (by omega) (by omega)
  split <;> omega
theorem lowN_in {n : Nd} (hn : NdOk n) {g : Int → Int} (h : ∀ k, k ∈ n.kids → 0 ≤ g k ∧ g k ≤ 1048576) : 0 ≤ lowN n g ∧ lowN n g ≤ 1048576 := by
  have ht : ∀ k, k ∈ n.kids.tail → 0 ≤ g k ∧ g k ≤ 1048576 := fun k hk => h k (List.mem_of_mem_tail hk)
  have h0 : 5 ≤ n.kind → 0 ≤ g (k0 n) ∧ g (k0 n) ≤ 1048576 := fun hk => h _ (k0_in (kids_ne hn hk))
  unfold lowN
  by_cases c2 : n.kind = 2
  · rw [if_pos c2]; omega
  rw [if_neg c2]
  by_cases c5 : n.kind = 5
  · rw [if_pos c5]; exact capM_in (sumK_in h).1
  rw [if_neg c5]
  by_cases c6 : n.kind = 6
  · rw [if_pos c6]; exact minK_in (h0 (by omega)) ht
  rw [if_neg c6]
  by_cases c8 : n.kind = 8
  · rw [if_pos c8]; exact capM_in (mul_small (h0 (by omega)) (hn.cnt c8).1).1
  rw [if_neg c8]
  by_cases c7 : n.kind = 7 ∨ n.kind = 9
  · rw [if_pos c7]; exact h0 (by omega)
  · rw [if_neg c7]; omega
theorem highN_in {n : Nd} (hn : NdOk n) {g : Int → Int} (h : ∀ k, k ∈ n.kids → HB (g k)) : HB (highN n g) := by
  have ht : ∀ k, k ∈ n.kids.tail → HB (g k) := fun k hk => h k (List.mem_of_mem_tail hk)
  have h0 : 5 ≤ n.kind → HB (g (k0 n)) := fun hk => h _ (k0_in (kids_ne hn hk))
  unfold highN
  by_cases c4 : n.kind = 4
  · rw [if_pos c4]; unfold HB; omega
  rw [if_neg c4]
  by_cases c2 : n.kind = 2
  · rw [if_pos c2]; unfold HB; omega
  rw [if_neg c2]
  by_cases c5 : n.kind = 5
  · rw [if_pos c5]; exact foldH_in (fun w v => addH_in) (h0 (by omega)) ht
  rw [if_neg c5]
  by_cases c6 : n.kind = 6
  · rw [if_pos c6]; exact foldH_in (fun w v => orH_in) (h0 (by omega)) ht
  rw [if_neg c6]
  by_cases c8 : n.kind = 8
  · rw [if_pos c8]; exact timesH_in (h0 (by omega)) (hn.cnt c8).2
  rw [if_neg c8]
  by_cases c7 : n.kind = 7 ∨ n.kind = 9
  · rw [if_pos c7]; exact h0 (by omega)
  · rw [if_neg c7]; unfold HB; omega
theorem wd_in {t : Tr} (h : RT t) : ∀ (d i : Nat), t.ns.length - i ≤ d → i < t.ns.length → (0 ≤ (wd t.ns (i : Int)).1 ∧ (wd t.ns (i : Int)).1 ≤ 1048576) ∧ HB (wd t.ns (i : Int)).2
  | 0, i, h1, h2 => by omega
  | d + 1, i, h1, h2 => by
    have hn : NdOk t.ns[i] := h.nd _ (List.getElem_mem h2)
    have key : ∀ k, k ∈ t.ns[i].kids → (0 ≤ (wd t.ns k).1 ∧ (wd t.ns k).1 ≤ 1048576) ∧ HB (wd t.ns k).2 := fun k hk => by
      obtain ⟨m, rfl, m1, m2⟩ := h.laid.kid h2 hk
      exact wd_in h d m (by omega) m2
    rw [wd_eq h h2]
    exact ⟨lowN_in hn fun k hk => (key k hk).1, highN_in hn fun k hk => (key k hk).2⟩
end Go.Proofs.YtlofoifcdmeopaaGreatDoor.V
