/- Chapter 02 in plain Lean, second part: what is computed from least lists. -/
import Derived.Test.YteploglmfmhppaaL02
import Derived.Test.YteploglmfmhppaaPx4
import Derived.Test.YteploglmfmhppaaPx5
namespace Go.Proofs.Yteploglmfmhppaa.P
open Go.RowKit Go.Proofs.YteploglmfmhppaaW.PrintWords Go.Proofs.YteploglmfmhppaaW.PrintLast Go.Proofs.YteploglmfmhppaaW.PrintMore
set_option linter.unusedVariables false
set_option linter.unusedSimpArgs false

def to58 (r : S42) : S58 := ⟨r.f0, r.f1⟩
def hasR (l : List S58) (x : Int) : Bool := decide (0 ≤ x) && decide (x ≤ 1114367) && l.any fun r => decide (r.f0 ≤ x) && decide (x ≤ r.f1)

theorem RefHas_l0 (xs : List S58) (x : Int) (hlen : xs.length < 8796093022208) : ∀ (rest pre : List S58) (k : Nat), xs = pre ++ rest → rest.length + 1 ≤ k →
    clewref02_Has.l0 k xs x (pre.length : Int) = some (hasR rest x) := by
  intro rest
  induction rest with
  | nil =>
    intro pre k hxs hk
    obtain ⟨k, rfl⟩ : ∃ j, k = j + 1 := ⟨k - 1, by first | omega | (simp; done) | (simp only [List.length_append, List.length_cons, List.length_nil, List.length_singleton] at *; omega) | (simp; omega)⟩
    simp only [List.append_nil] at hxs
    subst hxs
    simp only [clewref02_Has.l0, Int.lt_irrefl, if_false, hasR, List.any_nil, Bool.and_false]
  | cons r rest ih =>
    intro pre k hxs hk
    simp only [List.length_cons] at hk
    obtain ⟨k, rfl⟩ : ∃ j, k = j + 1 := ⟨k - 1, by omega⟩
    have hl : xs.length = pre.length + (rest.length + 1) := by rw [hxs]; simp
    have hr : rd_T58 xs (pre.length : Int) = r := by rw [hxs]; exact rd58_app _ _ _
    have hw2 : wrap64 ((pre.length : Int) + 1) = ((pre ++ [r]).length : Int) := by
      rw [w64 (by omega) (by omega)]
      simp
    have hnext : xs = (pre ++ [r]) ++ rest := by rw [hxs]; simp
    have h := ih (pre ++ [r]) k hnext (by omega)
    simp only [clewref02_Has.l0, hr, hw2]
    rw [if_pos (by omega), h]
    unfold hasR
    rw [List.any_cons]
    by_cases h0 : x ≥ 0
    · rw [if_pos h0, decide_eq_true (show 0 ≤ x from h0)]
      by_cases h1 : x ≤ 1114367
      · rw [if_pos h1, decide_eq_true h1, if_pos (by omega)]
        by_cases h2 : x ≥ r.f0
        · rw [if_pos h2, decide_eq_true (show r.f0 ≤ x from h2)]
          by_cases h3 : x ≤ r.f1
          · rw [if_pos h3, decide_eq_true h3]
            simp
          · rw [if_neg h3, decide_eq_false h3]
            simp
        · rw [if_neg h2, decide_eq_false (show ¬ r.f0 ≤ x from h2)]
          simp
      · rw [if_neg h1, decide_eq_false h1]
        simp
    · rw [if_neg h0, decide_eq_false (show ¬ 0 ≤ x from h0)]
      simp
theorem RefHas_ev (l : List S58) (x : Int) (hlen : l.length < 8796093022208) : Ev (fun k => clewref02_Has.f k l x) (hasR l x) :=
  ⟨l.length + 1, fun k hk => RefHas_l0 l x hlen l [] k rfl hk⟩
theorem hasR_map (l : List S42) (x : Int) : hasR (l.map to58) x = hasB l x := by
  unfold hasR hasB
  rw [List.any_map]
  rfl

theorem Of_l0 (xs : List S42) (hlen : xs.length < 8796093022208) : ∀ (rest pre : List S42) (acc : List S58) (k : Nat), xs = pre ++ rest → acc.length = pre.length → rest.length + 1 ≤ k →
    clewlaw02_of.l0 k acc xs (xs.length : Int) (pre.length : Int) = some (acc ++ rest.map to58) := by
  intro rest
  induction rest with
  | nil =>
    intro pre acc k hxs ha hk
    obtain ⟨k, rfl⟩ : ∃ j, k = j + 1 := ⟨k - 1, by first | omega | (simp; done) | (simp only [List.length_append, List.length_cons, List.length_nil, List.length_singleton] at *; omega) | (simp; omega)⟩
    simp only [List.append_nil] at hxs
    subst hxs
    simp only [clewlaw02_of.l0, Int.lt_irrefl, if_false, List.map_nil, List.append_nil]
  | cons r rest ih =>
    intro pre acc k hxs ha hk
    simp only [List.length_cons] at hk
    obtain ⟨k, rfl⟩ : ∃ j, k = j + 1 := ⟨k - 1, by omega⟩
    have hl : xs.length = pre.length + (rest.length + 1) := by rw [hxs]; simp
    have hr : rd_T42 xs (pre.length : Int) = r := by rw [hxs]; exact rd42_app _ _ _
    have hw2 : wrap64 ((pre.length : Int) + 1) = ((pre ++ [r]).length : Int) := by
      rw [w64 (by omega) (by omega)]
      simp
    have hnext : xs = (pre ++ [r]) ++ rest := by rw [hxs]; simp
    simp only [clewlaw02_of.l0, hr, hw2]
    rw [if_pos (by omega), if_pos (by omega), if_pos (by omega), if_pos (by omega), ih (pre ++ [r]) _ k hnext (by simp [ha]) (by omega), List.append_assoc]
    rfl
theorem of_ev (l : List S42) (hlen : l.length < 8796093022208) : Ev (fun k => clewlaw02_of.f k l) (l.map to58) :=
  ⟨l.length + 1, fun k hk => Of_l0 l hlen l [] [] k rfl rfl hk⟩

/-! ### Least -/
def leastF : Option Int → List S58 → Bool
  | _, [] => true
  | p, r :: rest => decide (0 ≤ r.f0) && decide (r.f1 ≤ 1114367) && decide (r.f0 ≤ r.f1) && (match p with | none => true | some h => decide (h < r.f0 - 1)) && leastF (some r.f1) rest

theorem Least_l0 (xs : List S58) (hlen : xs.length < 8796093022208) : ∀ (rest pre : List S58) (q : S58) (k : Nat), xs = pre ++ q :: rest → rest.length + 1 ≤ k →
    clewref02_Least.l0 k xs ((pre.length : Int) + 1) = some (leastF (some q.f1) rest) := by
  intro rest
  induction rest with
  | nil =>
    intro pre q k hxs hk
    obtain ⟨k, rfl⟩ : ∃ j, k = j + 1 := ⟨k - 1, by first | omega | (simp; done) | (simp only [List.length_append, List.length_cons, List.length_nil, List.length_singleton] at *; omega) | (simp; omega)⟩
    subst hxs
    simp only [clewref02_Least.l0, leastF]
    rw [if_neg (by simp)]
  | cons r rest ih =>
    intro pre q k hxs hk
    simp only [List.length_cons] at hk
    obtain ⟨k, rfl⟩ : ∃ j, k = j + 1 := ⟨k - 1, by omega⟩
    have hl : xs.length = pre.length + 1 + (rest.length + 1) := by rw [hxs]; simp; omega
    have hnext : xs = (pre ++ [q]) ++ r :: rest := by rw [hxs]; simp
    have hr : rd_T58 xs ((pre.length : Int) + 1) = r := by
      rw [hnext, show (pre.length : Int) + 1 = ((pre ++ [q]).length : Int) by simp]
      exact rd58_app _ _ _
    have hq : rd_T58 xs (pre.length : Int) = q := by rw [hxs]; exact rd58_app _ _ _
    have hw1 : wrap64 ((pre.length : Int) + 1 - 1) = (pre.length : Int) := by
      rw [w64 (by omega) (by omega)]
      omega
    have hw2 : wrap64 ((pre.length : Int) + 1 + 1) = ((pre ++ [q]).length : Int) + 1 := by
      rw [w64 (by omega) (by omega)]
      simp
    have h := ih (pre ++ [q]) r k hnext (by omega)
    simp only [clewref02_Least.l0, hr, hw1, hw2, hq]
    rw [if_pos (by omega), if_pos (by omega)]
    by_cases h0 : r.f0 < 0
    · rw [if_pos h0, leastF, decide_eq_false (show ¬ 0 ≤ r.f0 by omega)]
      rfl
    · rw [if_neg h0]
      by_cases h1 : r.f1 > 1114367
      · rw [if_pos h1, leastF, decide_eq_false (show ¬ r.f1 ≤ 1114367 by omega), Bool.and_false]
        rfl
      · rw [if_neg h1]
        by_cases h2 : r.f0 > r.f1
        · rw [if_pos h2, leastF, decide_eq_false (show ¬ r.f0 ≤ r.f1 by omega), Bool.and_false]
          rfl
        · rw [if_neg h2, if_pos (by omega), if_pos (by omega), if_pos (by omega), w64 (by omega) (by omega), h]
          by_cases h3 : r.f0 - 1 ≤ q.f1
          · rw [if_pos h3, leastF]
            try dsimp only
            rw [decide_eq_false (show ¬ q.f1 < r.f0 - 1 by omega), Bool.and_false]
            rfl
          · rw [if_neg h3, leastF]
            try dsimp only
            rw [decide_eq_true (show 0 ≤ r.f0 by omega), decide_eq_true (show r.f1 ≤ 1114367 by omega), decide_eq_true (show r.f0 ≤ r.f1 by omega), decide_eq_true (show q.f1 < r.f0 - 1 by omega)]
            rfl
theorem Least_ev (l : List S58) (hlen : l.length < 8796093022208) : Ev (fun k => clewref02_Least.f k l) (leastF none l) := by
  refine ⟨l.length + 1, fun k hk => ?_⟩
  show clewref02_Least.l0 k l 0 = _
  cases l with
  | nil =>
    obtain ⟨k, rfl⟩ : ∃ j, k = j + 1 := ⟨k - 1, by first | omega | (simp; done) | (simp only [List.length_append, List.length_cons, List.length_nil, List.length_singleton] at *; omega) | (simp; omega)⟩
    simp [clewref02_Least.l0, leastF]
  | cons r rest =>
    simp only [List.length_cons] at hk hlen
    obtain ⟨k, rfl⟩ : ∃ j, k = j + 1 := ⟨k - 1, by omega⟩
    have hr : rd_T58 (r :: rest) 0 = r := rfl
    have h := Least_l0 (r :: rest) (by first | omega | (simp; done) | (simp only [List.length_append, List.length_cons, List.length_nil, List.length_singleton] at *; omega) | (simp; omega)) rest [] r k rfl (by omega)
    have hw : wrap64 (0 + 1) = (([] : List S58).length : Int) + 1 := w64 (by omega) (by omega)
    simp only [clewref02_Least.l0, hr, hw]
    rw [if_pos (by first | omega | (simp; done) | (simp only [List.length_append, List.length_cons, List.length_nil, List.length_singleton] at *; omega) | (simp; omega)), if_pos (by omega)]
    by_cases h0 : r.f0 < 0
    · rw [if_pos h0, leastF, decide_eq_false (show ¬ 0 ≤ r.f0 by omega)]
      rfl
    · rw [if_neg h0]
      by_cases h1 : r.f1 > 1114367
      · rw [if_pos h1, leastF, decide_eq_false (show ¬ r.f1 ≤ 1114367 by omega), Bool.and_false]
        rfl
      · rw [if_neg h1]
        by_cases h2 : r.f0 > r.f1
        · rw [if_pos h2, leastF, decide_eq_false (show ¬ r.f0 ≤ r.f1 by omega), Bool.and_false]
          rfl
        · rw [if_neg h2, if_neg (by omega), h]
          show _ = some (decide (0 ≤ r.f0) && decide (r.f1 ≤ 1114367) && decide (r.f0 ≤ r.f1) && true && leastF (some r.f1) rest)
          rw [decide_eq_true (show 0 ≤ r.f0 by omega), decide_eq_true (show r.f1 ≤ 1114367 by omega), decide_eq_true (show r.f0 ≤ r.f1 by omega)]
          rfl
theorem leastF_cons (p : Option Int) (r : S58) (rest : List S58) : leastF p (r :: rest) = ((decide (0 ≤ r.f0) && decide (r.f1 ≤ 1114367) && decide (r.f0 ≤ r.f1) && (match p with | none => true | some h => decide (h < r.f0 - 1))) && leastF (some r.f1) rest) := by cases p <;> rfl
theorem leastF_iff : ∀ (l : List S42) (p : Option Int), leastF p (l.map to58) = true ↔ leastP l ∧ ∀ h ∈ p, ∀ r ∈ l, h + 1 < r.f0 := by
  intro l
  induction l with
  | nil => intro p; simp [leastF, leastP]
  | cons r rest ih =>
    intro p
    rw [List.map_cons, leastF_cons, Bool.and_eq_true, ih]
    have hd : (decide (0 ≤ (to58 r).f0) && decide ((to58 r).f1 ≤ 1114367) && decide ((to58 r).f0 ≤ (to58 r).f1) && (match p with | none => true | some h => decide (h < (to58 r).f0 - 1))) = true ↔ okR r ∧ ∀ h ∈ p, h + 1 < r.f0 := by
      unfold okR to58
      dsimp only
      cases p with
      | none =>
        simp only [Bool.and_eq_true, decide_eq_true_eq, Option.mem_def, reduceCtorEq, false_implies, implies_true, and_true]
        omega
      | some h =>
        simp only [Bool.and_eq_true, decide_eq_true_eq, Option.mem_def, Option.some.injEq, forall_eq']
        omega
    rw [hd]
    unfold leastP
    rw [List.pairwise_cons]
    constructor
    · rintro ⟨⟨h1, h2⟩, ⟨h3, h4⟩, h5⟩
      have h6 : ∀ q ∈ rest, r.f1 + 1 < q.f0 := fun q hq => h5 r.f1 rfl q hq
      refine ⟨⟨?_, h6, h4⟩, ?_⟩
      · intro q hq
        rcases List.mem_cons.mp hq with rfl | hq
        · exact h1
        · exact h3 q hq
      · intro h hh q hq
        have := h2 h hh
        rcases List.mem_cons.mp hq with rfl | hq
        · exact this
        · have := h6 q hq
          unfold okR at h1
          omega
    · rintro ⟨⟨h1, h2, h3⟩, h4⟩
      exact ⟨⟨h1 r (by simp), fun h hh => h4 h hh r (by simp)⟩, ⟨fun q hq => h1 q (by simp [hq]), h3⟩, fun h hh q hq => by
        have : r.f1 = h := by simpa [to58] using hh
        rw [← this]
        exact h2 q hq⟩
def leastB (l : List S42) : Bool := leastF none (l.map to58)
theorem leastB_iff (l : List S42) : leastB l = true ↔ leastP l := by
  unfold leastB
  rw [leastF_iff]
  simp

/-! ### Right -/
instance : DecidableEq S42 := fun a b =>
  if h : a.f0 = b.f0 ∧ a.f1 = b.f1 then .isTrue (by cases a; cases b; simp only at h; rw [h.1, h.2]) else .isFalse (fun e => h (by rw [e]; exact ⟨rfl, rfl⟩))
theorem Equal_l0 (xs ys : List S42) (hlen : xs.length < 8796093022208) (hxy : xs.length = ys.length) : ∀ (rest rest2 pre : List S42) (k : Nat), xs = pre ++ rest → ys = pre ++ rest2 → rest.length + 1 ≤ k →
    slices_Equal_rset_Range_rset_Range.l0 k xs ys (xs.length : Int) (pre.length : Int) = some (decide (rest = rest2)) := by
  intro rest
  induction rest with
  | nil =>
    intro rest2 pre k hxs hys hk
    obtain ⟨k, rfl⟩ : ∃ j, k = j + 1 := ⟨k - 1, by first | omega | (simp; done) | (simp only [List.length_append, List.length_cons, List.length_nil, List.length_singleton] at *; omega) | (simp; omega)⟩
    have : rest2 = [] := by
      rw [hxs, hys] at hxy
      simpa using hxy
    subst this
    simp only [List.append_nil] at hxs
    subst hxs
    simp [slices_Equal_rset_Range_rset_Range.l0]
  | cons r rest ih =>
    intro rest2 pre k hxs hys hk
    simp only [List.length_cons] at hk
    obtain ⟨k, rfl⟩ : ∃ j, k = j + 1 := ⟨k - 1, by omega⟩
    obtain ⟨s, rest3, rfl⟩ : ∃ s rest3, rest2 = s :: rest3 := by
      cases rest2 with
      | nil => rw [hxs, hys] at hxy; simp at hxy
      | cons s rest3 => exact ⟨s, rest3, rfl⟩
    have hl : xs.length = pre.length + (rest.length + 1) := by rw [hxs]; simp
    have hr : rd_T42 xs (pre.length : Int) = r := by rw [hxs]; exact rd42_app _ _ _
    have hs : rd_T42 ys (pre.length : Int) = s := by rw [hys]; exact rd42_app _ _ _
    have hw2 : wrap64 ((pre.length : Int) + 1) = ((pre.length + 1 : Nat) : Int) := by
      rw [w64 (by omega) (by omega)]
      simp
    simp only [slices_Equal_rset_Range_rset_Range.l0, hr, hs, hw2]
    rw [if_pos (by omega), if_pos (by omega), if_pos (by omega), if_pos (by omega)]
    by_cases he : r = s
    · subst he
      rw [if_neg (by simp)]
      have h := ih rest3 (pre ++ [r]) k (by rw [hxs]; simp) (by rw [hys]; simp) (by omega)
      rw [List.length_append, List.length_singleton] at h
      rw [h]
      simp
    · rw [if_pos, decide_eq_false]
      · intro h
        exact he (List.cons.inj h).1
      · cases r
        cases s
        simp only [S42.mk.injEq, not_and] at he
        simp only [Bool.or_eq_true, Bool.not_eq_true', beq_eq_false_iff_ne, ne_eq]
        by_cases h : ‹Int› = ‹Int›
        all_goals omega
theorem Equal_ev (a b : List S42) (hlen : a.length < 8796093022208) : Ev (fun k => slices_Equal_rset_Range_rset_Range.f k a b) (decide (a = b)) := by
  refine ⟨a.length + 1, fun k hk => ?_⟩
  show (if (a.length : Int) = (b.length : Int) then (slices_Equal_rset_Range_rset_Range.l0 k a b (a.length : Int) 0) else (some false)) = _
  by_cases h : (a.length : Int) = (b.length : Int)
  · rw [if_pos h]
    exact Equal_l0 a b hlen (by omega) a b [] k rfl rfl hk
  · rw [if_neg h, decide_eq_false]
    intro e
    rw [e] at h
    exact h rfl
theorem mg_length : ∀ (rest : List S42) (c : S42), (mg c rest).length ≤ rest.length + 1 := by
  intro rest
  induction rest with
  | nil => intro c; simp [mg]
  | cons r rest ih =>
    intro c
    unfold mg
    split
    · have := ih ⟨c.f0, mx c.f1 r.f1⟩
      simp only [List.length_cons]
      omega
    · have := ih r
      simp only [List.length_cons]
      omega
theorem mk_length (l : List S42) : (mk l).length ≤ l.length := by
  have h1 : (sortR (l.filterMap clipR)).length ≤ l.length := by
    rw [length_sortR]
    exact List.length_filterMap_le _ _
  unfold mk
  generalize sortR (l.filterMap clipR) = s at h1
  cases s with
  | nil => simp [mgT]
  | cons c rest =>
    have := mg_length rest c
    simp only [List.length_cons] at h1
    show (mg c rest).length ≤ l.length
    omega
theorem Right_ev (l : List S42) (hlen : l.length < 8796093022208) : Ev (fun k => rset_Right.f k l) (leastB l) := by
  unfold rset_Right.f
  refine Ev.bind (Make_ev l hlen) (Ev.bind (Equal_ev l (mk l) hlen) ?_)
  have : decide (l = mk l) = leastB l := by
    rw [Bool.eq_iff_iff, decide_eq_true_iff, leastB_iff, ← mk_eq_iff]
    exact ⟨Eq.symm, Eq.symm⟩
  rw [this]
  exact Ev.const _

end Go.Proofs.Yteploglmfmhppaa.P
