/- Chapter 02 in plain Lean, fourth part: counting; two lists together. -/
import Derived.Test.YteploglmfmhppaaL02c
import Derived.Test.YteploglmfmhppaaPx6
namespace Go.Proofs.Yteploglmfmhppaa.P
open Go.RowKit Go.Proofs.YteploglmfmhppaaW.PrintWords Go.Proofs.YteploglmfmhppaaW.PrintLast Go.Proofs.YteploglmfmhppaaW.PrintMore
set_option linter.unusedVariables false
set_option linter.unusedSimpArgs false

theorem count_between (a b : Nat) : ∀ N : Nat, (List.range N).countP (fun x => decide (a ≤ x) && decide (x ≤ b)) = min N (b + 1) - a := by
  intro N
  induction N with
  | zero => simp
  | succ N ih =>
    rw [List.range_succ, List.countP_append, ih, List.countP_singleton]
    by_cases h1 : a ≤ N
    · by_cases h2 : N ≤ b
      · rw [decide_eq_true h1, decide_eq_true h2]
        simp
        omega
      · rw [decide_eq_false h2, Bool.and_false]
        simp
        omega
    · rw [decide_eq_false h1, Bool.false_and]
      simp
      omega
theorem count_or {p q : Nat → Bool} : ∀ L : List Nat, (∀ x ∈ L, ¬(p x = true ∧ q x = true)) → L.countP (fun x => p x || q x) = L.countP p + L.countP q := by
  intro L
  induction L with
  | nil => intro _; rfl
  | cons x L ih =>
    intro h
    rw [List.countP_cons, List.countP_cons, List.countP_cons, ih (fun y hy => h y (by simp [hy]))]
    have := h x (by simp)
    cases hp : p x <;> cases hq : q x <;> simp_all <;> omega
theorem count_both {p q : Nat → Bool} : ∀ L : List Nat, L.countP (fun x => p x || q x) + L.countP (fun x => p x && q x) = L.countP p + L.countP q := by
  intro L
  induction L with
  | nil => rfl
  | cons x L ih =>
    rw [List.countP_cons, List.countP_cons, List.countP_cons, List.countP_cons]
    cases hp : p x <;> cases hq : q x <;> simp <;> omega

def sumC (l : List S42) : Int := (l.map fun r => r.f1 - r.f0 + 1).sum
def card (l : List S42) : Nat := (List.range 1114368).countP fun x : Nat => hasB l (x : Int)
theorem card_nil : card [] = 0 := by
  unfold card
  rw [List.countP_eq_zero]
  intro x _
  simp [hasB]
theorem card_cons (r : S42) (l : List S42) (h : leastP (r :: l)) : (card (r :: l) : Int) = (r.f1 - r.f0 + 1) + card l := by
  have hr := h.1 r (by simp)
  have hp := List.pairwise_cons.mp h.2
  unfold okR at hr
  have e : card (r :: l) = (List.range 1114368).countP (fun x => decide (r.f0.toNat ≤ x) && decide (x ≤ r.f1.toNat)) + card l := by
    unfold card
    rw [← count_or]
    · refine List.countP_congr fun x hx => ?_
      have hx2 := List.mem_range.mp hx
      simp only [hasB, List.any_cons, inR, Bool.and_eq_true, Bool.or_eq_true, decide_eq_true_eq]
      constructor
      · rintro ⟨h1, h2 | h2⟩
        · exact .inl (by omega)
        · exact .inr ⟨h1, h2⟩
      · rintro (h2 | h2)
        · exact ⟨by omega, .inl (by omega)⟩
        · exact ⟨h2.1, .inr h2.2⟩
    · rintro x hx ⟨h1, h2⟩
      simp only [Bool.and_eq_true, decide_eq_true_eq] at h1
      obtain ⟨_, _, q, hq, h3, h4⟩ := (hasB_iff _ _).mp h2
      have := hp.1 q hq
      omega
  rw [e, count_between]
  omega
theorem sumC_card : ∀ l : List S42, leastP l → sumC l = card l := by
  intro l
  induction l with
  | nil => intro _; rw [card_nil]; rfl
  | cons r l ih =>
    intro h
    rw [card_cons r l h, ← ih ⟨fun q hq => h.1 q (by simp [hq]), (List.pairwise_cons.mp h.2).2⟩]
    simp [sumC]
theorem card_le (l : List S42) : card l ≤ 1114368 := by
  have := List.countP_le_length (p := fun x : Nat => hasB l (x : Int)) (l := List.range 1114368)
  rwa [List.length_range] at this
theorem sumC_in {l : List S42} (h : leastP l) : 0 ≤ sumC l ∧ sumC l ≤ 1114368 := by
  rw [sumC_card l h]
  have := card_le l
  omega
theorem leastP_left {a b : List S42} (h : leastP (a ++ b)) : leastP a := ⟨fun r hr => h.1 r (List.mem_append_left _ hr), (List.pairwise_append.mp h.2).1⟩
theorem sumC_snoc (a : List S42) (r : S42) : sumC (a ++ [r]) = sumC a + (r.f1 - r.f0 + 1) := by simp [sumC]
theorem card_mk (l : List S42) : card (mk l) = card l := by
  have e : (fun x : Nat => hasB (mk l) (x : Int)) = fun x : Nat => hasB l (x : Int) := funext fun x => mk_hasB l x
  unfold card
  rw [e]
theorem card_not (l : List S42) : card (notR l) + card l = 1114368 := by
  have h := count_or (p := fun x : Nat => hasB (notR l) (x : Int)) (q := fun x : Nat => hasB l (x : Int)) (List.range 1114368) (by
    rintro x _ ⟨h1, h2⟩
    rw [notR_hasB, h2] at h1
    simp at h1)
  have h2 : (List.range 1114368).countP (fun x : Nat => hasB (notR l) (x : Int) || hasB l (x : Int)) = (List.range 1114368).length := by
    rw [List.countP_eq_length]
    intro x hx
    have hx2 := List.mem_range.mp hx
    rw [notR_hasB, decide_eq_true (show (0 : Int) ≤ x by omega), decide_eq_true (show (x : Int) ≤ 1114367 by omega)]
    cases hasB l (x : Int) <;> rfl
  rw [h2, List.length_range] at h
  exact h.symm
theorem card_or_and (a b : List S42) : card (orR a b) + card (andR a b) = card a + card b := by
  have h := count_both (p := fun x : Nat => hasB a (x : Int)) (q := fun x : Nat => hasB b (x : Int)) (List.range 1114368)
  have e1 : (fun x : Nat => hasB (orR a b) (x : Int)) = fun x : Nat => hasB a (x : Int) || hasB b (x : Int) := funext fun x => orR_hasB a b x
  have e2 : (fun x : Nat => hasB (andR a b) (x : Int)) = fun x : Nat => hasB a (x : Int) && hasB b (x : Int) := funext fun x => andR_hasB a b x
  unfold card
  rw [e1, e2]
  exact h

theorem Count_l0 (xs : List S42) (hx : leastP xs) (hlen : xs.length < 8796093022208) : ∀ (rest pre : List S42) (k : Nat), xs = pre ++ rest → rest.length + 1 ≤ k →
    rset_Count.l0 k (sumC pre) xs (xs.length : Int) (pre.length : Int) = some (sumC xs) := by
  intro rest
  induction rest with
  | nil =>
    intro pre k hxs hk
    obtain ⟨k, rfl⟩ : ∃ j, k = j + 1 := ⟨k - 1, by first | omega | (simp; done) | (simp only [List.length_append, List.length_cons, List.length_nil, List.length_singleton] at *; omega) | (simp; omega)⟩
    simp only [List.append_nil] at hxs
    subst hxs
    simp only [rset_Count.l0, Int.lt_irrefl, if_false]
  | cons r rest ih =>
    intro pre k hxs hk
    simp only [List.length_cons] at hk
    obtain ⟨k, rfl⟩ : ∃ j, k = j + 1 := ⟨k - 1, by omega⟩
    have hl : xs.length = pre.length + (rest.length + 1) := by rw [hxs]; simp
    have hr : rd_T42 xs (pre.length : Int) = r := by rw [hxs]; exact rd42_app _ _ _
    have hrx : okR r := hx.1 r (by rw [hxs]; simp)
    unfold okR at hrx
    have hnext : xs = (pre ++ [r]) ++ rest := by rw [hxs]; simp
    have hs1 := sumC_in (leastP_left (a := pre ++ [r]) (b := rest) (hnext ▸ hx))
    have hw2 : wrap64 ((pre.length : Int) + 1) = ((pre ++ [r]).length : Int) := by
      rw [w64 (by omega) (by omega)]
      simp
    have hw3 : wrap64 (sumC pre + wrap64 (wrap64 (r.f1 - r.f0) + 1)) = sumC (pre ++ [r]) := by
      rw [sumC_snoc] at *
      rw [w64 (n := r.f1 - r.f0) (by omega) (by omega), w64 (n := r.f1 - r.f0 + 1) (by omega) (by omega), w64 (by omega) (by omega)]
    simp only [rset_Count.l0, hr, hw2, hw3]
    rw [if_pos (by omega), if_pos (by omega), if_pos (by omega), ih (pre ++ [r]) k hnext (by omega)]
theorem Count_ev (l : List S42) (hlen : l.length < 8796093022208) : Ev (fun k => rset_Count.f k l) (card l : Int) := by
  unfold rset_Count.f
  have := mk_length l
  refine Ev.bind (Make_ev l hlen) ⟨(mk l).length + 1, fun k hk => ?_⟩
  have h := Count_l0 (mk l) (mk_least l) (by omega) (mk l) [] k rfl hk
  rw [sumC_card _ (mk_least l), card_mk] at h
  exact h

theorem CountsTail_ev (a b : List S42) (ha : a.length ≤ 40) (hb : b.length ≤ 40) : Ev (fun k => clewlaw02_RsetCounts.j0 k a b false) true := by
  have hma := mk_length a
  have hna := notR_length a
  have hor := mk_length (a ++ b)
  rw [List.length_append] at hor
  have hand := notR_length (orR (notR a) (notR b))
  have hnb := notR_length b
  have hor2 := mk_length (notR a ++ notR b)
  rw [List.length_append] at hor2
  have ca := card_le a
  have cb := card_le b
  have cn := card_not a
  have co := card_or_and a b
  have hE : Ev (fun k => (rset_Count.f k a).bind fun t398 => (if t398 = sumC (mk a) then ((rset_Count.f k a).bind fun t399 => ((rset_Not.f k a).bind fun t400 => ((rset_Count.f k t400).bind fun t403 => (if (wrap64 (t399 + t403)) = 1114368 then ((rset_Or.f k a b).bind fun t404 => ((rset_Count.f k t404).bind fun t407 => ((rset_And.f k a b).bind fun t408 => ((rset_Count.f k t408).bind fun t411 => ((rset_Count.f k a).bind fun t412 => ((rset_Count.f k b).bind fun t413 => (some ((wrap64 (t407 + t411)) == (wrap64 (t412 + t413)))))))))) else (some false))))) else (some false))) true := by
    have e1 : sumC (mk a) = (card a : Int) := by rw [sumC_card _ (mk_least a), card_mk]
    refine Ev.bind (Count_ev a (by omega)) (Ev.pos e1.symm (Ev.bind (Count_ev a (by omega)) (Ev.bind (Not_ev a (by omega)) (Ev.bind (Count_ev _ (by omega)) (Ev.pos ?_ (Ev.bind (Or_ev a b (by omega)) (Ev.bind (Count_ev _ (by unfold orR; omega)) (Ev.bind (And_ev a b (by omega)) (Ev.bind (Count_ev _ ?_) (Ev.bind (Count_ev a (by omega)) (Ev.bind (Count_ev b (by omega)) ?_)))))))))))
    · rw [w64 (by omega) (by omega)]
      omega
    · unfold andR
      unfold orR at hand ⊢
      omega
    · have e2 : (card (orR a b) : Int) + (card (andR a b) : Int) = (card a : Int) + (card b : Int) := by omega
      rw [e2, beq_self_eq_true]
      exact Ev.const _
  obtain ⟨K, hK⟩ := hE
  obtain ⟨K2, hK2⟩ := Make_ev a (by omega)
  -- the loop of the law itself
  have loop : ∀ (rest pre : List S42) (k : Nat), mk a = pre ++ rest → rest.length + 1 + K ≤ k → clewlaw02_RsetCounts.l0 k a b (sumC pre) (mk a) ((mk a).length : Int) (pre.length : Int) = some true := by
    intro rest
    induction rest with
    | nil =>
      intro pre k hxs hk
      obtain ⟨k, rfl⟩ : ∃ j, k = j + 1 := ⟨k - 1, by simp only [List.length_nil] at hk; omega⟩
      simp only [List.append_nil] at hxs
      subst hxs
      simp only [clewlaw02_RsetCounts.l0, Int.lt_irrefl, if_false]
      exact hK k (by simp only [List.length_nil] at hk; omega)
    | cons r rest ih =>
      intro pre k hxs hk
      simp only [List.length_cons] at hk
      obtain ⟨k, rfl⟩ : ∃ j, k = j + 1 := ⟨k - 1, by omega⟩
      have hl : (mk a).length = pre.length + (rest.length + 1) := by rw [hxs]; simp
      have hr : rd_T42 (mk a) (pre.length : Int) = r := by rw [hxs]; exact rd42_app _ _ _
      have hrx : okR r := (mk_least a).1 r (by rw [hxs]; simp)
      unfold okR at hrx
      have hnext : mk a = (pre ++ [r]) ++ rest := by rw [hxs]; simp
      have hs1 := sumC_in (leastP_left (a := pre ++ [r]) (b := rest) (hnext ▸ mk_least a))
      have hw2 : wrap64 ((pre.length : Int) + 1) = ((pre ++ [r]).length : Int) := by
        rw [w64 (by omega) (by omega)]
        simp
      have hw3 : wrap64 (sumC pre + wrap64 (wrap64 (r.f1 - r.f0) + 1)) = sumC (pre ++ [r]) := by
        rw [sumC_snoc] at *
        rw [w64 (n := r.f1 - r.f0) (by omega) (by omega), w64 (n := r.f1 - r.f0 + 1) (by omega) (by omega), w64 (by omega) (by omega)]
      simp only [clewlaw02_RsetCounts.l0, hr, hw2, hw3]
      rw [if_pos (by omega), if_pos (by omega), if_pos (by omega), ih (pre ++ [r]) k hnext (by omega)]
  refine ⟨(mk a).length + K + K2 + 3, fun k hk => ?_⟩
  obtain ⟨k, rfl⟩ : ∃ j, k = j + 1 := ⟨k - 1, by omega⟩
  show clewlaw02_RsetCounts.j0 (k + 1) a b false = some true
  simp only [clewlaw02_RsetCounts.j0]
  have h2 : rset_Make.f k a = some (mk a) := hK2 k (by omega)
  rw [if_neg (by simp), h2, Option.bind_some]
  exact loop (mk a) [] k rfl (by omega)
theorem RsetCounts_pure (a b : List S42) (ha : a.length * 16 ≤ 140737488351232) (_ : ∀ r ∈ a, (Lit.int .i64 r.f0).wf = true ∧ (Lit.int .i64 r.f1).wf = true) (hb : b.length * 16 ≤ 140737488351232) (_ : ∀ r ∈ b, (Lit.int .i64 r.f0).wf = true ∧ (Lit.int .i64 r.f1).wf = true) : ∃ k, clewlaw02_RsetCounts.f k a b = some true := by
  refine Ev.one ?_
  unfold clewlaw02_RsetCounts.f
  have ht : Ev (fun k => clewlaw02_RsetCounts.j0 k a b true) true := ⟨1, fun k hk => by
    obtain ⟨k, rfl⟩ : ∃ j, k = j + 1 := ⟨k - 1, by omega⟩
    simp [clewlaw02_RsetCounts.j0]⟩
  refine Ev.bind anchor02_ev (Ev.pos rfl ?_)
  by_cases h : (a.length : Int) > 40
  · exact Ev.pos h ht
  · refine Ev.neg h ?_
    by_cases h2 : (b.length : Int) > 40
    · rw [decide_eq_true h2]
      exact ht
    · rw [decide_eq_false h2]
      exact CountsTail_ev a b (by omega) (by omega)

end Go.Proofs.Yteploglmfmhppaa.P
