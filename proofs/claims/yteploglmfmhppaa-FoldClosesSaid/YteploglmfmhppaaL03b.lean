/- Chapter 03 in plain Lean, second part: what the printed functions answer. -/
import Derived.Test.YteploglmfmhppaaL03
import Derived.Test.YteploglmfmhppaaPx10
import Derived.Test.YteploglmfmhppaaPx11
import Derived.Test.YteploglmfmhppaaPx12
import Derived.Test.YteploglmfmhppaaPx13
namespace Go.Proofs.Yteploglmfmhppaa.P
open Go.RowKit Go.Proofs.YteploglmfmhppaaW.PrintWords Go.Proofs.YteploglmfmhppaaW.PrintLast Go.Proofs.YteploglmfmhppaaW.PrintMore
set_option linter.unusedVariables false
set_option linter.unusedSimpArgs false

def tabR : List S62 := [(⟨65, 90, 1, 32⟩ : S62), (⟨192, 214, 1, 32⟩ : S62), (⟨216, 222, 1, 32⟩ : S62), (⟨256, 302, 2, 1⟩ : S62), (⟨306, 310, 2, 1⟩ : S62), (⟨313, 327, 2, 1⟩ : S62), (⟨330, 374, 2, 1⟩ : S62), (⟨377, 381, 2, 1⟩ : S62), (⟨913, 929, 1, 32⟩ : S62), (⟨931, 939, 1, 32⟩ : S62), (⟨1024, 1039, 1, 80⟩ : S62), (⟨1040, 1071, 1, 32⟩ : S62), (⟨1120, 1152, 2, 1⟩ : S62), (⟨1329, 1366, 1, 48⟩ : S62), (⟨7680, 7828, 2, 1⟩ : S62), (⟨9398, 9423, 1, 26⟩ : S62), (⟨65313, 65338, 1, 32⟩ : S62), (⟨66560, 66599, 1, 40⟩ : S62)]
def tabS : List S66 := [(⟨181, 956⟩ : S66), (⟨376, 255⟩ : S66), (⟨383, 115⟩ : S66), (⟨962, 963⟩ : S66), (⟨8490, 107⟩ : S66), (⟨8491, 229⟩ : S66)]
def pR (r : S62) : Rw := (r.f0, r.f1, r.f2, r.f3)
def pS (s : S66) : Int × Int := (s.f0, s.f1)
theorem rows_f : fold_rows.f = some tabR := rfl
theorem singles_f : fold_singles.f = some tabS := rfl
theorem tabR_map : tabR.map pR = refRows := rfl
theorem tabS_map : tabS.map pS = refSingles := rfl
theorem pR_mem {r : S62} (h : r ∈ tabR) : pR r ∈ refRows := tabR_map ▸ List.mem_map.mpr ⟨r, h, rfl⟩
theorem pS_mem {s : S66} (h : s ∈ tabS) : pS s ∈ refSingles := tabS_map ▸ List.mem_map.mpr ⟨s, h, rfl⟩
theorem rd62_app (pre : List S62) (a : S62) (rest : List S62) : rd_T62 (pre ++ a :: rest) (pre.length : Int) = a := by simp [rd_T62]
theorem rd66_app (pre : List S66) (a : S66) (rest : List S66) : rd_T66 (pre ++ a :: rest) (pre.length : Int) = a := by simp [rd_T66]
theorem rdI_app (pre : List Int) (a : Int) (rest : List Int) : rd (pre ++ a :: rest) (pre.length : Int) = a := by simp [rd]

theorem upper_f {r : S62} (hr : r ∈ tabR) (y : Int) (h0 : -4000000 ≤ y) (h1 : y ≤ 4000000) : fold_row_upper.f r.f0 r.f1 r.f2 r.f3 y = some (rowHas y (pR r)) := by
  have hm := pR_mem hr
  have hb := rows_in _ hm
  have hi := rowHas_iff (x := y) hm
  unfold inRw at hi
  unfold pR at hb hi
  dsimp only at hb hi
  have hR : rowHas y (pR r) = decide (r.f0 ≤ y ∧ y ≤ r.f1 ∧ (r.f2 = 1 ∨ y % 2 = r.f0 % 2)) := by
    rw [Bool.eq_iff_iff, decide_eq_true_iff]
    exact hi
  rw [hR]
  unfold fold_row_upper.f
  by_cases g0 : y ≥ r.f0
  · rw [if_pos g0]
    by_cases g1 : y ≤ r.f1
    · rw [if_pos g1, if_neg (by omega), w64 (by omega) (by omega), Int.tmod_eq_emod_of_nonneg (by omega)]
      congr 1
      rw [Bool.eq_iff_iff, beq_iff_eq, decide_eq_true_iff]
      rcases hb.2.2.2.1 with e | e
      · rw [e]
        omega
      · rw [e]
        omega
    · rw [if_neg g1, decide_eq_false (fun h => g1 h.2.1)]
  · rw [if_neg g0, decide_eq_false (fun h => g0 h.1)]

theorem base_l1 (x : Int) (hx0 : -1000000 ≤ x) (hx1 : x ≤ 2000000) : ∀ (rest pre : List S62) (k : Nat), tabR = pre ++ rest → rest.length + 1 ≤ k →
    fold_base.l1 k x tabR (tabR.length : Int) (pre.length : Int) = some (match (rest.map pR).find? (rowHas x) with | some r => x + r.2.2.2 | none => x) := by
  have hT : tabR.length = 18 := rfl
  intro rest
  induction rest with
  | nil =>
    intro pre k hxs hk
    obtain ⟨k, rfl⟩ : ∃ j, k = j + 1 := ⟨k - 1, by simp only [List.length_nil] at hk; omega⟩
    have : tabR.length = pre.length := by rw [hxs]; simp
    simp only [fold_base.l1]
    rw [if_neg (by omega)]
    rfl
  | cons r rest ih =>
    intro pre k hxs hk
    simp only [List.length_cons] at hk
    obtain ⟨k, rfl⟩ : ∃ j, k = j + 1 := ⟨k - 1, by omega⟩
    have hl : tabR.length = pre.length + (rest.length + 1) := by rw [hxs]; simp
    have hm : r ∈ tabR := by rw [hxs]; simp
    have hb := rows_in _ (pR_mem hm)
    unfold pR at hb
    dsimp only at hb
    have hr : rd_T62 tabR (pre.length : Int) = r := by rw [hxs]; exact rd62_app _ _ _
    have hw2 : wrap64 ((pre.length : Int) + 1) = ((pre ++ [r]).length : Int) := by
      rw [w64 (by omega) (by omega)]
      simp
    have hnext : tabR = (pre ++ [r]) ++ rest := by rw [hxs]; simp
    have h := ih (pre ++ [r]) k hnext (by omega)
    simp only [fold_base.l1, hr, hw2]
    rw [if_pos (by omega), if_pos (by omega), if_pos (by omega), upper_f hm x (by omega) (by omega), Option.bind_some, List.map_cons, List.find?_cons, h]
    cases hh : rowHas x (pR r) with
    | true =>
      have hin := (rowHas_iff (pR_mem hm)).mp hh
      unfold inRw pR at hin
      dsimp only at hin
      rw [if_pos rfl, w64 (by omega) (by omega)]
      rfl
    | false => rw [if_neg (by simp)]
theorem base_l0 (x : Int) (hx0 : -1000000 ≤ x) (hx1 : x ≤ 2000000) : ∀ (rest pre : List S66) (k : Nat), tabS = pre ++ rest → rest.length + 20 ≤ k →
    fold_base.l0 k x tabS (tabS.length : Int) (pre.length : Int) = some (match (rest.map pS).find? (fun s => decide (s.1 = x)) with | some s => s.2 | none => match refRows.find? (rowHas x) with | some r => x + r.2.2.2 | none => x) := by
  have hT : tabS.length = 6 := rfl
  intro rest
  induction rest with
  | nil =>
    intro pre k hxs hk
    obtain ⟨k, rfl⟩ : ∃ j, k = j + 1 := ⟨k - 1, by simp only [List.length_nil] at hk; omega⟩
    have : tabS.length = pre.length := by rw [hxs]; simp
    have h := base_l1 x hx0 hx1 tabR [] k rfl (by simp only [List.length_nil] at hk; have : tabR.length = 18 := rfl; omega)
    simp only [fold_base.l0, rows_f, Option.bind_some]
    rw [if_neg (by omega)]
    exact h
  | cons r rest ih =>
    intro pre k hxs hk
    simp only [List.length_cons] at hk
    obtain ⟨k, rfl⟩ : ∃ j, k = j + 1 := ⟨k - 1, by omega⟩
    have hl : tabS.length = pre.length + (rest.length + 1) := by rw [hxs]; simp
    have hr : rd_T66 tabS (pre.length : Int) = r := by rw [hxs]; exact rd66_app _ _ _
    have hw2 : wrap64 ((pre.length : Int) + 1) = ((pre ++ [r]).length : Int) := by
      rw [w64 (by omega) (by omega)]
      simp
    have hnext : tabS = (pre ++ [r]) ++ rest := by rw [hxs]; simp
    have h := ih (pre ++ [r]) k hnext (by omega)
    simp only [fold_base.l0, hr, hw2]
    rw [if_pos (by omega), if_pos (by omega), if_pos (by omega), List.map_cons, List.find?_cons, h]
    by_cases he : r.f0 = x
    · rw [if_pos he, decide_eq_true (show (pS r).1 = x from he)]
      rfl
    · rw [if_neg he, decide_eq_false (show ¬ (pS r).1 = x from he)]
theorem base_f (x : Int) (hx0 : -1000000 ≤ x) (hx1 : x ≤ 2000000) (k : Nat) (hk : 26 ≤ k) : fold_base.f k x = some (refWith x) := by
  have h := base_l0 x hx0 hx1 tabS [] k rfl (by have : tabS.length = 6 := rfl; omega)
  unfold fold_base.f
  rw [singles_f, Option.bind_some]
  exact h

/-! ### Orbit -/
theorem orbit_l1 (b : Int) : ∀ (rest pre : List S66) (acc : List Int) (k : Nat), tabS = pre ++ rest → acc.length + rest.length < 1000 → rest.length + 1 ≤ k →
    fold_Orbit.l1 k b acc tabS (tabS.length : Int) (pre.length : Int) = some (sortI (acc ++ ((rest.map pS).filter fun s => decide (s.2 = b)).map (·.1))) := by
  have hT : tabS.length = 6 := rfl
  intro rest
  induction rest with
  | nil =>
    intro pre acc k hxs ha hk
    obtain ⟨k, rfl⟩ : ∃ j, k = j + 1 := ⟨k - 1, by simp only [List.length_nil] at hk; omega⟩
    have : tabS.length = pre.length := by rw [hxs]; simp
    simp only [fold_Orbit.l1, slices_Sort_int_int.f]
    rw [if_neg (by omega), if_pos (by simp only [List.length_nil] at ha; omega)]
    simp
  | cons r rest ih =>
    intro pre acc k hxs ha hk
    simp only [List.length_cons] at hk ha
    obtain ⟨k, rfl⟩ : ∃ j, k = j + 1 := ⟨k - 1, by omega⟩
    have hl : tabS.length = pre.length + (rest.length + 1) := by rw [hxs]; simp
    have hr : rd_T66 tabS (pre.length : Int) = r := by rw [hxs]; exact rd66_app _ _ _
    have hw2 : wrap64 ((pre.length : Int) + 1) = ((pre ++ [r]).length : Int) := by
      rw [w64 (by omega) (by omega)]
      simp
    have hnext : tabS = (pre ++ [r]) ++ rest := by rw [hxs]; simp
    simp only [fold_Orbit.l1, hr, hw2]
    rw [if_pos (by omega), if_pos (by omega), if_pos (by omega), List.map_cons, List.filter_cons]
    by_cases he : r.f1 = b
    · rw [if_pos he, if_pos (by omega), ih (pre ++ [r]) (acc ++ [r.f0]) k hnext (by first | (simp; done) | (simp; omega)) (by omega), decide_eq_true (show (pS r).2 = b from he), if_pos rfl, List.append_assoc]
      rfl
    · rw [if_neg he, ih (pre ++ [r]) acc k hnext (by omega) (by omega), decide_eq_false (show ¬ (pS r).2 = b from he), if_neg (by simp)]
theorem orbit_l0 (b : Int) (hb0 : 0 ≤ b) (hb1 : b ≤ 2000000) : ∀ (rest pre : List S62) (acc : List Int) (k : Nat), tabR = pre ++ rest → acc.length + rest.length < 100 → rest.length + 10 ≤ k →
    fold_Orbit.l0 k b acc tabR (tabR.length : Int) (pre.length : Int) = some (sortI (acc ++ (((rest.map pR).filter fun r => rowHas (b - r.2.2.2) r).map fun r => b - r.2.2.2) ++ siL b)) := by
  have hT : tabR.length = 18 := rfl
  intro rest
  induction rest with
  | nil =>
    intro pre acc k hxs ha hk
    obtain ⟨k, rfl⟩ : ∃ j, k = j + 1 := ⟨k - 1, by simp only [List.length_nil] at hk; omega⟩
    have : tabR.length = pre.length := by rw [hxs]; simp
    have hS : tabS.length = 6 := rfl
    have h := orbit_l1 b tabS [] acc k rfl (by simp only [List.length_nil] at ha; omega) (by simp only [List.length_nil] at hk; omega)
    simp only [fold_Orbit.l0, singles_f, Option.bind_some]
    rw [if_neg (by omega), List.map_nil, List.filter_nil, List.map_nil, List.append_nil]
    exact h
  | cons r rest ih =>
    intro pre acc k hxs ha hk
    simp only [List.length_cons] at hk ha
    obtain ⟨k, rfl⟩ : ∃ j, k = j + 1 := ⟨k - 1, by omega⟩
    have hl : tabR.length = pre.length + (rest.length + 1) := by rw [hxs]; simp
    have hm : r ∈ tabR := by rw [hxs]; simp
    have hb := rows_in _ (pR_mem hm)
    unfold pR at hb
    dsimp only at hb
    have hr : rd_T62 tabR (pre.length : Int) = r := by rw [hxs]; exact rd62_app _ _ _
    have hw2 : wrap64 ((pre.length : Int) + 1) = ((pre ++ [r]).length : Int) := by
      rw [w64 (by omega) (by omega)]
      simp
    have hw3 : wrap64 (b - r.f3) = b - r.f3 := w64 (by omega) (by omega)
    have hnext : tabR = (pre ++ [r]) ++ rest := by rw [hxs]; simp
    simp only [fold_Orbit.l0, hr, hw2, hw3]
    rw [if_pos (by omega), if_pos (by omega), if_pos (by omega), upper_f hm (b - r.f3) (by omega) (by omega), Option.bind_some, List.map_cons, List.filter_cons]
    have hp : (pR r).2.2.2 = r.f3 := rfl
    rw [hp]
    cases hh : rowHas (b - r.f3) (pR r) with
    | true =>
      rw [if_pos rfl, if_pos (by omega), ih (pre ++ [r]) (acc ++ [b - r.f3]) k hnext (by first | (simp; done) | (simp; omega)) (by omega), if_pos rfl, List.map_cons, hp]
      simp only [List.append_assoc, List.singleton_append, List.cons_append, List.nil_append]
    | false => rw [if_neg (by simp), ih (pre ++ [r]) acc k hnext (by omega) (by omega), if_neg (by simp)]
theorem orbit_f (x : Int) (k : Nat) (hk : 40 ≤ k) : fold_Orbit.f k x = some (orb x) := by
  obtain ⟨k, rfl⟩ : ∃ j, k = j + 1 := ⟨k - 1, by omega⟩
  unfold fold_Orbit.f orb
  by_cases h0 : x < 0
  · rw [if_pos h0, if_neg (by omega)]
    simp [fold_Orbit.j0]
  · rw [if_neg h0]
    by_cases h1 : x > 1114367
    · rw [decide_eq_true h1, if_neg (by omega)]
      simp [fold_Orbit.j0]
    · have hb := with_in (x := x) (by omega) (by omega)
      rw [decide_eq_false h1, if_pos (by omega)]
      have h := orbit_l0 (refWith x) (by omega) (by omega) tabR [] [refWith x] k rfl (by have : tabR.length = 18 := rfl; simp; omega) (by have : tabR.length = 18 := rfl; omega)
      simp only [fold_Orbit.j0]
      rw [if_neg (by simp), base_f x (by omega) (by omega) k (by omega), Option.bind_some, rows_f, Option.bind_some]
      exact h
theorem orbit_ev (x : Int) : Ev (fun k => fold_Orbit.f k x) (orb x) := ⟨40, fun k hk => orbit_f x k hk⟩
theorem fold_ev (x : Int) : Ev (fun k => fold_Fold.f k x) (foldI x) := by
  unfold fold_Fold.f foldI
  refine Ev.bind (orbit_ev x) ?_
  cases h : orb x with
  | nil => exact Ev.neg (by simp) (Ev.const _)
  | cons y l => exact Ev.pos (by first | (simp; done) | (simp; omega)) (Ev.pos (by first | (simp; done) | (simp; omega)) (Ev.const _))
theorem same_ev (x y : Int) : Ev (fun k => fold_Same.f k x y) (foldI x == foldI y) := by
  unfold fold_Same.f
  exact Ev.bind (fold_ev x) (Ev.bind (fold_ev y) (Ev.const _))

/-! ### the document's Orbit -/
def farL : List Int := [80, 48, 40, 32, 26, 1, 0, -1]
def stepA (b far : Int) : List Int := if far ≥ 0 ∧ b - far ≥ 0 ∧ refWith (b - far) = b then [b - far] else []
def addS (b : Int) (acc : List Int) (y : Int) : List Int := if refWith y = b ∧ y ∉ acc then acc ++ [y] else acc

theorem ref_l4 (xs0 : List Int) (i : Nat) (hlen : xs0.length < 1000)
    (next : ∀ xs : List Int, xs.Perm xs0 → (xs.take (i + 1)).Pairwise (· ≤ ·) → Ev (fun k => clewref03_Orbit.l3 k xs ((i + 1 : Nat) : Int)) (sortI xs0)) :
    ∀ (n : Nat) (A B C : List Int) (v : Int), A.length = n → n + B.length = i → (A ++ v :: (B ++ C)).Perm xs0 → (A ++ B).Pairwise (· ≤ ·) → (∀ b ∈ B, v ≤ b) →
      Ev (fun k => clewref03_Orbit.l4 k (A ++ v :: (B ++ C)) (i : Int) (A.length : Int)) (sortI xs0) := by
  intro n
  induction n with
  | zero =>
    intro A B C v hA hi hp hs hv
    obtain rfl := List.length_eq_zero_iff.mp hA
    have h := next (v :: (B ++ C)) hp (by
      have : (v :: (B ++ C)).take (i + 1) = v :: B := by
        rw [List.take_succ_cons]
        congr 1
        exact List.take_left' (by omega)
      rw [this, List.pairwise_cons]
      exact ⟨hv, hs⟩)
    have hl := hp.length_eq
    simp only [List.nil_append, List.length_cons, List.length_append] at hl
    obtain ⟨K, hK⟩ := h
    refine ⟨K + 1, fun k hk => ?_⟩
    obtain ⟨k, rfl⟩ : ∃ j, k = j + 1 := ⟨k - 1, by omega⟩
    have hw : wrap64 ((i : Int) + 1) = ((i + 1 : Nat) : Int) := by rw [w64 (by omega) (by omega)]; simp
    show clewref03_Orbit.l4 (k + 1) (v :: (B ++ C)) (i : Int) 0 = _
    simp only [clewref03_Orbit.l4, hw]
    rw [if_neg (by omega)]
    exact hK k (by omega)
  | succ n ih =>
    intro A B C v hA hi hp hs hv
    obtain ⟨A, a, rfl⟩ : ∃ A' a, A = A' ++ [a] := ⟨A.dropLast, A.getLast (by intro e; rw [e] at hA; simp at hA), (List.dropLast_concat_getLast _).symm⟩
    simp only [List.length_append, List.length_singleton] at hA
    have hA2 : A.length = n := by omega
    have hl := hp.length_eq
    simp only [List.length_cons, List.length_append, List.length_nil] at hl
    have hw1 : wrap64 (((A ++ [a]).length : Int) - 1) = (A.length : Int) := by
      rw [w64 (by first | (simp; done) | (simp; omega)) (by first | (simp; done) | (simp; omega))]
      simp
    have hw : wrap64 ((i : Int) + 1) = ((i + 1 : Nat) : Int) := by rw [w64 (by omega) (by omega)]; simp
    have r1 : rd ((A ++ [a]) ++ v :: (B ++ C)) ((A ++ [a]).length : Int) = v := rdI_app _ _ _
    have r0 : rd ((A ++ [a]) ++ v :: (B ++ C)) (A.length : Int) = a := by
      rw [List.append_assoc]
      exact rdI_app A a (v :: (B ++ C))
    have hs' : ((A ++ [a]) ++ B).Pairwise (· ≤ ·) := hs
    by_cases hc : a > v
    · have h := ih A (a :: B) C v hA2 (by first | (simp; done) | (simp; omega)) (by
        refine List.Perm.trans ?_ hp
        rw [List.append_assoc]
        exact List.Perm.append_left A (List.Perm.swap a v (B ++ C))) (by
        rw [List.append_assoc] at hs'
        exact hs') (by
        intro b hb
        rcases List.mem_cons.mp hb with rfl | hb
        · omega
        · exact hv b hb)
      obtain ⟨K, hK⟩ := h
      refine ⟨K + 1, fun k hk => ?_⟩
      obtain ⟨k, rfl⟩ : ∃ j, k = j + 1 := ⟨k - 1, by omega⟩
      have hset : (((A ++ [a]) ++ v :: (B ++ C)).set ((A ++ [a]).length : Int).toNat a).set (A.length : Int).toNat v = A ++ v :: ((a :: B) ++ C) := by
        simp [List.set_append_right]
      simp only [clewref03_Orbit.l4, hw1, r0, r1]
      rw [if_pos (by first | (simp; done) | (simp; omega)), if_pos (by omega), if_pos (by first | (simp; done) | (simp; omega)), if_pos (by omega), if_pos (by first | (simp; done) | (simp; omega)), if_pos hc, hset]
      exact hK k (by omega)
    · have h := next ((A ++ [a]) ++ v :: (B ++ C)) hp (by
        have e : ((A ++ [a]) ++ v :: (B ++ C)).take (i + 1) = (A ++ [a]) ++ v :: B := by
          rw [show (A ++ [a]) ++ v :: (B ++ C) = ((A ++ [a]) ++ v :: B) ++ C by simp]
          exact List.take_left' (by first | (simp; done) | (simp; omega))
        rw [e, List.pairwise_append]
        have hq := List.pairwise_append.mp hs'
        refine ⟨hq.1, List.pairwise_cons.mpr ⟨hv, hq.2.1⟩, ?_⟩
        intro x hx y hy
        rcases List.mem_cons.mp hy with rfl | hy
        · rcases List.mem_append.mp hx with hx | hx
          · have := (List.pairwise_append.mp hq.1).2.2 x hx a (by simp)
            omega
          · rw [List.mem_singleton.mp hx]
            omega
        · exact hq.2.2 x hx y hy)
      obtain ⟨K, hK⟩ := h
      refine ⟨K + 1, fun k hk => ?_⟩
      obtain ⟨k, rfl⟩ : ∃ j, k = j + 1 := ⟨k - 1, by omega⟩
      simp only [clewref03_Orbit.l4, hw1, r0, r1, hw]
      rw [if_pos (by first | (simp; done) | (simp; omega)), if_pos (by omega), if_pos (by first | (simp; done) | (simp; omega)), if_pos (by omega), if_pos (by first | (simp; done) | (simp; omega)), if_neg hc]
      exact hK k (by omega)

theorem ref_l3 (xs0 : List Int) (hlen : xs0.length < 1000) : ∀ (n i : Nat) (xs : List Int), xs0.length - i = n → xs.Perm xs0 → (xs.take i).Pairwise (· ≤ ·) → 1 ≤ i → Ev (fun k => clewref03_Orbit.l3 k xs (i : Int)) (sortI xs0) := by
  intro n
  induction n with
  | zero =>
    intro i xs hn hp hs h1
    have hl := hp.length_eq
    rw [List.take_of_length_le (by omega)] at hs
    refine ⟨1, fun k hk => ?_⟩
    obtain ⟨k, rfl⟩ : ∃ j, k = j + 1 := ⟨k - 1, by omega⟩
    simp only [clewref03_Orbit.l3]
    rw [if_neg (by omega), sortI_of_sorted hp hs]
  | succ n ih =>
    intro i xs hn hp hs h1
    have hl := hp.length_eq
    have e : xs = xs.take i ++ xs[i] :: (([] : List Int) ++ xs.drop (i + 1)) := by
      rw [List.nil_append, ← List.drop_eq_getElem_cons (by omega), List.take_append_drop]
    have h := ref_l4 xs0 i hlen (fun ys hy hys => ih (i + 1) ys (by omega) hy hys (by omega)) i (xs.take i) [] (xs.drop (i + 1)) xs[i] (by first | (simp; done) | (simp; omega)) (by simp) (e ▸ hp) (by rw [List.append_nil]; exact hs) (by simp)
    rw [← e] at h
    have hti : ((xs.take i).length : Int) = (i : Int) := by first | (simp; done) | (simp; omega)
    rw [hti] at h
    obtain ⟨K, hK⟩ := h
    refine ⟨K + 1, fun k hk => ?_⟩
    obtain ⟨k, rfl⟩ : ∃ j, k = j + 1 := ⟨k - 1, by omega⟩
    simp only [clewref03_Orbit.l3]
    rw [if_pos (by omega)]
    exact hK k (by omega)

theorem rdA_app (pre : List Int) (a : Int) (rest xs : List Int) (h : xs = pre ++ a :: rest) : rd xs (pre.length : Int) = a := by rw [h]; exact rdI_app _ _ _
theorem with_f (x : Int) (h0 : -1000000 ≤ x) (h1 : x ≤ 2000000) : clewref03_with.f x = some (refWith x) := by
  unfold clewref03_with.f
  rw [if_pos ⟨h0, h1⟩]

theorem ref_l2 (xs : List Int) (b y i50 : Int) (r : List Int) (hlen : xs.length < 1000) : ∀ (rest pre : List Int) (fl : Bool), xs = pre ++ rest →
    Ev (fun k => clewref03_Orbit.l1 k (if fl = true ∧ y ∉ rest then xs ++ [y] else xs) b (wrap64 (i50 + 1))) r → Ev (fun k => clewref03_Orbit.l2 k xs b y fl i50 (xs.length : Int) (pre.length : Int)) r := by
  intro rest
  induction rest with
  | nil =>
    intro pre fl hxs h
    obtain ⟨K, hK⟩ := h
    refine ⟨K + 1, fun k hk => ?_⟩
    obtain ⟨k, rfl⟩ : ∃ j, k = j + 1 := ⟨k - 1, by omega⟩
    have hl : xs.length = pre.length := by rw [hxs]; simp
    have h2 := hK k (by omega)
    simp only [clewref03_Orbit.l2]
    rw [if_neg (by omega)]
    cases fl with
    | true =>
      rw [if_pos ⟨rfl, by simp⟩] at h2
      rw [if_pos rfl, if_pos (by omega)]
      exact h2
    | false =>
      rw [if_neg (by simp)] at h2
      rw [if_neg (by simp)]
      exact h2
  | cons z rest ih =>
    intro pre fl hxs h
    have hl : xs.length = pre.length + (rest.length + 1) := by rw [hxs]; simp
    have hr : rd xs (pre.length : Int) = z := rdA_app _ _ _ _ hxs
    have hw2 : wrap64 ((pre.length : Int) + 1) = ((pre ++ [z]).length : Int) := by
      rw [w64 (by omega) (by omega)]
      simp
    have hnext : xs = (pre ++ [z]) ++ rest := by rw [hxs]; simp
    have h3 := ih (pre ++ [z]) (fl && (z != y)) hnext (by
      have e : ((fl && (z != y)) = true ∧ y ∉ rest) ↔ (fl = true ∧ y ∉ z :: rest) := by
        rw [Bool.and_eq_true, bne_iff_ne, List.mem_cons, not_or]
        exact ⟨fun ⟨⟨h1, h2⟩, h3⟩ => ⟨h1, fun e => h2 e.symm, h3⟩, fun ⟨h1, h2, h3⟩ => ⟨⟨h1, fun e => h2 e.symm⟩, h3⟩⟩
      by_cases hc : fl = true ∧ y ∉ z :: rest
      · rw [if_pos hc] at h
        rw [if_pos (e.mpr hc)]
        exact h
      · rw [if_neg hc] at h
        rw [if_neg (fun g => hc (e.mp g))]
        exact h)
    obtain ⟨K, hK⟩ := h3
    refine ⟨K + 1, fun k hk => ?_⟩
    obtain ⟨k, rfl⟩ : ∃ j, k = j + 1 := ⟨k - 1, by omega⟩
    have h2 := hK k (by omega)
    simp only [clewref03_Orbit.l2, hr, hw2]
    rw [if_pos (by omega), if_pos (by omega), if_pos (by omega)]
    cases fl with
    | true =>
      rw [if_pos rfl]
      exact h2
    | false =>
      rw [if_neg (by simp)]
      exact h2

theorem syms_in : ∀ y ∈ clewref03_Orbit.a1, 0 ≤ y ∧ y ≤ 1114367 := by decide +kernel
theorem ref_l1 (b : Int) (r : List Int) : ∀ (rest pre acc : List Int), clewref03_Orbit.a1 = pre ++ rest → acc.length + rest.length < 900 →
    Ev (fun k => clewref03_Orbit.l3 k (rest.foldl (addS b) acc) 1) r → Ev (fun k => clewref03_Orbit.l1 k acc b (pre.length : Int)) r := by
  have hT : clewref03_Orbit.a1.length = 6 := rfl
  intro rest
  induction rest with
  | nil =>
    intro pre acc hxs ha h
    obtain ⟨K, hK⟩ := h
    refine ⟨K + 1, fun k hk => ?_⟩
    obtain ⟨k, rfl⟩ : ∃ j, k = j + 1 := ⟨k - 1, by omega⟩
    have hl : clewref03_Orbit.a1.length = pre.length := by rw [hxs]; simp
    simp only [clewref03_Orbit.l1]
    rw [if_neg (by omega)]
    exact hK k (by omega)
  | cons y rest ih =>
    intro pre acc hxs ha h
    simp only [List.length_cons] at ha
    have hl : clewref03_Orbit.a1.length = pre.length + (rest.length + 1) := by rw [hxs]; simp
    have hr : rd clewref03_Orbit.a1 (pre.length : Int) = y := rdA_app _ _ _ _ hxs
    have hy := syms_in y (by rw [hxs]; simp)
    have hw2 : wrap64 ((pre.length : Int) + 1) = ((pre ++ [y]).length : Int) := by
      rw [w64 (by omega) (by omega)]
      simp
    have hnext : clewref03_Orbit.a1 = (pre ++ [y]) ++ rest := by rw [hxs]; simp
    rw [List.foldl_cons] at h
    by_cases hw : refWith y = b
    · have hA : addS b acc y = if true = true ∧ y ∉ acc then acc ++ [y] else acc := by simp [addS, hw]
      have h3 := ref_l2 acc b y (pre.length : Int) r (by omega) acc [] true rfl (by
        rw [hw2, ← hA]
        exact ih (pre ++ [y]) (addS b acc y) hnext (by unfold addS; split <;> (try simp only [List.length_append, List.length_singleton, List.length_nil]) <;> omega) h)
      obtain ⟨K, hK⟩ := h3
      refine ⟨K + 1, fun k hk => ?_⟩
      obtain ⟨k, rfl⟩ : ∃ j, k = j + 1 := ⟨k - 1, by omega⟩
      simp only [clewref03_Orbit.l1, hr]
      rw [if_pos (by omega), if_pos (by omega), with_f y (by omega) (by omega), Option.bind_some, if_pos hw]
      exact hK k (by omega)
    · have hA : addS b acc y = acc := by simp [addS, hw]
      rw [hA] at h
      obtain ⟨K, hK⟩ := ih (pre ++ [y]) acc hnext (by omega) h
      refine ⟨K + 1, fun k hk => ?_⟩
      obtain ⟨k, rfl⟩ : ∃ j, k = j + 1 := ⟨k - 1, by omega⟩
      simp only [clewref03_Orbit.l1, hr, hw2]
      rw [if_pos (by omega), if_pos (by omega), with_f y (by omega) (by omega), Option.bind_some, if_neg hw]
      exact hK k (by omega)

theorem fars_in : ∀ y ∈ clewref03_Orbit.a0, -1 ≤ y ∧ y ≤ 80 := by decide +kernel
theorem ref_l0 (b : Int) (hb0 : 0 ≤ b) (hb1 : b ≤ 1114367) (r : List Int) : ∀ (rest pre acc : List Int), clewref03_Orbit.a0 = pre ++ rest → acc.length + rest.length < 100 →
    Ev (fun k => clewref03_Orbit.l1 k (acc ++ rest.flatMap (stepA b)) b 0) r → Ev (fun k => clewref03_Orbit.l0 k acc b (pre.length : Int)) r := by
  have hT : clewref03_Orbit.a0.length = 8 := rfl
  intro rest
  induction rest with
  | nil =>
    intro pre acc hxs ha h
    rw [List.flatMap_nil, List.append_nil] at h
    obtain ⟨K, hK⟩ := h
    refine ⟨K + 1, fun k hk => ?_⟩
    obtain ⟨k, rfl⟩ : ∃ j, k = j + 1 := ⟨k - 1, by omega⟩
    have hl : clewref03_Orbit.a0.length = pre.length := by rw [hxs]; simp
    simp only [clewref03_Orbit.l0]
    rw [if_neg (by omega)]
    exact hK k (by omega)
  | cons y rest ih =>
    intro pre acc hxs ha h
    simp only [List.length_cons] at ha
    have hl : clewref03_Orbit.a0.length = pre.length + (rest.length + 1) := by rw [hxs]; simp
    have hr : rd clewref03_Orbit.a0 (pre.length : Int) = y := rdA_app _ _ _ _ hxs
    have hy := fars_in y (by rw [hxs]; simp)
    have hw2 : wrap64 ((pre.length : Int) + 1) = ((pre ++ [y]).length : Int) := by
      rw [w64 (by omega) (by omega)]
      simp
    have hw3 : wrap64 (b - y) = b - y := w64 (by omega) (by omega)
    have hnext : clewref03_Orbit.a0 = (pre ++ [y]) ++ rest := by rw [hxs]; simp
    rw [List.flatMap_cons, ← List.append_assoc] at h
    obtain ⟨K, hK⟩ := ih (pre ++ [y]) (acc ++ stepA b y) hnext (by unfold stepA; split <;> (try simp only [List.length_append, List.length_singleton, List.length_nil]) <;> omega) h
    refine ⟨K + 1, fun k hk => ?_⟩
    obtain ⟨k, rfl⟩ : ∃ j, k = j + 1 := ⟨k - 1, by omega⟩
    have h2 := hK k (by omega)
    unfold stepA at h2
    simp only [clewref03_Orbit.l0, hr, hw2, hw3]
    rw [if_pos (by omega), if_pos (by omega)]
    by_cases g0 : y ≥ 0
    · rw [if_pos g0]
      by_cases g1 : b - y ≥ 0
      · rw [if_pos g1, with_f (b - y) (by omega) (by omega), Option.bind_some]
        by_cases g2 : refWith (b - y) = b
        · rw [if_pos ⟨g0, g1, g2⟩] at h2
          rw [if_pos g2, if_pos (by omega)]
          exact h2
        · rw [if_neg (fun g => g2 g.2.2), List.append_nil] at h2
          rw [if_neg g2]
          exact h2
      · rw [if_neg (fun g => g1 g.2.1), List.append_nil] at h2
        rw [if_neg g1]
        exact h2
    · rw [if_neg (fun g => g0 g.1), List.append_nil] at h2
      rw [if_neg g0]
      exact h2

def refL (b : Int) : List Int := clewref03_Orbit.a1.foldl (addS b) (clewref03_Orbit.a0.flatMap (stepA b))
theorem mem_stepA {b far y : Int} : y ∈ stepA b far ↔ far ≥ 0 ∧ y = b - far ∧ y ≥ 0 ∧ refWith y = b := by
  unfold stepA
  split
  · rename_i h
    rw [List.mem_singleton]
    exact ⟨fun e => ⟨h.1, e, by rw [e]; exact h.2.1, by rw [e]; exact h.2.2⟩, fun e => e.2.1⟩
  · rename_i h
    simp only [List.not_mem_nil, false_iff]
    rintro ⟨h1, rfl, h2, h3⟩
    exact h ⟨h1, h2, h3⟩
theorem steps_nodup (b : Int) : ∀ L : List Int, L.Nodup → (L.flatMap (stepA b)).Nodup := by
  intro L
  induction L with
  | nil => intro _; exact List.nodup_nil
  | cons a L ih =>
    intro h
    obtain ⟨h1, h2⟩ := List.nodup_cons.mp h
    rw [List.flatMap_cons, List.nodup_append]
    refine ⟨?_, ih h2, ?_⟩
    · unfold stepA
      split
      · simp
      · exact List.nodup_nil
    · intro x hx y hy e
      subst e
      obtain ⟨far, hf, hm⟩ := List.mem_flatMap.mp hy
      have g1 := (mem_stepA.mp hx).2.1
      have g2 := (mem_stepA.mp hm).2.1
      have : far = a := by omega
      exact h1 (this ▸ hf)
theorem steps_length (b : Int) : ∀ L : List Int, (L.flatMap (stepA b)).length ≤ L.length := by
  intro L
  induction L with
  | nil => simp
  | cons a L ih =>
    rw [List.flatMap_cons, List.length_append, List.length_cons]
    have : (stepA b a).length ≤ 1 := by unfold stepA; split <;> simp
    omega
theorem adds_law (b : Int) : ∀ (L acc : List Int), (acc.Nodup → (L.foldl (addS b) acc).Nodup) ∧ (L.foldl (addS b) acc).length ≤ acc.length + L.length ∧ ∀ y, y ∈ L.foldl (addS b) acc ↔ y ∈ acc ∨ y ∈ L ∧ refWith y = b := by
  intro L
  induction L with
  | nil => intro acc; simp
  | cons a L ih =>
    intro acc
    obtain ⟨h1, h2, h3⟩ := ih (addS b acc a)
    rw [List.foldl_cons]
    have hm : ∀ y, y ∈ addS b acc a ↔ y ∈ acc ∨ y = a ∧ refWith a = b := by
      intro y
      unfold addS
      split
      · rename_i h
        rw [List.mem_append, List.mem_singleton]
        exact ⟨fun e => e.imp_right fun e => ⟨e, h.1⟩, fun e => e.imp_right fun e => e.1⟩
      · rename_i h
        constructor
        · exact .inl
        · rintro (e | ⟨rfl, e⟩)
          · exact e
          · exact Classical.byContradiction fun g => h ⟨e, g⟩
    refine ⟨fun hn => h1 ?_, ?_, fun y => ?_⟩
    · unfold addS
      split
      · rename_i h
        rw [List.nodup_append]
        refine ⟨hn, by simp, ?_⟩
        intro x hx z hz e
        rw [List.mem_singleton.mp hz] at e
        exact h.2 (e ▸ hx)
      · exact hn
    · have : (addS b acc a).length ≤ acc.length + 1 := by unfold addS; split <;> simp
      rw [List.length_cons]
      omega
    · rw [h3, hm, List.mem_cons]
      constructor
      · rintro ((e | ⟨rfl, e⟩) | ⟨e1, e2⟩)
        · exact .inl e
        · exact .inr ⟨.inl rfl, e⟩
        · exact .inr ⟨.inr e1, e2⟩
      · rintro (e | ⟨rfl | e1, e2⟩)
        · exact .inl (.inl e)
        · exact .inl (.inr ⟨rfl, e2⟩)
        · exact .inr ⟨e1, e2⟩
theorem single_sym : ∀ s ∈ refSingles, s.1 ∈ clewref03_Orbit.a1 := by decide +kernel
theorem far_all : ∀ d ∈ ([80, 48, 40, 32, 26, 1, 0] : List Int), d ∈ clewref03_Orbit.a0 ∧ d ≥ 0 := by decide +kernel
theorem mem_refL {b y : Int} (hb : refWith b = b) (hb0 : 0 ≤ b) : y ∈ refL b ↔ refWith y = b := by
  unfold refL
  rw [(adds_law b _ _).2.2, List.mem_flatMap]
  constructor
  · rintro (⟨far, _, hm⟩ | ⟨_, e⟩)
    · exact (mem_stepA.mp hm).2.2.2
    · exact e
  · intro h
    rcases with_cases y with ⟨s, hs, e1, e⟩ | ⟨r, hr, h2, e⟩ | ⟨_, _, e⟩
    · exact .inr ⟨e1 ▸ single_sym s hs, h⟩
    · have hri := rows_in r hr
      have hd := far_all r.2.2.2 (by
        have := hri.2.2.2.2.2
        simp only [List.mem_cons, List.not_mem_nil, or_false] at this ⊢
        omega)
      refine .inl ⟨r.2.2.2, hd.1, mem_stepA.mpr ⟨hd.2, by omega, ?_, h⟩⟩
      unfold inRw at h2
      omega
    · exact .inl ⟨0, (far_all 0 (by decide)).1, mem_stepA.mpr ⟨by omega, by omega, by omega, h⟩⟩
theorem fars_nodup : clewref03_Orbit.a0.Nodup := by decide +kernel
theorem ref_orbit_ev (x : Int) : Ev (fun k => clewref03_Orbit.f k x) (orb x) := by
  unfold clewref03_Orbit.f orb
  have ht : Ev (fun k => clewref03_Orbit.j0 k x ([] : List Int) true) [] := ⟨1, fun k hk => by
    obtain ⟨k, rfl⟩ : ∃ j, k = j + 1 := ⟨k - 1, by omega⟩
    simp [clewref03_Orbit.j0]⟩
  by_cases h0 : x < 0
  · rw [if_neg (c := 0 ≤ x ∧ x ≤ 1114367) (by omega)]
    exact Ev.pos h0 ht
  · refine Ev.neg h0 ?_
    by_cases h1 : x > 1114367
    · rw [decide_eq_true h1, if_neg (by omega)]
      exact ht
    · rw [decide_eq_false h1, if_pos (by omega)]
      have hb := with_in (x := x) (by omega) (by omega)
      have hi := with_idem x
      have hs := steps_length (refWith x) clewref03_Orbit.a0
      have hT0 : clewref03_Orbit.a0.length = 8 := rfl
      have hT1 : clewref03_Orbit.a1.length = 6 := rfl
      have ha := adds_law (refWith x) clewref03_Orbit.a1 (clewref03_Orbit.a0.flatMap (stepA (refWith x)))
      have hlen : (refL (refWith x)).length < 1000 := by
        unfold refL
        omega
      have e : sortI (refL (refWith x)) = sortI (orbF (refWith x)) :=
        sortI_same (ha.1 (steps_nodup _ _ fars_nodup)) (orbF_nodup hi) fun y => by rw [mem_refL hi hb.1, mem_orbF hi]
      have h3 := ref_l3 (refL (refWith x)) hlen _ 1 (refL (refWith x)) rfl (List.Perm.refl _) (by
        cases refL (refWith x) with
        | nil => simp
        | cons a l => simp) (Nat.le_refl _)
      rw [e] at h3
      have h2 := ref_l0 (refWith x) hb.1 hb.2 _ clewref03_Orbit.a0 [] [] rfl (by simp [hT0]) (ref_l1 (refWith x) _ clewref03_Orbit.a1 [] ([] ++ clewref03_Orbit.a0.flatMap (stepA (refWith x))) rfl (by rw [List.nil_append]; omega) h3)
      obtain ⟨K, hK⟩ := h2
      refine ⟨K + 1, fun k hk => ?_⟩
      obtain ⟨k, rfl⟩ : ∃ j, k = j + 1 := ⟨k - 1, by omega⟩
      simp only [clewref03_Orbit.j0]
      rw [if_neg (by simp), with_f x (by omega) (by omega), Option.bind_some]
      exact hK k (by omega)
theorem ref_fold_ev (x : Int) : Ev (fun k => clewref03_Fold.f k x) (foldI x) := by
  unfold clewref03_Fold.f foldI
  refine Ev.bind (ref_orbit_ev x) ?_
  cases h : orb x with
  | nil => exact Ev.pos (by simp) (Ev.const _)
  | cons y l => exact Ev.neg (by first | (simp; done) | (simp; omega)) (Ev.pos (by first | (simp; done) | (simp; omega)) (Ev.const _))

end Go.Proofs.Yteploglmfmhppaa.P
