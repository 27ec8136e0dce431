/- The document's orbit, sorted; its least is the program's. -/
import Derived.Test.YtlofoifcdmeopaaGreatDoorUOrb
namespace Go.Proofs.YtlofoifcdmeopaaGreatDoor.V
open Go Go.Ev Go.RowKit
set_option linter.unusedVariables false
set_option linter.unusedSimpArgs false
theorem farsD : ([.int 80, .int 48, .int 40, .int 32, .int 26, .int 1, .int 0, .int (-1)] : List Dat) = fars.map .int := rfl
theorem symD : ([.int 181, .int 376, .int 383, .int 962, .int 8490, .int 8491] : List Dat) = symL.map .int := rfl
def g3 (b : Int) (acc : List Int) (y : Int) : List Int := if W y = b ∧ acc.all (fun z => z != y) = true then acc ++ [y] else acc
theorem getD_drop {l : List Int} {k : Nat} (h : k < l.length) : l.getD k 0 = l[k] := by simp [List.getD_eq_getElem?_getD, h]
/-- The inner round of the sort. -/
theorem sort_in (x0 b i v50 : Int) (hi : 0 ≤ i ∧ i ≤ 1000) : ∀ (A : List Int) (x : Int) (B : List Int) {r : List Dat}, A.length ≤ 1000 →
    M31_4 x0 [] ((bub A x B).map .int) b (i + 1) 80 48 40 32 26 1 0 (-1) 8 181 376 383 962 8490 8491 v50 = some r →
    M31_5 x0 [] ((A.reverse ++ x :: B).map .int) b i (A.length : Int) 80 48 40 32 26 1 0 (-1) 8 181 376 383 962 8490 8491 v50 = some r := by
  intro A
  induction A with
  | nil =>
    intro x B r hl h
    apply M31_5_of
    rw [dF (by simp), w64 (n := i + 1) (by omega) (by omega)]
    exact h
  | cons a A ih =>
    intro x B r hl h
    simp only [List.length_cons] at hl
    apply M31_5_of
    have hlen : (((a :: A).reverse ++ x :: B).map Dat.int).length = A.length + 2 + B.length := by simp; omega
    have e1 : IntKind.i64.wrap (((a :: A).length : Int) - 1) = (A.length : Int) := by rw [w64 (by simp only [List.length_cons]; omega) (by simp only [List.length_cons]; omega)]; simp
    have e2 : ((a :: A).length : Int).toNat = A.length + 1 := by simp
    have r1 : ((a :: A).reverse ++ x :: B).getD A.length 0 = a := by simp [List.getD_eq_getElem?_getD]
    have r2 : ((a :: A).reverse ++ x :: B).getD (A.length + 1) 0 = x := by simp [List.getD_eq_getElem?_getD]
    have s1 : (((a :: A).reverse ++ x :: B).map Dat.int).set (A.length + 1) (.int a) = (A.reverse ++ a :: a :: B).map .int := by
      rw [← List.map_set]
      congr 1
      rw [List.reverse_cons, List.append_assoc, List.set_append_right _ _ (by simp)]
      simp
    have s2 : ((A.reverse ++ a :: a :: B).map Dat.int).set A.length (.int x) = (A.reverse ++ x :: a :: B).map .int := by
      rw [← List.map_set]
      congr 1
      rw [List.set_append_right _ _ (by simp)]
      simp
    have hlen2 : ((A.reverse ++ a :: a :: B).map Dat.int).length = A.length + 2 + B.length := by simp; omega
    have c0 : ((a :: A).length : Int) = (A.length : Int) + 1 := by simp
    rw [e1, e2, Int.toNat_natCast, rdI, rdI, r1, r2, s1, s2, hlen, hlen2, c0]
    have q : (((A.length + 2 + B.length : Nat)) : Int) = (A.length : Int) + 2 + B.length := by omega
    rw [q, dT (by omega), dT (by omega), dT (by omega), dT (by omega), dT (by omega), dT (by omega), dT (by omega), w64 (n := i + 1) (by omega) (by omega)]
    unfold bub at h
    by_cases hax : a > x
    · rw [if_pos hax] at h
      rw [dT hax]
      have := ih x (a :: B) (by omega) h
      repeat rw [dT (by omega)]
      exact this
    · rw [if_neg hax] at h
      rw [dF hax]
      exact h
theorem sort_out (x0 b v50 : Int) : ∀ (rest Q : List Int), Q.Pairwise (· ≤ ·) → 1 ≤ Q.length → Q.length + rest.length ≤ 900 →
    ∃ L : List Int, L.Pairwise (· ≤ ·) ∧ L.Perm (Q ++ rest) ∧ M31_4 x0 [] ((Q ++ rest).map .int) b (Q.length : Int) 80 48 40 32 26 1 0 (-1) 8 181 376 383 962 8490 8491 v50 = some [.list (L.map .int)] := by
  intro rest
  induction rest with
  | nil =>
    intro Q h1 h2 h3
    refine ⟨Q, h1, by simp, ?_⟩
    apply M31_4_of
    rw [dF (by simp), List.append_nil]
  | cons x rest ih =>
    intro Q h1 h2 h3
    simp only [List.length_cons] at h3
    obtain ⟨D, k1, k2, k3⟩ := bub_ok x Q.reverse [] rest (by simpa using h1) (fun c hc => by cases hc)
    have hD : D.length = Q.length + 1 := by rw [k3.length_eq]; simp
    obtain ⟨L, g1, g2, g3⟩ := ih D k2 (by omega) (by omega)
    refine ⟨L, g1, g2.trans ?_, ?_⟩
    · have : (D ++ rest).Perm ((Q ++ [x]) ++ rest) := List.Perm.append_right rest (k3.trans (by simp))
      simpa using this
    · apply M31_4_of
      rw [dT (by simp; omega)]
      have := sort_in x0 b (Q.length : Int) v50 (by omega) Q.reverse x rest (r := [.list (L.map .int)]) (by simp; omega) (by
        rw [List.nil_append] at k1
        rw [k1]
        have hi : (Q.length : Int) + 1 = (D.length : Int) := by omega
        rw [hi]
        exact g3)
      simpa using this
theorem fresh_loop (x0 b y : Int) (acc : List Int) (hacc : acc.length ≤ 100) (k : Nat) (hk : k < 6) {r : List Dat}
    (h : M31_2 x0 [] ((if acc.all (fun z => z != y) = true then acc ++ [y] else acc).map .int) b 80 48 40 32 26 1 0 (-1) 8 181 376 383 962 8490 8491 ((k + 1 : Nat) : Int) = some r) : ∀ (d j : Nat), acc.length - j = d → j ≤ acc.length →
    M31_3 x0 [] (acc.map .int) b y ((acc.take j).all fun z => z != y) 80 48 40 32 26 1 0 (-1) 8 181 376 383 962 8490 8491 (k : Int) (acc.length : Int) (j : Int) = some r := by
  intro d
  have hc := cap8
  induction d with
  | zero =>
    intro j hd hj
    obtain rfl : j = acc.length := by omega
    apply M31_3_of
    rw [dF (by omega), List.take_length, w64 (n := (k : Int) + 1) (by omega) (by omega)]
    cases hf : acc.all (fun z => z != y) with
    | true =>
      rw [hf, if_pos rfl] at h
      rw [cT rfl, dT (by simp only [List.length_map, List.length_cons, List.length_nil]; omega)]
      simpa using h
    | false =>
      rw [hf, if_neg (by simp)] at h
      rw [cF rfl]
      simpa using h
  | succ d ih =>
    intro j hd hj
    have hlt : j < acc.length := by omega
    have hn := ih (j + 1) (by omega) (by omega)
    rw [List.take_succ_eq_append_getElem hlt, List.all_append] at hn
    apply M31_3_of
    simp only [List.length_map, Int.toNat_natCast, rdI]
    rw [dT (by omega), dT (by omega), dT (by omega), dT (by omega), getD_drop hlt, w64 (n := (j : Int) + 1) (by omega) (by omega)]
    cases hf : (acc.take j).all (fun z => z != y) with
    | true =>
      rw [hf] at hn
      rw [cT rfl]
      simpa using hn
    | false =>
      rw [hf] at hn
      rw [cF rfl]
      simpa using hn
theorem ref2 (x0 b : Int) : ∀ (d k : Nat) (acc : List Int) {r : List Dat}, 6 - k = d → k ≤ 6 → acc.length ≤ 20 + k →
    M31_4 x0 [] (((symL.drop k).foldl (g3 b) acc).map .int) b 1 80 48 40 32 26 1 0 (-1) 8 181 376 383 962 8490 8491 6 = some r →
    M31_2 x0 [] (acc.map .int) b 80 48 40 32 26 1 0 (-1) 8 181 376 383 962 8490 8491 (k : Int) = some r := by
  intro d
  induction d with
  | zero =>
    intro k acc r hd hk ha h
    obtain rfl : k = 6 := by omega
    apply M31_2_of
    rw [dF (by omega)]
    exact h
  | succ d ih =>
    intro k acc r hd hk ha h
    have hlt : k < symL.length := by show k < 6; omega
    have hy : 0 ≤ symL[k] ∧ symL[k] ≤ 10000 := by
      have key : ∀ y, y ∈ symL → 0 ≤ y ∧ y ≤ 10000 := by decide
      exact key _ (List.getElem_mem hlt)
    rw [List.drop_eq_getElem_cons hlt, List.foldl_cons] at h
    apply M31_2_of
    rw [symD, Int.toNat_natCast, rdI, getD_drop hlt, dT (by omega), dT (by omega), dT (by omega), bT (with_E _ (by omega))]
    simp only [rd0, datI]
    by_cases hw : W symL[k] = b
    · rw [cF (by simp [hw])]
      have hg : g3 b acc symL[k] = if acc.all (fun z => z != symL[k]) = true then acc ++ [symL[k]] else acc := by
        unfold g3
        by_cases ha2 : acc.all (fun z => z != symL[k]) = true
        · rw [if_pos ⟨hw, ha2⟩, if_pos ha2]
        · rw [if_neg (fun q => ha2 q.2), if_neg ha2]
      have hlen : (g3 b acc symL[k]).length ≤ acc.length + 1 := by
        rw [hg]
        split <;> simp
      have hn := ih (k + 1) (g3 b acc symL[k]) (by omega) (by omega) (by omega) h
      rw [hg] at hn
      have := fresh_loop x0 b symL[k] acc (by omega) k (by omega) hn acc.length 0 rfl (by omega)
      simpa using this
    · rw [cT (by simpa using hw), w64 (n := (k : Int) + 1) (by omega) (by omega)]
      have hg : g3 b acc symL[k] = acc := by
        unfold g3
        rw [if_neg (fun q => hw q.1)]
      rw [hg] at h
      have := ih (k + 1) acc (by omega) (by omega) (by omega) h
      simpa using this
theorem ref1 (x0 b : Int) (hb : 0 ≤ b ∧ b ≤ 1200000) : ∀ (d k : Nat) (acc : List Int) {r : List Dat}, 8 - k = d → k ≤ 8 → acc.length ≤ k →
    M31_2 x0 [] ((acc ++ (fars.drop k).filterMap (g1 b)).map .int) b 80 48 40 32 26 1 0 (-1) 8 181 376 383 962 8490 8491 0 = some r →
    M31_1 x0 [] (acc.map .int) b 80 48 40 32 26 1 0 (-1) (k : Int) = some r := by
  intro d
  have hc := cap8
  induction d with
  | zero =>
    intro k acc r hd hk ha h
    obtain rfl : k = 8 := by omega
    apply M31_1_of
    rw [dF (by omega)]
    have e : fars.drop 8 = [] := rfl
    rw [e, List.filterMap_nil, List.append_nil] at h
    exact h
  | succ d ih =>
    intro k acc r hd hk ha h
    have hlt : k < fars.length := by show k < 8; omega
    have hf : -1 ≤ fars[k] ∧ fars[k] ≤ 80 := by
      have key : ∀ y, y ∈ fars → -1 ≤ y ∧ y ≤ 80 := by decide
      exact key _ (List.getElem_mem hlt)
    rw [List.drop_eq_getElem_cons hlt, List.filterMap_cons] at h
    apply M31_1_of
    rw [farsD, Int.toNat_natCast, rdI, getD_drop hlt, dT (by omega), dT (by omega), dT (by omega), w64 (n := b - fars[k]) (by omega) (by omega), w64 (n := (k : Int) + 1) (by omega) (by omega)]
    have skip : ¬ (fars[k] ≥ 0 ∧ b - fars[k] ≥ 0 ∧ W (b - fars[k]) = b) → M31_1 x0 [] (acc.map .int) b 80 48 40 32 26 1 0 (-1) ((k : Int) + 1) = some r := fun hn => by
      have hg : g1 b fars[k] = none := by unfold g1; rw [if_neg hn]
      rw [hg] at h
      have := ih (k + 1) acc (by omega) (by omega) (by omega) h
      simpa using this
    by_cases h0 : fars[k] ≥ 0
    · rw [dT h0]
      by_cases h1 : b - fars[k] ≥ 0
      · rw [dT h1, bT (with_E _ (by omega))]
        simp only [rd0, datI]
        by_cases hw : W (b - fars[k]) = b
        · rw [eT hw, dT (by simp only [List.length_map, List.length_cons, List.length_nil]; omega)]
          have hg : g1 b fars[k] = some (b - fars[k]) := by unfold g1; rw [if_pos ⟨h0, h1, hw⟩]
          rw [hg] at h
          have := ih (k + 1) (acc ++ [b - fars[k]]) (by omega) (by omega) (by simp; omega) (by simpa using h)
          simpa using this
        · rw [eF hw]
          exact skip (fun q => hw q.2.2)
      · rw [dF h1]
        exact skip (fun q => h1 q.2.1)
    · rw [dF h0]
      exact skip (fun q => h0 q.1)
/-- What the document gathers. -/
def Q (b : Int) : List Int := symL.foldl (g3 b) (fars.filterMap (g1 b))
theorem g3_mem {b : Int} {acc : List Int} {y z : Int} : z ∈ g3 b acc y ↔ z ∈ acc ∨ (z = y ∧ W y = b) := by
  unfold g3
  by_cases hw : W y = b
  · by_cases ha : acc.all (fun z => z != y) = true
    · rw [if_pos ⟨hw, ha⟩]
      simp [hw]
    · rw [if_neg (fun q => ha q.2)]
      have : y ∈ acc := by
        have : ¬ ∀ z, z ∈ acc → (z != y) = true := fun q => ha (List.all_eq_true.2 q)
        simp only [Classical.not_forall] at this
        obtain ⟨w, hw1, hw2⟩ := this
        have : w = y := by simpa using hw2
        rw [← this]
        exact hw1
      constructor
      · exact .inl
      · rintro (h | ⟨rfl, _⟩)
        · exact h
        · exact this
  · rw [if_neg (fun q => hw q.1)]
    constructor
    · exact .inl
    · rintro (h | ⟨_, h⟩)
      · exact h
      · exact absurd h hw
theorem foldl_mem {b z : Int} : ∀ (l acc : List Int), z ∈ l.foldl (g3 b) acc ↔ z ∈ acc ∨ (z ∈ l ∧ W z = b)
  | [], acc => by simp
  | y :: l, acc => by
    rw [List.foldl_cons, foldl_mem l, g3_mem]
    constructor
    · rintro ((h | ⟨rfl, h⟩) | h)
      · exact .inl h
      · exact .inr ⟨by simp, h⟩
      · exact .inr ⟨by simp [h.1], h.2⟩
    · rintro (h | ⟨h1, h2⟩)
      · exact .inl (.inl h)
      · rcases List.mem_cons.1 h1 with rfl | h1
        · exact .inl (.inr ⟨rfl, h2⟩)
        · exact .inr ⟨h1, h2⟩
theorem Q_mem {b z : Int} : z ∈ Q b ↔ (∃ far, far ∈ fars ∧ far ≥ 0 ∧ b - far ≥ 0 ∧ W (b - far) = b ∧ z = b - far) ∨ (z ∈ symL ∧ W z = b) := by
  unfold Q
  rw [foldl_mem, List.mem_filterMap]
  constructor
  · rintro (⟨far, h1, h2⟩ | h)
    · unfold g1 at h2
      split at h2
      · rename_i hc
        exact .inl ⟨far, h1, hc.1, hc.2.1, hc.2.2, (Option.some.inj h2).symm⟩
      · cases h2
    · exact .inr h
  · rintro (⟨far, h1, h2, h3, h4, rfl⟩ | h)
    · exact .inl ⟨far, h1, by unfold g1; rw [if_pos ⟨h2, h3, h4⟩]⟩
    · exact .inr h
theorem P_mem {b z : Int} : z ∈ P b ↔ z = b ∨ (∃ r, r ∈ rowsL ∧ upB r z = true ∧ z = b - r.2.2.2) ∨ ∃ s, s ∈ sinL ∧ s.2 = b ∧ z = s.1 := by
  unfold P ups sins
  simp only [List.mem_append, List.mem_singleton, List.mem_filterMap]
  constructor
  · rintro ((h | ⟨r, h1, h2⟩) | ⟨s, h1, h2⟩)
    · exact .inl h
    · split at h2
      · rename_i hu
        have := Option.some.inj h2
        subst this
        exact .inr (.inl ⟨r, h1, hu, rfl⟩)
      · cases h2
    · split at h2
      · rename_i hs
        exact .inr (.inr ⟨s, h1, hs, (Option.some.inj h2).symm⟩)
      · cases h2
  · rintro (h | ⟨r, h1, h2, rfl⟩ | ⟨s, h1, h2, rfl⟩)
    · exact .inl (.inl h)
    · exact .inl (.inr ⟨r, h1, by rw [if_pos h2]⟩)
    · exact .inr ⟨s, h1, by rw [if_pos h2]⟩
theorem rows_apart : ∀ r, r ∈ rowsL → ∀ r', r' ∈ rowsL → r = r' ∨ r.2.1 < r'.1 ∨ r'.2.1 < r.1 := by decide
theorem sin_not_up : ∀ s, s ∈ sinL → ∀ r, r ∈ rowsL → upB r s.1 = false := by decide
theorem far_by : ∀ r, r ∈ rowsL → r.2.2.2 ∈ fars := by decide
theorem sin_W : ∀ s, s ∈ sinL → W s.1 = s.2 ∧ s.1 ∈ symL ∧ W s.2 = s.2 := by decide +kernel
theorem up_range {r : Row} {x : Int} (h : upB r x = true) : r.1 ≤ x ∧ x ≤ r.2.1 := by
  unfold upB at h
  simp only [Bool.and_eq_true, decide_eq_true_eq] at h
  exact ⟨h.1, h.2.1⟩
theorem W_up {r : Row} (hr : r ∈ rowsL) {y : Int} (h : upB r y = true) : W y = y + r.2.2.2 := by
  unfold W WS
  have h1 : sinL.find? (fun p => p.1 == y) = none := by
    rw [List.find?_eq_none]
    intro p hp hpy
    have : p.1 = y := by simpa using hpy
    have := sin_not_up p hp r hr
    rw [‹p.1 = y›, h] at this
    cases this
  rw [h1]
  show findW rowsL y = _
  unfold findW
  cases hf : rowsL.find? (fun r => upB r y) with
  | none =>
    have := List.find?_eq_none.1 hf r hr
    exact absurd h this
  | some r' =>
    have hr' := List.mem_of_find?_eq_some hf
    have hu' : upB r' y = true := by
      have := List.find?_some hf
      simpa using this
    have a1 := up_range h
    have a2 := up_range hu'
    rcases rows_apart r hr r' hr' with rfl | h3 | h3
    · rfl
    · omega
    · omega
theorem W_cases {y b : Int} (h : W y = b) : y = b ∨ (∃ r, r ∈ rowsL ∧ upB r y = true ∧ y = b - r.2.2.2) ∨ ∃ s, s ∈ sinL ∧ s.2 = b ∧ y = s.1 := by
  unfold W WS at h
  cases hf : sinL.find? (fun p => p.1 == y) with
  | some p =>
    rw [hf] at h
    have h' : p.2 = b := h
    have hp : p.1 = y := by
      have := List.find?_some hf
      simpa using this
    exact .inr (.inr ⟨p, List.mem_of_find?_eq_some hf, h', hp.symm⟩)
  | none =>
    rw [hf] at h
    have h' : findW rowsL y = b := h
    unfold findW at h'
    cases hr : rowsL.find? (fun r => upB r y) with
    | some r =>
      rw [hr] at h'
      have h2 : y + r.2.2.2 = b := h'
      have hu : upB r y = true := by
        have := List.find?_some hr
        simpa using this
      exact .inr (.inl ⟨r, List.mem_of_find?_eq_some hr, hu, by omega⟩)
    | none =>
      rw [hr] at h'
      exact .inl h'
theorem low_W : ∀ r, r ∈ rowsL → ∀ k : Fin 150, upB r (r.1 + (k.val : Int)) = true → W (r.1 + (k.val : Int) + r.2.2.2) = r.1 + (k.val : Int) + r.2.2.2 := by decide +kernel
theorem row_len : ∀ r, r ∈ rowsL → r.2.1 - r.1 < 150 := by decide
theorem W_W (x : Int) : W (W x) = W x := by
  rcases W_cases (rfl : W x = W x) with h | ⟨r, h1, h2, h3⟩ | ⟨s, h1, h2, h3⟩
  · exact congrArg W h.symm
  · have a := up_range h2
    have hl := row_len r h1
    have key := low_W r h1 ⟨(x - r.1).toNat, by omega⟩
    have e : r.1 + (((x - r.1).toNat : Nat) : Int) = x := by omega
    simp only [e] at key
    have hx : W x = x + r.2.2.2 := W_up h1 h2
    rw [hx]
    exact key h2
  · rw [← h2]
    exact (sin_W s h1).2.2
theorem P_Q {b : Int} (hb : 0 ≤ b) (hw : W b = b) (z : Int) : z ∈ P b ↔ z ∈ Q b := by
  rw [P_mem, Q_mem]
  constructor
  · rintro (rfl | ⟨r, h1, h2, rfl⟩ | ⟨s, h1, h2, rfl⟩)
    · exact .inl ⟨0, by decide, by omega, by omega, by rw [Int.sub_zero]; exact hw, by omega⟩
    · have a := up_range h2
      have hr := rows_ok h1
      have g := W_up h1 h2
      have h5 := hr.b0
      have h6 := hr.f0
      exact .inl ⟨r.2.2.2, far_by r h1, by omega, by omega, by rw [g]; omega, rfl⟩
    · obtain ⟨g1, g2, _⟩ := sin_W s h1
      exact .inr ⟨g2, by rw [g1]; exact h2⟩
  · rintro (⟨far, h1, h2, h3, h4, rfl⟩ | ⟨h1, h2⟩)
    · exact W_cases h4
    · exact W_cases h2
theorem head_min {l : List Int} (h : l.Pairwise (· ≤ ·)) (hn : l ≠ []) : l.headD 0 ∈ l ∧ ∀ z, z ∈ l → l.headD 0 ≤ z := by
  cases l with
  | nil => exact absurd rfl hn
  | cons a l =>
    refine ⟨List.mem_cons_self, fun z hz => ?_⟩
    rcases List.mem_cons.1 hz with rfl | hz
    · exact Int.le_refl _
    · exact (List.pairwise_cons.1 h).1 z hz
theorem head_same {l m : List Int} (hl : l.Pairwise (· ≤ ·)) (hm : m.Pairwise (· ≤ ·)) (hn : l ≠ []) (h : ∀ z, z ∈ l ↔ z ∈ m) : l.headD 0 = m.headD 0 := by
  have a := head_min hl hn
  have hmn : m ≠ [] := fun e => by
    have := (h _).1 a.1
    rw [e] at this
    cases this
  have b := head_min hm hmn
  exact Int.le_antisymm (a.2 _ ((h _).2 b.1)) (b.2 _ ((h _).1 a.1))
theorem RefOrbit_E (x : Int) (hx : 0 ≤ x ∧ x ≤ 1114367) : ∃ L : List Int, L.Pairwise (· ≤ ·) ∧ L.Perm (Q (W x)) ∧ E C 31 [.int .i64 x] = some [.list (L.map .int)] := by
  have hb := W_bound x (by omega)
  have hbb := hb.2.2 hx.2
  have hne : (Q (W x)).length ≠ 0 := fun h0 => by
    have hq : W x ∈ Q (W x) := by
      rw [Q_mem]
      exact .inl ⟨0, by decide, by omega, by omega, by rw [Int.sub_zero]; exact W_W x, by omega⟩
    rw [List.eq_nil_of_length_eq_zero h0] at hq
    cases hq
  have hlen : (Q (W x)).length ≤ 14 := by
    have h1 : ∀ (l acc : List Int), (l.foldl (g3 (W x)) acc).length ≤ acc.length + l.length := by
      intro l
      induction l with
      | nil => intro acc; simp
      | cons y l ih =>
        intro acc
        have h2 : (g3 (W x) acc y).length ≤ acc.length + 1 := by
          unfold g3
          split <;> simp
        have := ih (g3 (W x) acc y)
        simp only [List.foldl_cons, List.length_cons]
        omega
    have h3 := h1 symL (fars.filterMap (g1 (W x)))
    have h4 : (fars.filterMap (g1 (W x))).length ≤ fars.length := List.length_filterMap_le _ _
    have h5 : fars.length = 8 := rfl
    have h6 : symL.length = 6 := rfl
    unfold Q
    omega
  cases hq : Q (W x) with
  | nil => rw [hq] at hne; simp at hne
  | cons a rest =>
    rw [hq] at hlen
    obtain ⟨L, g1', g2', g3'⟩ := sort_out x (W x) 6 rest [a] (List.pairwise_singleton _ _) (by simp) (by simp only [List.length_cons, List.length_nil] at hlen ⊢; omega)
    refine ⟨L, g1', by simpa using g2', ?_⟩
    apply o31
    rw [dF (by omega), dF (by omega), bT (with_E x (by omega))]
    refine ref1 x (W x) ⟨hb.1, by omega⟩ 8 0 [] rfl (by omega) (by simp) ?_
    refine ref2 x (W x) 6 0 _ rfl (by omega) ?_ ?_
    · have h4 : (fars.filterMap (g1 (W x))).length ≤ fars.length := List.length_filterMap_le _ _
      have h5 : fars.length = 8 := rfl
      simpa using (by omega : (fars.filterMap (g1 (W x))).length ≤ 20)
    · have e : (symL.drop 0).foldl (g3 (W x)) ([] ++ (fars.drop 0).filterMap (g1 (W x))) = a :: rest := hq
      rw [e]
      exact g3'
end Go.Proofs.YtlofoifcdmeopaaGreatDoor.V
