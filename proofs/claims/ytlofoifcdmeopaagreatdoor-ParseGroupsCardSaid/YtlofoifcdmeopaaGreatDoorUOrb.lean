/- Orbits: the document's and the program's; the least of each. -/
import Derived.Test.YtlofoifcdmeopaaGreatDoorUFol
namespace Go.Proofs.YtlofoifcdmeopaaGreatDoor.V
open Go Go.Ev Go.RowKit
set_option linter.unusedVariables false
set_option linter.unusedSimpArgs false
def ups (l : List Row) (b : Int) : List Int := l.filterMap fun r => if upB r (b - r.2.2.2) = true then some (b - r.2.2.2) else none
def sins (l : List (Int × Int)) (b : Int) : List Int := l.filterMap fun s => if s.2 = b then some s.1 else none
def P (b : Int) : List Int := [b] ++ ups rowsL b ++ sins sinL b
theorem Sort_E (l : List Int) (h : l.length < 1000000) : E C 273 [.shr 3 (l.map .int)] = some [.list ((sortI l).map .int)] := by
  refine E_given (h := gSortI 3) (by kernel_rfl) ?_
  simp only [gSortI, ints_map, List.length_map]
  rw [show decide (l.length < 4611686018427387904) = true from decide_eq_true (by omega)]
  rfl
theorem cap8 : capB 8 = 17592186044416 := by decide
theorem orb_sin (b : Int) (v0 : Int) (v2 v19 : List Dat) (v20 v21 : Int) : ∀ (d k : Nat) (acc : List Int), 6 - k = d → k ≤ 6 → acc.length ≤ 100 + k →
    M252_2 v0 v2 b (acc.map .int) v19 v20 v21 (rs sinL) 6 (k : Int) = some [.list ((sortI (acc ++ sins (sinL.drop k) b)).map .int)] := by
  intro d
  have hc := cap8
  induction d with
  | zero =>
    intro k acc hd hk ha
    apply M252_2_of
    rw [dF (by omega), bT (Sort_E acc (by omega)), List.drop_of_length_le (by show sinL.length ≤ k; have : sinL.length = 6 := rfl; omega)]
    simp [sins]
  | succ d ih =>
    intro k acc hd hk ha
    have hlt : k < sinL.length := by show k < 6; omega
    apply M252_2_of
    rw [rsS_len, dT (by omega), dT (by omega), dT (by omega), dT (by omega), Int.toNat_natCast, rs_rd sinL k hlt, List.drop_eq_getElem_cons hlt]
    have c1 : ((Dat.agg [Dat.int (sinL[k]).1, Dat.int (sinL[k]).2]).C 1).I = (sinL[k]).2 := rfl
    have c0 : ((Dat.agg [Dat.int (sinL[k]).1, Dat.int (sinL[k]).2]).C 0).I = (sinL[k]).1 := rfl
    rw [c1, c0, w64 (by omega) (by omega)]
    have e : sins (sinL[k] :: sinL.drop (k + 1)) b = (if (sinL[k]).2 = b then [(sinL[k]).1] else []) ++ sins (sinL.drop (k + 1)) b := by
      unfold sins
      rw [List.filterMap_cons]
      by_cases h : (sinL[k]).2 = b
      · simp [h]
      · simp [h]
    rw [e]
    by_cases h : (sinL[k]).2 = b
    · rw [eT h, if_pos h, dT (by simp only [List.length_map, List.length_cons, List.length_nil]; omega)]
      have := ih (k + 1) (acc ++ [(sinL[k]).1]) (by omega) (by omega) (by simp; omega)
      simpa using this
    · rw [eF h, if_neg h]
      have := ih (k + 1) acc (by omega) (by omega) (by omega)
      simpa using this
theorem orb_rows (b : Int) (hb : 0 ≤ b ∧ b ≤ 2000000) (v0 : Int) (v2 : List Dat) : ∀ (d k : Nat) (acc : List Int), 18 - k = d → k ≤ 18 → acc.length ≤ 1 + k →
    M252_1 v0 v2 b (acc.map .int) (rowsD rowsL) 18 (k : Int) = some [.list ((sortI (acc ++ ups (rowsL.drop k) b ++ sins sinL b)).map .int)] := by
  intro d
  have hc := cap8
  induction d with
  | zero =>
    intro k acc hd hk ha
    apply M252_1_of
    rw [dF (by omega), bT sinsF_E]
    simp only [rd0, datL, rsS_len]
    refine (orb_sin b v0 v2 _ _ _ 6 0 acc rfl (by omega) (by omega)).trans ?_
    have e : rowsL.drop k = [] := List.drop_of_length_le (by rw [rowsL_len]; omega)
    rw [e, List.drop_zero]
    simp [ups]
  | succ d ih =>
    intro k acc hd hk ha
    have hlt : k < rowsL.length := by show k < 18; omega
    have hr := rows_ok (List.getElem_mem hlt)
    have hb1 := hr.b1
    have hb0 := hr.b0
    apply M252_1_of
    rw [rowsDL_len, dT (by omega), dT (by omega), dT (by omega), dT (by omega), Int.toNat_natCast, rowsD_rd rowsL k hlt, List.drop_eq_getElem_cons hlt]
    generalize rowsL[k] = r at hr hb0 hb1 ⊢
    have c0 : ((Dat.agg [Dat.int r.1, Dat.int r.2.1, Dat.int r.2.2.1, Dat.int r.2.2.2]).C 0).I = r.1 := rfl
    have c1 : ((Dat.agg [Dat.int r.1, Dat.int r.2.1, Dat.int r.2.2.1, Dat.int r.2.2.2]).C 1).I = r.2.1 := rfl
    have c2 : ((Dat.agg [Dat.int r.1, Dat.int r.2.1, Dat.int r.2.2.1, Dat.int r.2.2.2]).C 2).I = r.2.2.1 := rfl
    have c3 : ((Dat.agg [Dat.int r.1, Dat.int r.2.1, Dat.int r.2.2.1, Dat.int r.2.2.2]).C 3).I = r.2.2.2 := rfl
    rw [c0, c1, c2, c3, w64 (n := b - r.2.2.2) (by omega) (by omega), w64 (n := (k : Int) + 1) (by omega) (by omega), bT (upper_E hr _ (by omega))]
    have e : ups (r :: rowsL.drop (k + 1)) b = (if upB r (b - r.2.2.2) = true then [b - r.2.2.2] else []) ++ ups (rowsL.drop (k + 1)) b := by
      unfold ups
      rw [List.filterMap_cons]
      cases h : upB r (b - r.2.2.2) <;> simp
    rw [e]
    simp only [rd0, datB]
    cases hu : upB r (b - r.2.2.2) with
    | true =>
      rw [if_pos rfl, cT rfl, dT (by simp only [List.length_map, List.length_cons, List.length_nil]; omega)]
      have := ih (k + 1) (acc ++ [b - r.2.2.2]) (by omega) (by omega) (by simp; omega)
      simpa using this
    | false =>
      rw [if_neg (by simp), cF rfl]
      have := ih (k + 1) acc (by omega) (by omega) (by omega)
      simpa using this
theorem W_bound (x : Int) (hx : 0 ≤ x ∧ x ≤ 2000000) : 0 ≤ W x ∧ W x ≤ 2000100 ∧ (x ≤ 1114367 → W x ≤ 1114467) := by
  unfold W WS
  cases hf : sinL.find? (fun p => p.1 == x) with
  | some p =>
    have hm := List.mem_of_find?_eq_some hf
    have key : ∀ p, p ∈ sinL → 0 ≤ p.2 ∧ p.2 ≤ 1000 := by decide
    have := key p hm
    exact ⟨this.1, by show p.2 ≤ _; omega, fun _ => by show p.2 ≤ _; omega⟩
  | none =>
    show 0 ≤ findW rowsL x ∧ findW rowsL x ≤ 2000100 ∧ (x ≤ 1114367 → findW rowsL x ≤ 1114467)
    unfold findW
    cases hr : rowsL.find? (fun r => upB r x) with
    | some r =>
      have := rows_ok (List.mem_of_find?_eq_some hr)
      have h1 := this.b0
      have h2 := this.b1
      exact ⟨by show 0 ≤ x + r.2.2.2; omega, by show x + r.2.2.2 ≤ _; omega, fun _ => by show x + r.2.2.2 ≤ _; omega⟩
    | none => exact ⟨hx.1, by show x ≤ _; omega, fun h => by show x ≤ _; omega⟩
theorem Orbit_E (x : Int) : E C 252 [.int .i64 x] = some [.list (if 0 ≤ x ∧ x ≤ 1114367 then (sortI (P (W x))).map .int else [])] := by
  apply o252
  by_cases h0 : x < 0
  · rw [dT h0, if_neg (by omega)]
  by_cases h1 : x > 1114367
  · rw [dF h0, dT h1, if_neg (by omega)]
  have hb := W_bound x (by omega)
  rw [dF h0, dF h1, if_pos (by omega), bT (base_E x (by omega)), bT rowsF_E]
  simp only [rd0, datI, datL, rowsDL_len]
  exact orb_rows (W x) ⟨hb.1, by have := hb.2.2 (by omega); omega⟩ x [] 18 0 [W x] rfl (by omega) (by simp)
/-- The fold: the least of an orbit. -/
def foldP (x : Int) : Int := if 0 ≤ x ∧ x ≤ 1114367 then (sortI (P (W x))).headD 0 else x
theorem sortP_cons (x : Int) : ∃ a l, sortI (P x) = a :: l := by
  have h : (sortI (P x)).length ≠ 0 := by
    rw [sortI_length]
    unfold P
    simp
  cases hl : sortI (P x) with
  | nil => rw [hl] at h; simp at h
  | cons a l => exact ⟨a, l, rfl⟩
/-! The document's. -/
def fars : List Int := [80, 48, 40, 32, 26, 1, 0, -1]
def symL : List Int := [181, 376, 383, 962, 8490, 8491]
def g1 (b far : Int) : Option Int := if far ≥ 0 ∧ b - far ≥ 0 ∧ W (b - far) = b then some (b - far) else none
def g2 (b : Int) (acc : List Int) (y : Int) : List Int := if W y = b ∧ y ∉ acc then acc ++ [y] else acc
/-- A number moved down to its place. -/
def bub : List Int → Int → List Int → List Int
  | [], x, B => x :: B
  | a :: A, x, B => if a > x then bub A x (a :: B) else (a :: A).reverse ++ x :: B
theorem bub_ok (x : Int) : ∀ (A C rest : List Int), (A.reverse ++ C).Pairwise (· ≤ ·) → (∀ c, c ∈ C → x ≤ c) → ∃ D, bub A x (C ++ rest) = D ++ rest ∧ D.Pairwise (· ≤ ·) ∧ D.Perm (A.reverse ++ x :: C)
  | [], Cc, rest, h1, h2 => ⟨x :: Cc, rfl, List.pairwise_cons.2 ⟨h2, by simpa using h1⟩, List.Perm.refl _⟩
  | a :: A, Cc, rest, h1, h2 => by
    unfold bub
    by_cases h : a > x
    · rw [if_pos h]
      obtain ⟨D, k1, k2, k3⟩ := bub_ok x A (a :: Cc) rest (by simpa using h1) (fun c hc => by
        rcases List.mem_cons.1 hc with rfl | hc
        · omega
        · exact h2 c hc)
      refine ⟨D, k1, k2, k3.trans ?_⟩
      rw [List.reverse_cons, List.append_assoc]
      refine List.Perm.append_left _ ?_
      exact List.Perm.swap a x Cc
    · rw [if_neg h]
      refine ⟨(a :: A).reverse ++ x :: Cc, by simp, ?_, List.Perm.refl _⟩
      rw [List.pairwise_append] at h1 ⊢
      obtain ⟨p1, p2, p3⟩ := h1
      refine ⟨p1, List.pairwise_cons.2 ⟨h2, p2⟩, fun u hu v hv => ?_⟩
      have hua : u ≤ a := by
        rw [List.reverse_cons] at p1 hu
        rcases List.mem_append.1 hu with hu | hu
        · exact (List.pairwise_append.1 p1).2.2 u hu a (by simp)
        · rw [List.mem_singleton.1 hu]; exact Int.le_refl _
      rcases List.mem_cons.1 hv with rfl | hv
      · omega
      · exact Int.le_trans hua (Int.le_trans (by omega) (h2 v hv))
end Go.Proofs.YtlofoifcdmeopaaGreatDoor.V
