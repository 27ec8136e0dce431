/- Closed lists: a list with all that is the same but for its case. -/
import Derived.Test.YtlofoifcdmeopaaGreatDoorUOrR
namespace Go.Proofs.YtlofoifcdmeopaaGreatDoor.V
open Go Go.Ev Go.RowKit
set_option linter.unusedVariables false
set_option linter.unusedSimpArgs false
theorem P_W {x z : Int} : z ∈ P (W x) ↔ W z = W x := by
  rw [P_mem]
  constructor
  · rintro (rfl | ⟨r, hr, h1, h2⟩ | ⟨s, hs, h1, h2⟩)
    · exact W_W x
    · rw [W_up hr h1]; omega
    · rw [h2, (sin_W s hs).1, h1]
  · exact fun h => W_cases h
theorem mem_sortI {l : List Int} {x : Int} : x ∈ sortI l ↔ x ∈ l := (sortI_perm l).mem_iff
/-- All that is the same as a symbol. -/
def orbL (x : Int) : List Int := if 0 ≤ x ∧ x ≤ 1114367 then sortI (P (W x)) else []
theorem mem_orbL {x z : Int} : z ∈ orbL x ↔ (0 ≤ x ∧ x ≤ 1114367) ∧ W z = W x := by
  unfold orbL
  split
  · rename_i h
    rw [mem_sortI, P_W]
    exact ⟨fun h2 => ⟨h, h2⟩, fun h2 => h2.2⟩
  · rename_i h
    exact ⟨(fun h2 => by cases h2), fun h2 => absurd h2.1 h⟩
theorem P_length (b : Int) : (P b).length ≤ 25 := by
  have h1 : (ups rowsL b).length ≤ 18 := List.length_filterMap_le _ _
  have h2 : (sins sinL b).length ≤ 6 := List.length_filterMap_le _ _
  unfold P
  rw [List.length_append, List.length_append, List.length_singleton]
  omega
theorem orbL_length (x : Int) : (orbL x).length ≤ 25 := by
  unfold orbL
  split
  · rw [sortI_length]; exact P_length _
  · simp
theorem Orbit2_E (x : Int) : E C 252 [.int .i64 x] = some [.list ((orbL x).map .int)] := by
  rw [Orbit_E x]
  unfold orbL
  split <;> rfl
def runL (by_ step hi : Int) : Nat → Int → List Int
  | 0, _ => []
  | n + 1, x => if x ≤ hi then x :: (x + by_) :: runL by_ step hi n (x + step) else []
theorem runL_length (by_ step hi : Int) : ∀ (n : Nat) (x : Int), (runL by_ step hi n x).length ≤ 2 * n
  | 0, x => by simp [runL]
  | n + 1, x => by
    have := runL_length by_ step hi n (x + step)
    unfold runL
    split <;> simp only [List.length_cons, List.length_nil] <;> omega
theorem mem_runL (by_ step hi : Int) (hs : step = 1 ∨ step = 2) : ∀ (n : Nat) (x y : Int), x ≤ y → y ≤ hi → y - x < n → (step = 1 ∨ y % 2 = x % 2) → y ∈ runL by_ step hi n x ∧ y + by_ ∈ runL by_ step hi n x
  | 0, x, y, h1, h2, h3, _ => by omega
  | n + 1, x, y, h1, h2, h3, h4 => by
    unfold runL
    rw [if_pos (by omega)]
    by_cases e : y = x
    · subst e
      simp
    · have := mem_runL by_ step hi hs n (x + step) y (by omega) h2 (by omega) (by omega)
      exact ⟨by simp [this.1], by simp [this.2]⟩
def casedR (r : Row) : List Int := runL r.2.2.2 r.2.2.1 r.2.1 200 r.1
def casedS (s : Int × Int) : List Int := [s.1, s.2]
def casedL : List Int := rowsL.flatMap casedR ++ sinL.flatMap casedS
theorem rows_short : ∀ r ∈ rowsL, r.2.1 - r.1 < 200 := by decide +kernel
theorem flatMap_length {α : Type} (f : α → List Int) (b : Nat) (h : ∀ a, (f a).length ≤ b) : ∀ L : List α, (L.flatMap f).length ≤ b * L.length
  | [] => by simp
  | a :: L => by
    have h1 := flatMap_length f b h L
    have h2 := h a
    rw [List.flatMap_cons, List.length_append, List.length_cons, Nat.mul_add]
    omega
theorem casedL_length : casedL.length ≤ 10000 := by
  have h1 := flatMap_length casedR 400 (fun r => runL_length _ _ _ 200 _) rowsL
  have h2 := flatMap_length casedS 2 (fun s => Nat.le_refl _) sinL
  have e1 : rowsL.length = 18 := rfl
  have e2 : sinL.length = 6 := rfl
  unfold casedL
  rw [List.length_append]
  omega
theorem up_mod {r : Row} {y : Int} (h : upB r y = true) : r.1 ≤ y ∧ y ≤ r.2.1 ∧ (y - r.1) % r.2.2.1 = 0 := by
  unfold upB at h
  simpa using h
theorem mem_cased {x y : Int} (h : W y = W x) (hne : x ≠ y) : y ∈ casedL := by
  have row : ∀ (z : Int) (r : Row), r ∈ rowsL → upB r z = true → z ∈ casedL ∧ z + r.2.2.2 ∈ casedL := fun z r hr hz => by
    have hs := (rows_ok hr).s
    obtain ⟨g1, g2, g3⟩ := up_mod hz
    have hsh := rows_short r hr
    have := mem_runL r.2.2.2 r.2.2.1 r.2.1 hs 200 r.1 z g1 g2 (by omega) (by rcases hs with h | h <;> rw [h] at g3 ⊢ <;> omega)
    exact ⟨List.mem_append_left _ (List.mem_flatMap.mpr ⟨r, hr, this.1⟩), List.mem_append_left _ (List.mem_flatMap.mpr ⟨r, hr, this.2⟩)⟩
  have sing : ∀ s ∈ sinL, s.1 ∈ casedL ∧ s.2 ∈ casedL := fun s hs =>
    ⟨List.mem_append_right _ (List.mem_flatMap.mpr ⟨s, hs, by simp [casedS]⟩), List.mem_append_right _ (List.mem_flatMap.mpr ⟨s, hs, by simp [casedS]⟩)⟩
  rcases W_cases (y := y) rfl with e | ⟨r, hr, h1, _⟩ | ⟨s, hs, _, e⟩
  · rcases W_cases (y := x) rfl with e2 | ⟨r, hr, h1, e2⟩ | ⟨s, hs, e2, _⟩
    · exact absurd (by rw [e2, e, h]) hne
    · have : y = x + r.2.2.2 := by omega
      exact this ▸ (row x r hr h1).2
    · have : y = s.2 := by omega
      exact this ▸ (sing s hs).2
  · exact (row y r hr h1).1
  · exact e ▸ (sing s hs).1
theorem rsI_at (pre : List Int) (r : Int) (rest : List Int) : (rd ((pre ++ r :: rest).map Dat.int) pre.length).I = r := by
  rw [rdB (by simp)]
  simp
theorem cap8' : capB 8 = 17592186044416 := by decide
theorem cased_3 (v0 v7 : List Dat) (v8 v9 : Int) : ∀ (rest pre : List (Int × Int)) (acc : List Int), sinL = pre ++ rest → acc.length + 2 * rest.length < 1000000 →
    M251_3 v0 (acc.map .int) v7 v8 v9 (rs sinL) 6 (pre.length : Int) = some [.list ((acc ++ rest.flatMap casedS).map .int)] := by
  have hc := cap8'
  intro rest
  induction rest with
  | nil =>
    intro pre acc hxs ha
    have hl : pre.length = 6 := by have := congrArg List.length hxs; simpa [sinL] using this.symm
    apply M251_3_of
    rw [dF (by omega)]
    simp
  | cons s rest ih =>
    intro pre acc hxs ha
    have hl : 6 = pre.length + (rest.length + 1) := by have := congrArg List.length hxs; simpa [sinL] using this
    simp only [List.length_cons] at ha
    have hat : rd (rs sinL) pre.length = .agg [.int s.1, .int s.2] := by rw [hxs]; exact rs_at _ _ _
    apply M251_3_of
    rw [dT (by omega), rsS_len, dT (by omega), dT (by omega), dT (by omega), Int.toNat_natCast, hat]
    simp only [aggC0, aggC1, datI, List.length_map]
    rw [dT (by simp only [List.length_cons, List.length_nil]; omega), show IntKind.i64.wrap ((pre.length : Int) + 1) = (((pre ++ [s]).length : Nat) : Int) from by rw [w64 (by omega) (by omega)]; simp]
    have := ih (pre ++ [s]) (acc ++ [s.1, s.2]) (by rw [hxs]; simp) (by simp only [List.length_append, List.length_cons, List.length_nil]; omega)
    rw [List.map_append] at this
    refine this.trans ?_
    simp [casedS]
theorem cased_2 (v0 v7 : List Dat) (v8 v9 : Int) {r : Row} (hr : OkRow r) (res : List Dat) : ∀ (n : Nat) (x : Int) (acc : List Int), r.2.1 - x < n → 0 ≤ x → x ≤ 200000 → acc.length + 2 * n < 1000000 →
    M251_1 v0 ((acc ++ runL r.2.2.2 r.2.2.1 r.2.1 n x).map .int) v7 v8 (IntKind.i64.wrap (v9 + 1)) = some res → M251_2 v0 (acc.map .int) r.1 r.2.1 r.2.2.1 r.2.2.2 x v7 v8 v9 = some res := by
  have hc := cap8'
  obtain ⟨g1, g2, g3, g4, g5, g6⟩ := hr
  intro n
  induction n with
  | zero =>
    intro x acc h1 h2 h3 h4 hE
    apply M251_2_of
    rw [dF (by omega)]
    simpa [runL] using hE
  | succ n ih =>
    intro x acc h1 h2 h3 h4 hE
    apply M251_2_of
    unfold runL at hE
    by_cases h : x ≤ r.2.1
    · rw [if_pos h] at hE
      rw [dT h, List.length_map, dT (by simp only [List.length_cons, List.length_nil]; omega), w64 (n := x + r.2.2.2) (by omega) (by omega), w64 (n := x + r.2.2.1) (by omega) (by omega)]
      have := ih (x + r.2.2.1) (acc ++ [x, x + r.2.2.2]) (by omega) (by omega) (by omega) (by simp only [List.length_append, List.length_cons, List.length_nil]; omega) (by simpa using hE)
      rw [List.map_append] at this
      exact this
    · rw [if_neg h, List.append_nil] at hE
      rw [dF h]
      exact hE
theorem cased_1 (v0 : List Dat) : ∀ (rest pre : List Row) (acc : List Int), rowsL = pre ++ rest → acc.length + 400 * rest.length < 100000 →
    M251_1 v0 (acc.map .int) (rowsD rowsL) 18 (pre.length : Int) = some [.list ((acc ++ rest.flatMap casedR ++ sinL.flatMap casedS).map .int)] := by
  intro rest
  induction rest with
  | nil =>
    intro pre acc hxs ha
    have hl : pre.length = 18 := by have := congrArg List.length hxs; simpa [rowsL] using this.symm
    apply M251_1_of
    rw [dF (by omega), bT sinsF_E]
    simp only [rd0, datL, rsS_len]
    refine (cased_3 _ _ _ _ sinL [] acc rfl (by simp only [List.length_nil] at ha; have : sinL.length = 6 := rfl; omega)).trans ?_
    simp
  | cons r rest ih =>
    intro pre acc hxs ha
    have hl : 18 = pre.length + (rest.length + 1) := by have := congrArg List.length hxs; simpa [rowsL] using this
    simp only [List.length_cons] at ha
    have hmem : r ∈ rowsL := by rw [hxs]; simp
    have hok := rows_ok hmem
    have hsh := rows_short r hmem
    have hat : rd (rowsD rowsL) pre.length = .agg [.int r.1, .int r.2.1, .int r.2.2.1, .int r.2.2.2] := by
      have hk : pre.length < rowsL.length := by rw [hxs]; simp
      rw [rowsD_rd rowsL _ hk]
      have : rowsL[pre.length] = r := by
        have h2 : rowsL[pre.length]? = some r := by rw [hxs]; simp
        exact Option.some.inj ((List.getElem?_eq_getElem hk).symm.trans h2)
      rw [this]
    have hrl := runL_length r.2.2.2 r.2.2.1 r.2.1 200 r.1
    have g0 := hok.f0
    have g1 := hok.f1
    apply M251_1_of
    rw [dT (by omega), rowsDL_len, dT (by omega), dT (by omega), dT (by omega), Int.toNat_natCast, hat]
    simp only [aggC0, aggC1, aggC2, aggC3, datI]
    obtain ⟨N, hN⟩ : ∃ N : Nat, N = 200 := ⟨_, rfl⟩
    rw [← hN] at hrl
    refine cased_2 _ _ _ _ hok _ N r.1 acc (by omega) g0 (by omega) (by omega) ?_
    rw [show IntKind.i64.wrap ((pre.length : Int) + 1) = (((pre ++ [r]).length : Nat) : Int) from by rw [w64 (by omega) (by omega)]; simp]
    have hcs : casedR r = runL r.2.2.2 r.2.2.1 r.2.1 N r.1 := by rw [hN]; rfl
    refine (ih (pre ++ [r]) (acc ++ runL r.2.2.2 r.2.2.1 r.2.1 N r.1) (by rw [hxs]; simp) (by rw [List.length_append]; omega)).trans ?_
    rw [← hcs]
    simp
theorem cased_E : E C 251 [] = some [.list (casedL.map .int)] := by
  apply o251
  rw [bT rowsF_E]
  simp only [rd0, datL, rowsDL_len]
  refine (cased_1 [] rowsL [] [] (List.nil_append _).symm (by have : rowsL.length = 18 := rfl; simp only [List.length_nil]; omega)).trans ?_
  rw [List.nil_append]
  unfold casedL
  rfl
def ptR (y : Int) : Int × Int := (y, y)
def addL (l : List (Int × Int)) (c : Int) : List (Int × Int) := if hasB l c = true then (orbL c).map ptR else []
def closeR (l : List (Int × Int)) : List (Int × Int) := mk (l ++ casedL.flatMap (addL l))
theorem addL_length (l : List (Int × Int)) (c : Int) : (addL l c).length ≤ 25 := by
  unfold addL
  split
  · rw [List.length_map]; exact orbL_length c
  · simp
theorem close_2 (v0 v2 : List Dat) (v5 : Int) (v10 : List Dat) (v11 v12 : Int) (os : List Int) (ho : os.length ≤ 25) (res : List Dat) : ∀ (rest pre : List Int) (acc : List (Int × Int)), os = pre ++ rest → acc.length + rest.length < 8000000 →
    M231_1 v0 v2 (rs (acc ++ rest.map ptR)) v10 v11 (IntKind.i64.wrap (v12 + 1)) = some res → M231_2 v0 v2 (rs acc) v5 v10 v11 v12 (os.map .int) (os.length : Int) (pre.length : Int) = some res := by
  have hc16 : capB 16 = 8796093022208 := by decide
  intro rest
  induction rest with
  | nil =>
    intro pre acc hxs ha hE
    have hl : os.length = pre.length := by rw [hxs]; simp
    apply M231_2_of
    rw [dF (by omega)]
    simpa using hE
  | cons y rest ih =>
    intro pre acc hxs ha hE
    simp only [List.length_cons] at ha
    have hl : os.length = pre.length + (rest.length + 1) := by rw [hxs]; simp
    have hat : (rd (os.map Dat.int) pre.length).I = y := by rw [hxs]; exact rsI_at _ _ _
    apply M231_2_of
    rw [List.length_map, dT (by omega), ixT ⟨by omega, by omega⟩, Int.toNat_natCast, hat, rs_len, dT (by rw [List.length_singleton]; omega), rs1 (y, y), ← rsA, show IntKind.i64.wrap ((pre.length : Int) + 1) = (((pre ++ [y]).length : Nat) : Int) from by rw [w64 (by omega) (by omega)]; simp]
    exact ih (pre ++ [y]) (acc ++ [(y, y)]) (by rw [hxs]; simp) (by rw [List.length_append, List.length_singleton]; omega) (by simpa [ptR] using hE)
theorem close_1 (l : List (Int × Int)) (hl0 : l.length ≤ 1000000) (v2 : List Dat) (xs : List Int) (hxl : xs.length ≤ 10000) : ∀ (rest pre : List Int) (acc : List (Int × Int)), xs = pre ++ rest → acc.length + 25 * rest.length < 4000000 →
    M231_1 (rs l) v2 (rs acc) (xs.map .int) (xs.length : Int) (pre.length : Int) = some [.list (rs (mk (acc ++ rest.flatMap (addL l))))] := by
  intro rest
  induction rest with
  | nil =>
    intro pre acc hxs ha
    have hl : xs.length = pre.length := by rw [hxs]; simp
    apply M231_1_of
    rw [dF (by omega), bT (Make_E acc (by simp only [List.length_nil] at ha; omega)), List.flatMap_nil, List.append_nil]
    rfl
  | cons c rest ih =>
    intro pre acc hxs ha
    simp only [List.length_cons] at ha
    have hl : xs.length = pre.length + (rest.length + 1) := by rw [hxs]; simp
    have hat : (rd (xs.map Dat.int) pre.length).I = c := by rw [hxs]; exact rsI_at _ _ _
    have hal := addL_length l c
    have hs := orbL_length c
    have ek : IntKind.i64.wrap ((pre.length : Int) + 1) = (((pre ++ [c]).length : Nat) : Int) := by rw [w64 (by omega) (by omega)]; simp
    have h := ih (pre ++ [c]) (acc ++ addL l c) (by rw [hxs]; simp) (by rw [List.length_append]; omega)
    rw [List.flatMap_cons, ← List.append_assoc]
    apply M231_1_of
    rw [List.length_map, dT (by omega), ixT ⟨by omega, by omega⟩, Int.toNat_natCast, hat, bT (Has_E l c (by omega))]
    simp only [rd0, datB]
    cases hc : hasB l c with
    | true =>
      have e : addL l c = (orbL c).map ptR := by unfold addL; rw [if_pos hc]
      rw [e] at h ⊢
      rw [nF rfl, bT (Orbit2_E c)]
      simp only [rd0, datL, List.length_map]
      exact close_2 _ _ _ _ _ _ (orbL c) hs _ (orbL c) [] acc rfl (by omega) (by rw [ek]; exact h)
    | false =>
      have e : addL l c = [] := by unfold addL; rw [if_neg (by rw [hc]; simp)]
      rw [e, List.append_nil] at h ⊢
      rw [nT rfl, ek]
      exact h
theorem Clone_E (l : List (Int × Int)) (h : l.length < 8796093022208) : E C 250 [.shr 82 (rs l)] = some [.list (rs l)] := by
  refine E_given (h := gClone 82) (by kernel_rfl) ?_
  simp only [gClone]
  rw [rs_len, decide_eq_true h]
  rfl
theorem Close_E (l : List (Int × Int)) (hl : l.length ≤ 1000000) : E C 231 [.shr 82 (rs l)] = some [.list (rs (closeR l))] := by
  have hc := casedL_length
  apply o231
  rw [bT (Clone_E l (by omega)), bT cased_E]
  simp only [rd0, datL, List.length_map]
  exact close_1 l hl _ casedL hc casedL [] l (List.nil_append _).symm (by omega)
theorem closeR_length (l : List (Int × Int)) : (closeR l).length ≤ l.length + 250000 := by
  have h := mk_length (l ++ casedL.flatMap (addL l))
  have hc := casedL_length
  have h2 : (casedL.flatMap (addL l)).length ≤ 25 * casedL.length := by
    generalize casedL = L
    induction L with
    | nil => simp
    | cons a L ih =>
      rw [List.flatMap_cons, List.length_append, List.length_cons, Nat.mul_add]
      have := addL_length l a
      omega
  rw [List.length_append] at h
  unfold closeR
  omega
theorem close_has (l : List (Int × Int)) (x : Int) : hasB (closeR l) x = (orbL x).any (hasB l) := by
  rw [Bool.eq_iff_iff, hasB_iff, List.any_eq_true]
  unfold closeR
  rw [mk_has]
  have hin : hasP (l ++ casedL.flatMap (addL l)) x ↔ hasP l x ∨ ∃ c ∈ casedL, hasB l c = true ∧ x ∈ orbL c := by
    rw [hasP_append]
    refine or_congr Iff.rfl ?_
    constructor
    · rintro ⟨r, hr, h1, h2⟩
      obtain ⟨c, hc, hm⟩ := List.mem_flatMap.mp hr
      unfold addL at hm
      by_cases hb : hasB l c = true
      · rw [if_pos hb] at hm
        obtain ⟨y, hy, rfl⟩ := List.mem_map.mp hm
        unfold ptR at h1 h2
        dsimp only at h1 h2
        have : x = y := by omega
        exact ⟨c, hc, hb, this ▸ hy⟩
      · rw [if_neg hb] at hm
        cases hm
    · rintro ⟨c, hc, hb, hx⟩
      exact ⟨ptR x, List.mem_flatMap.mpr ⟨c, hc, by unfold addL; rw [if_pos hb]; exact List.mem_map.mpr ⟨x, hx, rfl⟩⟩, Int.le_refl _, Int.le_refl _⟩
  rw [hin]
  constructor
  · rintro ⟨h0, h1, _, _, h | ⟨c, _, hb, hx⟩⟩
    · exact ⟨x, mem_orbL.2 ⟨⟨h0, h1⟩, rfl⟩, (hasB_iff l x).mpr ⟨h0, h1, h⟩⟩
    · exact ⟨c, mem_orbL.2 ⟨⟨h0, h1⟩, (mem_orbL.1 hx).2.symm⟩, hb⟩
  · rintro ⟨y, hy, hb⟩
    obtain ⟨⟨h0, h1⟩, hw⟩ := mem_orbL.1 hy
    refine ⟨h0, h1, h0, h1, ?_⟩
    by_cases e : x = y
    · subst e
      exact .inl ((hasB_iff l x).mp hb).2.2
    · have hyb := (hasB_iff l y).mp hb
      exact .inr ⟨y, mem_cased hw e, hb, mem_orbL.2 ⟨⟨hyb.1, hyb.2.1⟩, hw.symm⟩⟩
end Go.Proofs.YtlofoifcdmeopaaGreatDoor.V
