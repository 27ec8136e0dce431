/- TextAgain: what stands between any two places comes again at any third one just if the document says so. -/
import Derived.Test.YtjgbhajaiifimaaDoorVOrbR
namespace Go.Proofs.YtjgbhajaiifimaaDoor.V
open Go Go.Ev Go.RowKit
set_option linter.unusedVariables false
set_option linter.unusedSimpArgs false
/-- Are two symbols the same, in a mode? -/
def sameB (mode x y : Int) : Bool := if mode = 1 then foldP x == foldP y else x == y
/-- Are rows the same from a place on? -/
def eqAll (mode : Int) : List Int → List Int → Bool
  | x :: l, y :: m => sameB mode x y && eqAll mode l m
  | _, _ => true
theorem eq_a (l m : List Int) (hlm : l.length = m.length) (hl : l.length ≤ 1000000) (v0 : List Dat) (v6 : Bool) : ∀ (d k : Nat), l.length - k = d → k ≤ l.length →
    M47_a_1 v0 (m.map .int) v6 (l.map .int) (l.length : Int) (k : Int) = some [.bool (eqAll 1 (l.drop k) (m.drop k))] := by
  intro d
  induction d with
  | zero =>
    intro k hd hk
    apply M47_a_1_of
    rw [dF (by omega), List.drop_of_length_le (by omega)]
    rfl
  | succ d ih =>
    intro k hd hk
    have hlt : k < l.length := by omega
    have hlt2 : k < m.length := by omega
    have hn := ih (k + 1) (by omega) (by omega)
    apply M47_a_1_of
    simp only [List.length_map, Int.toNat_natCast, rdI]
    rw [dT (by omega), dT (by omega), dT (by omega), dT (by omega), dT (by omega), dT (by omega), dT (by omega), getD_drop hlt, getD_drop hlt2, bT (Same_E _ _)]
    rw [List.drop_eq_getElem_cons hlt, List.drop_eq_getElem_cons hlt2]
    simp only [rd0, datB, eqAll, sameB, if_true]
    cases h : (foldP l[k] == foldP m[k]) with
    | false => rfl
    | true =>
      rw [w64 (by omega) (by omega)]
      exact hn
theorem eq_b (l m : List Int) (mode : Int) (hmo : mode ≠ 1) (hlm : l.length = m.length) (hl : l.length ≤ 1000000) (v0 : List Dat) (v6 : Bool) : ∀ (d k : Nat), l.length - k = d → k ≤ l.length →
    M47_b_1 v0 (m.map .int) v6 (l.map .int) (l.length : Int) (k : Int) = some [.bool (eqAll mode (l.drop k) (m.drop k))] := by
  intro d
  induction d with
  | zero =>
    intro k hd hk
    apply M47_b_1_of
    rw [dF (by omega), List.drop_of_length_le (by omega)]
    rfl
  | succ d ih =>
    intro k hd hk
    have hlt : k < l.length := by omega
    have hlt2 : k < m.length := by omega
    have hn := ih (k + 1) (by omega) (by omega)
    have hs : E C 45 [.int .i64 l[k], .int .i64 m[k]] = some [.bool (l[k] == m[k])] := by
      apply o45
      rfl
    apply M47_b_1_of
    simp only [List.length_map, Int.toNat_natCast, rdI]
    rw [dT (by omega), dT (by omega), dT (by omega), dT (by omega), dT (by omega), dT (by omega), dT (by omega), getD_drop hlt, getD_drop hlt2, bT hs]
    rw [List.drop_eq_getElem_cons hlt, List.drop_eq_getElem_cons hlt2]
    simp only [rd0, datB, eqAll, sameB, if_neg hmo]
    cases h : (l[k] == m[k]) with
    | false => rfl
    | true =>
      rw [w64 (by omega) (by omega)]
      exact hn
theorem Equal_a (l m : List Int) (hlm : l.length = m.length) (hl : l.length ≤ 1000000) : E C 47 [.shr 3 (l.map .int), .shr 3 (m.map .int), .clo 46 [] []] = some [.bool (eqAll 1 l m)] := by
  apply o47_a
  simp only [List.length_map]
  rw [cF (by rw [hlm]; simp)]
  exact eq_a l m hlm hl _ _ l.length 0 rfl (by omega)
theorem Equal_b (l m : List Int) (mode : Int) (hmo : mode ≠ 1) (hlm : l.length = m.length) (hl : l.length ≤ 1000000) : E C 47 [.shr 3 (l.map .int), .shr 3 (m.map .int), .clo 45 [] []] = some [.bool (eqAll mode l m)] := by
  apply o47_b
  simp only [List.length_map]
  rw [cF (by rw [hlm]; simp)]
  exact eq_b l m mode hmo hlm hl _ _ l.length 0 rfl (by omega)
def slc (l : List Int) (i j : Int) : List Int := (l.take j.toNat).drop i.toNat
/-- What comes again. -/
def againR (l : List Int) (f t a mode : Int) : Int × Bool :=
  if f < 0 ∨ t < f ∨ t > (l.length : Int) ∨ a < 0 ∨ a > (l.length : Int) - (t - f) then (0, false)
  else if eqAll mode (slc l f t) (slc l a (a + (t - f))) = true then (a + (t - f), true) else (0, false)
theorem slc_map (l : List Int) (i j : Int) : ((l.map Dat.int).take j.toNat).drop i.toNat = (slc l i j).map .int := by
  unfold slc
  rw [List.map_drop, List.map_take]
theorem slc_len {l : List Int} {i j : Int} (h0 : 0 ≤ i) (h1 : i ≤ j) (h2 : j ≤ (l.length : Int)) : (slc l i j).length = (j - i).toNat := by
  unfold slc
  rw [List.length_drop, List.length_take]
  omega
def i64P (x : Int) : Prop := -9223372036854775808 ≤ x ∧ x ≤ 9223372036854775807
theorem Again1_E (l : List Int) (hl : l.length ≤ 1000000) (f t a mode : Int) (hf : i64P f) (ht : i64P t) (ha : i64P a) : E C 32 [.agg [.shr 3 (l.map .int)], .int .i64 f, .int .i64 t, .int .i64 a, .int .i64 mode] = some [.int (againR l f t a mode).1, .bool (againR l f t a mode).2] := by
  unfold i64P at hf ht ha
  apply o32
  simp only [List.length_map, slc_map]
  unfold againR
  by_cases h0 : f < 0
  · rw [dT h0, if_pos (.inl h0)]
  by_cases h1 : t < f
  · rw [dF h0, dT h1, if_pos (.inr (.inl h1))]
  by_cases h2 : t > (l.length : Int)
  · rw [dF h0, dF h1, dT h2, if_pos (.inr (.inr (.inl h2)))]
  by_cases h3 : a < 0
  · rw [dF h0, dF h1, dF h2, dT h3, if_pos (.inr (.inr (.inr (.inl h3))))]
  rw [w64 (n := t - f) (by omega) (by omega), w64 (n := (l.length : Int) - (t - f)) (by omega) (by omega)]
  by_cases h4 : a > (l.length : Int) - (t - f)
  · rw [dF h0, dF h1, dF h2, dF h3, dT h4, if_pos (.inr (.inr (.inr (.inr h4))))]
  rw [w64 (n := a + (t - f)) (by omega) (by omega), dF h0, dF h1, dF h2, dF h3, dF h4, if_neg (by omega)]
  have hl1 := slc_len (l := l) (i := f) (j := t) (by omega) (by omega) (by omega)
  have hl2 := slc_len (l := l) (i := a) (j := a + (t - f)) (by omega) (by omega) (by omega)
  have hlm : (slc l f t).length = (slc l a (a + (t - f))).length := by rw [hl1, hl2]; congr 1; omega
  by_cases hm : mode = 1
  · subst hm
    rw [eT rfl, dT (by omega), dT (by omega), dT (by omega), dT (by omega), dT (by omega), dT (by omega), bT (Equal_a _ _ hlm (by omega))]
    simp only [rd0, datB]
    cases eqAll 1 (slc l f t) (slc l a (a + (t - f))) <;> rfl
  · rw [eF hm, dT (by omega), dT (by omega), dT (by omega), dT (by omega), dT (by omega), dT (by omega), bT (Equal_b _ _ mode hm hlm (by omega))]
    simp only [rd0, datB]
    cases eqAll mode (slc l f t) (slc l a (a + (t - f))) <;> rfl
theorem slc_cons {l : List Int} {i j : Int} (h0 : 0 ≤ i) (h1 : i < j) (h2 : j ≤ (l.length : Int)) : slc l i j = l.getD i.toNat 0 :: slc l (i + 1) j := by
  unfold slc
  have hlt : i.toNat < (l.take j.toNat).length := by rw [List.length_take]; omega
  rw [List.drop_eq_getElem_cons hlt]
  have e : (i + 1).toNat = i.toNat + 1 := by omega
  rw [e]
  congr 1
  have hl2 : i.toNat < l.length := by omega
  rw [List.getElem_take, List.getD_eq_getElem?_getD, List.getElem?_eq_getElem hl2]
  rfl
theorem ref_loop (l : List Int) (hp : pos l) (hl : l.length ≤ 1000000) (f t a mode : Int) (hf : 0 ≤ f) (hft : f ≤ t) (ht : t ≤ (l.length : Int)) (ha : 0 ≤ a ∧ a ≤ (l.length : Int)) (v10 : Int) (v11 : Bool) : ∀ (d : Nat) (i : Int), (t - i).toNat = d → f ≤ i → i ≤ t → a + i - f ≤ (l.length : Int) →
    M33_1 (l.map .int) f t a mode v10 v11 i = some (if a + (t - f) ≤ (l.length : Int) ∧ eqAll mode (slc l i t) (slc l (a + i - f) (a + (t - f))) = true then [.int (a + (t - f)), .bool true] else [.int 0, .bool false]) := by
  intro d
  induction d with
  | zero =>
    intro i hd hfi hit hai
    obtain rfl : i = t := by omega
    apply M33_1_of
    rw [dF (by omega), w64 (n := a + i) (by omega) (by omega), w64 (n := a + i - f) (by omega) (by omega)]
    have e : slc l i i = [] := by
      have := slc_len (l := l) (i := i) (j := i) (by omega) (by omega) (by omega)
      exact List.eq_nil_of_length_eq_zero (by rw [this]; simp)
    rw [e, if_pos ⟨by omega, rfl⟩, show a + i - f = a + (i - f) by omega]
  | succ d ih =>
    intro i hd hfi hit hai
    have hlt : i < t := by omega
    have hil : i.toNat < l.length := by omega
    apply M33_1_of
    simp only [List.length_map, rdI]
    rw [dT hlt, dT (by omega), dT (by omega), dT (by omega), w64 (n := a + i) (by omega) (by omega), w64 (n := a + i - f) (by omega) (by omega), w64 (n := i + 1) (by omega) (by omega), bT (RefAt13_E l _)]
    simp only [rd0, datI]
    have hn := atP_neg hp (a + i - f)
    by_cases h1 : atP l (a + i - f) < 0
    · have := hn.1 h1
      rw [dT h1, if_neg (fun q => by omega)]
    · have hin : a + i - f < (l.length : Int) := by
        by_cases h : a + i - f < (l.length : Int)
        · exact h
        · exact absurd (hn.2 (by omega)) h1
      have hA : atP l (a + i - f) = l.getD (a + i - f).toNat 0 := by
        unfold atP
        rw [if_pos ⟨by omega, hin⟩]
      have hih := ih (i + 1) (by omega) (by omega) (by omega) (by omega)
      have hai1 : a + (i + 1) - f = a + i - f + 1 := by omega
      rw [hai1] at hih
      have hnext : M33_1 (l.map .int) f t a mode v10 v11 (i + 1) = some (if a + (t - f) ≤ (l.length : Int) ∧ eqAll mode (slc l (i + 1) t) (slc l (a + i - f + 1) (a + (t - f))) = true then [.int (a + (t - f)), .bool true] else [.int 0, .bool false]) := hih
      have hcons : a + (t - f) ≤ (l.length : Int) → eqAll mode (slc l i t) (slc l (a + i - f) (a + (t - f))) = (sameB mode (l.getD i.toNat 0) (atP l (a + i - f)) && eqAll mode (slc l (i + 1) t) (slc l (a + i - f + 1) (a + (t - f)))) := fun hle => by
        rw [slc_cons (l := l) (i := i) (j := t) (by omega) hlt ht, slc_cons (l := l) (i := a + i - f) (j := a + (t - f)) (by omega) (by omega) hle, hA]
        rfl
      have fin : ∀ s : Bool, sameB mode (l.getD i.toNat 0) (atP l (a + i - f)) = s → (bif s then M33_1 (l.map .int) f t a mode v10 v11 (i + 1) else some [.int 0, .bool false]) = some (if a + (t - f) ≤ (l.length : Int) ∧ eqAll mode (slc l i t) (slc l (a + i - f) (a + (t - f))) = true then [.int (a + (t - f)), .bool true] else [.int 0, .bool false]) := by
        intro s hs
        by_cases hle : a + (t - f) ≤ (l.length : Int)
        · rw [hcons hle, hs]
          cases s with
          | true => rw [cT rfl, hnext, Bool.true_and]
          | false => rw [cF rfl, Bool.false_and, if_neg (by simp)]
        · rw [if_neg (fun q => hle q.1)]
          cases s with
          | true => rw [cT rfl, hnext, if_neg (fun q => hle q.1)]
          | false => rfl
      rw [dF h1]
      by_cases hm : mode = 1
      · rw [eT hm, bT (RefFold_E _), bT (RefFold_E _)]
        simp only [rd0, datI]
        have hs : sameB mode (l.getD i.toNat 0) (atP l (a + i - f)) = (foldP (l.getD i.toNat 0) == foldP (atP l (a + i - f))) := by
          unfold sameB
          rw [if_pos hm]
        have h2 := fin _ hs
        cases hfp : (foldP (l.getD i.toNat 0) == foldP (atP l (a + i - f))) with
        | true =>
          rw [hfp] at h2
          rw [cF (by simpa [bne] using hfp), cF (by simp [hm])]
          exact h2
        | false =>
          rw [hfp] at h2
          rw [cT (by simpa [bne] using hfp)]
          exact h2
      · rw [eF hm, cT (by simpa using hm)]
        have hs : sameB mode (l.getD i.toNat 0) (atP l (a + i - f)) = (l.getD i.toNat 0 == atP l (a + i - f)) := by
          unfold sameB
          rw [if_neg hm]
        have h2 := fin _ hs
        cases hfp : (l.getD i.toNat 0 == atP l (a + i - f)) with
        | true =>
          rw [hfp] at h2
          rw [cF (by simpa [bne] using hfp)]
          exact h2
        | false =>
          rw [hfp] at h2
          rw [cT (by simpa [bne] using hfp)]
          exact h2
theorem Again2_E (l : List Int) (hp : pos l) (hl : l.length ≤ 1000000) (f t a mode : Int) : E C 33 [.shr 3 (l.map .int), .int .i64 f, .int .i64 t, .int .i64 a, .int .i64 mode] = some [.int (againR l f t a mode).1, .bool (againR l f t a mode).2] := by
  apply o33
  simp only [List.length_map]
  unfold againR
  by_cases h0 : f < 0
  · rw [dT h0, if_pos (.inl h0)]
  by_cases h1 : t < f
  · rw [dF h0, dT (by omega), if_pos (.inr (.inl h1))]
  by_cases h2 : t > (l.length : Int)
  · rw [dF h0, dF (by omega), dT h2, if_pos (.inr (.inr (.inl h2)))]
  by_cases h3 : a < 0
  · rw [dF h0, dF (by omega), dF h2, dT h3, if_pos (.inr (.inr (.inr (.inl h3))))]
  by_cases h4 : a > (l.length : Int)
  · rw [dF h0, dF (by omega), dF h2, dF h3, dT h4, if_pos (.inr (.inr (.inr (.inr (by omega)))))]
  rw [dF h0, dF (by omega), dF h2, dF h3, dF h4]
  refine (ref_loop l hp hl f t a mode (by omega) (by omega) (by omega) ⟨by omega, by omega⟩ _ _ (t - f).toNat f rfl (Int.le_refl _) (by omega) (by omega)).trans ?_
  have e : a + f - f = a := by omega
  rw [e]
  by_cases h5 : a > (l.length : Int) - (t - f)
  · rw [if_neg (fun q => by omega), if_pos (.inr (.inr (.inr (.inr h5))))]
  · rw [if_neg (show ¬ (f < 0 ∨ t < f ∨ t > (l.length : Int) ∨ a < 0 ∨ a > (l.length : Int) - (t - f)) by omega)]
    cases eqAll mode (slc l f t) (slc l a (a + (t - f))) with
    | true => rw [if_pos ⟨by omega, rfl⟩]; rfl
    | false => rw [if_neg (fun q => by simp at q)]; rfl
theorem tySpot : C.T 52 = some ⟨4, 32, [.int .i64, .int .i64, .int .i64, .int .i64], true, .struct [(0, 3), (1, 3), (2, 3), (3, 3)]⟩ := rfl
theorem fit_spot {k : Nat} {d : Dat} (h : fitT C.T (k + 2) 52 d) : ∃ f t a m : Int, d = .agg [.int f, .int t, .int a, .int m] ∧ i64P f ∧ i64P t ∧ i64P a := by
  have h' : ∃ ti, C.T 52 = some ti ∧ (match ti.sh with
    | .scal => ∃ c, ti.cts = [c] ∧ fitS c d
    | .slice e => ∃ l, d = .list l ∧ (∃ te, C.T e = some te ∧ l.length * te.bytes ≤ 140737488351232) ∧ ∀ x, x ∈ l → fitT C.T (k + 1) e x
    | .struct fs => ∃ l, d = .agg l ∧ fitF (fitT C.T (k + 1)) C.T fs l
    | _ => False) := h
  obtain ⟨ti, h1, h2⟩ := h'
  rw [tySpot, Option.some.injEq] at h1
  subst h1
  obtain ⟨l, rfl, h3⟩ := h2
  obtain ⟨f, l1, rfl, b1, h4⟩ := fitF_int h3
  obtain ⟨t, l2, rfl, b2, h5⟩ := fitF_int h4
  obtain ⟨a, l3, rfl, b3, h6⟩ := fitF_int h5
  obtain ⟨m, l4, rfl, b4, h7⟩ := fitF_int h6
  have : l4 = [] := h7
  subst this
  exact ⟨f, t, a, m, rfl, b1, b2, b3⟩
theorem TextAgain_pure (e0 e1 : Dat) (h0 : fitT C.T 9 22 e0) (h1 : fitT C.T 9 52 e1) : E C 11 [.shr 5 e0.L, .agg [.int .i64 (e1.C 0).I, .int .i64 (e1.C 1).I, .int .i64 (e1.C 2).I, .int .i64 (e1.C 3).I]] = some [.bool true] := by
  obtain ⟨b, rfl, hb, hbl⟩ := fit_bytes h0
  obtain ⟨f, t, a, m, rfl, bf, bt, ba⟩ := fit_spot h1
  apply o11
  rw [bT anchor_E]
  simp only [rd0, datB, datL, Bool.not_true, cond_false, List.length_map]
  by_cases g : (b.length : Int) > 2000
  · rw [dT g]
  have hsl := symsR_length (b := b)
  rw [dF g, bT (New_ok hb (by omega)), bT (RefAll_E hb (by omega))]
  simp only [rd0, rd1, datI, datL]
  have hL : ((Dat.agg [Dat.list ((symsR b).map .int)]).C 0).L = (symsR b).map .int := rfl
  have c0 : ((Dat.agg [Dat.int f, Dat.int t, Dat.int a, Dat.int m]).C 0).I = f := rfl
  have c1 : ((Dat.agg [Dat.int f, Dat.int t, Dat.int a, Dat.int m]).C 1).I = t := rfl
  have c2 : ((Dat.agg [Dat.int f, Dat.int t, Dat.int a, Dat.int m]).C 2).I = a := rfl
  have c3 : ((Dat.agg [Dat.int f, Dat.int t, Dat.int a, Dat.int m]).C 3).I = m := rfl
  rw [hL, c0, c1, c2, c3, bT (Again1_E (symsR b) (by omega) f t a m bf bt ba), bT (Again2_E (symsR b) (syms_pos hb) (by omega) f t a m)]
  simp only [rd0, rd1, datI, datB]
  rw [eT rfl, eT rfl]
  simp
end Go.Proofs.YtjgbhajaiifimaaDoor.V
