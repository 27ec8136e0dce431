/- PointTexts: any point's text is its word, and its number, or a kind's name. -/
import Derived.Test.YtpfnmjpccmobpaaDoorUDig
import Derived.Test.YtpfnmjpccmobpaaDoorVSPt
import Derived.Test.YtpfnmjpccmobpaaDoorVSLPointTexts
import Derived.Test.YtpfnmjpccmobpaaDoorUA22
namespace Go.Proofs.YtpfnmjpccmobpaaDoor.V
open Go Go.Ev Go.RowKit
set_option linter.unusedVariables false
set_option linter.unusedSimpArgs false
theorem fit_point {k : Nat} {d : Dat} (h : fitT C.T (k + 2) 23 d) : ∃ a b : Int, d = .agg [.int a, .int b] ∧ i64P a ∧ i64P b := by
  obtain ⟨l, rfl, h1⟩ := fit_struct (t := 23) (ti := ⟨2, 16, [.int .i64, .int .i64], true, .struct [(0, 3), (1, 3)]⟩) rfl rfl h
  obtain ⟨d0, l, rfl, g0, h1⟩ := fitF_one h1 tyi rfl
  obtain ⟨d1, l, rfl, g1, h1⟩ := fitF_one h1 tyi rfl
  obtain rfl : l = [] := h1
  obtain ⟨a, rfl, ha⟩ := fit_i64 g0
  obtain ⟨b, rfl, hb⟩ := fit_i64 g1
  exact ⟨a, b, rfl, ha, hb⟩
def wi (x a b : Int) : Bool := decide (x ≥ a) && decide (x ≤ b)
theorem withinP_E (x a b : Int) : E C 65 [.int .i64 x, .int .i64 a, .int .i64 b] = some [.bool (wi x a b)] := by
  apply o65
  unfold wi
  cases decide (x ≥ a) <;> rfl
theorem Itoa_E (n : Int) (h : i64P n) : E C 66 [.int .i64 n] = some [.str (bs (Go.Lib.itoa n))] := by
  refine E_given (h := gItoa) (by kernel_rfl) ?_
  show (bif decide (-9223372036854775808 ≤ n) && decide (n ≤ 9223372036854775807) then some [Dat.str (bs (Go.Lib.itoa n))] else none) = _
  rw [decide_eq_true h.1, decide_eq_true h.2]
  rfl
def wordsL : List (List UInt8) := [[], [110, 111, 100, 101], [112, 111, 115], [107, 105, 110, 100], [103, 114, 111, 117, 112], [100, 101, 112, 116, 104]]
def kindsL : List (List UInt8) := [[], [98, 101, 103, 105, 110], [115, 116, 101, 112], [109, 105, 115, 115], [104, 101, 108, 100], [116, 117, 114, 110], [102, 111, 114, 107], [97, 103, 97, 105, 110], [111, 112, 101, 110], [99, 108, 111, 115, 101], [105, 110, 116, 111], [111, 117, 116], [100, 114, 111, 112], [109, 97, 116, 99, 104], [110, 111, 110, 101]]
theorem words_eq : tabf4bf8e = wordsL.map fun s => .str (bs s) := rfl
theorem kinds_eq : tabcec582 = kindsL.map fun s => .str (bs s) := rfl
theorem words_len : tabf4bf8e.length = 6 := rfl
theorem kinds_len : tabcec582.length = 15 := rfl
theorem str_rd (l : List (List UInt8)) (k : Nat) (h : k < l.length) : (rd (l.map fun s => Dat.str (bs s)) k).S = bs (l.getD k []) := by simp [rd, h, List.getD_eq_getElem?_getD]
def wordS (w : Int) : List UInt8 := if 1 ≤ w ∧ w ≤ 5 then wordsL.getD w.toNat [] else []
def kindS (a : Int) : List UInt8 := if 1 ≤ a ∧ a ≤ 14 then kindsL.getD a.toNat [] else []
theorem words_rd {w : Int} (h : 1 ≤ w ∧ w ≤ 5) : (rd tabf4bf8e w.toNat).S = bs (wordS w) := by
  rw [words_eq, str_rd wordsL _ (show w.toNat < 6 by omega)]
  unfold wordS
  rw [if_pos h]
theorem kinds_rd {a : Int} (h : 1 ≤ a ∧ a ≤ 14) : (rd tabcec582 a.toNat).S = bs (kindS a) := by
  rw [kinds_eq, str_rd kindsL _ (show a.toNat < 15 by omega)]
  unfold kindS
  rw [if_pos h]
theorem wordS_len (w : Int) : (wordS w).length ≤ 10 := by
  unfold wordS
  split
  · have : ∀ k : Nat, (wordsL.getD k []).length ≤ 10 := fun k => by
      by_cases hk : k < 6
      · exact (by decide : ∀ k : Fin 6, (wordsL.getD k.val []).length ≤ 10) ⟨k, hk⟩
      · rw [List.getD_eq_getElem?_getD, List.getElem?_eq_none (show wordsL.length ≤ k by show 6 ≤ k; omega)]; simp
    exact this _
  · simp
theorem kindS_len (a : Int) : (kindS a).length ≤ 10 := by
  unfold kindS
  split
  · have : ∀ k : Nat, (kindsL.getD k []).length ≤ 10 := fun k => by
      by_cases hk : k < 15
      · exact (by decide : ∀ k : Fin 15, (kindsL.getD k.val []).length ≤ 10) ⟨k, hk⟩
      · rw [List.getD_eq_getElem?_getD, List.getElem?_eq_none (show kindsL.length ≤ k by show 15 ≤ k; omega)]; simp
    exact this _
  · simp
theorem kindS_ne {a : Int} (h : 1 ≤ a ∧ a ≤ 14) : kindS a ≠ [] := by
  unfold kindS
  rw [if_pos h]
  have : ∀ k : Fin 15, k.val ≠ 0 → kindsL.getD k.val [] ≠ [] := by decide
  exact this ⟨a.toNat, by omega⟩ (by show a.toNat ≠ 0; omega)
theorem kindS_no {a : Int} (h : ¬ (1 ≤ a ∧ a ≤ 14)) : kindS a = [] := if_neg h
theorem Word_E (w : Int) : E C 20 [.int .i64 w] = some [.str (bs (wordS w))] := by
  apply o20
  rw [bT (withinP_E _ _ _)]
  simp only [rd0, datB]
  unfold wi
  by_cases h : 1 ≤ w ∧ w ≤ 5
  · rw [decide_eq_true (show w ≥ 1 from h.1), decide_eq_true h.2, nF (by rfl), dT (by omega), dT (by omega), dT (by rw [words_len]; omega), words_rd h]
  · have : (decide (w ≥ 1) && decide (w ≤ 5)) = false := by
      rw [Bool.eq_false_iff]
      intro e
      rw [Bool.and_eq_true, decide_eq_true_eq, decide_eq_true_eq] at e
      exact h e
    rw [this, nT (by rfl)]
    unfold wordS
    rw [if_neg h]
    rfl
theorem Name_E (a : Int) : E C 67 [.int .i64 a] = some [.str (bs (kindS a))] := by
  apply o67
  by_cases h1 : a < 1
  · rw [dT h1, kindS_no (by omega)]; rfl
  rw [dF h1]
  by_cases h2 : a > 14
  · rw [dT h2, kindS_no (by omega)]; rfl
  rw [dF h2, dT (by omega), dT (by omega), dT (by rw [kinds_len]; omega), kinds_rd ⟨by omega, by omega⟩]
def argS (w a : Int) : List UInt8 := if w = 3 ∧ 1 ≤ a ∧ a ≤ 14 then kindS a else Go.Lib.itoa a
theorem argS_len (w a : Int) (h : i64P a) : (argS w a).length ≤ 30 := by
  unfold argS
  split
  · have := kindS_len a; omega
  · exact itoa_len a h
def textS (w a : Int) : List UInt8 := wordS w ++ [32] ++ argS w a
theorem joined (a b : List UInt8) (ha : a.length ≤ 10) (hb : b.length ≤ 30) : (bif decide ((bs a).size + (bs [32]).size ≤ 9223372036854775807) then (bif decide (((bs a) ++ (bs [32])).size + (bs b).size ≤ 9223372036854775807) then (some [.str (((bs a) ++ (bs [32])) ++ (bs b))] : R) else none) else none) = some [.str (bs (a ++ [32] ++ b))] := by
  rw [bsA, bsA, bsZ, bsZ, bsZ, bsZ, dT (by simp only [List.length_cons, List.length_nil]; omega), dT (by simp only [List.length_append, List.length_cons, List.length_nil]; omega)]
theorem Text_E (w a : Int) (h : i64P a) : E C 21 [.agg [.int .i64 w, .int .i64 a]] = some [.str (bs (textS w a))] := by
  have hw := wordS_len w
  have hi := itoa_len a h
  have hk := kindS_len a
  apply o21
  rw [bT (Itoa_E a h)]
  simp only [Word_E, Name_E, Option.bind_some, rd0, datS]
  unfold textS argS
  by_cases h3 : w = 3
  · rw [eT h3, bsE, bsL, bsL]
    by_cases ha : 1 ≤ a ∧ a ≤ 14
    · rw [if_pos ⟨h3, ha⟩, beq_eq_false_iff_ne.2 (kindS_ne ha), nT rfl]
      exact joined _ _ hw (by omega)
    · rw [if_neg (fun e => ha e.2), kindS_no ha, nF (by rfl)]
      exact joined _ _ hw hi
  · rw [eF h3, if_neg (fun e => h3 e.1)]
    exact joined _ _ hw hi
theorem same (a b : List UInt8) (ha : a.length ≤ 10) (hb : b.length ≤ 30) : (bif (bs a).toList == (bs a).toList then (bif decide ((bs a).size + (bs [32]).size ≤ 9223372036854775807) then (bif decide (((bs a) ++ (bs [32])).size + (bs b).size ≤ 9223372036854775807) then (some [.bool ((bs (a ++ [32] ++ b)).toList == (((bs a) ++ (bs [32])) ++ (bs b)).toList)] : R) else none) else none) else some [.bool false]) = some [.bool true] := by
  rw [beq_self_eq_true, cond_true, bsA, bsA, bsZ, bsZ, bsZ, bsZ, dT (by simp only [List.length_cons, List.length_nil]; omega), dT (by simp only [List.length_append, List.length_cons, List.length_nil]; omega), beq_self_eq_true]
theorem PointTexts_pure (e0 : Dat) (h0 : fitT C.T 9 23 e0) : E C 3 [.agg [.int .i64 (e0.C 0).I, .int .i64 (e0.C 1).I]] = some [.bool true] := by
  obtain ⟨w, a, rfl, hw, ha⟩ := fit_point h0
  have lw := wordS_len w
  have li := itoa_len a ha
  have lk := kindS_len a
  apply o3
  rw [bT anchor22_E]
  simp only [aggC0, aggC1, rd0, datB, datI]
  rw [nF rfl]
  simp only [digits_E a ha, Word_E, Text_E w a ha, Option.bind_some, rd0, datS]
  have no : ¬ (1 ≤ w ∧ w ≤ 5) → wordS w = [] := fun h => if_neg h
  by_cases h1 : w ≥ 1
  · by_cases h5 : w ≤ 5
    · rw [dT h1, dT h5, dT (by omega), dT (by omega), dT (by rw [words_len]; omega), words_rd ⟨h1, h5⟩]
      by_cases h3 : w = 3
      · rw [eT h3]
        by_cases g1 : a ≥ 1
        · by_cases g2 : a ≤ 14
          · have e : textS w a = wordS w ++ [32] ++ kindS a := by unfold textS argS; rw [if_pos ⟨h3, g1, g2⟩]
            rw [dT g1, dT g2, dT (by omega), dT (by omega), dT (by rw [kinds_len]; omega), kinds_rd ⟨g1, g2⟩, e]
            exact same _ _ lw (by omega)
          · have e : textS w a = wordS w ++ [32] ++ Go.Lib.itoa a := by unfold textS argS; rw [if_neg (fun x => g2 x.2.2)]
            rw [dT g1, dF g2, e]
            exact same _ _ lw li
        · have e : textS w a = wordS w ++ [32] ++ Go.Lib.itoa a := by unfold textS argS; rw [if_neg (fun x => g1 x.2.1)]
          rw [dF g1, e]
          exact same _ _ lw li
      · have e : textS w a = wordS w ++ [32] ++ Go.Lib.itoa a := by unfold textS argS; rw [if_neg (fun x => h3 x.1)]
        rw [eF h3, e]
        exact same _ _ lw li
    · have e : textS w a = wordS w ++ [32] ++ Go.Lib.itoa a := by unfold textS argS; rw [if_neg (fun x => by omega)]
      rw [dT h1, dF h5, eF (by omega), e, no (by omega), bsE]
      exact same [] _ (by simp) li
  · have e : textS w a = wordS w ++ [32] ++ Go.Lib.itoa a := by unfold textS argS; rw [if_neg (fun x => by omega)]
    rw [dF h1, eF (by omega), e, no (by omega), bsE]
    exact same [] _ (by simp) li
end Go.Proofs.YtpfnmjpccmobpaaDoor.V
