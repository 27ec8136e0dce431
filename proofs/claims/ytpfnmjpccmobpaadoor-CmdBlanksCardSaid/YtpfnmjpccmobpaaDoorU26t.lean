/- CmdTexts: any command may be just if the document says so; then its text is read as it. -/
import Derived.Test.YtpfnmjpccmobpaaDoorU26r
import Derived.Test.YtpfnmjpccmobpaaDoorUWds
import Derived.Test.YtpfnmjpccmobpaaDoorVXLCmdTexts
import Derived.Test.YtpfnmjpccmobpaaDoorVXLright
namespace Go.Proofs.YtpfnmjpccmobpaaDoor.V
open Go Go.Ev Go.RowKit
set_option linter.unusedVariables false
set_option linter.unusedSimpArgs false
theorem dec_small {n : Nat} (h : n < 10) : Go.Lib.decDigits n = [UInt8.ofNat (48 + n)] := by rw [Go.Lib.decDigits, dif_pos h]
theorem dec_big {n : Nat} (h : ¬ n < 10) : Go.Lib.decDigits n = Go.Lib.decDigits (n / 10) ++ [UInt8.ofNat (48 + n % 10)] := by rw [Go.Lib.decDigits, dif_neg h]
theorem dig_nat : ∀ k : Nat, k < 10 → (UInt8.ofNat (48 + k)).toNat = 48 + k := by
  intro k h
  have : k = 0 ∨ k = 1 ∨ k = 2 ∨ k = 3 ∨ k = 4 ∨ k = 5 ∨ k = 6 ∨ k = 7 ∨ k = 8 ∨ k = 9 := by omega
  rcases this with rfl | rfl | rfl | rfl | rfl | rfl | rfl | rfl | rfl | rfl <;> rfl
theorem dec_all (n : Nat) : (∀ c, c ∈ Go.Lib.decDigits n → 48 ≤ c.toNat ∧ c.toNat ≤ 57) ∧ Go.Lib.decDigits n ≠ [] := by
  induction n using Nat.strongRecOn with
  | _ n ih =>
    by_cases h : n < 10
    · rw [dec_small h]
      refine ⟨fun c hc => ?_, by simp⟩
      rw [List.mem_singleton] at hc
      subst hc
      rw [dig_nat n h]
      omega
    · rw [dec_big h]
      refine ⟨fun c hc => ?_, by simp⟩
      rw [List.mem_append, List.mem_singleton] at hc
      rcases hc with hc | hc
      · exact (ih (n / 10) (by omega)).1 c hc
      · subst hc
        rw [dig_nat _ (by omega)]
        omega
theorem dec_len (k n : Nat) (h : n < 10 ^ (k + 1)) : (Go.Lib.decDigits n).length ≤ k + 1 := by
  induction k generalizing n with
  | zero =>
    rw [dec_small (by simpa using h)]
    simp
  | succ k ih =>
    by_cases hb : n < 10
    · rw [dec_small hb]; simp
    · rw [dec_big hb, List.length_append]
      have := ih (n / 10) (by rw [Nat.pow_succ] at h; omega)
      simp only [List.length_cons, List.length_nil]
      omega
theorem numB_app : ∀ (l r : List UInt8) (a : Nat), numB (l ++ r) a = (numB l a).bind (numB r)
  | [], r, a => rfl
  | c :: l, r, a => by
    show numB (c :: (l ++ r)) a = _
    rw [numB, numB]
    split
    · exact numB_app l r _
    · rfl
theorem numB_dec (n : Nat) : n ≤ 2147483647 → numB (Go.Lib.decDigits n) 0 = some n := by
  induction n using Nat.strongRecOn with
  | _ n ih =>
    intro hn
    by_cases h : n < 10
    · rw [dec_small h, numB, dig_nat n h, if_pos ⟨by omega, by omega, by omega⟩]
      show some (0 * 10 + (48 + n - 48)) = some n
      congr 1
      omega
    · rw [dec_big h, numB_app, ih (n / 10) (by omega) (by omega)]
      show numB [UInt8.ofNat (48 + n % 10)] (n / 10) = some n
      rw [numB, dig_nat _ (by omega), if_pos ⟨by omega, by omega, by omega⟩]
      show some (n / 10 * 10 + (48 + n % 10 - 48)) = some n
      congr 1
      omega
theorem numO_dec (n : Nat) (hn : n ≤ 2147483647) : numO (Go.Lib.decDigits n) = some (n : Int) := by
  unfold numO numL
  rw [show (Go.Lib.decDigits n).isEmpty = false from List.isEmpty_eq_false_iff.2 (dec_all n).2, cond_false, numB_dec n hn]
  rfl
def NoBl (w : List UInt8) : Prop := w ≠ [] ∧ ∀ c, c ∈ w → isBl c = false
theorem dec_nobl (n : Nat) : NoBl (Go.Lib.decDigits n) := by
  obtain ⟨h1, h2⟩ := dec_all n
  refine ⟨h2, fun c hc => ?_⟩
  have := h1 c hc
  rw [isBl_N]
  unfold blN
  rw [beq_eq_false_iff_ne.2 (show c.toNat ≠ 32 by omega), beq_eq_false_iff_ne.2 (show c.toNat ≠ 9 by omega)]
  rfl
theorem words1 {w : List UInt8} (h : NoBl w) : wordsL w [] = [w] := by
  have := wordsL_run w [] [] h.2
  rw [List.append_nil, List.nil_append] at this
  rw [this, wordsL, show w.isEmpty = false from List.isEmpty_eq_false_iff.2 h.1]
  rfl
theorem words2 {w l : List UInt8} (h : NoBl w) : wordsL (w ++ 32 :: l) [] = w :: wordsL l [] := by
  rw [wordsL_run w _ [] h.2, List.nil_append, wordsL, show isBl 32 = true from rfl, cond_true, show w.isEmpty = false from List.isEmpty_eq_false_iff.2 h.1, cond_false]
theorem nm_all : ∀ k : Nat, 1 ≤ k → k ≤ 14 → NoBl (nmL.getD k []) ∧ opOf (nmL.getD k []) = (k : Int) ∧ (nmL.getD k []).length ≤ 10 := by
  intro k h1 h2
  have : k = 1 ∨ k = 2 ∨ k = 3 ∨ k = 4 ∨ k = 5 ∨ k = 6 ∨ k = 7 ∨ k = 8 ∨ k = 9 ∨ k = 10 ∨ k = 11 ∨ k = 12 ∨ k = 13 ∨ k = 14 := by omega
  rcases this with rfl | rfl | rfl | rfl | rfl | rfl | rfl | rfl | rfl | rfl | rfl | rfl | rfl | rfl <;> exact ⟨⟨by decide, by decide⟩, by decide, by decide⟩
theorem wh_all : ∀ k : Nat, 1 ≤ k → k ≤ 5 → NoBl (whL.getD k []) ∧ firstK (whL.getD k []) (whL.drop 1) 1 = (k : Int) ∧ (whL.getD k []).length ≤ 10 := by
  intro k h1 h2
  have : k = 1 ∨ k = 2 ∨ k = 3 ∨ k = 4 ∨ k = 5 := by omega
  rcases this with rfl | rfl | rfl | rfl | rfl <;> exact ⟨⟨by decide, by decide⟩, by decide, by decide⟩
theorem kd_all : ∀ k : Nat, 1 ≤ k → k ≤ 14 → NoBl (kdL.getD k []) ∧ firstK (kdL.getD k []) (kdL.drop 1) 1 = (k : Int) ∧ (kdL.getD k []).length ≤ 10 := by
  intro k h1 h2
  have : k = 1 ∨ k = 2 ∨ k = 3 ∨ k = 4 ∨ k = 5 ∨ k = 6 ∨ k = 7 ∨ k = 8 ∨ k = 9 ∨ k = 10 ∨ k = 11 ∨ k = 12 ∨ k = 13 ∨ k = 14 := by omega
  rcases this with rfl | rfl | rfl | rfl | rfl | rfl | rfl | rfl | rfl | rfl | rfl | rfl | rfl | rfl <;> exact ⟨⟨by decide, by decide⟩, by decide, by decide⟩
theorem kd_head : ∀ x, x ∈ kdL.drop 1 → ∀ c, x.head? = some c → 97 ≤ c.toNat := by
  have : (kdL.drop 1).all (fun x => match x.head? with | some c => decide (97 ≤ c.toNat) | none => false) = true := by decide
  intro x hx c hc
  have h := List.all_eq_true.1 this x hx
  rw [hc] at h
  exact of_decide_eq_true h
theorem kind_dec (n : Nat) (hn : n ≤ 2147483647) : kindO (Go.Lib.decDigits n) = some (n : Int) := by
  obtain ⟨h1, h2⟩ := dec_all n
  have hno : Go.Lib.decDigits n ∉ kdL.drop 1 := fun hm => by
    cases hd : Go.Lib.decDigits n with
    | nil => exact h2 hd
    | cons c l =>
      have g1 := kd_head _ hm c (by rw [hd]; rfl)
      have g2 := h1 c (by rw [hd]; exact List.mem_cons_self)
      omega
  unfold kindO
  rw [firstK_no hno, if_pos rfl, numO_dec n hn]
theorem Itoa_E (n : Nat) (hn : n ≤ 2147483647) : E C 66 [.int .i64 (n : Int)] = some [.str (bs (Go.Lib.decDigits n))] := by
  refine E_given (h := gItoa) (by kernel_rfl) ?_
  simp only [gItoa]
  rw [decide_eq_true (show -9223372036854775808 ≤ (n : Int) by omega), decide_eq_true (show (n : Int) ≤ 9223372036854775807 by omega)]
  unfold Go.Lib.itoa
  rw [if_neg (by omega), Int.toNat_natCast]
  rfl
def okQ (a b c d : Int) : Prop := (1 ≤ a ∧ a ≤ 14) ∧ (0 ≤ b ∧ b ≤ 2147483647) ∧ (0 ≤ d ∧ d ≤ 2147483647) ∧ (0 ≤ c ∧ c ≤ 5) ∧ (a = 7 ∧ b = 0 ∧ c > 0 ∨ a ≠ 7 ∧ c = 0 ∧ d = 0 ∧ (b = 0 ∨ a = 1 ∨ a = 2 ∨ a = 3 ∨ a = 8))
theorem okC_iff (a b c d : Int) : okC a b c d = true ↔ okQ a b c d := by
  unfold okC okQ
  by_cases h1 : 1 ≤ a ∧ a ≤ 14
  · rw [decide_eq_true h1, cond_true]
    by_cases h7 : a = 7
    · rw [eT h7]
      simp only [Bool.and_eq_true, beq_iff_eq, decide_eq_true_eq]
      omega
    · rw [eF h7]
      by_cases hm : mostOf a = 0
      · rw [hm]
        simp only [beq_self_eq_true, cond_true, Bool.and_eq_true, beq_iff_eq]
        have : ¬ (a = 1 ∨ a = 2 ∨ a = 3 ∨ a = 8) := fun h => by
          unfold mostOf at hm
          rw [if_neg h7, if_pos h] at hm
          omega
        omega
      · have : a = 1 ∨ a = 2 ∨ a = 3 ∨ a = 8 := Classical.byContradiction fun h => hm (by unfold mostOf; rw [if_neg h7, if_neg h])
        rw [eF hm]
        simp only [Bool.and_eq_true, beq_iff_eq, decide_eq_true_eq]
        omega
  · rw [decide_eq_false h1, cond_false]
    constructor
    · intro h; cases h
    · intro h; exact absurd h.1 h1
theorem okC_F {a b c d : Int} (h : ¬ okQ a b c d) : okC a b c d = false := by
  cases hh : okC a b c d with
  | false => rfl
  | true => exact absurd ((okC_iff a b c d).1 hh) h
theorem right_E (a b c d : Int) : E C 55 [.agg [.int .i64 a, .int .i64 b, .int .i64 c, .int .i64 d]] = some [.bool (okC a b c d)] := by
  apply o55
  unfold N55_1
  have bad : ∀ {p : Prop}, p → (p → ¬ okQ a b c d) → (some [Dat.bool false] : R) = some [.bool (okC a b c d)] := fun h1 h2 => by rw [okC_F (h2 h1)]
  by_cases c1 : a < 1
  · rw [dT c1]
    exact bad c1 fun h hq => by unfold okQ at hq; omega
  rw [dF c1]
  unfold N55_2
  by_cases c2 : a > 14
  · rw [dT c2]
    exact bad c2 fun h hq => by unfold okQ at hq; omega
  rw [dF c2]
  unfold N55_3
  by_cases c3 : b < 0
  · rw [dT c3]
    exact bad c3 fun h hq => by unfold okQ at hq; omega
  rw [dF c3]
  unfold N55_4
  by_cases c4 : b > 2147483647
  · rw [dT c4]
    exact bad c4 fun h hq => by unfold okQ at hq; omega
  rw [dF c4]
  unfold N55_5
  by_cases c5 : d < 0
  · rw [dT c5]
    exact bad c5 fun h hq => by unfold okQ at hq; omega
  rw [dF c5]
  unfold N55_6
  by_cases c6 : d > 2147483647
  · rw [dT c6]
    exact bad c6 fun h hq => by unfold okQ at hq; omega
  rw [dF c6]
  unfold N55_7
  by_cases c7 : c < 0
  · rw [dT c7]
    exact bad c7 fun h hq => by unfold okQ at hq; omega
  rw [dF c7]
  by_cases c8 : c > 5
  · rw [dT c8]
    exact bad c8 fun h hq => by unfold okQ at hq; omega
  rw [dF c8]
  have good : okQ a b c d → (some [Dat.bool true] : R) = some [.bool (okC a b c d)] := fun h => by rw [(okC_iff a b c d).2 h]
  have q : ∀ p, (a = 7 ∧ b = 0 ∧ c > 0 ∨ a ≠ 7 ∧ c = 0 ∧ d = 0 ∧ (b = 0 ∨ a = 1 ∨ a = 2 ∨ a = 3 ∨ a = 8)) = p → okQ a b c d = p := fun p hp => by unfold okQ; rw [hp]; exact propext ⟨fun h => h.2.2.2.2, fun h => ⟨⟨by omega, by omega⟩, ⟨by omega, by omega⟩, ⟨by omega, by omega⟩, ⟨by omega, by omega⟩, h⟩⟩
  by_cases h7 : a = 7
  · rw [eT h7]
    by_cases hb : b = 0
    · rw [eT hb]
      by_cases hc : c > 0
      · rw [decide_eq_true hc]; exact good (by rw [q _ rfl]; omega)
      · rw [decide_eq_false hc]; exact bad hc fun h hq => by rw [q _ rfl] at hq; omega
    · rw [eF hb]; exact bad hb fun h hq => by rw [q _ rfl] at hq; omega
  · rw [eF h7]
    by_cases hc : c = 0
    · rw [neF hc]
      by_cases hd : d = 0
      · rw [neF hd]
        by_cases hb : b = 0
        · rw [eT hb]; exact good (by rw [q _ rfl]; omega)
        rw [eF hb]
        by_cases g1 : a = 1
        · rw [eT g1]; exact good (by rw [q _ rfl]; omega)
        rw [eF g1]
        by_cases g2 : a = 2
        · rw [eT g2]; exact good (by rw [q _ rfl]; omega)
        rw [eF g2]
        by_cases g3 : a = 3
        · rw [eT g3]; exact good (by rw [q _ rfl]; omega)
        rw [eF g3]
        by_cases g8 : a = 8
        · rw [beq_iff_eq.2 g8]; exact good (by rw [q _ rfl]; omega)
        · rw [beq_eq_false_iff_ne.2 g8]; exact bad g8 fun h hq => by rw [q _ rfl] at hq; omega
      · rw [neT hd]; exact bad hd fun h hq => by rw [q _ rfl] at hq; omega
    · rw [neT hc]; exact bad hc fun h hq => by rw [q _ rfl] at hq; omega
/-- What a point's text is. -/
theorem ptText_E (c : Int) (d : Nat) (hc : 1 ≤ c ∧ c ≤ 5) (hd : d ≤ 2147483647) : ∃ w : List UInt8, NoBl w ∧ w.length ≤ 10 ∧ (if c = 3 then kindO w else numO w) = some (d : Int) ∧ E C 21 [.agg [.int .i64 c, .int .i64 (d : Int)]] = some [.str (bs (whL.getD c.toNat [] ++ 32 :: w))] := by
  obtain ⟨g1, g2, g3⟩ := wh_all c.toNat (by omega) (by omega)
  have hlen := dec_len 10 d (by omega)
  have cat : ∀ w : List UInt8, w.length ≤ 20 → ((bif decide ((bs (whL.getD c.toNat [])).size + (bs [32]).size ≤ 9223372036854775807) then (bif decide (((bs (whL.getD c.toNat [])) ++ (bs [32])).size + (bs w).size ≤ 9223372036854775807) then (some [Dat.str (((bs (whL.getD c.toNat [])) ++ (bs [32])) ++ (bs w))]) else none) else none) : R) = some [.str (bs (whL.getD c.toNat [] ++ 32 :: w))] := fun w hw => by
    rw [bsA, bsZ, bsZ, bsZ, bsZ, dT (by simp only [List.length_cons, List.length_nil]; omega), dT (by simp only [List.length_append, List.length_cons, List.length_nil]; omega), bsA, List.append_assoc]
    rfl
  by_cases h3 : c = 3
  · by_cases hk : 1 ≤ d ∧ d ≤ 14
    · obtain ⟨k1, k2, k3⟩ := kd_all d hk.1 hk.2
      refine ⟨kdL.getD d [], k1, k3, ?_, ?_⟩
      · rw [if_pos h3]
        unfold kindO
        rw [k2, if_neg (by omega)]
      · apply o21
        rw [bT (Itoa_E d hd), eT h3, bT (evName_E _), if_pos ⟨by omega, by omega⟩, Int.toNat_natCast]
        simp only [rd0, datS]
        rw [bsE, strEq, decide_eq_false k1.1, show (!false) = true from rfl, cond_true, bT (evName_E _), if_pos ⟨by omega, by omega⟩, Int.toNat_natCast, bT (ptWord_E c), if_pos hc]
        simp only [rd0, datS]
        exact cat _ (by omega)
    · refine ⟨Go.Lib.decDigits d, dec_nobl d, by have := dec_len 9 d (by omega); omega, ?_, ?_⟩
      · rw [if_pos h3]
        exact kind_dec d hd
      · apply o21
        rw [bT (Itoa_E d hd), eT h3, bT (evName_E _), if_neg (by omega)]
        simp only [rd0, datS]
        rw [bsE, strEq, decide_eq_true rfl, show (!true) = false from rfl, cond_false, bT (ptWord_E c), if_pos hc]
        simp only [rd0, datS]
        exact cat _ (by omega)
  · refine ⟨Go.Lib.decDigits d, dec_nobl d, by have := dec_len 9 d (by omega); omega, ?_, ?_⟩
    · rw [if_neg h3]
      exact numO_dec d hd
    · apply o21
      rw [bT (Itoa_E d hd), eF h3, bT (ptWord_E c), if_pos hc]
      simp only [rd0, datS]
      exact cat _ (by omega)
theorem Text_E (a b c d : Int) (h : okQ a b c d) : ∃ s : List UInt8, s.length ≤ 100 ∧ E C 56 [.agg [.int .i64 a, .int .i64 b, .int .i64 c, .int .i64 d]] = some [.str (bs s)] ∧ readW (wordsL s []) = cmdD a b c d ∧ (wordsL s []).length ≤ 3 := by
  obtain ⟨h1, h2, h3, h4, h5⟩ := h
  obtain ⟨n1, n2, n3⟩ := nm_all a.toNat (by omega) (by omega)
  have n2 : opOf (nmL.getD a.toNat []) = a := by rw [n2]; omega
  have hN : E C 52 [.int .i64 a] = some [.str (bs (nmL.getD a.toNat []))] := by rw [Name_E a, if_pos h1]
  by_cases h7 : a = 7
  · have hb : b = 0 := by omega
    have hc : 1 ≤ c ∧ c ≤ 5 := by omega
    obtain ⟨D, rfl⟩ : ∃ D : Nat, d = (D : Int) := ⟨d.toNat, by omega⟩
    obtain ⟨w, w1, w2, w3, w4⟩ := ptText_E c D hc (by omega)
    obtain ⟨g1, g2, g3⟩ := wh_all c.toNat (by omega) (by omega)
    have g2 : firstK (whL.getD c.toNat []) (whL.drop 1) 1 = c := by rw [g2]; omega
    refine ⟨nmL.getD a.toNat [] ++ 32 :: (whL.getD c.toNat [] ++ 32 :: w), ?_, ?_, ?_, ?_⟩
    · simp only [List.length_append, List.length_cons]; omega
    · apply o56
      rw [bT (args_E a), eT h7, bT hN]
      simp only [rd0, datS]
      rw [bsZ, bsZ, dT (by simp only [List.length_cons, List.length_nil]; omega), bT w4]
      simp only [rd0, datS]
      rw [bsA, bsZ, bsZ, dT (by simp only [List.length_append, List.length_cons, List.length_nil]; omega), bsA, List.append_assoc]
      rfl
    · rw [words2 n1, words2 g1, words1 w1, readW_cons, n2]
      unfold readV
      rw [if_neg (by omega), h7, show leastOf 7 = 2 from rfl, show mostOf 7 = 2 from rfl, if_neg (by simp), if_pos rfl]
      show addEnd (firstK (whL.getD c.toNat []) (whL.drop 1) 1) w = _
      rw [g2]
      unfold addEnd
      rw [if_neg (by omega), w3, hb]
    · rw [words2 n1, words2 g1, words1 w1]; simp
  · have hcd : c = 0 ∧ d = 0 := by omega
    obtain ⟨rfl, rfl⟩ := hcd
    by_cases hm : mostOf a = 0
    · have hno : ¬ (a = 1 ∨ a = 2 ∨ a = 3 ∨ a = 8) := fun h => by
        unfold mostOf at hm
        rw [if_neg h7, if_pos h] at hm
        omega
      have hb : b = 0 := by omega
      have hle : leastOf a = 0 := by unfold leastOf; rw [if_neg h7, if_neg (by omega)]
      refine ⟨nmL.getD a.toNat [], by omega, ?_, ?_, ?_⟩
      · apply o56
        rw [bT (args_E a), eF h7]
        simp only [rd1, datI]
        rw [eT hm, bT hN]
        rfl
      · rw [words1 n1, readW_cons, n2]
        unfold readV
        rw [if_neg (by omega), hle, hm, if_neg (by simp), if_neg h7, if_pos rfl, hb]
      · rw [words1 n1]; simp
    · have hsm : a = 1 ∨ a = 2 ∨ a = 3 ∨ a = 8 := Classical.byContradiction fun h => hm (by unfold mostOf; rw [if_neg h7, if_neg h])
      have hmo : mostOf a = 1 := by unfold mostOf; rw [if_neg h7, if_pos hsm]
      have hle : leastOf a ≤ 1 := by unfold leastOf; rw [if_neg h7]; split <;> omega
      obtain ⟨B, rfl⟩ : ∃ B : Nat, b = (B : Int) := ⟨b.toNat, by omega⟩
      have hlen := dec_len 10 B (by omega)
      refine ⟨nmL.getD a.toNat [] ++ 32 :: Go.Lib.decDigits B, ?_, ?_, ?_, ?_⟩
      · simp only [List.length_append, List.length_cons]; omega
      · apply o56
        rw [bT (args_E a), eF h7]
        simp only [rd1, datI]
        rw [eF hm, bT hN]
        simp only [rd0, datS]
        rw [bsZ, bsZ, dT (by simp only [List.length_cons, List.length_nil]; omega), bT (Itoa_E B (by omega))]
        simp only [rd0, datS]
        rw [bsA, bsZ, bsZ, dT (by simp only [List.length_append, List.length_cons, List.length_nil]; omega), bsA, List.append_assoc]
        rfl
      · rw [words2 n1, words1 (dec_nobl B), readW_cons, n2]
        unfold readV
        rw [if_neg (by omega), hmo, if_neg (by simp only [List.length_cons, List.length_nil]; omega), if_neg h7, if_neg (by omega)]
        show (match numO (Go.Lib.decDigits B) with | none => errD 61 | some n => cmdD a n 0 0) = _
        rw [numO_dec B (by omega)]
      · rw [words2 n1, words1 (dec_nobl B)]; simp
theorem CmdTexts_pure (e0 : Dat) (h0 : fitT C.T 9 86 e0) : E C 14 [.agg [.int .i64 (e0.C 0).I, .int .i64 (e0.C 1).I, .int .i64 (e0.C 2).I, .int .i64 (e0.C 3).I]] = some [.bool true] := by
  generalize (e0.C 0).I = a
  generalize (e0.C 1).I = b
  generalize (e0.C 2).I = c
  generalize (e0.C 3).I = d
  apply o14
  rw [bT anchor26_E]
  simp only [rd0, datB]
  rw [nF rfl, bT (RightC_E a b c d), bT (right_E a b c d)]
  simp only [rd0, datB]
  rw [beq_self_eq_true, nF rfl, bT (right_E a b c d)]
  simp only [rd0, datB]
  cases hok : okC a b c d with
  | false => rfl
  | true =>
    obtain ⟨s, s1, s2, s3, s4⟩ := Text_E a b c d ((okC_iff a b c d).1 hok)
    rw [nF rfl, bT s2]
    simp only [rd0, datS]
    rw [bT (Read_E s (by omega)), s3]
    unfold cmdD
    simp only [rd0, rd1, aggC0, aggC1, aggC2, aggC3, datI, beq_self_eq_true, cond_true, Bool.and_self]
    rw [bT s2]
    simp only [rd0, datS]
    rw [bT (Words_E s (by omega))]
    simp only [rd0, datL]
    rw [strs_len, decide_eq_true (show ((wordsL s []).length : Int) ≤ 3 by omega)]
end Go.Proofs.YtpfnmjpccmobpaaDoor.V
