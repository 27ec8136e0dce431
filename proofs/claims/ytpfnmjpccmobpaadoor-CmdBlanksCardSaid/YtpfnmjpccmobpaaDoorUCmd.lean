/- Commands: what the program reads. -/
import Derived.Test.YtpfnmjpccmobpaaDoorUBas
import Derived.Test.YtpfnmjpccmobpaaDoorUGf
import Derived.Test.YtpfnmjpccmobpaaDoorVXCm
import Derived.Test.YtpfnmjpccmobpaaDoorVXSx
import Derived.Test.YtpfnmjpccmobpaaDoorVXPn
import Derived.Test.YtpfnmjpccmobpaaDoorVXEv
namespace Go.Proofs.YtpfnmjpccmobpaaDoor.V
open Go Go.Ev Go.RowKit
set_option linter.unusedVariables false
set_option linter.unusedSimpArgs false
theorem bsA (a b : List UInt8) : bs a ++ bs b = bs (a ++ b) := by
  apply ByteArray.ext
  rw [ByteArray.data_append]
  simp [bs]
theorem bsZ (s : List UInt8) : (bs s).size = s.length := by show s.toArray.size = _; simp
theorem bsL (s : List UInt8) : (bs s).toList = s := by
  rw [ByteArray.toList_eq]
  simp [bs]
theorem bsE : ByteArray.empty = bs [] := rfl
theorem bsD (s : List UInt8) : (bs s).data.toList = s := by simp [bs]
theorem strEq (a b : List UInt8) : ((bs a).toList == (bs b).toList) = decide (a = b) := by
  rw [bsL, bsL]
  by_cases h : a = b
  · rw [decide_eq_true h, h]; exact beq_self_eq_true b
  · rw [decide_eq_false h]; exact beq_eq_false_iff_ne.2 h
def nmL : List (List UInt8) := [[], [115, 116, 101, 112], [98, 97, 99, 107], [103, 111, 116, 111], [99, 111, 110, 116, 105, 110, 117, 101], [114, 101, 118, 101, 114, 115, 101], [97, 103, 97, 105, 110], [97, 100, 100], [114, 101, 109, 111, 118, 101], [112, 111, 105, 110, 116, 115], [115, 104, 111, 119], [116, 114, 101, 101], [119, 104, 121], [114, 101, 115, 117, 108, 116], [99, 111, 100, 101]]
def kdL : List (List UInt8) := [[], [98, 101, 103, 105, 110], [115, 116, 101, 112], [109, 105, 115, 115], [104, 101, 108, 100], [116, 117, 114, 110], [102, 111, 114, 107], [97, 103, 97, 105, 110], [111, 112, 101, 110], [99, 108, 111, 115, 101], [105, 110, 116, 111], [111, 117, 116], [100, 114, 111, 112], [109, 97, 116, 99, 104], [110, 111, 110, 101]]
def whL : List (List UInt8) := [[], [110, 111, 100, 101], [112, 111, 115], [107, 105, 110, 100], [103, 114, 111, 117, 112], [100, 101, 112, 116, 104]]
def strs (ws : List (List UInt8)) : List Dat := ws.map fun w => .str (bs w)
theorem strs_len (ws : List (List UInt8)) : (strs ws).length = ws.length := List.length_map ..
theorem strs_mid (pre : List (List UInt8)) (x : List UInt8) (rest : List (List UInt8)) : rd (strs (pre ++ x :: rest)) pre.length = .str (bs x) := by simp [rd, strs]
theorem strs_rd {ws : List (List UInt8)} {k : Nat} (h : k < ws.length) : rd (strs ws) k = .str (bs ws[k]) := by simp [rd, strs, h]
/-- Where a word first stands, counted from a number on; 0: nowhere. -/
def firstK (w : List UInt8) : List (List UInt8) → Int → Int
  | [], _ => 0
  | x :: l, k => if x = w then k else firstK w l (k + 1)
theorem firstK_in (w : List UInt8) : ∀ (l : List (List UInt8)) (k : Int), firstK w l k = 0 ∨ k ≤ firstK w l k ∧ firstK w l k < k + l.length
  | [], k => .inl rfl
  | x :: l, k => by
    unfold firstK
    split
    · right; simp only [List.length_cons]; omega
    · have := firstK_in w l (k + 1)
      simp only [List.length_cons]
      omega
theorem upw {k n : Nat} (h : k < n) (hn : n ≤ 20000000000000) : IntKind.i64.wrap ((k : Int) + 1) = ((k + 1 : Nat) : Int) := by rw [w64 (by omega) (by omega)]; omega
theorem Index_loop (ws : List (List UInt8)) (hl : ws.length ≤ 1000) (w : List UInt8) (v4 : Int) : ∀ (rest pre : List (List UInt8)), ws = pre ++ rest → M93_1 (strs ws) (bs w) v4 (ws.length : Int) (pre.length : Int) = some [.int (firstK w rest ((pre.length : Int) + 1) - 1)] := by
  intro rest
  induction rest with
  | nil =>
    intro pre h
    rw [List.append_nil] at h
    apply M93_1_of
    rw [h, dF (by omega)]
    rfl
  | cons x rest ih =>
    intro pre h
    have k1 : ws.length = pre.length + (rest.length + 1) := by rw [h, List.length_append, List.length_cons]
    have hx : rd (strs ws) pre.length = .str (bs x) := by rw [h]; exact strs_mid pre x rest
    have h1 := ih (pre ++ [x]) (by rw [h, List.append_assoc]; rfl)
    rw [List.length_append, List.length_cons, List.length_nil] at h1
    apply M93_1_of
    rw [dT (by omega), strs_len, ixT ⟨by omega, by omega⟩, Int.toNat_natCast, hx, datS, strEq, upw (n := ws.length) (by omega) (by omega)]
    unfold firstK
    by_cases hv : x = w
    · rw [dT hv.symm, if_pos hv]
      congr 3
      omega
    · rw [dF (fun e => hv e.symm), if_neg hv, h1]
      congr 4
theorem Index_E (ws : List (List UInt8)) (hl : ws.length ≤ 1000) (w : List UInt8) : E C 93 [.shr 9 (strs ws), .str (bs w)] = some [.int (firstK w ws 1 - 1)] := by
  apply o93
  rw [strs_len]
  exact Index_loop ws hl w 0 ws [] rfl
theorem names_E : E C 94 [] = some [.list (strs nmL)] := by
  apply o94
  rfl
theorem fields_E (s : List UInt8) (h : s.length ≤ 4294967296) : E C 91 [.str (bs s), .clo 92 [] []] = some [.list (strs (wordsL s []))] := by
  refine E_given (h := gFields 92) (by kernel_rfl) ?_
  simp only [gFields]
  rw [bsZ, bsD, decide_eq_true h]
  rfl
def optD : Option Int → List Dat
  | none => [.int 0, .int 61]
  | some n => [.int n, .int 0]
def numO (w : List UInt8) : Option Int := (numL w).map fun n => (n : Int)
theorem number_E (w : List UInt8) (h : w.length ≤ 281474976710656) : E C 97 [.str (bs w)] = some (optD (numO w)) := by
  refine E_given (h := gNum) (by kernel_rfl) ?_
  simp only [gNum]
  rw [bsZ, bsD, decide_eq_true h]
  unfold numO
  cases numL w <;> rfl
def leastOf (op : Int) : Int := if op = 7 then 2 else if op = 3 ∨ op = 8 then 1 else 0
def mostOf (op : Int) : Int := if op = 7 then 2 else if op = 1 ∨ op = 2 ∨ op = 3 ∨ op = 8 then 1 else 0
theorem args_E (op : Int) : E C 95 [.int .i64 op] = some [.int (leastOf op), .int (mostOf op)] := by
  apply o95
  by_cases h1 : op = 1
  · subst h1; rfl
  by_cases h2 : op = 2
  · subst h2; rfl
  by_cases h3 : op = 3
  · subst h3; rfl
  by_cases h7 : op = 7
  · subst h7; rfl
  by_cases h8 : op = 8
  · subst h8; rfl
  rw [eF h1, eF h2, eF h3, eF h8, eF h7]
  unfold leastOf mostOf
  rw [if_neg h7, if_neg h7, if_neg (by omega), if_neg (by omega)]
theorem Name_E (op : Int) : E C 52 [.int .i64 op] = some [.str (bs (if 1 ≤ op ∧ op ≤ 14 then nmL.getD op.toNat [] else []))] := by
  apply o52
  by_cases h1 : op < 1
  · rw [dT h1, if_neg (by omega)]; rfl
  rw [dF h1]
  by_cases h2 : op > 14
  · rw [dT h2, if_neg (by omega)]; rfl
  have hl : op.toNat < nmL.length := by show op.toNat < 15; omega
  rw [dF h2, bT names_E, if_pos ⟨by omega, by omega⟩]
  simp only [rd0, datL]
  rw [strs_len, dT (by omega), dT (by show op < 15; omega), dT hl, strs_rd hl]
  simp [List.getD_eq_getElem?_getD, hl]
theorem evName_E (op : Int) : E C 67 [.int .i64 op] = some [.str (bs (if 1 ≤ op ∧ op ≤ 14 then kdL.getD op.toNat [] else []))] := by
  have ht : tabcec582 = strs kdL := rfl
  apply o67
  by_cases h1 : op < 1
  · rw [dT h1, if_neg (by omega)]; rfl
  rw [dF h1]
  by_cases h2 : op > 14
  · rw [dT h2, if_neg (by omega)]; rfl
  have hl : op.toNat < kdL.length := by show op.toNat < 15; omega
  rw [dF h2, if_pos ⟨by omega, by omega⟩, dT (by omega), dT (by omega), ht, strs_len, dT hl, strs_rd hl]
  simp [List.getD_eq_getElem?_getD, hl]
theorem within_E (x a b : Int) : E C 65 [.int .i64 x, .int .i64 a, .int .i64 b] = some [.bool (decide (x ≥ a) && decide (x ≤ b))] := by
  apply o65
  cases decide (x ≥ a) <;> rfl
theorem ptWord_E (op : Int) : E C 20 [.int .i64 op] = some [.str (bs (if 1 ≤ op ∧ op ≤ 5 then whL.getD op.toNat [] else []))] := by
  have ht : tabf4bf8e = strs whL := rfl
  apply o20
  rw [bT (within_E op 1 5)]
  simp only [rd0, datB]
  by_cases h1 : 1 ≤ op ∧ op ≤ 5
  · have hl : op.toNat < whL.length := by show op.toNat < 6; omega
    rw [decide_eq_true (show op ≥ 1 from h1.1), decide_eq_true h1.2, Bool.and_self, nF rfl, if_pos h1, dT (by omega), dT (by omega), ht, strs_len, dT hl, strs_rd hl]
    simp [List.getD_eq_getElem?_getD, hl]
  · have hb : (decide (op ≥ 1) && decide (op ≤ 5)) = false := by
      by_cases h2 : op ≥ 1
      · rw [decide_eq_false (show ¬ op ≤ 5 by omega), Bool.and_false]
      · rw [decide_eq_false h2, Bool.false_and]
    rw [if_neg h1, nT hb]
    rfl
def kindO (w : List UInt8) : Option Int := if firstK w (kdL.drop 1) 1 = 0 then numO w else some (firstK w (kdL.drop 1) 1)
theorem kind_loop (w : List UInt8) (hw : w.length ≤ 281474976710656) (v2 v3 : Int) : ∀ (rest pre : List (List UInt8)), kdL = pre ++ rest → 1 ≤ pre.length → M127_1 (bs w) v2 v3 (pre.length : Int) = some (optD (if firstK w rest (pre.length : Int) = 0 then numO w else some (firstK w rest (pre.length : Int)))) := by
  intro rest
  induction rest with
  | nil =>
    intro pre h hp
    rw [List.append_nil] at h
    apply M127_1_of
    rw [← h, dF (by decide), bT (number_E w hw)]
    show _ = some (optD (numO w))
    cases numO w <;> rfl
  | cons x rest ih =>
    intro pre h hp
    have k1 : kdL.length = pre.length + (rest.length + 1) := by rw [h, List.length_append, List.length_cons]
    have k2 : kdL.length = 15 := rfl
    have hx : kdL.getD pre.length [] = x := by rw [h]; simp
    have h1 := ih (pre ++ [x]) (by rw [h, List.append_assoc]; rfl) (by simp)
    rw [List.length_append, List.length_cons, List.length_nil, show ((pre.length + (0 + 1) : Nat) : Int) = (pre.length : Int) + 1 by omega] at h1
    have ef : firstK w (x :: rest) (pre.length : Int) = if x = w then (pre.length : Int) else firstK w rest ((pre.length : Int) + 1) := rfl
    apply M127_1_of
    rw [dT (by omega), bT (evName_E _), if_pos ⟨by omega, by omega⟩, Int.toNat_natCast, hx]
    simp only [rd0, datS]
    rw [strEq, show IntKind.i64.wrap ((pre.length : Int) + 1) = (pre.length : Int) + 1 from w64 (by omega) (by omega), h1, ef]
    by_cases hv : x = w
    · rw [dT hv, if_pos hv, if_neg (by omega)]
      rfl
    · rw [dF hv, if_neg hv]
theorem kind_E (w : List UInt8) (hw : w.length ≤ 281474976710656) : E C 127 [.str (bs w)] = some (optD (kindO w)) := by
  apply o127
  exact kind_loop w hw 0 0 (kdL.drop 1) (kdL.take 1) rfl (by decide)
def errD (e : Int) : List Dat := [.agg [.int 0, .int 0, .int 0, .int 0], .int e]
def cmdD (a b c d : Int) : List Dat := [.agg [.int a, .int b, .int c, .int d], .int 0]
def addEnd (f : Int) (b : List UInt8) : List Dat := if f = 0 then errD 60 else match (if f = 3 then kindO b else numO b) with
  | none => errD 61
  | some n => cmdD 7 0 f n
theorem add_loop (a b : List UInt8) (hb : b.length ≤ 281474976710656) (z0 z1 z2 z3 z4 : Int) : ∀ (rest pre : List (List UInt8)), whL = pre ++ rest → 1 ≤ pre.length → M96_1 (bs a) (bs b) z0 z1 z2 z3 z4 (pre.length : Int) = some (addEnd (firstK a rest (pre.length : Int)) b) := by
  intro rest
  induction rest with
  | nil =>
    intro pre h hp
    rw [List.append_nil] at h
    apply M96_1_of
    rw [← h, dF (by decide), dT (by decide)]
    rfl
  | cons x rest ih =>
    intro pre h hp
    have k1 : whL.length = pre.length + (rest.length + 1) := by rw [h, List.length_append, List.length_cons]
    have k2 : whL.length = 6 := rfl
    have hx : whL.getD pre.length [] = x := by rw [h]; simp
    have h1 := ih (pre ++ [x]) (by rw [h, List.append_assoc]; rfl) (by simp)
    rw [List.length_append, List.length_cons, List.length_nil, show ((pre.length + (0 + 1) : Nat) : Int) = (pre.length : Int) + 1 by omega] at h1
    have ef : firstK a (x :: rest) (pre.length : Int) = if x = a then (pre.length : Int) else firstK a rest ((pre.length : Int) + 1) := rfl
    apply M96_1_of
    rw [dT (by omega), bT (ptWord_E _), if_pos ⟨by omega, by omega⟩, Int.toNat_natCast, hx]
    simp only [rd0, datS]
    rw [strEq, show IntKind.i64.wrap ((pre.length : Int) + 1) = (pre.length : Int) + 1 from w64 (by omega) (by omega), h1, ef]
    by_cases hv : x = a
    · rw [decide_eq_true hv, nF rfl, if_pos hv, dF (by omega)]
      unfold addEnd
      rw [if_neg (show ¬ (pre.length : Int) = 0 by omega)]
      by_cases h3 : (pre.length : Int) = 3
      · rw [eT h3, if_pos h3, bT (kind_E b hb)]
        cases kindO b <;> rfl
      · rw [eF h3, if_neg h3, bT (number_E b hb)]
        cases numO b <;> rfl
    · rw [decide_eq_false hv, nT rfl, if_neg hv]
theorem add_E (a b : List UInt8) (hb : b.length ≤ 281474976710656) : E C 96 [.str (bs a), .str (bs b)] = some (addEnd (firstK a (whL.drop 1) 1) b) := by
  apply o96
  exact add_loop a b hb 0 0 0 0 0 (whL.drop 1) (whL.take 1) rfl (by decide)
def opOf (w : List UInt8) : Int := firstK w (nmL.drop 1) 1
theorem opOf_in (w : List UInt8) : 0 ≤ opOf w ∧ opOf w ≤ 14 := by
  have := firstK_in w (nmL.drop 1) 1
  have h : (nmL.drop 1).length = 14 := rfl
  unfold opOf
  omega
/-- What is read of words. -/
def readW : List (List UInt8) → List Dat
  | [] => errD 62
  | w :: rest => if opOf w = 0 then errD 60 else if (rest.length : Int) < leastOf (opOf w) ∨ (rest.length : Int) > mostOf (opOf w) then errD 62 else
      if opOf w = 7 then addEnd (firstK (rest.getD 0 []) (whL.drop 1) 1) (rest.getD 1 []) else if mostOf (opOf w) = 0 then cmdD (opOf w) 0 0 0 else match rest with
        | [] => cmdD (opOf w) 1 0 0
        | x :: _ => match numO x with
          | none => errD 61
          | some n => cmdD (opOf w) n 0 0
theorem Read_ws (ws : List (List UInt8)) (hl : ws.length ≤ 5000000000) (hw : ∀ w, w ∈ ws → w.length ≤ 281474976710656) (s : ByteArray) (hf : E C 91 [.str s, .clo 92 [] []] = some [.list (strs ws)]) : E C 51 [.str s] = some (readW ws) := by
  apply o51
  rw [bT hf]
  simp only [rd0, datL]
  cases ws with
  | nil => rfl
  | cons w rest =>
    have hi : E C 93 [.shr 9 (((strs nmL).take (((strs nmL).length : Int)).toNat).drop 1), .str (bs w)] = some [.int (opOf w - 1)] := Index_E (nmL.drop 1) (by decide) w
    have ho := opOf_in w
    rw [List.length_cons] at hl
    have e1 : IntKind.i64.wrap (opOf w - 1 + 1) = opOf w := by rw [w64 (by omega) (by omega)]; omega
    have e2 : IntKind.i64.wrap (((strs (w :: rest)).length : Int) - 1) = (rest.length : Int) := by rw [strs_len, List.length_cons, w64 (by omega) (by omega)]; omega
    have r0 : rd (strs (w :: rest)) 0 = .str (bs w) := rfl
    rw [eF (by rw [strs_len, List.length_cons]; omega), bT names_E]
    simp only [rd0, datL]
    rw [dT (by decide), dT (by omega), dT (by rw [strs_len, List.length_cons]; omega), dT (by rw [strs_len, List.length_cons]; omega), r0, datS, bT hi]
    simp only [rd0, datI]
    rw [e1, e2]
    simp only [readW]
    by_cases c0 : opOf w = 0
    · rw [dT (by omega), if_pos c0]; rfl
    rw [dF (by omega), if_neg c0, bT (args_E _)]
    simp only [rd0, rd1, datI]
    by_cases c1 : (rest.length : Int) < leastOf (opOf w)
    · rw [dT c1, if_pos (.inl c1)]; rfl
    rw [dF c1]
    by_cases c2 : (rest.length : Int) > mostOf (opOf w)
    · rw [dT c2, if_pos (.inr c2)]; rfl
    rw [dF c2, if_neg (by rintro (h | h); exact c1 h; exact c2 h)]
    by_cases c7 : opOf w = 7
    · rw [eT c7, if_pos c7]
      rw [c7] at c1 c2
      obtain ⟨x, y, rfl⟩ : ∃ x y, rest = [x, y] := by
        have d1 : ¬ (rest.length : Int) < 2 := c1
        have d2 : ¬ (rest.length : Int) > 2 := c2
        match rest with
        | [] => simp at d1
        | [x] => simp at d1
        | [x, y] => exact ⟨x, y, rfl⟩
        | _ :: _ :: _ :: r => simp at d2; omega
      rw [dT (by simp [strs]), dT (by simp [strs]), dT (by simp [strs]), dT (by simp [strs])]
      have r1 : rd (strs [w, x, y]) 1 = .str (bs x) := rfl
      have r2 : rd (strs [w, x, y]) 2 = .str (bs y) := rfl
      rw [r1, r2, datS, datS, bT (add_E x y (hw y (by simp)))]
      show _ = some (addEnd (firstK x (whL.drop 1) 1) y)
      unfold addEnd
      split
      · rfl
      · cases (if firstK x (List.drop 1 whL) 1 = 3 then kindO y else numO y) <;> rfl
    · rw [eF c7, if_neg c7]
      by_cases cm : mostOf (opOf w) = 0
      · rw [eT cm, if_pos cm]; rfl
      rw [eF cm, if_neg cm]
      cases rest with
      | nil => rw [eT (by simp [strs])]; rfl
      | cons x r =>
        have r1 : rd (strs (w :: x :: r)) 1 = .str (bs x) := rfl
        rw [eF (by rw [strs_len]; simp only [List.length_cons]; omega), dT (by rw [strs_len]; simp only [List.length_cons]; omega), dT (by rw [strs_len]; simp only [List.length_cons]; omega), r1, datS, bT (number_E x (hw x (by simp)))]
        cases hn : numO x with
        | none => simp only [hn]; rfl
        | some n => simp only [hn]; rfl
theorem wordsL_in : ∀ (l cur : List UInt8), (wordsL l cur).length ≤ l.length + 1 ∧ ∀ w, w ∈ wordsL l cur → w.length ≤ l.length + cur.length ∧ w ≠ [] ∧ ((∀ c, c ∈ cur → isBl c = false) → ∀ c, c ∈ w → isBl c = false)
  | [], cur => by
    unfold wordsL
    cases cur with
    | nil => exact ⟨by simp, fun w h => by cases h⟩
    | cons c cur =>
      refine ⟨by simp, fun w h => ?_⟩
      have h : w ∈ [c :: cur] := h
      rw [List.mem_singleton] at h
      subst h
      exact ⟨by simp, by simp, fun h => h⟩
  | c :: l, cur => by
    unfold wordsL
    cases hc : isBl c with
    | true =>
      rw [cond_true]
      obtain ⟨h1, h2⟩ := wordsL_in l []
      cases cur with
      | nil =>
        refine ⟨by show (wordsL l []).length ≤ _; simp only [List.length_cons]; omega, fun w h => ?_⟩
        obtain ⟨g1, g2, g3⟩ := h2 w h
        exact ⟨by simp only [List.length_cons, List.length_nil] at *; omega, g2, fun _ => g3 (fun c h => by cases h)⟩
      | cons d cur =>
        refine ⟨by show ((d :: cur) :: wordsL l []).length ≤ _; simp only [List.length_cons]; omega, fun w h => ?_⟩
        have h : w ∈ (d :: cur) :: wordsL l [] := h
        rw [List.mem_cons] at h
        rcases h with rfl | h
        · exact ⟨by simp only [List.length_cons]; omega, by simp, fun h => h⟩
        · obtain ⟨g1, g2, g3⟩ := h2 w h
          exact ⟨by simp only [List.length_cons, List.length_nil] at *; omega, g2, fun _ => g3 (fun c h => by cases h)⟩
    | false =>
      rw [cond_false]
      obtain ⟨h1, h2⟩ := wordsL_in l (cur ++ [c])
      refine ⟨by simp only [List.length_cons]; omega, fun w h => ?_⟩
      obtain ⟨g1, g2, g3⟩ := h2 w h
      refine ⟨by simp only [List.length_append, List.length_cons, List.length_nil] at *; omega, g2, fun hcur => g3 fun x hx => ?_⟩
      rw [List.mem_append, List.mem_singleton] at hx
      rcases hx with hx | rfl
      · exact hcur x hx
      · exact hc
theorem Read_E (s : List UInt8) (h : s.length ≤ 4294967296) : E C 51 [.str (bs s)] = some (readW (wordsL s [])) := by
  obtain ⟨h1, h2⟩ := wordsL_in s []
  exact Read_ws _ (by omega) (fun w hw => by have := (h2 w hw).1; simp at this; omega) _ (fields_E s h)
end Go.Proofs.YtpfnmjpccmobpaaDoor.V
