/- Commands: what the document reads. -/
import Derived.Test.YtpfnmjpccmobpaaDoorUCmd
import Derived.Test.YtpfnmjpccmobpaaDoorVXCr
namespace Go.Proofs.YtpfnmjpccmobpaaDoor.V
open Go Go.Ev Go.RowKit
set_option linter.unusedVariables false
set_option linter.unusedSimpArgs false
theorem isBl_iff (c : UInt8) : isBl c = true ↔ c.toNat = 32 ∨ c.toNat = 9 := by
  simp only [isBl, Bool.or_eq_true, beq_iff_eq, ← UInt8.toNat_inj]
  exact Iff.rfl
theorem bt_mid (pre : List UInt8) (c : UInt8) (rest : List UInt8) : bt (bs (pre ++ c :: rest)) pre.length = (c.toNat : Int) := by simp [bt, bs, List.getD_eq_getElem?_getD]
theorem sub_mid (pre : List UInt8) (c : UInt8) (rest : List UInt8) : subS (bs (pre ++ c :: rest)) pre.length (pre.length + 1) = bs [c] := by
  apply ByteArray.ext
  simp [subS, bs]
theorem cap16m : capB 16 = 8796093022208 := by decide
theorem Words_end (s : List UInt8) (hs : s.length ≤ 1000000) (v2 : List Dat) (done : List (List UInt8)) : M50_1 (bs s) v2 (strs done) (bs []) ((s.length : Int) + 1) = some [.list (strs done)] := by
  apply M50_1_of
  rw [bsZ, dF (by omega)]
theorem Words_put (s : List UInt8) (v2 : List Dat) (done : List (List UInt8)) (hd : done.length ≤ 1000000) (cur : List UInt8) (k : Int) {r : List (List UInt8)}
    (h : ∀ d : List (List UInt8), d = done ++ (bif cur.isEmpty then [] else [cur]) → M50_1 (bs s) v2 (strs d) (bs []) k = some [.list (strs (d ++ r))]) :
    (bif !((bs cur).toList == (ByteArray.empty).toList) then (bif decide ((strs done).length + ([.str (bs cur)] : List Dat).length ≤ capB 16) then (M50_1 (bs s) v2 ((strs done) ++ ([.str (bs cur)] : List Dat)) ByteArray.empty k) else none) else (M50_1 (bs s) v2 (strs done) ByteArray.empty k) : R) = some [.list (strs (done ++ ((bif cur.isEmpty then [] else [cur]) ++ r)))] := by
  rw [bsE, strEq, ← List.append_assoc]
  cases cur with
  | nil =>
    rw [decide_eq_true rfl, nF rfl]
    exact h done (by show done = done ++ []; rw [List.append_nil]) |>.trans (by show _ = some [Dat.list (strs ((done ++ []) ++ r))]; rw [List.append_nil])
  | cons c cur =>
    rw [decide_eq_false (by simp), nT rfl, strs_len, cap16m, dT (by simp only [List.length_cons, List.length_nil]; omega)]
    have e : strs done ++ ([.str (bs (c :: cur))] : List Dat) = strs (done ++ [c :: cur]) := by simp [strs]
    rw [e]
    exact h (done ++ [c :: cur]) rfl
theorem Words_loop (s : List UInt8) (hs : s.length ≤ 1000000) (v2 : List Dat) : ∀ (rest pre cur : List UInt8) (done : List (List UInt8)), s = pre ++ rest → done.length ≤ pre.length → cur.length ≤ pre.length → M50_1 (bs s) v2 (strs done) (bs cur) (pre.length : Int) = some [.list (strs (done ++ wordsL rest cur))] := by
  intro rest
  induction rest with
  | nil =>
    intro pre cur done h h1 h2
    rw [List.append_nil] at h
    obtain rfl : pre = s := h.symm
    apply M50_1_of
    rw [bsZ, dT (by omega), dF (by omega), w64 (by omega) (by omega)]
    have := Words_put pre v2 done (by omega) cur ((pre.length : Int) + 1) (r := []) (fun d hd => by
      rw [List.append_nil]
      exact Words_end pre hs v2 d)
    rw [List.append_nil] at this
    exact this
  | cons c rest ih =>
    intro pre cur done h h1 h2
    have k1 : s.length = pre.length + (rest.length + 1) := by rw [h, List.length_append, List.length_cons]
    have hb : bt (bs s) pre.length = (c.toNat : Int) := by rw [h]; exact bt_mid pre c rest
    have hsb : subS (bs s) pre.length (pre.length + 1) = bs [c] := by rw [h]; exact sub_mid pre c rest
    have hc := isBl_iff c
    have e1 : IntKind.i64.wrap ((pre.length : Int) + 1) = ((pre.length + 1 : Nat) : Int) := by rw [w64 (by omega) (by omega)]; omega
    have next := fun cur' done' h1' h2' => ih (pre ++ [c]) cur' done' (by rw [h, List.append_assoc]; rfl) h1' h2'
    simp only [List.length_append, List.length_cons, List.length_nil] at next
    have blank : isBl c = true → (bif !((bs cur).toList == (ByteArray.empty).toList) then (bif decide ((strs done).length + ([.str (bs cur)] : List Dat).length ≤ capB 16) then (M50_1 (bs s) v2 ((strs done) ++ ([.str (bs cur)] : List Dat)) ByteArray.empty ((pre.length + 1 : Nat) : Int)) else none) else (M50_1 (bs s) v2 (strs done) ByteArray.empty ((pre.length + 1 : Nat) : Int)) : R) = some [.list (strs (done ++ wordsL (c :: rest) cur))] := fun hbl => by
      have := Words_put s v2 done (by omega) cur ((pre.length + 1 : Nat) : Int) (r := wordsL rest []) (fun d hd => next [] d (by rw [hd]; cases cur with | nil => simp; omega | cons _ _ => simp; omega) (by simp))
      refine this.trans ?_
      have e : wordsL (c :: rest) cur = (bif cur.isEmpty then [] else [cur]) ++ wordsL rest [] := by
        rw [wordsL, hbl]
        cases cur <;> rfl
      rw [e]
    apply M50_1_of
    rw [bsZ, dT (by omega), dT (by omega), dT (by omega), dT (by omega), Int.toNat_natCast, hb, e1, Int.toNat_natCast, hsb]
    by_cases h32 : c.toNat = 32
    · rw [neF (by omega)]
      exact blank (hc.2 (.inl h32))
    rw [neT (by omega), dT (by omega), dT (by omega)]
    by_cases h9 : c.toNat = 9
    · rw [neF (by omega)]
      exact blank (hc.2 (.inr h9))
    have hf : isBl c = false := by
      cases hh : isBl c with
      | false => rfl
      | true => rcases hc.1 hh with h | h; exact absurd h h32; exact absurd h h9
    rw [neT (by omega), dT (by omega), dT (by omega), dT (by omega), bsZ, bsZ, dT (by simp only [List.length_cons, List.length_nil]; omega), bsA, next (cur ++ [c]) done (by omega) (by simp; omega)]
    rw [wordsL, hf, cond_false]
theorem Words_E (s : List UInt8) (hs : s.length ≤ 1000000) : E C 50 [.str (bs s)] = some [.list (strs (wordsL s []))] := by
  apply o50
  exact Words_loop s hs [] s [] [] [] rfl (Nat.le_refl _) (Nat.le_refl _)
def numV (l : List UInt8) (n : Nat) : Int := if n ≤ 2147483647 then (match numB l n with | some a => (a : Int) | none => -1) else -1
theorem Number_loop (s : List UInt8) (hs : s.length ≤ 1000000) (hne : s ≠ []) (v2 : Int) : ∀ (rest pre : List UInt8) (n : Nat), s = pre ++ rest → n ≤ 2147483648 → M98_1 (bs s) v2 (n : Int) (pre.length : Int) = some [.int (numV rest n)] := by
  have hpos : 0 < s.length := List.length_pos_iff.2 hne
  intro rest
  induction rest with
  | nil =>
    intro pre n h hn
    rw [List.append_nil] at h
    apply M98_1_of
    rw [bsZ, h, dF (by omega), ← h, eF (by omega)]
    unfold numV
    by_cases c : n ≤ 2147483647
    · rw [dF (by omega), if_pos c]; rfl
    · rw [dT (by omega), if_neg c]
  | cons c rest ih =>
    intro pre n h hn
    have k1 : s.length = pre.length + (rest.length + 1) := by rw [h, List.length_append, List.length_cons]
    have hb : bt (bs s) pre.length = (c.toNat : Int) := by rw [h]; exact bt_mid pre c rest
    have e1 : IntKind.i64.wrap ((pre.length : Int) + 1) = ((pre.length + 1 : Nat) : Int) := by rw [w64 (by omega) (by omega)]; omega
    have next := fun n' hn' => ih (pre ++ [c]) n' (by rw [h, List.append_assoc]; rfl) hn'
    simp only [List.length_append, List.length_cons, List.length_nil] at next
    have bad : ¬ (48 ≤ c.toNat ∧ c.toNat ≤ 57 ∧ n * 10 + (c.toNat - 48) ≤ 2147483647) → numV (c :: rest) n = -1 := fun hb => by
      unfold numV
      rw [numB, if_neg hb]
      split <;> rfl
    apply M98_1_of
    rw [bsZ, dT (by omega), dT (by omega), dT (by omega), Int.toNat_natCast, hb, e1]
    by_cases c1 : c.toNat < 48
    · rw [dT (by omega), bad (by omega)]
    rw [dF (by omega), dT (by omega), dT (by omega)]
    by_cases c2 : c.toNat > 57
    · rw [dT (by omega), bad (by omega)]
    rw [dF (by omega), dT (by omega), dT (by omega)]
    have e2 : IntKind.i64.wrap (IntKind.i64.wrap (10 * (n : Int)) + IntKind.i64.wrap (IntKind.u8.wrap ((c.toNat : Int) - 48))) = ((n * 10 + (c.toNat - 48) : Nat) : Int) := by
      rw [w8 (by omega) (by omega), w64 (n := 10 * (n : Int)) (by omega) (by omega), w64 (n := (c.toNat : Int) - 48) (by omega) (by omega), w64 (by omega) (by omega)]
      omega
    rw [e2]
    by_cases c3 : n * 10 + (c.toNat - 48) > 2147483647
    · rw [dT (by omega), bad (by omega)]
      have := next 2147483648 (by omega)
      rw [show ((2147483648 : Nat) : Int) = 2147483648 from rfl] at this
      rw [this]
      unfold numV
      rw [if_neg (by omega)]
    · rw [dF (by omega), next _ (by omega)]
      unfold numV
      rw [if_pos (by omega), if_pos (by omega)]
      congr 3
      rw [numB, if_pos ⟨by omega, by omega, by omega⟩]
def numI (w : List UInt8) : Int := match numO w with | some a => a | none => -1
theorem Number_E (s : List UInt8) (hs : s.length ≤ 1000000) : E C 98 [.str (bs s)] = some [.int (numI s)] := by
  apply o98
  cases s with
  | nil =>
    apply M98_1_of
    rfl
  | cons c l =>
    have := Number_loop (c :: l) hs (by simp) 0 (c :: l) [] 0 rfl (by omega)
    refine this.trans ?_
    unfold numI numV numO numL
    rw [if_pos (by omega)]
    show some [Dat.int (match numB (c :: l) 0 with | some a => (a : Int) | none => -1)] = some [Dat.int (match ((numB (c :: l) 0).map fun n => (n : Int)) with | some a => a | none => -1)]
    cases numB (c :: l) 0 <;> rfl
theorem numI_neg (w : List UInt8) : (numO w = none ∧ numI w = -1) ∨ ∃ n : Nat, numO w = some (n : Int) ∧ numI w = (n : Int) := by
  unfold numI numO
  cases numL w with
  | none => exact .inl ⟨rfl, rfl⟩
  | some n => exact .inr ⟨n, rfl, rfl⟩
/-- Where a word last stands. -/
def lastI (w : List UInt8) : List (List UInt8) → Int → Int → Int
  | [], _, a => a
  | x :: l, k, a => lastI w l (k + 1) (if x = w then k else a)
theorem firstK_no {w : List UInt8} : ∀ {l : List (List UInt8)} {k : Int}, w ∉ l → firstK w l k = 0
  | [], k, _ => rfl
  | x :: l, k, h => by
    rw [List.mem_cons, not_or] at h
    unfold firstK
    rw [if_neg (fun e => h.1 e.symm)]
    exact firstK_no h.2
theorem last_first {w : List UInt8} : ∀ {l : List (List UInt8)} {k a : Int}, l.Nodup → 1 ≤ k → lastI w l k a = if firstK w l k = 0 then a else firstK w l k
  | [], k, a, _, _ => rfl
  | x :: l, k, a, h, hk => by
    rw [List.nodup_cons] at h
    have ef : firstK w (x :: l) k = if x = w then k else firstK w l (k + 1) := rfl
    rw [lastI, last_first h.2 (by omega), ef]
    by_cases e : x = w
    · rw [if_pos e, if_pos e, firstK_no (e ▸ h.1), if_pos rfl, if_neg (by omega)]
    · rw [if_neg e, if_neg e]
theorem whE : ([.str ByteArray.empty, .str (bs [110, 111, 100, 101]), .str (bs [112, 111, 115]), .str (bs [107, 105, 110, 100]), .str (bs [103, 114, 111, 117, 112]), .str (bs [100, 101, 112, 116, 104])] : List Dat) = strs whL := rfl
theorem kdE : tabcec582 = strs kdL := rfl
theorem nmE : tab18f1a9 = strs nmL := rfl
def finR (f n : Int) : List Dat := if n < 0 then errD 61 else cmdD 7 0 f n
theorem read_6 (v0 : ByteArray) (z0 z1 z2 z3 v3 v8 v9 v10 v11 v12 v15 : Int) (a b c : List UInt8) (tl : List (List UInt8)) : ∀ (rest pre : List (List UInt8)) (acc : Int), kdL = pre ++ rest → M53_6 v0 z0 z1 z2 z3 v3 ByteArray.empty (bs [110, 111, 100, 101]) (bs [112, 111, 115]) (bs [107, 105, 110, 100]) (bs [103, 114, 111, 117, 112]) (bs [100, 101, 112, 116, 104]) (strs (a :: b :: c :: tl)) v8 v9 v10 v11 v12 3 v15 acc (pre.length : Int) = some (finR 3 (lastI c rest (pre.length : Int) acc)) := by
  intro rest
  induction rest with
  | nil =>
    intro pre acc h
    rw [List.append_nil] at h
    apply M53_6_of
    rw [← h, dF (by decide)]
    show _ = some (finR 3 acc)
    unfold finR
    by_cases hn : acc < 0
    · rw [dT hn, if_pos hn]; rfl
    · rw [dF hn, if_neg hn]; rfl
  | cons x rest ih =>
    intro pre acc h
    have k1 : kdL.length = pre.length + (rest.length + 1) := by rw [h, List.length_append, List.length_cons]
    have k2 : kdL.length = 15 := rfl
    have hx : rd (strs kdL) pre.length = .str (bs x) := by rw [h]; exact strs_mid pre x rest
    have hc : rd (strs (a :: b :: c :: tl)) 2 = .str (bs c) := rfl
    have h1 := fun acc' => ih (pre ++ [x]) acc' (by rw [h, List.append_assoc]; rfl)
    simp only [List.length_append, List.length_cons, List.length_nil] at h1
    apply M53_6_of
    rw [dT (by omega), eT rfl, dT (by omega), dT (by omega), kdE, strs_len, Int.toNat_natCast, dT (by omega), dT (by rw [strs_len]; simp only [List.length_cons]; omega), dT (by rw [strs_len]; simp only [List.length_cons]; omega), hx, hc, datS, datS, strEq, show IntKind.i64.wrap ((pre.length : Int) + 1) = ((pre.length + (0 + 1) : Nat) : Int) from by rw [w64 (by omega) (by omega)]; omega, h1, h1, lastI]
    by_cases e : x = c
    · rw [dT e, if_pos e]; rfl
    · rw [dF e, if_neg e]; rfl
theorem read_5 (v0 : ByteArray) (z0 z1 z2 z3 v3 v8 v9 v10 v11 v12 v14 v15 : Int) (a b c : List UInt8) (tl : List (List UInt8)) (acc : Int) : M53_5 v0 z0 z1 z2 z3 v3 ByteArray.empty (bs [110, 111, 100, 101]) (bs [112, 111, 115]) (bs [107, 105, 110, 100]) (bs [103, 114, 111, 117, 112]) (bs [100, 101, 112, 116, 104]) (strs (a :: b :: c :: tl)) v8 v9 v10 v11 v12 v14 v15 acc 1 = some (finR v14 (if v14 = 3 then lastI c (kdL.drop 1) 1 acc else acc)) := by
  have hc : rd (strs (a :: b :: c :: tl)) 2 = .str (bs c) := rfl
  apply M53_5_of
  rw [dT (by omega)]
  by_cases h3 : v14 = 3
  · subst h3
    have h1 := fun acc' => read_6 v0 z0 z1 z2 z3 v3 v8 v9 v10 v11 v12 v15 a b c tl (kdL.drop 2) (kdL.take 2) acc' rfl
    simp only [show (kdL.take 2).length = 2 from rfl] at h1
    rw [eT rfl, if_pos rfl, dT (by omega), dT (by omega), kdE, strs_len, dT (by decide), dT (by rw [strs_len]; simp only [List.length_cons]; omega), dT (by rw [strs_len]; simp only [List.length_cons]; omega), hc, show IntKind.i64.wrap ((1 : Int) + 1) = ((2 : Nat) : Int) from rfl, h1, h1, show rd (strs kdL) (1 : Int).toNat = .str (bs ([98, 101, 103, 105, 110] : List UInt8)) from rfl, datS, datS, strEq]
    show _ = some (finR 3 (lastI c (kdL.drop 2) ((2 : Nat) : Int) (if ([98, 101, 103, 105, 110] : List UInt8) = c then 1 else acc)))
    by_cases e : ([98, 101, 103, 105, 110] : List UInt8) = c
    · rw [dT e, if_pos e]
    · rw [dF e, if_neg e]
  · rw [eF h3, if_neg h3]
    unfold finR
    by_cases hn : acc < 0
    · rw [dT hn, if_pos hn]; rfl
    · rw [dF hn, if_neg hn]; rfl
def whatEnd (f : Int) (c : List UInt8) : List Dat := if f = 0 then errD 60 else finR f (if f = 3 then lastI c (kdL.drop 1) 1 (numI c) else numI c)
theorem read_4 (v0 : ByteArray) (z0 z1 z2 z3 v3 v8 v9 v10 v11 v12 : Int) (a b c : List UInt8) (hc : c.length ≤ 1000000) (tl : List (List UInt8)) : ∀ (rest pre : List (List UInt8)) (acc : Int), whL = pre ++ rest → M53_4 v0 z0 z1 z2 z3 v3 ByteArray.empty (bs [110, 111, 100, 101]) (bs [112, 111, 115]) (bs [107, 105, 110, 100]) (bs [103, 114, 111, 117, 112]) (bs [100, 101, 112, 116, 104]) (strs (a :: b :: c :: tl)) v8 v9 v10 v11 v12 acc (pre.length : Int) = some (whatEnd (lastI b rest (pre.length : Int) acc) c) := by
  have h2 : rd (strs (a :: b :: c :: tl)) 2 = .str (bs c) := rfl
  have h1' : rd (strs (a :: b :: c :: tl)) 1 = .str (bs b) := rfl
  intro rest
  induction rest with
  | nil =>
    intro pre acc h
    rw [List.append_nil] at h
    apply M53_4_of
    rw [← h, dF (by decide)]
    show _ = some (whatEnd acc c)
    unfold whatEnd
    by_cases hn : acc = 0
    · rw [eT hn, if_pos hn]; rfl
    · rw [eF hn, if_neg hn, dT (by rw [strs_len]; simp only [List.length_cons]; omega), dT (by rw [strs_len]; simp only [List.length_cons]; omega), h2, datS, bT (Number_E c hc)]
      exact read_5 v0 z0 z1 z2 z3 v3 v8 v9 v10 v11 v12 acc _ a b c tl (numI c)
  | cons x rest ih =>
    intro pre acc h
    have k1 : whL.length = pre.length + (rest.length + 1) := by rw [h, List.length_append, List.length_cons]
    have k2 : whL.length = 6 := rfl
    have hx : rd (strs whL) pre.length = .str (bs x) := by rw [h]; exact strs_mid pre x rest
    have h1 := fun acc' => ih (pre ++ [x]) acc' (by rw [h, List.append_assoc]; rfl)
    simp only [List.length_append, List.length_cons, List.length_nil] at h1
    apply M53_4_of
    rw [whE, dT (by omega), dT (by omega), dT (by omega), strs_len, Int.toNat_natCast, dT (by omega), dT (by rw [strs_len]; simp only [List.length_cons]; omega), dT (by rw [strs_len]; simp only [List.length_cons]; omega), hx, h1', datS, datS, strEq, show IntKind.i64.wrap ((pre.length : Int) + 1) = ((pre.length + (0 + 1) : Nat) : Int) from by rw [w64 (by omega) (by omega)]; omega, h1, h1, lastI]
    by_cases e : x = b
    · rw [dT e, if_pos e]; rfl
    · rw [dF e, if_neg e]; rfl
theorem read_3 (v0 : ByteArray) (z0 z1 z2 z3 v3 v8 v9 v10 v11 v12 : Int) (a b c : List UInt8) (hc : c.length ≤ 1000000) (tl : List (List UInt8)) : M53_3 v0 z0 z1 z2 z3 v3 ByteArray.empty (bs [110, 111, 100, 101]) (bs [112, 111, 115]) (bs [107, 105, 110, 100]) (bs [103, 114, 111, 117, 112]) (bs [100, 101, 112, 116, 104]) (strs (a :: b :: c :: tl)) v8 v9 v10 v11 v12 0 1 = some (whatEnd (lastI b (whL.drop 1) 1 0) c) := by
  have h1' : rd (strs (a :: b :: c :: tl)) 1 = .str (bs b) := rfl
  have h1 := fun acc' => read_4 v0 z0 z1 z2 z3 v3 v8 v9 v10 v11 v12 a b c hc tl (whL.drop 2) (whL.take 2) acc' rfl
  simp only [show (whL.take 2).length = 2 from rfl] at h1
  apply M53_3_of
  rw [whE, dT (by omega), dT (by omega), dT (by omega), dT (by decide), dT (by rw [strs_len]; simp only [List.length_cons]; omega), dT (by rw [strs_len]; simp only [List.length_cons]; omega), h1', show IntKind.i64.wrap ((1 : Int) + 1) = ((2 : Nat) : Int) from rfl, h1, h1, show rd (strs whL) (1 : Int).toNat = .str (bs ([110, 111, 100, 101] : List UInt8)) from rfl, datS, datS, strEq]
  show _ = some (whatEnd (lastI b (whL.drop 2) ((2 : Nat) : Int) (if ([110, 111, 100, 101] : List UInt8) = b then 1 else 0)) c)
  by_cases e : ([110, 111, 100, 101] : List UInt8) = b
  · rw [dT e, if_pos e]
  · rw [dF e, if_neg e]
theorem whatEnd_eq (b c : List UInt8) : whatEnd (lastI b (whL.drop 1) 1 0) c = addEnd (firstK b (whL.drop 1) 1) c := by
  have hf := firstK_in b (whL.drop 1) 1
  have hk := firstK_in c (kdL.drop 1) 1
  rw [last_first (by decide) (by omega)]
  have e1 : (if firstK b (whL.drop 1) 1 = 0 then (0 : Int) else firstK b (whL.drop 1) 1) = firstK b (whL.drop 1) 1 := by split <;> omega
  rw [e1]
  unfold whatEnd addEnd
  split
  · rfl
  · rw [last_first (by decide) (by omega)]
    unfold kindO finR
    rcases numI_neg c with ⟨h1, h2⟩ | ⟨n, h1, h2⟩
    · rw [h1, h2]
      by_cases h3 : firstK b (whL.drop 1) 1 = 3
      · rw [if_pos h3, if_pos h3]
        by_cases h4 : firstK c (kdL.drop 1) 1 = 0
        · rw [if_pos h4, if_pos h4]; rfl
        · rw [if_neg h4, if_neg h4, if_neg (by omega)]
      · rw [if_neg h3, if_neg h3]; rfl
    · rw [h1, h2]
      by_cases h3 : firstK b (whL.drop 1) 1 = 3
      · rw [if_pos h3, if_pos h3]
        by_cases h4 : firstK c (kdL.drop 1) 1 = 0
        · rw [if_pos h4, if_pos h4, if_neg (by omega)]
        · rw [if_neg h4, if_neg h4, if_neg (by omega)]
      · rw [if_neg h3, if_neg h3, if_neg (by omega)]
/-- What is read behind a command's word. -/
def readV (op : Int) (rest : List (List UInt8)) : List Dat := if op = 0 then errD 60 else if (rest.length : Int) < leastOf op ∨ (rest.length : Int) > mostOf op then errD 62 else
      if op = 7 then addEnd (firstK (rest.getD 0 []) (whL.drop 1) 1) (rest.getD 1 []) else if mostOf op = 0 then cmdD op 0 0 0 else match rest with
        | [] => cmdD op 1 0 0
        | x :: _ => match numO x with
          | none => errD 61
          | some n => cmdD op n 0 0
theorem readW_cons (w : List UInt8) (rest : List (List UInt8)) : readW (w :: rest) = readV (opOf w) rest := rfl
theorem read_2e (v0 : ByteArray) (z0 z1 z2 z3 v3 v9 : Int) (w : List UInt8) (rest : List (List UInt8)) (hr : rest.length ≤ 1000000) (hw : ∀ x, x ∈ rest → x.length ≤ 1000000) (op : Int) (ho : 0 ≤ op ∧ op ≤ 14) (h9 : ¬ v9 < 15) : M53_2 v0 z0 z1 z2 z3 v3 ByteArray.empty (bs [110, 111, 100, 101]) (bs [112, 111, 115]) (bs [107, 105, 110, 100]) (bs [103, 114, 111, 117, 112]) (bs [100, 101, 112, 116, 104]) (strs (w :: rest)) op v9 = some (readV op rest) := by
  have e2 : IntKind.i64.wrap (((strs (w :: rest)).length : Int) - 1) = (rest.length : Int) := by rw [strs_len, List.length_cons, w64 (by omega) (by omega)]; omega
  have one : ∀ (a : Int) (X : R), op ≠ 7 → leastOf op = a → mostOf op = 1 → op ≠ 0 → (bif decide ((rest.length : Int) < a) then (some [.agg [.int 0, .int 0, .int 0, .int 0], .int 62]) else (bif decide ((rest.length : Int) > 1) then (some [.agg [.int 0, .int 0, .int 0, .int 0], .int 62]) else (bif (rest.length : Int) == 0 then (some [.agg [.int op, .int 1, .int 0, .int 0], .int 0]) else (bif op != 7 then (bif decide (1 < ((strs (w :: rest)).length : Int)) then (bif decide (1 < (strs (w :: rest)).length) then ((E C 98 [.str ((rd (strs (w :: rest)) 1).S)]).bind fun d => (bif decide (((rd d 0).I) < 0) then (some [.agg [.int 0, .int 0, .int 0, .int 0], .int 61]) else (some [.agg [.int op, .int ((rd d 0).I), .int 0, .int 0], .int 0]))) else none) else none) else X))) : R) = some (readV op rest) := by
    intro a X h7 hle hmo h0
    unfold readV
    rw [if_neg h0, hle, hmo]
    by_cases c1 : (rest.length : Int) < a
    · rw [dT c1, if_pos (.inl c1)]; rfl
    rw [dF c1]
    by_cases c2 : (rest.length : Int) > 1
    · rw [dT c2, if_pos (.inr c2)]; rfl
    rw [dF c2, if_neg (by rintro (h | h); exact c1 h; exact c2 h), if_neg h7, if_neg (by omega)]
    cases rest with
    | nil => rw [eT (by simp)]; rfl
    | cons x r =>
      have r1 : rd (strs (w :: x :: r)) 1 = .str (bs x) := rfl
      rw [eF (by simp only [List.length_cons]; omega), neT h7, dT (by rw [strs_len]; simp only [List.length_cons]; omega), dT (by rw [strs_len]; simp only [List.length_cons]; omega), r1, datS, bT (Number_E x (hw x (by simp)))]
      simp only [rd0, datI]
      rcases numI_neg x with ⟨h1, h2⟩ | ⟨n, h1, h2⟩
      · rw [h2, h1, dT (by omega)]; rfl
      · rw [h2, h1, dF (by omega)]; rfl
  apply M53_2_of
  rw [dF h9]
  by_cases h0 : op = 0
  · rw [eT h0]
    unfold readV
    rw [if_pos h0]; rfl
  rw [eF h0, e2]
  by_cases h2 : op ≤ 2
  · rw [dT h2, eF (show op ≠ 3 by omega), eF (show op ≠ 8 by omega), eF (show op ≠ 7 by omega)]
    exact one 0 _ (by omega) (by unfold leastOf; rw [if_neg (by omega), if_neg (by omega)]) (by unfold mostOf; rw [if_neg (by omega), if_pos (by omega)]) h0
  rw [dF h2]
  by_cases h3 : op = 3
  · rw [eT h3, eF (show op ≠ 7 by omega)]
    exact one 1 _ (by omega) (by unfold leastOf; rw [if_neg (by omega), if_pos (by omega)]) (by unfold mostOf; rw [if_neg (by omega), if_pos (by omega)]) h0
  rw [eF h3]
  by_cases h8 : op = 8
  · rw [eT h8, eF (show op ≠ 7 by omega)]
    exact one 1 _ (by omega) (by unfold leastOf; rw [if_neg (by omega), if_pos (by omega)]) (by unfold mostOf; rw [if_neg (by omega), if_pos (by omega)]) h0
  rw [eF h8]
  by_cases h7 : op = 7
  · subst h7
    rw [eT rfl]
    unfold readV
    rw [if_neg h0, show leastOf 7 = 2 from rfl, show mostOf 7 = 2 from rfl]
    by_cases c1 : (rest.length : Int) < 2
    · rw [dT c1, if_pos (.inl c1)]; rfl
    rw [dF c1]
    by_cases c2 : (rest.length : Int) > 2
    · rw [dT c2, if_pos (.inr c2)]; rfl
    rw [dF c2, if_neg (by rintro (h | h); exact c1 h; exact c2 h), if_pos rfl, eF (by omega), neF rfl]
    obtain ⟨x, y, rfl⟩ : ∃ x y, rest = [x, y] := by
      match rest with
      | [] => simp at c1
      | [x] => simp at c1
      | [x, y] => exact ⟨x, y, rfl⟩
      | _ :: _ :: _ :: r => simp at c2; omega
    rw [read_3 v0 z0 z1 z2 z3 v3 7 v9 _ 2 2 w x y (hw y (by simp)) [], whatEnd_eq]
    rfl
  · rw [eF h7]
    unfold readV
    have hle : leastOf op = 0 := by unfold leastOf; rw [if_neg h7, if_neg (by omega)]
    have hmo : mostOf op = 0 := by unfold mostOf; rw [if_neg h7, if_neg (by omega)]
    rw [if_neg h0, hle, hmo]
    by_cases c1 : (rest.length : Int) < 0
    · omega
    rw [dF c1]
    by_cases c2 : (rest.length : Int) > 0
    · rw [dT c2, if_pos (.inr c2)]; rfl
    rw [dF c2, if_neg (by rintro (h | h); exact c1 h; exact c2 h), if_neg h7, if_pos rfl]
    rfl
theorem read_2 (v0 : ByteArray) (z0 z1 z2 z3 v3 : Int) (w : List UInt8) (ws : List (List UInt8)) (hr : ws.length ≤ 1000000) (hw : ∀ x, x ∈ ws → x.length ≤ 1000000) : ∀ (rest pre : List (List UInt8)) (acc : Int), nmL = pre ++ rest → 0 ≤ lastI w rest (pre.length : Int) acc ∧ lastI w rest (pre.length : Int) acc ≤ 14 → M53_2 v0 z0 z1 z2 z3 v3 ByteArray.empty (bs [110, 111, 100, 101]) (bs [112, 111, 115]) (bs [107, 105, 110, 100]) (bs [103, 114, 111, 117, 112]) (bs [100, 101, 112, 116, 104]) (strs (w :: ws)) acc (pre.length : Int) = some (readV (lastI w rest (pre.length : Int) acc) ws) := by
  intro rest
  induction rest with
  | nil =>
    intro pre acc h hin
    rw [List.append_nil] at h
    have hk : pre.length = 15 := by rw [← h]; rfl
    exact read_2e v0 z0 z1 z2 z3 v3 _ w ws hr hw acc hin (by omega)
  | cons x rest ih =>
    intro pre acc h hin
    have k1 : nmL.length = pre.length + (rest.length + 1) := by rw [h, List.length_append, List.length_cons]
    have k2 : nmL.length = 15 := rfl
    have hx : rd (strs nmL) pre.length = .str (bs x) := by rw [h]; exact strs_mid pre x rest
    have hc : rd (strs (w :: ws)) 0 = .str (bs w) := rfl
    have h1 := fun acc' => ih (pre ++ [x]) acc' (by rw [h, List.append_assoc]; rfl)
    simp only [List.length_append, List.length_cons, List.length_nil] at h1
    rw [lastI] at hin ⊢
    apply M53_2_of
    rw [dT (by omega), dT (by omega), dT (by omega), nmE, strs_len, Int.toNat_natCast, dT (by omega), dT (by rw [strs_len]; simp only [List.length_cons]; omega), dT (by rw [strs_len]; simp only [List.length_cons]; omega), hx, hc, datS, datS, strEq, show IntKind.i64.wrap ((pre.length : Int) + 1) = ((pre.length + (0 + 1) : Nat) : Int) from by rw [w64 (by omega) (by omega)]; omega]
    by_cases e : x = w
    · rw [dT e]
      rw [if_pos e] at hin ⊢
      exact h1 _ hin
    · rw [dF e]
      rw [if_neg e] at hin ⊢
      exact h1 _ hin
theorem ReadR_E (s : List UInt8) (hs : s.length ≤ 1000000 - 1) : E C 53 [.str (bs s)] = some (readW (wordsL s [])) := by
  obtain ⟨q1, q2⟩ := wordsL_in s []
  apply o53
  rw [bT (Words_E s (by omega))]
  simp only [rd0, datL]
  cases hw : wordsL s [] with
  | nil => rfl
  | cons w ws =>
    rw [hw] at q1 q2
    rw [List.length_cons] at q1
    have hws : ∀ x, x ∈ ws → x.length ≤ 1000000 := fun x hx => by
      have := (q2 x (List.mem_cons_of_mem _ hx)).1
      simp only [List.length_nil] at this
      omega
    have hc : rd (strs (w :: ws)) 0 = .str (bs w) := rfl
    have hop : lastI w (nmL.drop 1) 1 0 = opOf w := by
      rw [last_first (by decide) (by omega)]
      show (if opOf w = 0 then (0 : Int) else opOf w) = opOf w
      split <;> omega
    have hin := opOf_in w
    rw [eF (by rw [strs_len]; simp only [List.length_cons]; omega), readW_cons, ← hop]
    have h1 := fun acc' hh => read_2 (bs s) 0 0 0 0 0 w ws (by omega) hws (nmL.drop 2) (nmL.take 2) acc' rfl hh
    simp only [show (nmL.take 2).length = 2 from rfl] at h1
    have e0 : lastI w (nmL.drop 1) 1 0 = lastI w (nmL.drop 2) ((2 : Nat) : Int) (if ([115, 116, 101, 112] : List UInt8) = w then 1 else 0) := rfl
    rw [← hop, e0] at hin
    rw [e0]
    apply M53_1_of
    rw [dT (by omega), dT (by omega), dT (by omega), nmE, strs_len, dT (by decide), dT (by rw [strs_len]; simp only [List.length_cons]; omega), dT (by rw [strs_len]; simp only [List.length_cons]; omega), hc, show IntKind.i64.wrap ((1 : Int) + 1) = ((2 : Nat) : Int) from rfl, show rd (strs nmL) (1 : Int).toNat = .str (bs ([115, 116, 101, 112] : List UInt8)) from rfl, datS, datS, strEq]
    by_cases e : ([115, 116, 101, 112] : List UInt8) = w
    · rw [dT e]
      rw [if_pos e] at hin ⊢
      exact h1 1 hin
    · rw [dF e]
      rw [if_neg e] at hin ⊢
      exact h1 0 hin
end Go.Proofs.YtpfnmjpccmobpaaDoor.V
