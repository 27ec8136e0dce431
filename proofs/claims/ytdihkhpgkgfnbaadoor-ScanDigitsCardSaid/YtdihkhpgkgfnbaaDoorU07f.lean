/- ScanDigits: any symbol can be written by its number, in hexadecimal digits between braces. -/
import Derived.Test.YtdihkhpgkgfnbaaDoorUCod
import Derived.Test.YtdihkhpgkgfnbaaDoorVTLScanDigits
import Derived.Test.YtdihkhpgkgfnbaaDoorU07
namespace Go.Proofs.YtdihkhpgkgfnbaaDoor.V
open Go Go.Ev Go.RowKit
set_option linter.unusedVariables false
set_option linter.unusedSimpArgs false
theorem bsA (a b : List UInt8) : bs a ++ bs b = bs (a ++ b) := by
  apply ByteArray.ext
  rw [ByteArray.data_append]
  simp [bs]
theorem bsZ (s : List UInt8) : (bs s).size = s.length := by show s.toArray.size = _; simp
theorem bsL (s : List UInt8) : (bs s).toList = s := by
  rw [ByteArray.toList_eq]
  simp [bs]
theorem bsE : ByteArray.empty = bs [] := rfl
theorem strD_bs (s : List UInt8) : strD (bs s) = (nats s).map .int := by simp [strD, bs, nats]
abbrev hexS : List UInt8 := [48, 49, 50, 51, 52, 53, 54, 55, 56, 57, 97, 98, 99, 100, 101, 102]
def hc (k : Nat) : UInt8 := hexS.getD k 0
theorem enc_hex : ∀ k : Nat, k < 16 → Utf8.encode (bt (bs hexS) k) = bs [hc k] ∧ hexV ((hc k).toNat : Int) = (k : Int)
  | 0, _ => ⟨by kernel_rfl, by kernel_rfl⟩
  | 1, _ => ⟨by kernel_rfl, by kernel_rfl⟩
  | 2, _ => ⟨by kernel_rfl, by kernel_rfl⟩
  | 3, _ => ⟨by kernel_rfl, by kernel_rfl⟩
  | 4, _ => ⟨by kernel_rfl, by kernel_rfl⟩
  | 5, _ => ⟨by kernel_rfl, by kernel_rfl⟩
  | 6, _ => ⟨by kernel_rfl, by kernel_rfl⟩
  | 7, _ => ⟨by kernel_rfl, by kernel_rfl⟩
  | 8, _ => ⟨by kernel_rfl, by kernel_rfl⟩
  | 9, _ => ⟨by kernel_rfl, by kernel_rfl⟩
  | 10, _ => ⟨by kernel_rfl, by kernel_rfl⟩
  | 11, _ => ⟨by kernel_rfl, by kernel_rfl⟩
  | 12, _ => ⟨by kernel_rfl, by kernel_rfl⟩
  | 13, _ => ⟨by kernel_rfl, by kernel_rfl⟩
  | 14, _ => ⟨by kernel_rfl, by kernel_rfl⟩
  | 15, _ => ⟨by kernel_rfl, by kernel_rfl⟩
  | k + 16, h => by omega
/-- A number's hexadecimal digits, of so many at most. -/
def hd : Nat → Nat → List UInt8
  | 0, _ => []
  | k + 1, n => if n < 16 then [hc n] else hd k (n / 16) ++ [hc (n % 16)]
theorem hd_ne : ∀ (k n : Nat), hd (k + 1) n ≠ [] := fun k n => by
  unfold hd
  split <;> simp
theorem hd_len : ∀ (k n : Nat), (hd k n).length ≤ k
  | 0, n => Nat.le_refl _
  | k + 1, n => by
    unfold hd
    split
    · simp
    · have := hd_len k (n / 16)
      simp only [List.length_append, List.length_cons, List.length_nil]
      omega
def valL : Int → List UInt8 → Int
  | a, [] => a
  | a, c :: l => valL (a * 16 + hexV (c.toNat : Int)) l
theorem valL_app : ∀ (l : List UInt8) (a : Int) (c : UInt8), valL a (l ++ [c]) = valL a l * 16 + hexV (c.toNat : Int)
  | [], a, c => rfl
  | d :: l, a, c => valL_app l _ c
theorem hd_val : ∀ (k n : Nat), n < 16 ^ k → valL 0 (hd k n) = (n : Int) ∧ ∀ c, c ∈ hd k n → hexV (c.toNat : Int) ≥ 0
  | 0, n, h => by
    simp at h
    subst h
    exact ⟨rfl, fun c hc => by cases hc⟩
  | k + 1, n, h => by
    unfold hd
    split
    · rename_i hn
      have := (enc_hex n hn).2
      refine ⟨by show (0 : Int) * 16 + hexV _ = _; rw [this]; omega, fun c hcc => ?_⟩
      rw [List.mem_singleton] at hcc
      subst hcc
      omega
    · obtain ⟨h1, h2⟩ := hd_val k (n / 16) (by rw [Nat.pow_succ] at h; omega)
      have h3 := (enc_hex (n % 16) (by omega)).2
      refine ⟨by rw [valL_app, h1, h3]; omega, fun c hcc => ?_⟩
      rw [List.mem_append, List.mem_singleton] at hcc
      rcases hcc with hcc | hcc
      · exact h2 c hcc
      · subst hcc; omega
theorem hexG_all (r : List Int) : ∀ (l : List UInt8) (m : Nat) (a : Int), l.length ≤ m → (∀ c, c ∈ l → hexV (c.toNat : Int) ≥ 0) → hexG m (nats l ++ 125 :: r) a = (valL a l, l.length)
  | [], 0, a, _, _ => rfl
  | [], m + 1, a, _, _ => by
    have hn : ¬ hexV 125 ≥ 0 := by decide
    show hexG (m + 1) (125 :: r) a = (a, 0)
    unfold hexG
    exact if_neg hn
  | c :: l, 0, a, h, _ => by simp at h
  | c :: l, m + 1, a, h, hx => by
    show (if hexV (c.toNat : Int) ≥ 0 then ((hexG m (nats l ++ 125 :: r) (a * 16 + hexV (c.toNat : Int))).1, (hexG m (nats l ++ 125 :: r) (a * 16 + hexV (c.toNat : Int))).2 + 1) else (a, 0)) = _
    rw [if_pos (hx c List.mem_cons_self), hexG_all r l m _ (by simpa using h) fun d hd => hx d (List.mem_cons_of_mem _ hd)]
    rfl
/-- What is read. -/
def txt (s : List UInt8) : List Int := 92 :: 120 :: 123 :: (nats s ++ [125])
theorem txt_len (s : List UInt8) : (txt s).length = s.length + 4 := by simp [txt, nats]
theorem codeS_txt {s : List UInt8} (h : s ≠ []) (hl : s.length ≤ 6) (hx : ∀ c, c ∈ s → hexV (c.toNat : Int) ≥ 0) (hv : isSym (valL 0 s) = true) : codeS (txt s) 2 = some (valL 0 s, s.length + 4) := by
  have hpos : 0 < s.length := List.length_pos_iff.2 h
  have ht := txt_len s
  have h0 : atB (txt s) ((2 : Nat) : Int) = 123 := by rw [atB_in (by omega)]; rfl
  have hdp : (txt s).drop (2 + 1) = nats s ++ 125 :: [] := rfl
  have hg := hexG_all [] s 6 0 hl hx
  have h1 : atB (txt s) ((2 + 1 + s.length : Nat) : Int) = 125 := by
    rw [atB_in (by omega)]
    have : (txt s)[2 + 1 + s.length]? = some 125 := by
      rw [show 2 + 1 + s.length = s.length + 3 by omega]
      show (nats s ++ [125])[s.length]? = some 125
      rw [List.getElem?_append_right (by simp [nats])]
      simp [nats]
    rw [List.getElem?_eq_getElem (by omega)] at this
    exact Option.some.inj this
  unfold codeS
  rw [if_pos h0, hdp, hg]
  dsimp only
  rw [h1, hv, if_neg (by rintro (e | e | e) <;> first | omega | exact e rfl | cases e), show 2 + s.length + 2 = s.length + 4 by omega]
theorem at0 (s : List UInt8) : atB (txt s) 0 = 92 := by
  rw [show (0 : Int) = ((0 : Nat) : Int) from rfl, atB_in (by rw [txt_len]; omega)]
  rfl
theorem at1 (s : List UInt8) : atB (txt s) 1 = 120 := by
  rw [show (1 : Int) = ((1 : Nat) : Int) from rfl, atB_in (by rw [txt_len]; omega)]
  rfl
theorem simple_txt {s : List UInt8} (h : s ≠ []) (hl : s.length ≤ 6) (hx : ∀ c, c ∈ s → hexV (c.toNat : Int) ≥ 0) (hv : isSym (valL 0 s) = true) : E C 10 [.shr 5 ((txt s).map .int), .int .i64 0] = some [.agg [.int 1, .int ((s.length + 4 : Nat) : Int), .int (valL 0 s), .str ByteArray.empty, .list []], .bool true, .int 0] := by
  have ht := txt_len s
  apply o10
  rw [show IntKind.i64.wrap ((0 : Int) + 1) = 1 from rfl, show IntKind.i64.wrap ((0 : Int) + 2) = ((2 : Nat) : Int) from rfl, bT (at_E (txt s) 1), at1]
  simp only [rd0, datI]
  rw [eT rfl, bT (code_E (txt s) (by omega) 2 (by omega)), codeS_txt h hl hx hv]
  rfl
theorem Escape_txt {s : List UInt8} (h : s ≠ []) (hl : s.length ≤ 6) (hx : ∀ c, c ∈ s → hexV (c.toNat : Int) ≥ 0) (hv : isSym (valL 0 s) = true) : E C 5 [.shr 5 ((txt s).map .int), .int .i64 0] = some [.agg [.int 1, .int ((s.length + 4 : Nat) : Int), .int (valL 0 s), .str ByteArray.empty, .list []], .int 0] := by
  apply o5
  rw [bT (at_E (txt s) 0), at0]
  simp only [rd0, datI]
  rw [neF rfl, bT (simple_txt h hl hx hv)]
  rfl
theorem Inner_txt {s : List UInt8} (h : s ≠ []) (hl : s.length ≤ 6) (hx : ∀ c, c ∈ s → hexV (c.toNat : Int) ≥ 0) (hv : isSym (valL 0 s) = true) : E C 6 [.shr 5 ((txt s).map .int), .int .i64 0] = some [.agg [.int 1, .int ((s.length + 4 : Nat) : Int), .int (valL 0 s), .str ByteArray.empty, .list []], .int 0] := by
  apply o6
  rw [bT (at_E (txt s) 0), at0]
  simp only [rd0, datI]
  rw [neF rfl, bT (simple_txt h hl hx hv)]
  rfl
theorem digits_done (x : Int) (v2 : Bool) {s : List UInt8} (h : s ≠ []) (hl : s.length ≤ 6) (hx : ∀ c, c ∈ s → hexV (c.toNat : Int) ≥ 0) (hv : isSym (valL 0 s) = true) (hxx : valL 0 s = x) : M3_1 x v2 (bs s) 0 = some [.bool true] := by
  have hb : ((bs [92, 120, 123]) ++ bs s) ++ (bs [125]) = bs (92 :: 120 :: 123 :: (s ++ [125])) := by rw [bsA, bsA]; rfl
  have hb2 : ((bs [92, 120, 123]) ++ bs s) = bs (92 :: 120 :: 123 :: s) := by rw [bsA]; rfl
  have hs : strD (bs (92 :: 120 :: 123 :: (s ++ [125]))) = (txt s).map .int := by
    rw [strD_bs]
    simp [nats, txt]
  apply M3_1_of
  rw [dF (by omega), bsL, bsE, bsL, beq_eq_false_iff_ne.2 h, cond_false]
  rw [hb2, show bs (92 :: 120 :: 123 :: s) ++ bs [125] = bs (92 :: 120 :: 123 :: (s ++ [125])) from by rw [bsA]; rfl, bsZ, bsZ, bsZ, bsZ, bsZ]
  have c1 : (92 :: 120 :: 123 :: (s ++ [125])).length ≤ capB 1 := by
    show _ ≤ 140737488355328
    simp only [List.length_cons, List.length_append, List.length_nil]
    omega
  have c2 : ([92, 120, 123] : List UInt8).length + s.length ≤ 9223372036854775807 := by simp only [List.length_cons, List.length_nil]; omega
  have c3 : (92 :: 120 :: 123 :: s).length + ([125] : List UInt8).length ≤ 9223372036854775807 := by simp only [List.length_cons, List.length_nil]; omega
  rw [dT c2, dT c3, dT c1, hs, bT (Escape_txt h hl hx hv), dT c2, dT c3, dT c1, bT (Inner_txt h hl hx hv)]
  simp only [rd0, rd1, aggC0, aggC1, aggC2, datI]
  unfold N3_2 N3_3 N3_4 N3_5 N3_6 N3_7
  rw [eT rfl, show ((0 : Int) == 0) = true from rfl, show ((1 : Int) == 1) = true from rfl, hxx, beq_self_eq_true, cond_true, cond_true, cond_true, cond_true, cond_true, bsZ, w64 (by omega) (by omega)]
  have : ((s.length + 4 : Nat) : Int) = (s.length : Int) + 4 := by omega
  rw [this, beq_self_eq_true]
theorem digits_loop (x : Int) (v2 : Bool) {r : R} (hr : r = some [.bool true]) : ∀ (k n : Nat) (s : List UInt8), n < 16 ^ k → 0 < n → s.length + k ≤ 100 → n ≤ 16777215 → M3_1 x v2 (bs (hd k n ++ s)) 0 = some [.bool true] → M3_1 x v2 (bs s) (n : Int) = some [.bool true]
  | 0, n, s, h1, h2, h3, h4, hz => by simp at h1; omega
  | k + 1, n, s, h1, h2, h3, h4, hz => by
    have em : ((n : Int)).tmod 16 = ((n % 16 : Nat) : Int) := by rw [show (16 : Int) = ((16 : Nat) : Int) from rfl, ← Int.ofNat_tmod]
    have ed : IntKind.i64.wrap (((n : Int)).tdiv 16) = ((n / 16 : Nat) : Int) := by
      rw [show (16 : Int) = ((16 : Nat) : Int) from rfl, ← Int.ofNat_tdiv, w64 (by omega) (by omega)]
    apply M3_1_of
    rw [em, ed, dT (by omega), dT (by omega), bsZ, dT (by show ((n % 16 : Nat) : Int) < 16; omega), Int.toNat_natCast, (enc_hex _ (by omega)).1, bsZ, bsZ, dT (by simp only [List.length_cons, List.length_nil]; omega), bsA]
    unfold hd at hz
    by_cases hb : n < 16
    · rw [if_pos hb] at hz
      rw [show n / 16 = 0 by omega, show n % 16 = n by omega]
      exact hz
    · rw [if_neg hb, List.append_assoc] at hz
      exact digits_loop x v2 hr k (n / 16) _ (by rw [Nat.pow_succ] at h1; omega) (by omega) (by simp only [List.length_append, List.length_cons, List.length_nil]; omega) (by omega) hz
theorem digits_all (n : Nat) (v2 : Bool) (h : n ≤ 1114367) (hs : isSym (n : Int) = true) : M3_1 (n : Int) v2 ByteArray.empty (n : Int) = some [.bool true] := by
  obtain ⟨h1, h2⟩ := hd_val 6 n (by omega)
  have hdone := digits_done (n : Int) v2 (hd_ne 5 n) (hd_len 6 n) h2 (by rw [h1]; exact hs) h1
  by_cases h0 : n = 0
  · subst h0
    apply M3_1_of
    rw [dF (by omega), show (((0 : Nat) : Int)).tmod 16 = ((0 : Nat) : Int) from rfl, Int.toNat_natCast, (enc_hex 0 (by omega)).1, bsZ, bsE, bsA, beq_self_eq_true, cond_true, dT (by omega), dT (by show (0 : Int) < 16; omega), dT (by decide)]
    exact hdone
  · exact digits_loop (n : Int) v2 (r := some [.bool true]) rfl 6 n [] (by omega) (by omega) (by simp) (by omega) (by rw [List.append_nil]; exact hdone)
theorem ScanDigits_pure (e0 : Dat) (h0 : fitT C.T 9 3 e0) : E C 3 [.int .i64 e0.I] = some [.bool true] := by
  obtain ⟨x, rfl, hx⟩ := fit_i64 h0
  apply o3
  rw [bT anchor07_E]
  simp only [rd0, datB, datI]
  rw [nF rfl]
  by_cases c1 : x < 0
  · rw [dT c1]
  rw [dF c1]
  by_cases c2 : x > 1114367
  · rw [dT c2]
  rw [dF c2]
  obtain ⟨n, rfl⟩ : ∃ n : Nat, x = (n : Int) := ⟨x.toNat, by omega⟩
  by_cases c3 : (n : Int) ≥ 55296
  · rw [dT c3]
    by_cases c4 : (n : Int) ≤ 57343
    · rw [dT c4]
    rw [dF c4]
    by_cases c5 : (n : Int) ≥ 1114112
    · rw [dT c5]
      by_cases c6 : (n : Int) < 1114240
      · rw [dT c6]
      rw [dF c6]
      exact digits_all n false (by omega) ((isSym_iff _).2 (by omega))
    · rw [dF c5]
      exact digits_all n false (by omega) ((isSym_iff _).2 (by omega))
  · rw [dF c3]
    by_cases c5 : (n : Int) ≥ 1114112
    · omega
    · rw [dF c5]
      exact digits_all n false (by omega) ((isSym_iff _).2 (by omega))
end Go.Proofs.YtdihkhpgkgfnbaaDoor.V
