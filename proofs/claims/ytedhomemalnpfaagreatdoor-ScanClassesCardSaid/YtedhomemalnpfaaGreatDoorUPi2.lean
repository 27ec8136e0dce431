/- What stands at a place within a class: both readers say the same. -/
import Derived.Test.YtedhomemalnpfaaGreatDoorUPie
import Derived.Test.YtedhomemalnpfaaGreatDoorVTRd
namespace Go.Proofs.YtedhomemalnpfaaGreatDoor.V
open Go Go.Ev Go.RowKit
set_option linter.unusedVariables false
set_option linter.unusedSimpArgs false
theorem isBytes_drop {b : List Int} (h : isBytes b = true) (n : Nat) : isBytes (b.drop n) = true := by
  unfold isBytes at h ⊢
  rw [List.all_eq_true] at h ⊢
  exact fun x hx => h x (List.mem_of_mem_drop hx)
theorem isBytes_take {b : List Int} (h : isBytes b = true) (n : Nat) : isBytes (b.take n) = true := by
  unfold isBytes at h ⊢
  rw [List.all_eq_true] at h ⊢
  exact fun x hx => h x (List.mem_of_mem_take hx)
theorem isBytes_head {c : Int} {l : List Int} (h : isBytes (c :: l) = true) : 0 ≤ c ∧ c < 256 := by
  unfold isBytes at h
  rw [List.all_cons, Bool.and_eq_true] at h
  simpa using h.1
theorem pre94 {l : List Int} (hb : isBytes l = true) : ([94] : List UInt8).isPrefixOf (u8 l) = decide (l.head? = some 94) := by
  cases l with
  | nil => rfl
  | cons c l =>
    have e := u8_eq (isBytes_head hb) 94 (by decide)
    rw [Bool.eq_iff_iff, decide_eq_true_eq, List.head?_cons, Option.some.injEq]
    show ([94] : List UInt8).isPrefixOf (UInt8.ofNat c.toNat :: u8 l) = true ↔ c = 94
    simp only [List.isPrefixOf, Bool.and_true, beq_iff_eq]
    exact ⟨fun h => e.1 h.symm, fun h => (e.2 h).symm⟩
theorem drop_head {b : List Int} {k : Nat} (h : k < b.length) : b.drop k = atB b (k : Int) :: b.drop (k + 1) := by
  rw [atB_in h, List.drop_eq_getElem_cons h]
theorem atB_head (b : List Int) (k : Nat) : atB b (k : Int) = 94 ↔ (b.drop k).head? = some 94 := by
  by_cases h : k < b.length
  · rw [drop_head h, List.head?_cons, Option.some.injEq]
  · rw [atB_out (by omega), List.drop_eq_nil_of_le (by omega)]
    simp
theorem take_head {l : List Int} {n : Nat} (h : fi l = some n) : (l.take n).head? = some 94 ↔ l.head? = some 94 := by
  cases l with
  | nil => cases h
  | cons c l =>
    cases n with
    | succ n => rfl
    | zero =>
      have hc : c = 58 := by
        unfold fi at h
        split at h
        · rename_i hc; exact hc.1
        · cases hf : fi l with
          | none => rw [hf] at h; cases h
          | some m => rw [hf] at h; cases h
      subst hc
      exact ⟨fun h => (by cases h), fun h => (by cases h)⟩
theorem opens_pre {b : List Int} (hb : isBytes b = true) {k : Nat} (hk : k < b.length) : ([91, 58] : List UInt8).isPrefixOf (u8 ((b.take (min (k + 2) b.length)).drop k)) = decide (opensB b k) := by
  rw [Bool.eq_iff_iff, decide_eq_true_eq]
  unfold opensB
  have hd := isBytes_drop hb k
  rw [drop_head hk] at hd
  have h1 := u8_eq (isBytes_head hd) 91 (by decide)
  by_cases h2 : k + 1 < b.length
  · have e : (b.take (min (k + 2) b.length)).drop k = [atB b (k : Int), atB b ((k + 1 : Nat) : Int)] := by
      rw [show min (k + 2) b.length = k + 2 by omega, List.drop_take, drop_head hk, drop_head h2, show k + 2 - k = 2 by omega]
      rfl
    rw [e]
    have hd2 := isBytes_drop hb (k + 1)
    rw [drop_head h2] at hd2
    have h3 := u8_eq (isBytes_head hd2) 58 (by decide)
    show ([91, 58] : List UInt8).isPrefixOf [UInt8.ofNat (atB b (k : Int)).toNat, UInt8.ofNat (atB b ((k + 1 : Nat) : Int)).toNat] = true ↔ _
    simp only [List.isPrefixOf, Bool.and_eq_true, beq_iff_eq, Bool.and_true]
    exact ⟨fun h => ⟨h1.1 h.1.symm, h3.1 h.2.symm⟩, fun h => ⟨(h1.2 h.1).symm, (h3.2 h.2).symm⟩⟩
  · have e : (b.take (min (k + 2) b.length)).drop k = [atB b (k : Int)] := by
      rw [show min (k + 2) b.length = k + 1 by omega, List.drop_take, drop_head hk, show k + 1 - k = 1 by omega]
      rfl
    rw [e, atB_out (i := ((k + 1 : Nat) : Int)) (by omega)]
    constructor
    · intro h
      exact absurd h (by simp [u8, List.isPrefixOf])
    · intro h
      exact absurd h.2 (by decide)
theorem findN_mem {s : ByteArray} {m : List (Int × Int)} : ∀ {l : List (List UInt8 × List (Int × Int))}, findN s l = some m → ∃ p, p ∈ l ∧ p.2 = m
  | [], h => by cases h
  | p :: l, h => by
    unfold findN at h
    cases hc : (bs p.1).toList == s.toList with
    | true =>
      rw [hc] at h
      exact ⟨p, List.mem_cons_self, Option.some.inj h⟩
    | false =>
      rw [hc] at h
      obtain ⟨q, h1, h2⟩ := findN_mem (l := l) h
      exact ⟨q, List.mem_cons_of_mem _ h1, h2⟩
theorem allN_len : ∀ p, p ∈ allN → p.2.length ≤ 10 := by decide
theorem nset_len {s : List UInt8} {l : List (Int × Int)} (h : nset s = some l) : l.length ≤ 10 := by
  obtain ⟨p, h1, rfl⟩ := findN_mem (show findN (bs s) allN = some l from h)
  exact allN_len p h1
theorem named_E {b : List Int} (hb : isBytes b = true) (hbl : b.length ≤ 4294967280) {k : Nat} (h1 : atB b ((k + 1 : Nat) : Int) = 58) : E C 77 [.shr 5 (b.map .int), .int .i64 (k : Int)] = some (pcP (nmS b k)) := by
  have hk : k + 2 ≤ b.length := by
    have := atB_some (b := b) (i := ((k + 1 : Nat) : Int)) (by rw [h1]; decide)
    omega
  have e2 : IntKind.i64.wrap ((k : Int) + 2) = ((k + 2 : Nat) : Int) := by rw [w64 (by omega) (by omega)]; omega
  apply o77
  rw [e2, List.length_map, dT (by omega), dT (by omega), dT (by omega), Int.toNat_natCast, Int.toNat_natCast, slice_ints, List.take_length, strOf_ints, bT (Cut_E (isBytes_drop hb _) (by rw [List.length_drop]; omega))]
  simp only [rd0, rd1, rd2, datS, datB]
  rw [bT (CutPre_E _ _)]
  simp only [rd0, rd1, datS, datB]
  unfold nmS
  cases hf : fi (b.drop (k + 2)) with
  | none =>
    rw [bT (Named_E _), nT (by rfl)]
    rfl
  | some n =>
    have hn := fi_len hf
    rw [List.length_drop] at hn
    have hb2 : isBytes ((b.drop (k + 2)).take n) = true := isBytes_take (isBytes_drop hb _) _
    have hp := pre94 hb2
    have hh := (take_head hf).trans (atB_head b (k + 2)).symm
    have hsz : ((bs (u8 ((b.drop (k + 2)).take n))).size : Int) = (n : Int) := by
      rw [bs_size, u8_len, List.length_take, List.length_drop]
      omega
    have e3 : IntKind.i64.wrap (IntKind.i64.wrap (((k + 2 : Nat) : Int) + (n : Int)) + 2) = ((k + 2 + n + 2 : Nat) : Int) := by
      rw [w64 (n := ((k + 2 : Nat) : Int) + (n : Int)) (by omega) (by omega), w64 (by omega) (by omega)]; omega
    simp only []
    rw [hsz, e3, hp]
    by_cases c : atB b ((k + 2 : Nat) : Int) = 94
    · rw [if_pos c, if_pos (by rw [decide_eq_true_eq]; exact hh.2 c), u8_drop, bT (Named_E _), nF (by rfl)]
      unfold nset
      cases hs : findN (bs (u8 (((b.drop (k + 2)).take n).drop 1))) allN with
      | none => rfl
      | some l =>
        have hl : l.length ≤ 1000 := by
          have := nset_len hs
          omega
        simp only [namedD, rd0, rd1, datB, datL]
        rw [nF rfl, cT (by rw [decide_eq_true_eq]; exact hh.2 c), bT (Not_E l (by omega))]
        simp only [pcP, partSet, nset, hs]
        rfl
    · rw [if_neg c, if_neg (by rw [decide_eq_true_eq]; exact fun e => c (hh.1 e)), bT (Named_E _), nF (by rfl)]
      unfold nset
      cases hs : findN (bs (u8 ((b.drop (k + 2)).take n))) allN with
      | none => rfl
      | some l =>
        simp only [namedD, rd0, rd1, datB, datL]
        rw [nF rfl, cF (by rw [decide_eq_false_iff_not]; exact fun e => c (hh.1 e))]
        simp only [pcP, partSet, nset, hs]
        rfl
end Go.Proofs.YtedhomemalnpfaaGreatDoor.V
