/- What stands at a place within a class: the program's and the document's. -/
import Derived.Test.YtedhomemalnpfaaGreatDoorUEs2
import Derived.Test.YtedhomemalnpfaaGreatDoorVTSe
import Derived.Test.YtedhomemalnpfaaGreatDoorVTSt
namespace Go.Proofs.YtedhomemalnpfaaGreatDoor.V
open Go Go.Ev Go.RowKit
set_option linter.unusedVariables false
set_option linter.unusedSimpArgs false
def u8 (b : List Int) : List UInt8 := b.map fun x => UInt8.ofNat x.toNat
theorem u8_len (b : List Int) : (u8 b).length = b.length := by simp [u8]
theorem u8_take (b : List Int) (n : Nat) : (u8 b).take n = u8 (b.take n) := by simp [u8, List.map_take]
theorem u8_drop (b : List Int) (n : Nat) : (u8 b).drop n = u8 (b.drop n) := by simp [u8, List.map_drop]
theorem strOf_ints (l : List Int) : strOf (l.map .int) = bs (u8 l) := by
  unfold strOf bs u8
  rw [List.map_map]
  rfl
theorem slice_ints (b : List Int) (i j : Nat) : ((b.map Dat.int).take j).drop i = ((b.take j).drop i).map .int := by rw [← List.map_take, ← List.map_drop]
theorem bs_toList (s : List UInt8) : (bs s).toList = s := by
  rw [ByteArray.toList_eq]
  simp [bs]
theorem subS_bs (s : List UInt8) (a b : Nat) : subS (bs s) a b = bs ((s.take b).drop a) := by
  unfold subS
  apply ByteArray.ext
  rw [ByteArray.data_extract]
  unfold bs
  show s.toArray.extract a b = ((s.take b).drop a).toArray
  rw [List.extract_toArray, List.extract_eq_take_drop, List.drop_take]
theorem u8_eq {x : Int} (h : 0 ≤ x ∧ x < 256) (n : Nat) (hn : n < 256) : UInt8.ofNat x.toNat = UInt8.ofNat n ↔ x = (n : Int) := by
  constructor
  · intro e
    have := congrArg UInt8.toNat e
    rw [UInt8.toNat_ofNat', UInt8.toNat_ofNat'] at this
    omega
  · intro e
    rw [e, Int.toNat_natCast]
theorem pre_take (p s : List UInt8) : p.isPrefixOf s = (decide (p.length ≤ s.length) && (s.take p.length == p)) := by
  rw [Bool.eq_iff_iff, List.isPrefixOf_iff_prefix, List.prefix_iff_eq_take, Bool.and_eq_true, decide_eq_true_eq, beq_iff_eq]
  constructor
  · intro h
    refine ⟨?_, h.symm⟩
    have := congrArg List.length h
    rw [List.length_take] at this
    omega
  · exact fun h => h.2.symm
theorem HasPre0_E (s p : List UInt8) : E C 89 [.str (bs s), .str (bs p)] = some [.bool (p.isPrefixOf s)] := by
  apply o89
  rw [bs_size, bs_size, pre_take]
  by_cases h : p.length ≤ s.length
  · rw [dT (by omega), dT (by omega), dT (by omega), Int.toNat_natCast, subS_bs, bs_toList, bs_toList, decide_eq_true h, List.drop_zero]
    rfl
  · rw [dF (by omega), decide_eq_false h]
    rfl
theorem HasPre_E (s p : List UInt8) : E C 76 [.str (bs s), .str (bs p)] = some [.bool (p.isPrefixOf s)] := by
  apply o76
  rw [bT (HasPre0_E s p)]
  rfl
theorem CutPre_E (s p : List UInt8) : E C 91 [.str (bs s), .str (bs p)] = some [.str (if p.isPrefixOf s = true then bs (s.drop p.length) else bs s), .bool (p.isPrefixOf s)] := by
  have h0 : E C 107 [.str (bs s), .str (bs p)] = some [.str (if p.isPrefixOf s = true then bs (s.drop p.length) else bs s), .bool (p.isPrefixOf s)] := by
    apply o107
    rw [bT (HasPre0_E s p), bs_size, bs_size]
    simp only [rd0, datB]
    cases h : p.isPrefixOf s with
    | true =>
      have hl : p.length ≤ s.length := by
        rw [pre_take, Bool.and_eq_true, decide_eq_true_eq] at h
        exact h.1
      rw [nF rfl, dT (by omega), dT (by omega), dT (by omega), Int.toNat_natCast, Int.toNat_natCast, subS_bs, List.take_length, if_pos rfl]
    | false => rw [nT rfl, if_neg (by simp)]
  apply o91
  rw [bT h0]
  rfl
/-- The first place of a colon and a closing bracket. -/
def fi : List Int → Option Nat
  | [] => none
  | c :: l => if c = 58 ∧ l.head? = some 93 then some 0 else (fi l).map (· + 1)
theorem fi_len : ∀ {l : List Int} {n : Nat}, fi l = some n → n + 2 ≤ l.length
  | [], n, h => by cases h
  | c :: l, n, h => by
    unfold fi at h
    split at h
    · rename_i hc
      obtain rfl := Option.some.inj h
      cases l with
      | nil => cases hc.2
      | cons d l => simp
    · cases hf : fi l with
      | none => rw [hf] at h; cases h
      | some m =>
        rw [hf] at h
        obtain rfl := Option.some.inj h
        have := fi_len hf
        simp only [List.length_cons]
        omega
theorem index_fi : ∀ {l : List Int}, isBytes l = true → Lib.index (u8 l) [58, 93] = match fi l with | none => -1 | some n => (n : Int)
  | [], _ => rfl
  | c :: l, h => by
    have hb : isBytes l = true := by
      unfold isBytes at h ⊢
      rw [List.all_cons, Bool.and_eq_true] at h
      exact h.2
    have hc : 0 ≤ c ∧ c < 256 := by
      unfold isBytes at h
      rw [List.all_cons, Bool.and_eq_true] at h
      simpa using h.1
    have ih := index_fi hb
    show Lib.index (UInt8.ofNat c.toNat :: u8 l) [58, 93] = _
    unfold Lib.index fi
    have hp : ([58, 93] : List UInt8).isPrefixOf (UInt8.ofNat c.toNat :: u8 l) = true ↔ c = 58 ∧ l.head? = some 93 := by
      cases l with
      | nil => simp [u8, List.isPrefixOf]
      | cons d l =>
        have hd : 0 ≤ d ∧ d < 256 := by
          unfold isBytes at hb
          rw [List.all_cons, Bool.and_eq_true] at hb
          simpa using hb.1
        have e1 := u8_eq hc 58 (by decide)
        have e2 := u8_eq hd 93 (by decide)
        simp only [u8, List.map_cons, List.isPrefixOf, List.head?_cons, Option.some.injEq, Bool.and_eq_true, beq_iff_eq, Bool.and_true]
        constructor
        · rintro ⟨h1, h2⟩
          exact ⟨e1.1 h1.symm, e2.1 h2.symm⟩
        · rintro ⟨h1, h2⟩
          exact ⟨(e1.2 h1).symm, (e2.2 h2).symm⟩
    by_cases g : c = 58 ∧ l.head? = some 93
    · rw [if_pos (hp.2 g), if_pos g]
      rfl
    · rw [if_neg (fun e => g (hp.1 e)), if_neg g, ih]
      cases fi l with
      | none => rfl
      | some n =>
        rw [if_neg]
        · rfl
        · simp only [beq_iff_eq]
          omega
theorem Cut_E {l : List Int} (hb : isBytes l = true) (hl : l.length < 4294967281) : E C 90 [.str (bs (u8 l)), .str (bs [58, 93])] = some [.str (bs (u8 (match fi l with | none => l | some n => l.take n))), .str (bs (match fi l with | none => [] | some n => (u8 l).drop (n + 2))), .bool (fi l).isSome] := by
  refine E_given (h := gCut) (by kernel_rfl) ?_
  have e1 : (bs (u8 l)).data.toList = u8 l := by simp [bs]
  have e2 : (bs [58, 93]).data.toList = [58, 93] := rfl
  simp only [gCut]
  rw [bs_size, u8_len, decide_eq_true hl, cond_true, e1, e2]
  unfold Lib.cut
  rw [index_fi hb]
  cases fi l with
  | none => rfl
  | some n =>
    rw [if_pos (by show (0 : Int) ≤ (n : Int); omega)]
    simp only [Int.toNat_natCast, List.length_cons, List.length_nil, u8_take]
    rfl
inductive Prt where
  | rng (lo hi : Int)
  | lett (c : Int)
  | nam (s : List UInt8) (not : Bool)
def nset (s : List UInt8) : Option (List (Int × Int)) := findN (bs s) allN
def partSet : Prt → List (Int × Int)
  | .rng lo hi => [(lo, hi)]
  | .lett c => (ofL c).getD []
  | .nam s not => if not = true then notR ((nset s).getD []) else (nset s).getD []
inductive Pc where
  | sym (n : Int) (to : Nat)
  | set (p : Prt) (to : Nat)
  | err (e : Int)
def nmS (b : List Int) (k : Nat) : Pc :=
  match fi (b.drop (k + 2)) with
  | none => .err 33
  | some n =>
    if atB b ((k + 2 : Nat) : Int) = 94 then (match nset (u8 (((b.drop (k + 2)).take n).drop 1)) with | none => .err 33 | some _ => .set (.nam (u8 (((b.drop (k + 2)).take n).drop 1)) true) (k + 2 + n + 2))
    else (match nset (u8 ((b.drop (k + 2)).take n)) with | none => .err 33 | some _ => .set (.nam (u8 ((b.drop (k + 2)).take n)) false) (k + 2 + n + 2))
def pcE : Esc → Pc
  | .lit n to => .sym n to.toNat
  | .cls c to => .set (.lett c) to.toNat
  | .err e => .err e
  | _ => .err 0
def opensB (b : List Int) (k : Nat) : Prop := atB b (k : Int) = 91 ∧ atB b ((k + 1 : Nat) : Int) = 58
instance (b : List Int) (k : Nat) : Decidable (opensB b k) := inferInstanceAs (Decidable (_ ∧ _))
def pieceS (b : List Int) (k : Nat) : Pc :=
  if opensB b k then nmS b k
  else if atB b (k : Int) = 92 then pcE (escS b (k : Int) true)
  else .sym (symA b k).1 (k + (symA b k).2.toNat)
def pcP : Pc → List Dat
  | .sym n to => itemP 1 (to : Int) n ByteArray.empty [] 0
  | .set p to => itemP 2 (to : Int) 0 ByteArray.empty (rs (partSet p)) 0
  | .err e => itemP 0 0 0 ByteArray.empty [] e
def pcR : Pc → List Dat
  | .sym n to => itemR 1 (to : Int) n ByteArray.empty 0 0
  | .set (.nam s not) to => [.agg [.int 2, .int (to : Int), .int 0, .str (bs s), .int 0, .bool not], .int 0]
  | .set (.lett c) to => itemR 2 (to : Int) 0 ByteArray.empty c 0
  | .set _ to => []
  | .err e => itemR 0 0 0 ByteArray.empty 0 e
/-- What a backslash makes within a class, and how far it goes. -/
theorem codeS_to {b : List Int} {j : Nat} {n : Int} {to : Nat} (h : codeS b j = some (n, to)) : j < to ∧ to ≤ b.length := by
  unfold codeS at h
  split at h
  · split at h
    · cases h
    · rename_i h1 h2
      simp only [Option.some.injEq, Prod.mk.injEq] at h
      obtain ⟨_, rfl⟩ := h
      have h3 : atB b ((j + 1 + (hexG 6 (b.drop (j + 1)) 0).2 : Nat) : Int) = 125 := Classical.byContradiction fun hn => h2 (.inr (.inl hn))
      have := atB_some (b := b) (i := ((j + 1 + (hexG 6 (b.drop (j + 1)) 0).2 : Nat) : Int)) (by rw [h3]; decide)
      omega
  · split at h
    · cases h
    · simp only [Option.some.injEq, Prod.mk.injEq] at h
      obtain ⟨_, rfl⟩ := h
      have g := hexG_le 2 (b.drop j) 0
      rw [List.length_drop] at g
      omega
theorem simple_to {b : List Int} (hb : isBytes b = true) {k : Nat} {x : Esc} (h : simpleS b k = some x) : (∃ n to, x = .lit n to ∧ (k : Int) < to ∧ to ≤ (b.length : Int)) ∨ (∃ c to, x = .cls c to ∧ (k : Int) < to ∧ to ≤ (b.length : Int)) ∨ x = .err 32 := by
  have hin : atB b ((k + 1 : Nat) : Int) ≠ 0 → k + 2 ≤ b.length := fun h => by have := atB_some h; omega
  unfold simpleS at h
  split at h
  · cases hc : codeS b (k + 2) with
    | none => rw [hc] at h; exact .inr (.inr (Option.some.inj h).symm)
    | some p =>
      rw [hc] at h
      have := codeS_to hc
      exact .inl ⟨p.1, (p.2 : Int), (Option.some.inj h).symm, by omega, by omega⟩
  split at h
  · rename_i h2
    have h3 : atB b ((k + 1 : Nat) : Int) ≠ 0 := fun e => by rw [e] at h2; exact absurd h2 (by decide)
    have := hin h3
    exact .inl ⟨_, _, (Option.some.inj h).symm, by omega, by omega⟩
  split at h
  · rename_i h2
    have h3 : atB b ((k + 1 : Nat) : Int) ≠ 0 := fun e => by rw [e] at h2; exact absurd h2 (by decide)
    have := hin h3
    exact .inr (.inl ⟨_, _, (Option.some.inj h).symm, by omega, by omega⟩)
  split at h
  · cases h
  split at h
  · exact .inr (.inr (Option.some.inj h).symm)
  · have hs := symA_small hb (k + 1) (by omega)
    exact .inl ⟨_, _, (Option.some.inj h).symm, by omega, by omega⟩
theorem esc_inner {b : List Int} (hb : isBytes b = true) {k : Nat} (hk : atB b (k : Int) = 92) : (∃ n to, escS b (k : Int) true = .lit n to ∧ (k : Int) < to ∧ to ≤ (b.length : Int)) ∨ (∃ c to, escS b (k : Int) true = .cls c to ∧ (k : Int) < to ∧ to ≤ (b.length : Int)) ∨ escS b (k : Int) true = .err 32 := by
  unfold escS
  rw [if_neg (by simpa using hk), Int.toNat_natCast]
  cases hs : simpleS b k with
  | some x => exact simple_to hb hs
  | none =>
    simp only [if_true]
    by_cases h : atB b ((k + 1 : Nat) : Int) = 98
    · have := atB_some (b := b) (i := ((k + 1 : Nat) : Int)) (by rw [h]; decide)
      rw [if_pos h]
      exact .inl ⟨_, _, rfl, by omega, by omega⟩
    · rw [if_neg h]
      exact .inr (.inr rfl)
end Go.Proofs.YtedhomemalnpfaaGreatDoor.V
