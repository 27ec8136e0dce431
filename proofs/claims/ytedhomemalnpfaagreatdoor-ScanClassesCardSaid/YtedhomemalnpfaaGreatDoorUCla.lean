/- A class: parts till the closing bracket, the program's sets and the document's parts. -/
import Derived.Test.YtedhomemalnpfaaGreatDoorUPi3
import Derived.Test.YtedhomemalnpfaaGreatDoorUClo
namespace Go.Proofs.YtedhomemalnpfaaGreatDoor.V
open Go Go.Ev Go.RowKit
set_option linter.unusedVariables false
set_option linter.unusedSimpArgs false
inductive Pa where
  | ok (p : Prt) (to : Nat)
  | err (e : Int) (at_ : Nat)
def dashB (b : List Int) (t : Nat) : Prop := atB b (t : Int) = 45 ∧ t + 1 < b.length ∧ atB b ((t + 1 : Nat) : Int) ≠ 93
instance (b : List Int) (t : Nat) : Decidable (dashB b t) := inferInstanceAs (Decidable (_ ∧ _ ∧ _))
def partS (b : List Int) (k : Nat) : Pa :=
  match pieceS b k with
  | .err e => .err e k
  | .set p to => .ok p to
  | .sym n to =>
    if dashB b to then (match pieceS b (to + 1) with
      | .err e => .err e (to + 1)
      | .set _ _ => .err 33 k
      | .sym m t2 => if m < n then .err 33 k else .ok (.rng n m) t2)
    else .ok (.rng n n) to
def partP : Pa → List Dat
  | .err e a => [.agg [.int 0, .int 0, .int 0, .str ByteArray.empty, .list []], .int e, .int (a : Int)]
  | .ok p to => [.agg [.int 2, .int (to : Int), .int 0, .str ByteArray.empty, .list (rs (partSet p))], .int 0, .int 0]
theorem part_ok {b : List Int} (hb : isBytes b = true) {k : Nat} (hk : k < b.length) : match partS b k with
    | .ok p to => wfP p ∧ k < to ∧ to ≤ b.length
    | .err e _ => e ≠ 0 := by
  have h := piece_ok hb hk
  unfold partS
  cases hp : pieceS b k with
  | err e => rw [hp] at h; exact h
  | set p to => rw [hp] at h; exact ⟨h.1, h.2.1, h.2.2.1⟩
  | sym n to =>
    rw [hp] at h
    simp only []
    by_cases hd : dashB b to
    · rw [if_pos hd]
      have h2 := piece_ok hb (show to + 1 < b.length from hd.2.1)
      cases hq : pieceS b (to + 1) with
      | err e => rw [hq] at h2; exact h2
      | set p t => show (33 : Int) ≠ 0; decide
      | sym m t2 =>
        rw [hq] at h2
        simp only []
        by_cases hm : m < n
        · rw [if_pos hm]; show (33 : Int) ≠ 0; decide
        · rw [if_neg hm]
          exact ⟨⟨h.1, h2.2.1⟩, by have := h.2.2.1; have := h2.2.2.1; omega, h2.2.2.2⟩
    · rw [if_neg hd]
      exact ⟨⟨h.1, h.2.1⟩, h.2.2.1, h.2.2.2⟩
theorem dashed_E {b : List Int} (hbl : b.length ≤ 4294967280) (t : Nat) (ht : t ≤ b.length) : E C 59 [.shr 5 (b.map .int), .int .i64 (t : Int)] = some [.bool (decide (dashB b t))] := by
  have e1 : IntKind.i64.wrap ((t : Int) + 1) = ((t + 1 : Nat) : Int) := by rw [w64 (by omega) (by omega)]; omega
  apply o59
  rw [bT (at_E b _), e1, List.length_map]
  simp only [rd0, datI]
  by_cases h1 : atB b (t : Int) = 45
  · by_cases h2 : t + 1 < b.length
    · rw [eT h1, dT (by omega), ixT ⟨by omega, by omega⟩, rdA ⟨by omega, by omega⟩]
      by_cases h3 : atB b ((t + 1 : Nat) : Int) = 93
      · rw [decide_eq_false (show ¬ dashB b t from fun h => h.2.2 h3), h3]; rfl
      · rw [decide_eq_true (show dashB b t from ⟨h1, h2, h3⟩)]
        have : (atB b ((t + 1 : Nat) : Int) != 93) = true := by simpa using h3
        rw [this]
    · rw [eT h1, dF (by omega), decide_eq_false (show ¬ dashB b t from fun h => h2 h.2.1)]
  · rw [eF h1, decide_eq_false (show ¬ dashB b t from fun h => h1 h.1)]
theorem part_E {b : List Int} (hb : isBytes b = true) (hbl : b.length ≤ 4294967280) {k : Nat} (hk : k < b.length) : E C 40 [.shr 5 (b.map .int), .int .i64 (k : Int)] = some (partP (partS b k)) := by
  have h := piece_ok hb hk
  apply o40
  rw [bT (piece_E hb hbl hk)]
  unfold partS
  cases hp : pieceS b k with
  | err e =>
    rw [hp] at h
    simp only [pcP, itemP, rd0, rd1, datI]
    rw [neT h]
    rfl
  | set p to =>
    simp only [pcP, itemP, rd0, rd1, datI, aggC0, aggC1, aggC2, aggC3, aggC4, datS, datL]
    rw [neF rfl, eT rfl]
    rfl
  | sym n to =>
    rw [hp] at h
    have e1 : IntKind.i64.wrap ((to : Int) + 1) = ((to + 1 : Nat) : Int) := by have := h.2.2.2; rw [w64 (by omega) (by omega)]; omega
    simp only [pcP, itemP, rd0, rd1, datI, aggC0, aggC1, aggC2, aggC3, aggC4, datS, datL]
    rw [neF rfl, eF (by decide), e1, bT (dashed_E hbl to h.2.2.2)]
    simp only [rd0, datB]
    by_cases hd : dashB b to
    · have h2 := piece_ok hb (show to + 1 < b.length from hd.2.1)
      rw [dT hd, if_pos hd, bT (piece_E hb hbl hd.2.1)]
      cases hq : pieceS b (to + 1) with
      | err e =>
        rw [hq] at h2
        simp only [pcP, itemP, rd0, rd1, datI]
        rw [neT h2]
        rfl
      | set p t =>
        simp only [pcP, itemP, rd0, rd1, datI, aggC0, aggC1, aggC2, aggC3, aggC4, datS, datL]
        rw [neF rfl, neT (by decide)]
        rfl
      | sym m t2 =>
        simp only [pcP, itemP, rd0, rd1, datI, aggC0, aggC1, aggC2, aggC3, aggC4, datS, datL]
        rw [neF rfl, neF rfl]
        by_cases hm : m < n
        · rw [dT hm, if_pos hm]; rfl
        · rw [dF hm, if_neg hm]; rfl
    · rw [dF hd, if_neg hd]
      rfl
inductive Cla where
  | ok (ps : List (Prt × Nat)) (to : Nat)
  | err (e : Int) (at_ : Int)
def clsL (b : List Int) (i : Int) : Nat → Nat → Bool → List (Prt × Nat) → Cla
  | 0, _, _, _ => .err 33 i
  | n + 1, k, first, acc =>
    if first = false ∧ atB b (k : Int) = 93 then .ok acc (k + 1)
    else if b.length ≤ k then .err 33 i
    else match partS b k with
      | .err e a => .err e (a : Int)
      | .ok p to => clsL b i n to false (acc ++ [(p, to)])
def setsP (ps : List (Prt × Nat)) : List (Int × Int) := ps.flatMap fun p => partSet p.1
theorem partSet_len (p : Prt) : (partSet p).length ≤ 11 := by
  cases p with
  | rng lo hi => show 1 ≤ 11; omega
  | lett c =>
    show ((ofL c).getD []).length ≤ 11
    cases h : ofL c with
    | none => show 0 ≤ 11; omega
    | some l => have := (ofL_len h).1; show l.length ≤ 11; omega
  | nam s not =>
    have h1 : ((nset s).getD []).length ≤ 10 := by
      cases h : nset s with
      | none => show 0 ≤ 10; omega
      | some l => exact nset_len h
    show (if not = true then notR ((nset s).getD []) else (nset s).getD []).length ≤ 11
    split
    · have := notR_length ((nset s).getD []); omega
    · omega
theorem setsP_len : ∀ ps : List (Prt × Nat), (setsP ps).length ≤ 11 * ps.length
  | [] => Nat.le_refl _
  | p :: ps => by
    have h1 := partSet_len p.1
    have h2 := setsP_len ps
    unfold setsP at h2 ⊢
    rw [List.flatMap_cons, List.length_append, List.length_cons]
    omega
theorem setsP_snoc (ps : List (Prt × Nat)) (p : Prt × Nat) : setsP (ps ++ [p]) = setsP ps ++ partSet p.1 := by
  unfold setsP
  rw [List.flatMap_append, List.flatMap_cons, List.flatMap_nil, List.append_nil]
def foldR (folded : Bool) (l : List (Int × Int)) : List (Int × Int) := if folded = true then closeR l else l
def turnR (not : Bool) (l : List (Int × Int)) : List (Int × Int) := if not = true then notR l else l
def setOf (ps : List (Prt × Nat)) (folded not : Bool) : List (Int × Int) := turnR not (foldR folded (mk (setsP ps)))
def claP (folded not : Bool) : Cla → List Dat
  | .err e a => [.list [], .int 0, .int e, .int a]
  | .ok ps to => [.list (rs (setOf ps folded not)), .int (to : Int), .int 0, .int 0]
theorem both {Y a r : R} {Z : List Dat → R} {c : Bool} {v : Int} (ha : a = some [.int v]) (h : Y = r) (hc : ¬ (c = false ∧ v = 93)) : (bif c then Y else a.bind fun d => bif (rd d 0).I != 93 then Y else Z d) = r := by
  cases c with
  | true => exact h
  | false =>
    rw [cF rfl, ha]
    show (bif (v != 93) then Y else Z [.int v]) = r
    rw [neT (fun e => hc ⟨rfl, e⟩)]
    exact h
theorem class_end {ps : List (Prt × Nat)} (hps : ps.length ≤ 40000) (folded not : Bool) (k : Nat) (hk : k ≤ 100000) : ((E C 41 [.shr 85 (rs (setsP ps))]).bind fun d6 => (bif folded then ((E C 42 [.shr 85 ((rd d6 0).L)]).bind fun d7 => (bif not then ((E C 43 [.shr 85 ((rd d7 0).L)]).bind fun d8 => (some [.list ((rd d8 0).L), .int (IntKind.i64.wrap ((k : Int) + 1)), .int 0, .int 0])) else (some [.list ((rd d7 0).L), .int (IntKind.i64.wrap ((k : Int) + 1)), .int 0, .int 0]))) else (bif not then ((E C 43 [.shr 85 ((rd d6 0).L)]).bind fun d9 => (some [.list ((rd d9 0).L), .int (IntKind.i64.wrap ((k : Int) + 1)), .int 0, .int 0])) else (some [.list ((rd d6 0).L), .int (IntKind.i64.wrap ((k : Int) + 1)), .int 0, .int 0])))) = some (claP folded not (.ok ps (k + 1))) := by
  have h1 := setsP_len ps
  have h2 := mk_length (setsP ps)
  have h3 := closeR_length (mk (setsP ps))
  rw [bT (Make_E _ (by omega)), w64 (by omega) (by omega)]
  simp only [rd0, datL]
  cases folded with
  | true =>
    rw [cT rfl, bT (Close_E _ (by omega))]
    simp only [rd0, datL]
    cases not with
    | true => rw [cT rfl, bT (Not_E _ (by omega))]; rfl
    | false => rfl
  | false =>
    rw [cF rfl]
    cases not with
    | true => rw [cT rfl, bT (Not_E _ (by omega))]; rfl
    | false => rfl
theorem class_loop {b : List Int} (hb : isBytes b = true) (hbl : b.length ≤ 30000) (i : Int) (folded : Bool) (v6 : List Dat) (v7 v8 v9 : Int) (not : Bool) : ∀ (n k : Nat) (first : Bool) (acc : List (Prt × Nat)), b.length < k + n → k ≤ b.length → acc.length ≤ k →
    M17_1 (b.map .int) i folded v6 v7 v8 v9 (k : Int) not (rs (setsP acc)) first = some (claP folded not (clsL b i n k first acc)) := by
  intro n
  induction n with
  | zero => intro k first acc h1 h2; omega
  | succ n ih =>
    intro k first acc h1 h2 h3
    have hcap : capB 16 = 8796093022208 := by decide
    have hs := setsP_len acc
    apply M17_1_of
    unfold clsL
    by_cases hc : first = false ∧ atB b (k : Int) = 93
    · rw [if_pos hc, hc.1, cF rfl, bT (at_E b _)]
      simp only [rd0, datI]
      rw [neF hc.2]
      exact class_end (by omega) folded not k (by omega)
    · rw [if_neg hc]
      refine both (at_E b _) ?_ hc
      rw [List.length_map]
      by_cases hk : b.length ≤ k
      · rw [dT (by omega), if_pos hk]; rfl
      · rw [dF (by omega), if_neg hk, bT (part_E hb (by omega) (by omega))]
        have hp := part_ok hb (show k < b.length by omega)
        cases hq : partS b k with
        | err e a =>
          rw [hq] at hp
          simp only [partP, rd0, rd1, rd2, datI]
          rw [neT hp]
          rfl
        | ok p to =>
          rw [hq] at hp
          have hl := partSet_len p
          simp only [partP, rd0, rd1, rd2, datI, aggC1, aggC4, datL]
          rw [neF rfl, rs_len, rs_len, hcap, dT (by omega), ← rsA, ← setsP_snoc acc (p, to)]
          exact ih to false (acc ++ [(p, to)]) (by omega) hp.2.2 (by rw [List.length_append]; simp only [List.length_cons, List.length_nil]; omega)
end Go.Proofs.YtedhomemalnpfaaGreatDoor.V
