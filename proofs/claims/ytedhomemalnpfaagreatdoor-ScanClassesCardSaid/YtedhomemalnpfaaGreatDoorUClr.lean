/- A class as the document reads it; which numbers its parts hold. -/
import Derived.Test.YtedhomemalnpfaaGreatDoorUCla
namespace Go.Proofs.YtedhomemalnpfaaGreatDoor.V
open Go Go.Ev Go.RowKit
set_option linter.unusedVariables false
set_option linter.unusedSimpArgs false
def prtD : Prt × Nat → Dat
  | (.rng lo hi, _) => .agg [.int lo, .int hi, .int 1, .int 0, .int 0, .str ByteArray.empty, .int 0, .bool false]
  | (.lett c, to) => .agg [.int 0, .int 0, .int 2, .int (to : Int), .int 0, .str ByteArray.empty, .int c, .bool false]
  | (.nam s not, to) => .agg [.int 0, .int 0, .int 2, .int (to : Int), .int 0, .str (bs s), .int 0, .bool not]
def claR (not : Bool) : Cla → List Dat
  | .err e a => [.list [], .bool false, .int 0, .int e, .int a]
  | .ok ps to => [.list (ps.map prtD), .bool not, .int (to : Int), .int 0, .int 0]
theorem add_one {ps : List (Prt × Nat)} {d : Dat} {X : R} {r : List Dat} (p : Prt × Nat) (hd : d = prtD p) (hl : ps.length ≤ 1000000) (hX : X = some r) : (bif decide ((ps.map prtD).length + ([d] : List Dat).length ≤ capB 64) then X else none) = some r := by
  have hcap : capB 64 = 2199023255552 := by decide
  rw [List.length_map, hcap, dT (by simp only [List.length_cons, List.length_nil]; omega), hX]
theorem map_one (ps : List (Prt × Nat)) (p : Prt × Nat) : ps.map prtD ++ [prtD p] = (ps ++ [p]).map prtD := by rw [List.map_append]; rfl
theorem classR_loop {b : List Int} (hb : isBytes b = true) (hbl : b.length ≤ 30000) (i : Int) (v4 : List Dat) (v5 : Bool) (v6 v7 v8 : Int) (not : Bool) (st : Nat) : ∀ (n k : Nat) (acc : List (Prt × Nat)), b.length < k + n → k ≤ b.length → acc.length ≤ k → st ≤ k →
    M18_1 (b.map .int) i v4 v5 v6 v7 v8 (k : Int) not (acc.map prtD) (st : Int) = some (claR not (clsL b i n k ((k : Int) == (st : Int)) acc)) := by
  intro n
  induction n with
  | zero => intro k acc h1 h2; omega
  | succ n ih =>
    intro k acc h1 h2 h3 h4
    have ih2 : ∀ (p : Prt × Nat), k < p.2 → p.2 ≤ b.length → M18_1 (b.map .int) i v4 v5 v6 v7 v8 (p.2 : Int) not (acc.map prtD ++ [prtD p]) (st : Int) = some (claR not (clsL b i n p.2 false (acc ++ [p]))) := by
      intro p hp1 hp2
      have hf : ((p.2 : Int) == (st : Int)) = false := by
        rw [beq_eq_false_iff_ne]
        omega
      rw [map_one, ih p.2 (acc ++ [p]) (by omega) hp2 (by rw [List.length_append]; simp only [List.length_cons, List.length_nil]; omega) (by omega), hf]
    apply M18_1_of
    unfold clsL
    by_cases hc : ((k : Int) == (st : Int)) = false ∧ atB b (k : Int) = 93
    · rw [if_pos hc, hc.1, cF rfl, bT (at2_E b _)]
      simp only [rd0, datI]
      rw [neF hc.2, w64 (by omega) (by omega)]
      rfl
    · rw [if_neg hc]
      refine both (at2_E b _) ?_ hc
      rw [List.length_map]
      by_cases hk : b.length ≤ k
      · rw [dT (by omega), if_pos hk]; rfl
      · rw [dF (by omega), if_neg hk, bT (pieceR_E hb (by omega) (by omega))]
        have hp := piece_ok hb (show k < b.length by omega)
        unfold partS
        cases hq : pieceS b k with
        | err e =>
          rw [hq] at hp
          simp only [pcR, itemR, rd0, rd1, datI]
          rw [neT hp]
          rfl
        | set p to =>
          rw [hq] at hp
          cases p with
          | rng lo hi => exact absurd rfl (hp.2.2.2 lo hi)
          | lett c =>
            simp only [pcR, itemR, rd0, rd1, datI, aggC0, aggC1, aggC2, aggC3, aggC4, aggC5, datS, datB]
            rw [neF rfl, eF (by decide)]
            exact add_one (.lett c, to) rfl (by omega) (ih2 (.lett c, to) hp.2.1 hp.2.2.1)
          | nam s nt =>
            simp only [pcR, itemR, rd0, rd1, datI, aggC0, aggC1, aggC2, aggC3, aggC4, aggC5, datS, datB]
            rw [neF rfl, eF (by decide)]
            exact add_one (.nam s nt, to) rfl (by omega) (ih2 (.nam s nt, to) hp.2.1 hp.2.2.1)
        | sym n1 to =>
          rw [hq] at hp
          have e1 : IntKind.i64.wrap ((to : Int) + 1) = ((to + 1 : Nat) : Int) := by have := hp.2.2.2; rw [w64 (by omega) (by omega)]; omega
          simp only [pcR, itemR, rd0, rd1, datI, aggC0, aggC1, aggC2, aggC3, aggC4, aggC5, datS, datB]
          rw [neF rfl, eT rfl, bT (at2_E b _), e1]
          simp only [rd0, datI]
          by_cases hd : dashB b to
          · have h2 := piece_ok hb (show to + 1 < b.length from hd.2.1)
            have hd1 := hd.1
            have hd2 := hd.2.1
            rw [if_pos hd, eT hd1, dT (by omega), ixT ⟨by omega, by omega⟩, rdA ⟨by omega, by omega⟩, neT hd.2.2, bT (pieceR_E hb (by omega) hd2)]
            cases hq2 : pieceS b (to + 1) with
            | err e =>
              rw [hq2] at h2
              simp only [pcR, itemR, rd0, rd1, datI]
              rw [neT h2]
              rfl
            | set p t =>
              rw [hq2] at h2
              cases p with
              | rng lo hi => exact absurd rfl (h2.2.2.2 lo hi)
              | lett c =>
                simp only [pcR, itemR, rd0, rd1, datI, aggC0, aggC1, aggC2, aggC3, aggC4, aggC5, datS, datB]
                rw [neF rfl, neT (by decide)]
                rfl
              | nam s nt =>
                simp only [pcR, itemR, rd0, rd1, datI, aggC0, aggC1, aggC2, aggC3, aggC4, aggC5, datS, datB]
                rw [neF rfl, neT (by decide)]
                rfl
            | sym m t2 =>
              rw [hq2] at h2
              simp only [pcR, itemR, rd0, rd1, datI, aggC0, aggC1, aggC2, aggC3, aggC4, aggC5, datS, datB]
              rw [neF rfl, neF rfl]
              by_cases hm : m < n1
              · rw [dT hm, if_pos hm]; rfl
              · rw [dF hm, if_neg hm]
                have := hp.2.2.1
                have := h2.2.2.1
                exact add_one (.rng n1 m, t2) rfl (by omega) (ih2 (.rng n1 m, t2) (by show k < t2; omega) h2.2.2.2)
          · have fin := add_one (ps := acc) (.rng n1 n1, to) rfl (by omega) (ih2 (.rng n1 n1, to) hp.2.2.1 hp.2.2.2)
            rw [if_neg hd]
            by_cases hd1 : atB b (to : Int) = 45
            · by_cases hd2 : to + 1 < b.length
              · rw [eT hd1, dT (by omega), ixT ⟨by omega, by omega⟩, rdA ⟨by omega, by omega⟩, neF (Classical.byContradiction fun h => hd ⟨hd1, hd2, h⟩)]
                exact fin
              · rw [eT hd1, dF (by omega)]
                exact fin
            · rw [eF hd1]
              exact fin
/-- A class, whole. -/
def stS (b : List Int) (i : Int) : Nat := if atB b ((i.toNat + 1 : Nat) : Int) = 94 then i.toNat + 2 else i.toNat + 1
def notS (b : List Int) (i : Int) : Bool := atB b ((i.toNat + 1 : Nat) : Int) == 94
def classS (b : List Int) (i : Int) : Cla := if atB b i ≠ 91 then .err 10 0 else clsL b i (b.length + 1) (stS b i) true []
theorem st_le {b : List Int} {i : Int} (h : atB b i = 91) : stS b i ≤ b.length := by
  have h1 := atB_some (b := b) (i := i) (by rw [h]; decide)
  unfold stS
  split
  · rename_i h2
    have := atB_some (b := b) (i := ((i.toNat + 1 : Nat) : Int)) (by rw [h2]; decide)
    omega
  · omega
theorem Class_E {b : List Int} (hb : isBytes b = true) (hbl : b.length ≤ 30000) (i : Int) (folded : Bool) : E C 17 [.shr 5 (b.map .int), .int .i64 i, .bool folded] = some (claP folded (notS b i) (classS b i)) := by
  apply o17
  rw [bT (at_E b _)]
  simp only [rd0, datI]
  unfold classS
  by_cases h : atB b i = 91
  · have h1 := atB_some (b := b) (i := i) (by rw [h]; decide)
    have hst := st_le h
    have e1 : IntKind.i64.wrap (i + 1) = ((i.toNat + 1 : Nat) : Int) := by rw [w64 (by omega) (by omega)]; omega
    have e2 : IntKind.i64.wrap (((i.toNat + 1 : Nat) : Int) + 1) = ((i.toNat + 2 : Nat) : Int) := by rw [w64 (by omega) (by omega)]; omega
    rw [neF h, if_neg (by simpa using h), e1, e2, bT (at_E b _)]
    simp only [rd0, datI]
    unfold stS notS at *
    by_cases h2 : atB b ((i.toNat + 1 : Nat) : Int) = 94
    · rw [eT h2, if_pos h2]
      rw [if_pos h2] at hst
      exact class_loop hb hbl i folded [] 0 0 0 _ (b.length + 1) (i.toNat + 2) true [] (by omega) hst (by exact Nat.zero_le _)
    · rw [eF h2, if_neg h2]
      rw [if_neg h2] at hst
      exact class_loop hb hbl i folded [] 0 0 0 _ (b.length + 1) (i.toNat + 1) true [] (by omega) hst (by exact Nat.zero_le _)
  · rw [neT h, if_pos h]
    rfl
theorem ClassR_E {b : List Int} (hb : isBytes b = true) (hbl : b.length ≤ 30000) (i : Int) : E C 18 [.shr 5 (b.map .int), .int .i64 i] = some (claR (notS b i) (classS b i)) := by
  apply o18
  rw [bT (at2_E b _)]
  simp only [rd0, datI]
  unfold classS
  by_cases h : atB b i = 91
  · have h1 := atB_some (b := b) (i := i) (by rw [h]; decide)
    have hst := st_le h
    have e1 : IntKind.i64.wrap (i + 1) = ((i.toNat + 1 : Nat) : Int) := by rw [w64 (by omega) (by omega)]; omega
    have e2 : IntKind.i64.wrap (((i.toNat + 1 : Nat) : Int) + 1) = ((i.toNat + 2 : Nat) : Int) := by rw [w64 (by omega) (by omega)]; omega
    rw [neF h, if_neg (by simpa using h), e1, e2, bT (at2_E b _)]
    simp only [rd0, datI]
    unfold stS notS at *
    by_cases h2 : atB b ((i.toNat + 1 : Nat) : Int) = 94
    · rw [eT h2, if_pos h2]
      rw [if_pos h2] at hst
      have g := classR_loop hb hbl i [] false 0 0 0 (atB b ((i.toNat + 1 : Nat) : Int) == 94) (i.toNat + 2) (b.length + 1) (i.toNat + 2) [] (by omega) hst (Nat.zero_le _) (Nat.le_refl _)
      rw [beq_self_eq_true] at g
      exact g
    · rw [eF h2, if_neg h2]
      rw [if_neg h2] at hst
      have g := classR_loop hb hbl i [] false 0 0 0 (atB b ((i.toNat + 1 : Nat) : Int) == 94) (i.toNat + 1) (b.length + 1) (i.toNat + 1) [] (by omega) hst (Nat.zero_le _) (Nat.le_refl _)
      rw [beq_self_eq_true] at g
      exact g
  · rw [neT h, if_pos h]
    rfl
theorem cls_ok {b : List Int} (hb : isBytes b = true) (i : Int) : ∀ (n k : Nat) (first : Bool) (acc : List (Prt × Nat)), k ≤ b.length → acc.length ≤ k → (∀ p, p ∈ acc → wfP p.1) → match clsL b i n k first acc with
    | .err e _ => e ≠ 0
    | .ok ps _ => ps.length ≤ b.length ∧ ∀ p, p ∈ ps → wfP p.1
  | 0, _, _, _, _, _, _ => by show (33 : Int) ≠ 0; decide
  | n + 1, k, first, acc, h1, h2, h3 => by
    unfold clsL
    by_cases hc : first = false ∧ atB b (k : Int) = 93
    · rw [if_pos hc]
      exact ⟨by omega, h3⟩
    · rw [if_neg hc]
      by_cases hk : b.length ≤ k
      · rw [if_pos hk]; show (33 : Int) ≠ 0; decide
      · rw [if_neg hk]
        have hp := part_ok hb (show k < b.length by omega)
        cases hq : partS b k with
        | err e a => rw [hq] at hp; exact hp
        | ok p to =>
          rw [hq] at hp
          refine cls_ok hb i n to false (acc ++ [(p, to)]) hp.2.2 (by rw [List.length_append]; simp only [List.length_cons, List.length_nil]; omega) ?_
          intro q hq2
          rw [List.mem_append, List.mem_singleton] at hq2
          cases hq2 with
          | inl hq2 => exact h3 q hq2
          | inr hq2 => rw [hq2]; exact hp.1
theorem classS_ok {b : List Int} (hb : isBytes b = true) (i : Int) : match classS b i with
    | .err e _ => e ≠ 0
    | .ok ps _ => ps.length ≤ b.length ∧ ∀ p, p ∈ ps → wfP p.1 := by
  unfold classS
  by_cases h : atB b i = 91
  · rw [if_neg (by simpa using h)]
    exact cls_ok hb i _ _ _ [] (st_le h) (Nat.zero_le _) (fun p hp => by cases hp)
  · rw [if_pos h]
    show (10 : Int) ≠ 0
    decide
end Go.Proofs.YtedhomemalnpfaaGreatDoor.V
