/- What a backslash makes: the program's and the document's. -/
import Derived.Test.YtedhomemalnpfaaGreatDoorUCod
import Derived.Test.YtedhomemalnpfaaGreatDoorUNam
import Derived.Test.YtedhomemalnpfaaGreatDoorUSym
import Derived.Test.YtedhomemalnpfaaGreatDoorUCls
namespace Go.Proofs.YtedhomemalnpfaaGreatDoor.V
open Go Go.Ev Go.RowKit
set_option linter.unusedVariables false
set_option linter.unusedSimpArgs false
/-- What a backslash makes. -/
inductive Esc where
  | lit (n to : Int)
  | cls (c to : Int)
  | hld (n to : Int)
  | ref (n to : Int)
  | key (s : ByteArray) (to : Int)
  | err (e : Int)
def progD : Esc → List Dat
  | .lit n to => itemP 1 to n ByteArray.empty [] 0
  | .cls c to => itemP 2 to 0 ByteArray.empty (rs ((ofL c).getD [])) 0
  | .hld n to => itemP 3 to n ByteArray.empty [] 0
  | .ref n to => itemP 4 to n ByteArray.empty [] 0
  | .key s to => itemP 5 to 0 s [] 0
  | .err e => itemP 0 0 0 ByteArray.empty [] e
def refD : Esc → List Dat
  | .lit n to => itemR 1 to n ByteArray.empty 0 0
  | .cls c to => itemR 2 to 0 ByteArray.empty c 0
  | .hld n to => itemR 3 to n ByteArray.empty 0 0
  | .ref n to => itemR 4 to n ByteArray.empty 0 0
  | .key s to => itemR 5 to 0 s 0 0
  | .err e => itemR 0 0 0 ByteArray.empty 0 e
def simD : Option Esc → List Dat
  | none => [.agg [.int 0, .int 0, .int 0, .str ByteArray.empty, .list []], .bool false, .int 0]
  | some x => [rd (progD x) 0, .bool true, rd (progD x) 1]
def ctrl (c : Int) : Int := if c = 110 then 10 else if c = 116 then 9 else if c = 114 then 13 else if c = 102 then 12 else if c = 118 then 11 else if c = 97 then 7 else if c = 101 then 27 else -1
def heldV (c : Int) : Int := if c = 65 then 1 else if c = 90 then 2 else if c = 122 then 3 else if c = 98 then 6 else if c = 66 then 7 else 0
theorem control_E (c : Int) : E C 51 [.int .u8 c] = some [.int (ctrl c)] := by
  apply o51
  unfold ctrl
  by_cases h0 : c = 110
  · rw [eT h0, if_pos h0]
  rw [eF h0, if_neg h0]
  by_cases h1 : c = 116
  · rw [eT h1, if_pos h1]
  rw [eF h1, if_neg h1]
  by_cases h2 : c = 114
  · rw [eT h2, if_pos h2]
  rw [eF h2, if_neg h2]
  by_cases h3 : c = 102
  · rw [eT h3, if_pos h3]
  rw [eF h3, if_neg h3]
  by_cases h4 : c = 118
  · rw [eT h4, if_pos h4]
  rw [eF h4, if_neg h4]
  by_cases h5 : c = 97
  · rw [eT h5, if_pos h5]
  rw [eF h5, if_neg h5]
  by_cases h6 : c = 101
  · rw [eT h6, if_pos h6]
  rw [eF h6, if_neg h6]
theorem held_E (c : Int) : E C 35 [.int .u8 c] = some [.int (heldV c)] := by
  apply o35
  unfold heldV
  by_cases h0 : c = 65
  · rw [eT h0, if_pos h0]
  rw [eF h0, if_neg h0]
  by_cases h1 : c = 90
  · rw [eT h1, if_pos h1]
  rw [eF h1, if_neg h1]
  by_cases h2 : c = 122
  · rw [eT h2, if_pos h2]
  rw [eF h2, if_neg h2]
  by_cases h3 : c = 98
  · rw [eT h3, if_pos h3]
  rw [eF h3, if_neg h3]
  by_cases h4 : c = 66
  · rw [eT h4, if_pos h4]
  rw [eF h4, if_neg h4]
theorem ctl_find (c : Int) : (findI (nats [110, 116, 114, 102, 118, 97, 101]) c 0 ≥ 0 ↔ ctrl c ≥ 0) ∧ (ctrl c ≥ 0 → findI (nats [110, 116, 114, 102, 118, 97, 101]) c 0 < 7 ∧ (rd tab77e450 (findI (nats [110, 116, 114, 102, 118, 97, 101]) c 0).toNat).I = ctrl c) := by
  by_cases h0 : c = 110
  · subst h0; exact ⟨by decide, fun _ => ⟨by decide, rfl⟩⟩
  by_cases h1 : c = 116
  · subst h1; exact ⟨by decide, fun _ => ⟨by decide, rfl⟩⟩
  by_cases h2 : c = 114
  · subst h2; exact ⟨by decide, fun _ => ⟨by decide, rfl⟩⟩
  by_cases h3 : c = 102
  · subst h3; exact ⟨by decide, fun _ => ⟨by decide, rfl⟩⟩
  by_cases h4 : c = 118
  · subst h4; exact ⟨by decide, fun _ => ⟨by decide, rfl⟩⟩
  by_cases h5 : c = 97
  · subst h5; exact ⟨by decide, fun _ => ⟨by decide, rfl⟩⟩
  by_cases h6 : c = 101
  · subst h6; exact ⟨by decide, fun _ => ⟨by decide, rfl⟩⟩
  have e1 : findI (nats [110, 116, 114, 102, 118, 97, 101]) c 0 = -1 := by
    show findI [110, 116, 114, 102, 118, 97, 101] c 0 = -1
    simp only [findI]
    rw [if_neg (fun e => h0 e.symm), if_neg (fun e => h1 e.symm), if_neg (fun e => h2 e.symm), if_neg (fun e => h3 e.symm), if_neg (fun e => h4 e.symm), if_neg (fun e => h5 e.symm), if_neg (fun e => h6 e.symm)]
  have e2 : ctrl c = -1 := by
    unfold ctrl
    rw [if_neg h0, if_neg h1, if_neg h2, if_neg h3, if_neg h4, if_neg h5, if_neg h6]
  rw [e1, e2]
  exact ⟨by omega, fun h => by omega⟩
theorem hld_find (c : Int) : (findI (nats [65, 90, 122, 98, 66]) c 0 ≥ 0 ↔ heldV c > 0) ∧ (heldV c > 0 → findI (nats [65, 90, 122, 98, 66]) c 0 < 5 ∧ (rd tabb9f14c (findI (nats [65, 90, 122, 98, 66]) c 0).toNat).I = heldV c) := by
  by_cases h0 : c = 65
  · subst h0; exact ⟨by decide, fun _ => ⟨by decide, rfl⟩⟩
  by_cases h1 : c = 90
  · subst h1; exact ⟨by decide, fun _ => ⟨by decide, rfl⟩⟩
  by_cases h2 : c = 122
  · subst h2; exact ⟨by decide, fun _ => ⟨by decide, rfl⟩⟩
  by_cases h3 : c = 98
  · subst h3; exact ⟨by decide, fun _ => ⟨by decide, rfl⟩⟩
  by_cases h4 : c = 66
  · subst h4; exact ⟨by decide, fun _ => ⟨by decide, rfl⟩⟩
  have e1 : findI (nats [65, 90, 122, 98, 66]) c 0 = -1 := by
    show findI [65, 90, 122, 98, 66] c 0 = -1
    simp only [findI]
    rw [if_neg (fun e => h0 e.symm), if_neg (fun e => h1 e.symm), if_neg (fun e => h2 e.symm), if_neg (fun e => h3 e.symm), if_neg (fun e => h4 e.symm)]
  have e2 : heldV c = 0 := by
    unfold heldV
    rw [if_neg h0, if_neg h1, if_neg h2, if_neg h3, if_neg h4]
  rw [e1, e2]
  exact ⟨by omega, fun h => by omega⟩
theorem cls_find (c : Int) : findI (nats [100, 119, 115, 68, 87, 83]) c 0 ≥ 0 ↔ (ofL c).isSome = true := by
  by_cases h0 : c = 100
  · subst h0; exact ⟨fun _ => rfl, fun _ => by decide⟩
  by_cases h1 : c = 119
  · subst h1; exact ⟨fun _ => rfl, fun _ => by decide⟩
  by_cases h2 : c = 115
  · subst h2; exact ⟨fun _ => rfl, fun _ => by decide⟩
  by_cases h3 : c = 68
  · subst h3; exact ⟨fun _ => rfl, fun _ => by decide⟩
  by_cases h4 : c = 87
  · subst h4; exact ⟨fun _ => rfl, fun _ => by decide⟩
  by_cases h5 : c = 83
  · subst h5; exact ⟨fun _ => rfl, fun _ => by decide⟩
  have e1 : findI (nats [100, 119, 115, 68, 87, 83]) c 0 = -1 := by
    show findI [100, 119, 115, 68, 87, 83] c 0 = -1
    simp only [findI]
    rw [if_neg (fun e => h0 e.symm), if_neg (fun e => h1 e.symm), if_neg (fun e => h2 e.symm), if_neg (fun e => h3 e.symm), if_neg (fun e => h4 e.symm), if_neg (fun e => h5 e.symm)]
  have e2 : ofL c = none := by
    unfold ofL
    rw [if_neg h0, if_neg h1, if_neg h2, if_neg h3, if_neg h4, if_neg h5]
  rw [e1, e2]
  exact ⟨fun h => by omega, fun h => by cases h⟩
/-- What is alike beside classes and within them. -/
def simpleS (b : List Int) (i : Nat) : Option Esc :=
  if atB b ((i + 1 : Nat) : Int) = 120 then some (match codeS b (i + 2) with | none => .err 32 | some p => .lit p.1 (p.2 : Int))
  else if ctrl (atB b ((i + 1 : Nat) : Int)) ≥ 0 then some (.lit (ctrl (atB b ((i + 1 : Nat) : Int))) ((i + 2 : Nat) : Int))
  else if (ofL (atB b ((i + 1 : Nat) : Int))).isSome = true then some (.cls (atB b ((i + 1 : Nat) : Int)) ((i + 2 : Nat) : Int))
  else if letB (atB b ((i + 1 : Nat) : Int)) = true ∨ digB (atB b ((i + 1 : Nat) : Int)) = true then none
  else if b.length ≤ i + 1 then some (.err 32)
  else some (.lit (symA b (i + 1)).1 (((i + 1 : Nat) : Int) + (symA b (i + 1)).2))
def keyS (l : List Dat) : Esc := if (rd l 2).I ≠ 0 then .err (rd l 2).I else .key (rd l 0).S (rd l 1).I
def restS (b : List Int) (i : Nat) : Esc :=
  if heldV (atB b ((i + 1 : Nat) : Int)) > 0 then .hld (heldV (atB b ((i + 1 : Nat) : Int))) ((i + 2 : Nat) : Int)
  else if 49 ≤ atB b ((i + 1 : Nat) : Int) ∧ atB b ((i + 1 : Nat) : Int) ≤ 57 then
    if digB (atB b ((i + 2 : Nat) : Int)) = true then .ref ((atB b ((i + 1 : Nat) : Int) - 48) * 10 + (atB b ((i + 2 : Nat) : Int) - 48)) ((i + 3 : Nat) : Int)
    else .ref (atB b ((i + 1 : Nat) : Int) - 48) ((i + 2 : Nat) : Int)
  else if atB b ((i + 1 : Nat) : Int) ≠ 107 then .err 32
  else if atB b ((i + 2 : Nat) : Int) ≠ 60 then .err 36
  else keyS (nameR b ((i + 3 : Nat) : Int))
def escS (b : List Int) (i : Int) (inner : Bool) : Esc :=
  if atB b i ≠ 92 then .err 10
  else match simpleS b i.toNat with
    | some x => x
    | none => if inner = true then (if atB b ((i.toNat + 1 : Nat) : Int) = 98 then .lit 8 ((i.toNat + 2 : Nat) : Int) else .err 32) else restS b i.toNat
theorem simple_E {b : List Int} (hb : isBytes b = true) (hbl : b.length ≤ 140737488351232) (i : Nat) (hi : i < b.length) : E C 34 [.shr 5 (b.map .int), .int .i64 (i : Int)] = some (simD (simpleS b i)) := by
  have e1 : IntKind.i64.wrap ((i : Int) + 1) = ((i + 1 : Nat) : Int) := by rw [w64 (by omega) (by omega)]; omega
  have e2 : IntKind.i64.wrap ((i : Int) + 2) = ((i + 2 : Nat) : Int) := by rw [w64 (by omega) (by omega)]; omega
  apply o34
  rw [e1, e2, bT (at_E b _)]
  simp only [rd0, datI]
  unfold simpleS
  by_cases c1 : atB b ((i + 1 : Nat) : Int) = 120
  · rw [eT c1, if_pos c1, bT (code_E b hbl (i + 2) (by omega))]
    cases codeS b (i + 2) <;> rfl
  rw [eF c1, if_neg c1, bT (control_E _)]
  simp only [rd0, datI]
  by_cases c2 : ctrl (atB b ((i + 1 : Nat) : Int)) ≥ 0
  · rw [dT c2, if_pos c2]; rfl
  rw [dF c2, if_neg c2, bT (Of_E _)]
  cases h3 : ofL (atB b ((i + 1 : Nat) : Int)) with
  | some l =>
    rw [if_pos (show (some l).isSome = true from rfl)]
    show (some [_, _, _] : R) = some [_, _, _]
    simp only [namedD, rd0, rd1, datL, progD, itemP, h3, Option.getD_some]
  | none =>
    rw [if_neg (show ¬ (none : Option (List (Int × Int))).isSome = true by simp)]
    simp only [namedD, rd1, datB]
    rw [cF rfl, bT (letter_E _)]
    simp only [rd0, datB]
    cases h4 : letB (atB b ((i + 1 : Nat) : Int)) with
    | true => rw [cT rfl, if_pos (.inl rfl)]; rfl
    | false =>
      rw [cF rfl, bT (digit_E _)]
      simp only [rd0, datB]
      cases h5 : digB (atB b ((i + 1 : Nat) : Int)) with
      | true => rw [cT rfl, if_pos (.inr rfl)]; rfl
      | false =>
        rw [cF rfl, if_neg (by simp), bT (At_E b hb hbl _)]
        simp only [rd0, rd1, datI]
        unfold symR
        by_cases c6 : b.length ≤ i + 1
        · rw [if_neg (by omega), eT rfl, if_pos c6]; rfl
        · have hs := symA_small hb (i + 1) (by omega)
          rw [if_pos (by omega), Int.toNat_natCast, eF (by omega), if_neg c6, w64 (by omega) (by omega)]
          rfl
theorem rest_P {b : List Int} (hb : isBytes b = true) (hbl : b.length ≤ 140737488351232) (i : Nat) (hi : i < b.length) : ((E C 35 [.int .u8 (atB b ((i + 1 : Nat) : Int))]).bind fun d4 => (bif decide (((rd d4 0).I) > 0) then (some [.agg [.int 3, .int ((i + 2 : Nat) : Int), .int ((rd d4 0).I), .str ByteArray.empty, .list ([] : List Dat)], .int 0]) else (bif decide ((atB b ((i + 1 : Nat) : Int)) ≥ 49) then (bif decide ((atB b ((i + 1 : Nat) : Int)) ≤ 57) then ((E C 26 [.shr 5 (b.map .int), .int .i64 ((i + 2 : Nat) : Int)]).bind fun d5 => ((E C 28 [.int .u8 ((rd d5 0).I)]).bind fun d6 => (bif (rd d6 0).B then (some [.agg [.int 4, .int (IntKind.i64.wrap (((i + 2 : Nat) : Int) + 1)), .int (IntKind.i64.wrap ((IntKind.i64.wrap ((IntKind.i64.wrap (IntKind.u8.wrap ((atB b ((i + 1 : Nat) : Int)) - 48))) * 10)) + (IntKind.i64.wrap (IntKind.u8.wrap (((rd d5 0).I) - 48))))), .str ByteArray.empty, .list ([] : List Dat)], .int 0]) else (some [.agg [.int 4, .int ((i + 2 : Nat) : Int), .int (IntKind.i64.wrap (IntKind.u8.wrap ((atB b ((i + 1 : Nat) : Int)) - 48))), .str ByteArray.empty, .list ([] : List Dat)], .int 0])))) else (bif (atB b ((i + 1 : Nat) : Int)) != 107 then (some [.agg [.int 0, .int 0, .int 0, .str ByteArray.empty, .list ([] : List Dat)], .int 32]) else ((E C 26 [.shr 5 (b.map .int), .int .i64 ((i + 2 : Nat) : Int)]).bind fun d7 => (bif ((rd d7 0).I) != 60 then (some [.agg [.int 0, .int 0, .int 0, .str ByteArray.empty, .list ([] : List Dat)], .int 36]) else ((E C 9 [.shr 5 (b.map .int), .int .i64 ((i + 3 : Nat) : Int)]).bind fun d8 => (bif ((rd d8 2).I) != 0 then (some [.agg [.int 0, .int 0, .int 0, .str ByteArray.empty, .list ([] : List Dat)], .int ((rd d8 2).I)]) else (some [.agg [.int 5, .int ((rd d8 1).I), .int 0, .str ((rd d8 0).S), .list ([] : List Dat)], .int 0]))))))) else (bif (atB b ((i + 1 : Nat) : Int)) != 107 then (some [.agg [.int 0, .int 0, .int 0, .str ByteArray.empty, .list ([] : List Dat)], .int 32]) else ((E C 26 [.shr 5 (b.map .int), .int .i64 ((i + 2 : Nat) : Int)]).bind fun d7 => (bif ((rd d7 0).I) != 60 then (some [.agg [.int 0, .int 0, .int 0, .str ByteArray.empty, .list ([] : List Dat)], .int 36]) else ((E C 9 [.shr 5 (b.map .int), .int .i64 ((i + 3 : Nat) : Int)]).bind fun d8 => (bif ((rd d8 2).I) != 0 then (some [.agg [.int 0, .int 0, .int 0, .str ByteArray.empty, .list ([] : List Dat)], .int ((rd d8 2).I)]) else (some [.agg [.int 5, .int ((rd d8 1).I), .int 0, .str ((rd d8 0).S), .list ([] : List Dat)], .int 0]))))))))) = some (progD (restS b i)) := by
  have hc := atB_byte hb ((i + 1 : Nat) : Int)
  have hd := atB_byte hb ((i + 2 : Nat) : Int)
  have keyT : ¬ (49 ≤ atB b ((i + 1 : Nat) : Int) ∧ atB b ((i + 1 : Nat) : Int) ≤ 57) → ¬ heldV (atB b ((i + 1 : Nat) : Int)) > 0 → (bif (atB b ((i + 1 : Nat) : Int)) != 107 then (some [.agg [.int 0, .int 0, .int 0, .str ByteArray.empty, .list ([] : List Dat)], .int 32]) else ((E C 26 [.shr 5 (b.map .int), .int .i64 ((i + 2 : Nat) : Int)]).bind fun d7 => (bif ((rd d7 0).I) != 60 then (some [.agg [.int 0, .int 0, .int 0, .str ByteArray.empty, .list ([] : List Dat)], .int 36]) else ((E C 9 [.shr 5 (b.map .int), .int .i64 ((i + 3 : Nat) : Int)]).bind fun d8 => (bif ((rd d8 2).I) != 0 then (some [.agg [.int 0, .int 0, .int 0, .str ByteArray.empty, .list ([] : List Dat)], .int ((rd d8 2).I)]) else (some [.agg [.int 5, .int ((rd d8 1).I), .int 0, .str ((rd d8 0).S), .list ([] : List Dat)], .int 0]))))) : R) = some (progD (restS b i)) := fun g1 g2 => by
    unfold restS
    rw [if_neg g2, if_neg g1]
    by_cases c3 : atB b ((i + 1 : Nat) : Int) = 107
    · rw [neF c3, if_neg (by simpa using c3), bT (at_E b _)]
      simp only [rd0, datI]
      by_cases c4 : atB b ((i + 2 : Nat) : Int) = 60
      · rw [neF c4, if_neg (by simpa using c4), bT (Name_E b hbl _ ⟨by omega, by omega⟩)]
        unfold keyS
        by_cases c5 : (rd (nameR b ((i + 3 : Nat) : Int)) 2).I = 0
        · rw [neF c5, if_neg (by simpa using c5)]; rfl
        · rw [neT c5, if_pos c5]; rfl
      · rw [neT c4, if_pos c4]; rfl
    · rw [neT c3, if_pos c3]; rfl
  rw [bT (held_E _)]
  simp only [rd0, datI]
  by_cases c1 : heldV (atB b ((i + 1 : Nat) : Int)) > 0
  · unfold restS
    rw [dT c1, if_pos c1]; rfl
  rw [dF c1]
  by_cases c2 : atB b ((i + 1 : Nat) : Int) ≥ 49
  · rw [dT c2]
    by_cases c3 : atB b ((i + 1 : Nat) : Int) ≤ 57
    · unfold restS
      rw [dT c3, if_neg c1, if_pos ⟨c2, c3⟩, bT (at_E b _)]
      simp only [rd0, datI]
      rw [bT (digit_E _)]
      simp only [rd0, datB]
      rw [w8 (n := atB b ((i + 1 : Nat) : Int) - 48) (by omega) (by omega), w64 (n := atB b ((i + 1 : Nat) : Int) - 48) (by omega) (by omega), w64 (n := (atB b ((i + 1 : Nat) : Int) - 48) * 10) (by omega) (by omega)]
      cases h4 : digB (atB b ((i + 2 : Nat) : Int)) with
      | true =>
        have h4' := digB_iff.1 h4
        rw [cT rfl, if_pos rfl, w8 (n := atB b ((i + 2 : Nat) : Int) - 48) (by omega) (by omega), w64 (n := atB b ((i + 2 : Nat) : Int) - 48) (by omega) (by omega), w64 (n := (atB b ((i + 1 : Nat) : Int) - 48) * 10 + (atB b ((i + 2 : Nat) : Int) - 48)) (by omega) (by omega), w64 (n := ((i + 2 : Nat) : Int) + 1) (by omega) (by omega)]
        rfl
      | false => rw [cF rfl, if_neg (by simp)]; rfl
    · rw [dF c3]
      exact keyT (by omega) c1
  · rw [dF c2]
    exact keyT (by omega) c1
theorem Escape_E {b : List Int} (hb : isBytes b = true) (hbl : b.length ≤ 140737488351232) (i : Int) : E C 13 [.shr 5 (b.map .int), .int .i64 i] = some (progD (escS b i false)) := by
  apply o13
  rw [bT (at_E b _)]
  simp only [rd0, datI]
  unfold escS
  by_cases c0 : atB b i = 92
  · have hin := atB_some (b := b) (i := i) (by rw [c0]; decide)
    obtain ⟨k, rfl⟩ : ∃ k : Nat, i = (k : Int) := ⟨i.toNat, by omega⟩
    have e1 : IntKind.i64.wrap ((k : Int) + 1) = ((k + 1 : Nat) : Int) := by rw [w64 (by omega) (by omega)]; omega
    have e2 : IntKind.i64.wrap ((k : Int) + 2) = ((k + 2 : Nat) : Int) := by rw [w64 (by omega) (by omega)]; omega
    have e3 : IntKind.i64.wrap ((k : Int) + 3) = ((k + 3 : Nat) : Int) := by rw [w64 (by omega) (by omega)]; omega
    rw [neF c0, if_neg (by simpa using c0), bT (simple_E hb hbl k (by omega)), Int.toNat_natCast]
    cases hs : simpleS b k with
    | some x =>
      show (some _ : R) = _
      cases x <;> rfl
    | none =>
      show (bif false then _ else _ : R) = _
      rw [cond_false, e1, e2, e3, bT (at_E b _)]
      simp only [rd0, datI]
      exact rest_P hb hbl k (by omega)
  · rw [neT c0, if_pos c0]; rfl
theorem Inner_E {b : List Int} (hb : isBytes b = true) (hbl : b.length ≤ 140737488351232) (i : Int) : E C 15 [.shr 5 (b.map .int), .int .i64 i] = some (progD (escS b i true)) := by
  apply o15
  rw [bT (at_E b _)]
  simp only [rd0, datI]
  unfold escS
  by_cases c0 : atB b i = 92
  · have hin := atB_some (b := b) (i := i) (by rw [c0]; decide)
    obtain ⟨k, rfl⟩ : ∃ k : Nat, i = (k : Int) := ⟨i.toNat, by omega⟩
    have e1 : IntKind.i64.wrap ((k : Int) + 1) = ((k + 1 : Nat) : Int) := by rw [w64 (by omega) (by omega)]; omega
    have e2 : IntKind.i64.wrap ((k : Int) + 2) = ((k + 2 : Nat) : Int) := by rw [w64 (by omega) (by omega)]; omega
    rw [neF c0, if_neg (by simpa using c0), bT (simple_E hb hbl k (by omega)), Int.toNat_natCast]
    cases hs : simpleS b k with
    | some x =>
      show (some _ : R) = _
      cases x <;> rfl
    | none =>
      show (bif false then _ else _ : R) = _
      rw [cond_false, e1, e2, bT (at_E b _)]
      simp only [rd0, datI]
      by_cases c1 : atB b ((k + 1 : Nat) : Int) = 98
      · rw [eT c1, if_pos trivial, if_pos c1]; rfl
      · rw [eF c1, if_pos trivial, if_neg c1]; rfl
  · rw [neT c0, if_pos c0]; rfl
end Go.Proofs.YtedhomemalnpfaaGreatDoor.V
