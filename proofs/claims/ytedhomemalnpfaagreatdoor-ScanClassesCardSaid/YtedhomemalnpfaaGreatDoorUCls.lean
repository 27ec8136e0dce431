/- Package class, and the document's sets with names and letters. -/
import Derived.Test.YtedhomemalnpfaaGreatDoorURs
import Derived.Test.YtedhomemalnpfaaGreatDoorUHas
import Derived.Test.YtedhomemalnpfaaGreatDoorVTCl
namespace Go.Proofs.YtedhomemalnpfaaGreatDoor.V
open Go Go.Ev Go.RowKit
set_option linter.unusedVariables false
set_option linter.unusedSimpArgs false
def allN : List (List UInt8 × List (Int × Int)) := [([97, 108, 110, 117, 109], [(48, 57), (65, 90), (97, 122)]), ([97, 108, 112, 104, 97], [(65, 90), (97, 122)]), ([97, 115, 99, 105, 105], [(0, 127)]), ([98, 108, 97, 110, 107], [(9, 9), (32, 32)]), ([99, 110, 116, 114, 108], [(0, 31), (127, 127)]), ([100, 105, 103, 105, 116], [(48, 57)]), ([103, 114, 97, 112, 104], [(33, 126)]), ([108, 111, 119, 101, 114], [(97, 122)]), ([112, 114, 105, 110, 116], [(32, 126)]), ([112, 117, 110, 99, 116], [(33, 47), (58, 64), (91, 96), (123, 126)]), ([115, 112, 97, 99, 101], [(9, 13), (32, 32)]), ([117, 112, 112, 101, 114], [(65, 90)]), ([119, 111, 114, 100], [(48, 57), (65, 90), (95, 95), (97, 122)]), ([120, 100, 105, 103, 105, 116], [(48, 57), (65, 70), (97, 102)])]
def allD (l : List (List UInt8 × List (Int × Int))) : List Dat := l.map fun p => .agg [.str (bs p.1), .list (rs p.2)]
theorem all_E : E C 103 [] = some [.list (allD allN)] := by
  apply o103
  rfl
def findN (s : ByteArray) : List (List UInt8 × List (Int × Int)) → Option (List (Int × Int))
  | [] => none
  | p :: l => bif (bs p.1).toList == s.toList then some p.2 else findN s l
theorem Nam1_E (a : ByteArray) (l : List Dat) (s : ByteArray) : E C 105 [.agg [.str a, .shr 85 l], .sref 9 ([.str s] : List Dat) 0 0] = some [.bool (a.toList == s.toList)] := by
  apply o105_a
  rw [dT (by simp)]
  rfl
theorem allD_rd (l : List (List UInt8 × List (Int × Int))) (k : Nat) (h : k < l.length) : rd (allD l) k = .agg [.str (bs (l[k]).1), .list (rs (l[k]).2)] := by simp [rd, allD, h]
theorem allD_len (l : List (List UInt8 × List (Int × Int))) : (allD l).length = l.length := by simp [allD]
theorem nam_loop (l : List (List UInt8 × List (Int × Int))) (hl : l.length ≤ 1000) (s : ByteArray) (v4 : Int) : ∀ (d k : Nat), l.length - k = d → k ≤ l.length →
    ∃ r : Int, M104_a_1 (allD l) s v4 (l.length : Int) (k : Int) = some [.int r] ∧ (findN s (l.drop k) = none → r = -1) ∧ ∀ x, findN s (l.drop k) = some x → ∃ j : Nat, r = (j : Int) ∧ ∃ h : j < l.length, (l[j]).2 = x := by
  intro d
  induction d with
  | zero =>
    intro k hd hk
    refine ⟨-1, ?_, fun _ => rfl, fun x h => ?_⟩
    · apply M104_a_1_of
      rw [dF (by omega)]
    · rw [List.drop_of_length_le (by omega)] at h
      cases h
  | succ d ih =>
    intro k hd hk
    have hlt : k < l.length := by omega
    obtain ⟨r, h1, h2, h3⟩ := ih (k + 1) (by omega) (by omega)
    rw [List.drop_eq_getElem_cons hlt]
    unfold findN
    cases hb : ((bs (l[k]).1).toList == s.toList) with
    | true =>
      refine ⟨k, ?_, (fun h => by cases h), fun x h => ⟨k, rfl, hlt, Option.some.inj h⟩⟩
      apply M104_a_1_of
      rw [allD_len, dT (by omega), ixT ⟨by omega, by omega⟩, Int.toNat_natCast, allD_rd l k hlt]
      refine (bT (Nam1_E _ _ s)).trans ?_
      exact cT hb
    | false =>
      refine ⟨r, ?_, h2, h3⟩
      apply M104_a_1_of
      rw [allD_len, dT (by omega), ixT ⟨by omega, by omega⟩, Int.toNat_natCast, allD_rd l k hlt]
      refine (bT (Nam1_E _ _ s)).trans ?_
      refine (cF hb).trans ?_
      rw [w64 (by omega) (by omega)]
      exact h1
def namedD (o : Option (List (Int × Int))) : List Dat := match o with
  | none => [.list [], .bool false]
  | some l => [.list (rs l), .bool true]
theorem Named_E (s : ByteArray) : E C 87 [.str s] = some (namedD (findN s allN)) := by
  obtain ⟨r, h1, h2, h3⟩ := nam_loop allN (by decide) s 0 allN.length 0 (by omega) (by omega)
  rw [List.drop_zero] at h2 h3
  have e1 : E C 104 [.shr 148 (allD allN), .clo 105 [] [.sref 9 ([.str s] : List Dat) 0 0]] = some [.int r] := by
    apply o104_a
    rw [allD_len]
    exact h1
  apply o87
  rw [bT all_E]
  simp only [rd0, datL]
  rw [bT e1]
  simp only [rd0, datI, allD_len]
  cases hf : findN s allN with
  | none => rw [h2 hf, dT (by omega)]; rfl
  | some x =>
    obtain ⟨j, rfl, hj, hx⟩ := h3 x hf
    rw [dF (by omega), ixT ⟨by omega, by omega⟩, Int.toNat_natCast, allD_rd allN j hj, hx]
    rfl
theorem must_E (s : ByteArray) (l : List (Int × Int)) (h : findN s allN = some l) : E C 72 [.str s] = some [.list (rs l)] := by
  apply o72
  rw [bT (Named_E s), h]
  rfl
def digL : List (Int × Int) := [(48, 57)]
def wrdL : List (Int × Int) := [(48, 57), (65, 90), (95, 95), (97, 122)]
def spcL : List (Int × Int) := [(9, 13), (32, 32)]
theorem find_dig : findN (bs [100, 105, 103, 105, 116]) allN = some digL := by kernel_rfl
theorem find_wrd : findN (bs [119, 111, 114, 100]) allN = some wrdL := by kernel_rfl
theorem find_spc : findN (bs [115, 112, 97, 99, 101]) allN = some spcL := by kernel_rfl
theorem find_nil : findN ByteArray.empty allN = none := by kernel_rfl
/-- The set of a letter. -/
def ofL (c : Int) : Option (List (Int × Int)) :=
  if c = 100 then some digL else if c = 119 then some wrdL else if c = 115 then some spcL else if c = 68 then some (notR digL) else if c = 87 then some (notR wrdL) else if c = 83 then some (notR spcL) else none
theorem Of_low (c : Int) (l : List (Int × Int)) (h : (c = 100 ∧ l = digL) ∨ (c = 119 ∧ l = wrdL) ∨ (c = 115 ∧ l = spcL)) : E C 52 [.int .u8 c] = some [.list (rs l), .bool true] := by
  apply o52
  rcases h with ⟨rfl, rfl⟩ | ⟨rfl, rfl⟩ | ⟨rfl, rfl⟩
  · rw [eT rfl, bT (must_E _ _ find_dig)]; rfl
  · rw [eF (by decide), eT rfl, bT (must_E _ _ find_wrd)]; rfl
  · rw [eF (by decide), eF (by decide), eT rfl, bT (must_E _ _ find_spc)]; rfl
theorem Of_E (c : Int) : E C 52 [.int .u8 c] = some (namedD (ofL c)) := by
  unfold ofL
  by_cases c1 : c = 100
  · rw [if_pos c1, Of_low c digL (.inl ⟨c1, rfl⟩)]; rfl
  rw [if_neg c1]
  by_cases c2 : c = 119
  · rw [if_pos c2, Of_low c wrdL (.inr (.inl ⟨c2, rfl⟩))]; rfl
  rw [if_neg c2]
  by_cases c3 : c = 115
  · rw [if_pos c3, Of_low c spcL (.inr (.inr ⟨c3, rfl⟩))]; rfl
  rw [if_neg c3]
  apply o52
  rw [eF c1, eF c2, eF c3]
  by_cases c4 : c = 68
  · rw [if_pos c4, eT c4, eT c4, c4, show IntKind.u8.wrap (IntKind.u8.wrap (68 + 97) - 65) = 100 from by decide, bT (Of_low 100 digL (.inl ⟨rfl, rfl⟩))]
    simp only [rd0, datL]
    rw [bT (Not_E digL (by decide))]; rfl
  rw [if_neg c4, eF c4]
  by_cases c5 : c = 87
  · rw [if_pos c5, eT c5, eT c5, c5, show IntKind.u8.wrap (IntKind.u8.wrap (87 + 97) - 65) = 119 from by decide, bT (Of_low 119 wrdL (.inr (.inl ⟨rfl, rfl⟩)))]
    simp only [rd0, datL]
    rw [bT (Not_E wrdL (by decide))]; rfl
  rw [if_neg c5, eF c5]
  by_cases c6 : c = 83
  · rw [if_pos c6, eT c6, c6, show IntKind.u8.wrap (IntKind.u8.wrap (83 + 97) - 65) = 115 from by decide, bT (Of_low 115 spcL (.inr (.inr ⟨rfl, rfl⟩)))]
    simp only [rd0, datL]
    rw [bT (Not_E spcL (by decide))]; rfl
  · rw [if_neg c6, eF c6]; rfl
/-! The document's. -/
def hasD (x : Int) (o : Option (List (Int × Int))) : List Dat := match o with
  | none => [.bool false, .bool false]
  | some l => [.bool (l.any (inR x)), .bool true]
def hasR (s : ByteArray) (x : Int) : List Dat := hasD x (findN s allN)
theorem pickK_find (s : ByteArray) (x : Int) : ∀ (l : List (List UInt8 × List (Int × Int))), pickK s (l.map fun p => (p.1, p.2.any (inR x))) = hasD x (findN s l)
  | [] => rfl
  | p :: l => by
    simp only [List.map_cons, pickK, findN]
    cases (bs p.1).toList == s.toList with
    | true => rfl
    | false => exact pickK_find s x l
theorem cOr (c y : Bool) : (bif c then true else y) = (c || y) := by cases c <;> rfl
theorem cAnd (c y : Bool) : (bif c then y else false) = (c && y) := by cases c <;> rfl
theorem pairs_cons {n : List UInt8} {a b : Bool} {l m : List (List UInt8 × Bool)} (h : a = b) (h2 : l = m) : (n, a) :: l = (n, b) :: m := by rw [h, h2]
theorem Has5_E (s : ByteArray) (x : Int) : E C 57 [.str s, .int .i64 x] = some (hasR s x) := by
  apply o57
  rw [bT (within_E _ _ _), bT (within_E _ _ _), bT (within_E _ _ _), bT Names_E, HN1, HN2, HN3, HN4, HN5, HN6, HN7, HN8, HN9, HN10, HN11, HN12, HN13, HN14]
  refine (HL0 _ _ _ _ _ _ _ _ _ _ _ _ _ _ _ _ _ _ _ _ _).trans ?_
  unfold hasR
  rw [← pickK_find s x allN]
  congr 2
  simp only [allN, List.map_cons, List.map_nil, rd0, datB, cOr, cAnd]
  repeat' refine pairs_cons ?_ ?_
  all_goals first
    | rfl
    | (simp only [inW, inR, List.any_cons, List.any_nil, Bool.or_false]
       rw [Bool.eq_iff_iff]
       simp only [Bool.or_eq_true, Bool.and_eq_true, decide_eq_true_eq, beq_iff_eq, Bool.not_eq_true', Bool.and_eq_false_iff, decide_eq_false_iff_not]
       omega)
    | simp only [inW, inR, List.any_cons, List.any_nil, Bool.or_false]
theorem hasB_any {l : List (Int × Int)} {x : Int} (hx : 0 ≤ x ∧ x ≤ 1114367) : hasB l x = l.any (inR x) := by
  unfold hasB
  rw [decide_eq_true hx.1, decide_eq_true hx.2]
  rfl
theorem Of5_E (c x : Int) (hx : 0 ≤ x ∧ x ≤ 1114367) : ∃ ok, E C 56 [.int .u8 c, .int .i64 x] = some [.bool (match ofL c with | none => false | some l => hasB l x), .bool ok] := by
  have hw : inW x 0 1114367 = true := by unfold inW; rw [decide_eq_true hx.1, decide_eq_true hx.2]; rfl
  have fin : ∀ (s : ByteArray) (l : List (Int × Int)) (not : Bool), findN s allN = some l → ((E C 57 [.str s, .int .i64 x]).bind fun d1 => (bif (rd d1 1).B then (bif !(((rd d1 0).B) == not) then ((E C 74 [.int .i64 x, .int .i64 0, .int .i64 1114367]).bind fun d2 => (some [.bool ((rd d2 0).B), .bool ((rd d1 1).B)])) else (some [.bool false, .bool ((rd d1 1).B)])) else (some [.bool false, .bool ((rd d1 1).B)])) : R) = some [.bool (hasB (if not = true then notR l else l) x), .bool true] := fun s l not hs => by
    rw [bT (Has5_E s x), bT (within_E _ _ _), hw]
    unfold hasR hasD
    rw [hs]
    simp only [rd0, rd1, datB, cond_true]
    cases not with
    | true =>
      rw [if_pos rfl, notR_hasB, hasB_any hx, decide_eq_true hx.1, decide_eq_true hx.2]
      cases l.any (inR x) <;> rfl
    | false =>
      rw [if_neg (by simp), hasB_any hx]
      cases l.any (inR x) <;> rfl
  unfold ofL
  by_cases c1 : c = 100
  · refine ⟨true, ?_⟩
    subst c1
    apply o56
    rw [eT rfl, eF (by decide), eF (by decide), eF (by decide), eF (by decide), if_pos rfl]
    exact fin _ _ _ find_dig
  by_cases c2 : c = 119
  · refine ⟨true, ?_⟩
    subst c2
    apply o56
    rw [eF (by decide), eF (by decide), eT rfl, eF (by decide), eF (by decide), if_neg (by decide), if_pos rfl]
    exact fin _ _ _ find_wrd
  by_cases c3 : c = 115
  · refine ⟨true, ?_⟩
    subst c3
    apply o56
    rw [eF (by decide), eF (by decide), eF (by decide), eF (by decide), eT rfl, if_neg (by decide), if_neg (by decide), if_pos rfl]
    exact fin _ _ _ find_spc
  by_cases c4 : c = 68
  · refine ⟨true, ?_⟩
    subst c4
    apply o56
    rw [eF (by decide), eT rfl, eF (by decide), eF (by decide), eF (by decide), eF (by decide), if_neg (by decide), if_neg (by decide), if_neg (by decide), if_pos rfl]
    exact fin _ _ _ find_dig
  by_cases c5 : c = 87
  · refine ⟨true, ?_⟩
    subst c5
    apply o56
    rw [eF (by decide), eF (by decide), eF (by decide), eT rfl, eF (by decide), eF (by decide), if_neg (by decide), if_neg (by decide), if_neg (by decide), if_neg (by decide), if_pos rfl]
    exact fin _ _ _ find_wrd
  by_cases c6 : c = 83
  · refine ⟨true, ?_⟩
    subst c6
    apply o56
    rw [eF (by decide), eF (by decide), eF (by decide), eF (by decide), eF (by decide), eT rfl, if_neg (by decide), if_neg (by decide), if_neg (by decide), if_neg (by decide), if_neg (by decide), if_pos rfl]
    exact fin _ _ _ find_spc
  refine ⟨false, ?_⟩
  apply o56
  rw [eF c1, eF c4, eF c2, eF c5, eF c3, eF c6, bT (Has5_E _ x), if_neg c1, if_neg c2, if_neg c3, if_neg c4, if_neg c5, if_neg c6]
  unfold hasR hasD
  rw [find_nil]
  rfl
theorem ofL_len {c : Int} {l : List (Int × Int)} (h : ofL c = some l) : l.length ≤ 10 ∧ leastP l := by
  have hd : leastP digL := (leastB_iff _).1 (by decide)
  have hw : leastP wrdL := (leastB_iff _).1 (by decide)
  have hs : leastP spcL := (leastB_iff _).1 (by decide)
  have d1 : digL.length = 1 := rfl
  have d2 : wrdL.length = 4 := rfl
  have d3 : spcL.length = 2 := rfl
  have n1 := notR_length digL
  have n2 := notR_length wrdL
  have n3 := notR_length spcL
  unfold ofL at h
  split at h
  · obtain rfl := Option.some.inj h; exact ⟨by decide, hd⟩
  split at h
  · obtain rfl := Option.some.inj h; exact ⟨by decide, hw⟩
  split at h
  · obtain rfl := Option.some.inj h; exact ⟨by decide, hs⟩
  split at h
  · obtain rfl := Option.some.inj h; exact ⟨by omega, notR_least _⟩
  split at h
  · obtain rfl := Option.some.inj h; exact ⟨by omega, notR_least _⟩
  split at h
  · obtain rfl := Option.some.inj h; exact ⟨by omega, notR_least _⟩
  · cases h
end Go.Proofs.YtedhomemalnpfaaGreatDoor.V
