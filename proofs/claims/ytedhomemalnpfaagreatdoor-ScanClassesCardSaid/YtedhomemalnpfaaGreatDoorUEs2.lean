/- What a backslash makes, in the document. -/
import Derived.Test.YtedhomemalnpfaaGreatDoorUEsc
namespace Go.Proofs.YtedhomemalnpfaaGreatDoor.V
open Go Go.Ev Go.RowKit
set_option linter.unusedVariables false
set_option linter.unusedSimpArgs false
theorem rest_R {b : List Int} (hb : isBytes b = true) (hbl : b.length ≤ 140737488351232) (i : Nat) (hi : i < b.length) : (((E C 37 [.str (bs [65, 90, 122, 98, 66]), .int .u8 ((atB b ((i + 1 : Nat) : Int)))]).bind fun d8 => (bif decide (((rd d8 0).I) ≥ 0) then (bif decide (0 ≤ ((rd d8 0).I)) then (bif decide (((rd d8 0).I) < 5) then (bif decide (((rd d8 0).I).toNat < tabb9f14c.length) then (some [.agg [.int 3, .int ((i + 2 : Nat) : Int), .int ((rd tabb9f14c (((rd d8 0).I).toNat)).I), .str ByteArray.empty, .int 0, .bool false], .int 0]) else none) else none) else none) else (bif decide (((atB b ((i + 1 : Nat) : Int))) ≥ 49) then (bif decide (((atB b ((i + 1 : Nat) : Int))) ≤ 57) then ((E C 32 [.shr 5 (b.map .int), .int .i64 ((i + 2 : Nat) : Int)]).bind fun d9 => ((E C 29 [.int .u8 ((rd d9 0).I)]).bind fun d10 => (bif (rd d10 0).B then (bif decide (0 ≤ ((i + 2 : Nat) : Int)) then (bif decide (((i + 2 : Nat) : Int) < ((b.length : Nat) : Int)) then (bif decide (((i + 2 : Nat) : Int).toNat < b.length) then (some [.agg [.int 4, .int ((i + 3 : Nat) : Int), .int (IntKind.i64.wrap ((IntKind.i64.wrap (10 * (IntKind.i64.wrap (IntKind.u8.wrap (((atB b ((i + 1 : Nat) : Int))) - 48))))) + (IntKind.i64.wrap (IntKind.u8.wrap (((rd (b.map Dat.int) (((i + 2 : Nat) : Int).toNat)).I) - 48))))), .str ByteArray.empty, .int 0, .bool false], .int 0]) else none) else none) else none) else (some [.agg [.int 4, .int ((i + 2 : Nat) : Int), .int (IntKind.i64.wrap (IntKind.u8.wrap (((atB b ((i + 1 : Nat) : Int))) - 48))), .str ByteArray.empty, .int 0, .bool false], .int 0])))) else (bif ((atB b ((i + 1 : Nat) : Int))) != 107 then (some [.agg [.int 0, .int 0, .int 0, .str ByteArray.empty, .int 0, .bool false], .int 32]) else ((E C 32 [.shr 5 (b.map .int), .int .i64 ((i + 2 : Nat) : Int)]).bind fun d11 => (bif ((rd d11 0).I) != 60 then (some [.agg [.int 0, .int 0, .int 0, .str ByteArray.empty, .int 0, .bool false], .int 36]) else ((E C 10 [.shr 5 (b.map .int), .int .i64 ((i + 3 : Nat) : Int)]).bind fun d12 => (bif ((rd d12 2).I) != 0 then (some [.agg [.int 0, .int 0, .int 0, .str ByteArray.empty, .int 0, .bool false], .int ((rd d12 2).I)]) else (some [.agg [.int 5, .int ((rd d12 1).I), .int 0, .str ((rd d12 0).S), .int 0, .bool false], .int 0]))))))) else (bif ((atB b ((i + 1 : Nat) : Int))) != 107 then (some [.agg [.int 0, .int 0, .int 0, .str ByteArray.empty, .int 0, .bool false], .int 32]) else ((E C 32 [.shr 5 (b.map .int), .int .i64 ((i + 2 : Nat) : Int)]).bind fun d13 => (bif ((rd d13 0).I) != 60 then (some [.agg [.int 0, .int 0, .int 0, .str ByteArray.empty, .int 0, .bool false], .int 36]) else ((E C 10 [.shr 5 (b.map .int), .int .i64 ((i + 3 : Nat) : Int)]).bind fun d14 => (bif ((rd d14 2).I) != 0 then (some [.agg [.int 0, .int 0, .int 0, .str ByteArray.empty, .int 0, .bool false], .int ((rd d14 2).I)]) else (some [.agg [.int 5, .int ((rd d14 1).I), .int 0, .str ((rd d14 0).S), .int 0, .bool false], .int 0]))))))))) : R) = some (refD (restS b i)) := by
  have hc := atB_byte hb ((i + 1 : Nat) : Int)
  have hd := atB_byte hb ((i + 2 : Nat) : Int)
  obtain ⟨f1, f2⟩ := hld_find (atB b ((i + 1 : Nat) : Int))
  have keyT : ¬ (49 ≤ atB b ((i + 1 : Nat) : Int) ∧ atB b ((i + 1 : Nat) : Int) ≤ 57) → ¬ heldV (atB b ((i + 1 : Nat) : Int)) > 0 → ((bif ((atB b ((i + 1 : Nat) : Int))) != 107 then (some [.agg [.int 0, .int 0, .int 0, .str ByteArray.empty, .int 0, .bool false], .int 32]) else ((E C 32 [.shr 5 (b.map .int), .int .i64 ((i + 2 : Nat) : Int)]).bind fun d11 => (bif ((rd d11 0).I) != 60 then (some [.agg [.int 0, .int 0, .int 0, .str ByteArray.empty, .int 0, .bool false], .int 36]) else ((E C 10 [.shr 5 (b.map .int), .int .i64 ((i + 3 : Nat) : Int)]).bind fun d12 => (bif ((rd d12 2).I) != 0 then (some [.agg [.int 0, .int 0, .int 0, .str ByteArray.empty, .int 0, .bool false], .int ((rd d12 2).I)]) else (some [.agg [.int 5, .int ((rd d12 1).I), .int 0, .str ((rd d12 0).S), .int 0, .bool false], .int 0])))))) : R) = some (refD (restS b i)) := fun g1 g2 => by
    unfold restS
    rw [if_neg g2, if_neg g1]
    by_cases c3 : atB b ((i + 1 : Nat) : Int) = 107
    · rw [neF c3, if_neg (by simpa using c3), bT (at2_E b _)]
      simp only [rd0, datI]
      by_cases c4 : atB b ((i + 2 : Nat) : Int) = 60
      · rw [neF c4, if_neg (by simpa using c4), bT (Name2_E b hbl _)]
        unfold keyS
        by_cases c5 : (rd (nameR b ((i + 3 : Nat) : Int)) 2).I = 0
        · rw [neF c5, if_neg (by simpa using c5)]; rfl
        · rw [neT c5, if_pos c5]; rfl
      · rw [neT c4, if_pos c4]; rfl
    · rw [neT c3, if_pos c3]; rfl
  rw [bT (find_E _ (by decide) _)]
  simp only [rd0, datI]
  by_cases c1 : heldV (atB b ((i + 1 : Nat) : Int)) > 0
  · obtain ⟨g1, g2⟩ := f2 c1
    have g0 := f1.2 c1
    have hl : tabb9f14c.length = 5 := rfl
    unfold restS
    rw [dT g0, dT (by omega), dT (by omega), dT (by omega), g2, if_pos c1]
    rfl
  have g0 : ¬ findI (nats [65, 90, 122, 98, 66]) (atB b ((i + 1 : Nat) : Int)) 0 ≥ 0 := fun h => c1 (f1.1 h)
  rw [dF g0]
  by_cases c2 : atB b ((i + 1 : Nat) : Int) ≥ 49
  · rw [dT c2]
    by_cases c3 : atB b ((i + 1 : Nat) : Int) ≤ 57
    · unfold restS
      rw [dT c3, if_neg c1, if_pos ⟨c2, c3⟩, bT (at2_E b _)]
      simp only [rd0, datI]
      rw [bT (digit2_E _)]
      simp only [rd0, datB]
      rw [w8 (n := atB b ((i + 1 : Nat) : Int) - 48) (by omega) (by omega), w64 (n := atB b ((i + 1 : Nat) : Int) - 48) (by omega) (by omega), w64 (n := 10 * (atB b ((i + 1 : Nat) : Int) - 48)) (by omega) (by omega)]
      cases h4 : digB (atB b ((i + 2 : Nat) : Int)) with
      | true =>
        have h4' := digB_iff.1 h4
        have hin := atB_some (b := b) (i := ((i + 2 : Nat) : Int)) (by omega)
        rw [cT rfl, if_pos rfl, ixT ⟨by omega, by omega⟩, rdA ⟨by omega, by omega⟩, w8 (n := atB b ((i + 2 : Nat) : Int) - 48) (by omega) (by omega), w64 (n := atB b ((i + 2 : Nat) : Int) - 48) (by omega) (by omega), w64 (n := 10 * (atB b ((i + 1 : Nat) : Int) - 48) + (atB b ((i + 2 : Nat) : Int) - 48)) (by omega) (by omega), show 10 * (atB b ((i + 1 : Nat) : Int) - 48) = (atB b ((i + 1 : Nat) : Int) - 48) * 10 by omega]
        rfl
      | false => rw [cF rfl, if_neg (by simp)]; rfl
    · rw [dF c3]
      exact keyT (by omega) c1
  · rw [dF c2]
    exact keyT (by omega) c1
theorem Escape2_E {b : List Int} (hb : isBytes b = true) (hbl : b.length ≤ 140737488351232) (i : Int) (inner : Bool) : E C 14 [.shr 5 (b.map .int), .int .i64 i, .bool inner] = some (refD (escS b i inner)) := by
  apply o14
  rw [bT (at2_E b _)]
  simp only [rd0, datI]
  unfold escS
  by_cases c0 : atB b i = 92
  · have hin := atB_some (b := b) (i := i) (by rw [c0]; decide)
    obtain ⟨k, rfl⟩ : ∃ k : Nat, i = (k : Int) := ⟨i.toNat, by omega⟩
    have e1 : IntKind.i64.wrap ((k : Int) + 1) = ((k + 1 : Nat) : Int) := by rw [w64 (by omega) (by omega)]; omega
    have e2 : IntKind.i64.wrap ((k : Int) + 2) = ((k + 2 : Nat) : Int) := by rw [w64 (by omega) (by omega)]; omega
    have e3 : IntKind.i64.wrap ((k : Int) + 3) = ((k + 3 : Nat) : Int) := by rw [w64 (by omega) (by omega)]; omega
    have hrest := rest_R hb hbl k (by omega)
    rw [neF c0, if_neg (by simpa using c0), Int.toNat_natCast, List.length_map, e1, e2, e3]
    by_cases c1 : ((k + 1 : Nat) : Int) ≥ (b.length : Int)
    · have hc : atB b ((k + 1 : Nat) : Int) = 0 := atB_out (by omega)
      have hs : simpleS b k = some (.err 32) := by
        unfold simpleS
        rw [hc, if_neg (by decide), if_neg (by decide), if_neg (by decide), if_neg (by decide), if_pos (by omega)]
      rw [dT c1, hs]
      rfl
    rw [dF c1, ixT ⟨by omega, by omega⟩, rdA ⟨by omega, by omega⟩]
    unfold simpleS
    by_cases c2 : atB b ((k + 1 : Nat) : Int) = 120
    · rw [eT c2, if_pos c2, bT (code2_E b hbl (k + 2) (by omega))]
      cases codeS b (k + 2) <;> rfl
    rw [eF c2, if_neg c2, bT (find_E _ (by decide) _)]
    simp only [rd0, datI]
    obtain ⟨f1, f2⟩ := ctl_find (atB b ((k + 1 : Nat) : Int))
    by_cases c3 : ctrl (atB b ((k + 1 : Nat) : Int)) ≥ 0
    · obtain ⟨g1, g2⟩ := f2 c3
      have g0 := f1.2 c3
      have hl : tab77e450.length = 7 := rfl
      rw [dT g0, dT (by omega), dT (by omega), dT (by omega), g2, if_pos c3]
      rfl
    have g0 : ¬ findI (nats [110, 116, 114, 102, 118, 97, 101]) (atB b ((k + 1 : Nat) : Int)) 0 ≥ 0 := fun h => c3 (f1.1 h)
    rw [dF g0, if_neg c3, bT (find_E _ (by decide) _)]
    simp only [rd0, datI]
    have f3 := cls_find (atB b ((k + 1 : Nat) : Int))
    by_cases c4 : (ofL (atB b ((k + 1 : Nat) : Int))).isSome = true
    · rw [dT (f3.2 c4), if_pos c4]; rfl
    have g3 : ¬ findI (nats [100, 119, 115, 68, 87, 83]) (atB b ((k + 1 : Nat) : Int)) 0 ≥ 0 := fun h => c4 (f3.1 h)
    rw [dF g3, if_neg c4]
    have hat := RefAt_E hb hbl (k + 1) (by omega)
    have hs := symA_small hb (k + 1) (by omega)
    cases inner with
    | true =>
      rw [cT rfl]
      by_cases c5 : atB b ((k + 1 : Nat) : Int) = 98
      · rw [eT c5, if_pos (.inl (by rw [c5]; rfl)), c5]; rfl
      rw [eF c5, bT (letter2_E _)]
      simp only [rd0, datB]
      cases h4 : letB (atB b ((k + 1 : Nat) : Int)) with
      | true =>
        rw [nF rfl, cT rfl, if_pos (.inl rfl)]
        show _ = some (refD (if _ then _ else _))
        rw [if_pos trivial, if_neg c5]; rfl
      | false =>
        rw [nT rfl, bT (digit2_E _)]
        simp only [rd0, datB]
        cases h5 : digB (atB b ((k + 1 : Nat) : Int)) with
        | true =>
          rw [nF rfl, cT rfl, if_pos (.inr rfl)]
          show _ = some (refD (if _ then _ else _))
          rw [if_pos trivial, if_neg c5]; rfl
        | false =>
          rw [nT rfl, bT hat, if_neg (by simp), if_neg (by omega)]
          simp only [rd0, rd1, datI]
          rw [w64 (by omega) (by omega)]
          rfl
    | false =>
      rw [cF rfl, bT (letter2_E _)]
      simp only [rd0, datB]
      cases h4 : letB (atB b ((k + 1 : Nat) : Int)) with
      | true =>
        rw [nF rfl, cF rfl, if_pos (.inl rfl)]
        exact hrest
      | false =>
        rw [nT rfl, bT (digit2_E _)]
        simp only [rd0, datB]
        cases h5 : digB (atB b ((k + 1 : Nat) : Int)) with
        | true =>
          rw [nF rfl, cF rfl, if_pos (.inr rfl)]
          exact hrest
        | false =>
          rw [nT rfl, bT hat, if_neg (by simp), if_neg (by omega)]
          simp only [rd0, rd1, datI]
          rw [w64 (by omega) (by omega)]
          rfl
  · rw [neT c0, if_pos c0]; rfl
end Go.Proofs.YtedhomemalnpfaaGreatDoor.V
