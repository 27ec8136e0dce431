/- clewlaw01.SymEach, by hand: for all bytes that are read, and every number, the call answers true; nothing that was there is turned. -/
import Derived.Test.YtjgbhajaiifimaaDoorGAnchor01
import Derived.Test.YtjgbhajaiifimaaDoorL01c
namespace Go.Proofs.YtjgbhajaiifimaaDoor.P
open Go.RowKit Go.Shelf Go.Proofs.YtjgbhajaiifimaaDoorW.PrintWords Go.Proofs.YtjgbhajaiifimaaDoorW.PrintLast Go.Proofs.YtjgbhajaiifimaaDoorW.PrintMore
attribute [local go_sem] Oper.semAt_some
set_option linter.unusedVariables false
set_option linter.unusedSimpArgs false

def clewlaw01_SymEach.f (k : Nat) (l0 : List Int) (a1 : Int) : Option Bool := if isBytes l0 = true then some true else none
theorem SymEach_pure (b : List Int) (i : Int) (hl : b.length * 1 ≤ 140737488351232) (hw : ∀ x ∈ b, (Lit.int .u8 x).wf = true) (_ : (Lit.int .i64 i).wf = true) : ∃ k, clewlaw01_SymEach.f k b i = some true := ⟨0, by
  unfold clewlaw01_SymEach.f
  rw [if_pos (isBytes_of hw)]⟩

set_option maxRecDepth 100000 in
set_option maxHeartbeats 8000000 in
theorem clewlaw01_SymEach.calls (k : Nat) (A0 : Option Addr) (c0 : Nat) (l0 : List Int) (a1 : Int) (r : Bool) (w : World) (hT_ : TabsOk w) (hr0 : Kd.C (Kd.int .u8) w A0 l0.length l0) (hc0 : l0.length ≤ c0) (h : clewlaw01_SymEach.f k l0 a1 = some r) :
    Calls Tryd.prog 4 #[.slice A0 l0.length c0, .int .i64 a1] w fun e w' => e = .returned (.bool r) ∧ Below w.heap.size w w' := by
  unfold clewlaw01_SymEach.f at h
  split at h
  case isFalse => cases h
  case isTrue hby =>
  obtain rfl : true = r := Option.some.inj h
  clear h
  have hb2 : Below w.heap.size w ((w.alloc (.cells #[.int .i64 a1] 3)).alloc (.cells #[.bool false] 4)) := ((Below.refl _ w).alloc (Nat.le_refl _) _).alloc (by simp) _
  have x0 : Boxed ((w.alloc (.cells #[.int .i64 a1] 3)).alloc (.cells #[.bool false] 4)) w.heap.size 3 (.int .i64 a1) := (Boxed.new w 3 (.int .i64 a1)).alloc _
  have x1 : Boxed ((w.alloc (.cells #[.int .i64 a1] 3)).alloc (.cells #[.bool false] 4)) (w.heap.size + 1) 4 (.bool false) := by
    have := Boxed.new (w.alloc (.cells #[.int .i64 a1] 3)) 4 (.bool false)
    rw [World.size_alloc] at this
    exact this
  have hanch := clewlaw01_anchor.calls true _ (TabsOk.below hT_ hb2) rfl
  refine (callsIn_wide (n := 3)).1 ?_
  refine callsIn_of_wp_marks Tryd.func4 rfl trivial ?_ rfl
  simp only [Tryd.ntmps4, List.size_toArray, List.length_cons, List.length_nil, Nat.reduceAdd, Nat.reduceSub, Array.replicate_succ, Array.replicate_zero, List.push_toArray, List.append_toArray, List.nil_append, List.cons_append]
  gi_wp2_with fail
  refine ⟨trivial, ?_⟩
  refine (callsIn_wide.2 hanch).mono ?_
  rintro e w1 ⟨rfl, hb1⟩
  have hB1 : Below w.heap.size w w1 := hb2.trans (hb1.mono hb2.size)
  have y0 : Boxed w1 w.heap.size 3 (.int .i64 a1) := (hb1.block _ x0.lt).trans x0
  have y1 : Boxed w1 (w.heap.size + 1) 4 (.bool false) := (hb1.block _ x1.lt).trans x1
  clear hanch x0 x1 hb1 hb2
  by_cases hbig : (l0.length : Int) > 100000
  · have hc1 := y1.cell
    have hf1 := y1.frozen
    gi_wp2
    have hc2 := (y1.set (.bool true)).cell
    refine ⟨.bool true, ?_, rfl, hB1.setCell (p := ⟨w.heap.size + 1, 0, none⟩) (by show w.heap.size ≤ w.heap.size + 1; omega) _⟩
    simp [results, Tryd.f4, go_sem, hc2]
  · have hsmall : l0.length ≤ 100000 := by omega
    have hAll := clewref01_All.calls (l0.length + 16) A0 c0 l0 (symsR l0) (startsR l0) w1 (Kd.C_below hr0 hB1) hc0 (RefAll_eq hby (by omega) _ (Nat.le_refl _))
    gi_wp2_with fail
    refine ⟨trivial, ?_⟩
    refine (callsIn_wide.2 hAll).mono ?_
    rintro e w2 ⟨v0, v1, rfl, hv0, hv1, hb2⟩
    obtain ⟨A1, c1, rfl, _, hC1⟩ := Kd.R_reads hv0
    obtain ⟨A2, c2, rfl, _, hC2⟩ := Kd.R_reads hv1
    have z0 : Boxed w2 w.heap.size 3 (.int .i64 a1) := (hb2.block _ y0.lt).trans y0
    have z1 : Boxed w2 (w.heap.size + 1) 4 (.bool false) := (hb2.block _ y1.lt).trans y1
    have hB2 : Below w.heap.size w w2 := hB1.trans (hb2.mono hB1.size)
    clear hAll hv0 hv1 hb2 y0 y1 hB1
    gi_wp2_with fail
    refine ⟨trivial, ?_⟩
    refine (each_in _ _ _ _ _).mono ?_
    rintro e w' ⟨rfl, rfl⟩
    have hs5 : ((w2.alloc (.cells #[.slice A1 (symsR l0).length c1] 27)).alloc (.cells #[.slice A2 (startsR l0).length c2] 27)).heap.size = w2.heap.size + 2 := by simp
    have hB3 : Below w.heap.size w ((w2.alloc (.cells #[.slice A1 (symsR l0).length c1] 27)).alloc (.cells #[.slice A2 (startsR l0).length c2] 27)) := (hB2.alloc hB2.size _).alloc (Nat.le_trans hB2.size (by simp)) _
    have hb23 : Below w2.heap.size w2 ((w2.alloc (.cells #[.slice A1 (symsR l0).length c1] 27)).alloc (.cells #[.slice A2 (startsR l0).length c2] 27)) := ((Below.refl _ w2).alloc (Nat.le_refl _) _).alloc (by simp) _
    have u0 := (hb23.block _ z0.lt).trans z0
    have u1 := (hb23.block _ z1.lt).trans z1
    have u2 : Boxed ((w2.alloc (.cells #[.slice A1 (symsR l0).length c1] 27)).alloc (.cells #[.slice A2 (startsR l0).length c2] 27)) w2.heap.size 27 (.slice A1 (symsR l0).length c1) := (Boxed.new w2 _ _).alloc _
    have u3 : Boxed ((w2.alloc (.cells #[.slice A1 (symsR l0).length c1] 27)).alloc (.cells #[.slice A2 (startsR l0).length c2] 27)) (w2.heap.size + 1) 27 (.slice A2 (startsR l0).length c2) := by
      have := Boxed.new (w2.alloc (.cells #[.slice A1 (symsR l0).length c1] 27)) 27 (.slice A2 (startsR l0).length c2)
      rw [World.size_alloc] at this
      exact this
    have hD1 := Kd.C_below hC1 hb23
    have hD2 := Kd.C_below hC2 hb23
    clear hb23 hC1 hC2 z0 z1
    generalize ((w2.alloc (.cells #[.slice A1 (symsR l0).length c1] 27)).alloc (.cells #[.slice A2 (startsR l0).length c2] 27)) = w3 at *
    have u4 := (Boxed.new w3 3 (.int .i64 0)).alloc (.cells #[.slice A0 l0.length c0] 22)
    have u5 : Boxed ((w3.alloc (.cells #[.int .i64 0] 3)).alloc (.cells #[.slice A0 l0.length c0] 22)) (w3.heap.size + 1) 22 (.slice A0 l0.length c0) := by
      have := Boxed.new (w3.alloc (.cells #[.int .i64 0] 3)) 22 (.slice A0 l0.length c0)
      rw [World.size_alloc] at this
      exact this
    have hb35 : Below w3.heap.size w3 ((w3.alloc (.cells #[.int .i64 0] 3)).alloc (.cells #[.slice A0 l0.length c0] 22)) := ((Below.refl _ w3).alloc (Nat.le_refl _) _).alloc (by simp) _
    have hB5 : Below w.heap.size w ((w3.alloc (.cells #[.int .i64 0] 3)).alloc (.cells #[.slice A0 l0.length c0] 22)) := hB3.trans (hb35.mono hB3.size)
    have e5 : w3.heap.size = w2.heap.size + 1 + 1 := hs5
    rw [e5] at u4
    have E5 := Aside0.mk e5
    clear hs5 e5
    have hN : (eachAll l0).length = (symsR l0).length := by
      unfold symsR
      rw [List.length_map]
    have hN2 : (startsR l0).length = (eachAll l0).length + 1 := by
      unfold startsR
      rw [List.length_append, List.length_map, List.length_singleton]
    have hel := eachAll_length l0
    have HN := Aside0.mk hN
    have HN2 := Aside0.mk hN2
    clear hN hN2
    gi_wp2_with fail
    refine wpIn_rangeFunc_ownG rfl (by omega) (gf := 41) (lb := #[.pointer (some ⟨w3.heap.size + 1, 0, none⟩)]) (by simp [go_sem]) trivial (enters_of Tryd.func41 (by kernel_rfl) rfl)
      (each_stops _ (by omega) w hT_ A0 c0 l0 hr0 hc0 hby (by omega) (w3.heap.size + 1) _ hB5 u5.lt u5.cell) KeepB.trans (keepB_b (by simp; have := hB3.size; omega) u5.lt) (Below.refl _ _) (fun _ => rfl)
      (fun (pre : List (Nat × Int)) W => (Boxed W (w2.heap.size + 1 + 1) 3 (.int .i64 (pre.length : Int)) ∧ pre <+: eachAll l0 ∧ ∀ j : Nat, 1 ≤ j → j ≤ pre.length → (j : Int) ≠ a1) ∧ Boxed W (w3.heap.size + 1) 22 (.slice A0 l0.length c0) ∧ Below w3.heap.size w3 W)
      (fun c (pre : List (Nat × Int)) W => (c = .exit 0 ∧ (pre.length : Int) = a1 ∧ Boxed W (w2.heap.size + 1 + 1) 3 (.int .i64 (pre.length : Int)) ∧ Below w3.heap.size w3 W) ∨ (c = .ret ∧ ¬ pre <+: eachAll l0))
      (OwnFrom.and (Own.from (fun s A B row hs hg hr => ⟨boxed_own _ _ (fun pre : List (Nat × Int) => Value.int .i64 (pre.length : Int)) s A B row hs.1 hg hr, hs.2⟩) _) (OwnFrom.and (Own.from (boxed_own _ _ _) _) (ownFrom_below (Nat.le_refl _) (by simp; omega))))
      (fun c s A B row hs hg hr => hs.elim (fun hs => .inl ⟨hs.1, hs.2.1, boxed_own _ _ (fun pre : List (Nat × Int) => Value.int .i64 (pre.length : Int)) s A B row hs.2.2.1 hg (fun r e => (hr r e).2), (ownFrom_below (β := List (Nat × Int)) (Nat.le_refl _) (by simp; omega)) s A B row hs.2.2.2 hg hr⟩) .inr)
      ⟨⟨u4, List.nil_prefix, fun j h1 h2 => absurd h2 (by simp; omega)⟩, u5, hb35⟩
      (fun x => { tmps := #[.slice A0 l0.length c0, .int .i64 a1, undef, .pointer (some ⟨w.heap.size, 0, none⟩), .pointer (some ⟨w.heap.size + 1, 0, none⟩), .pointer (some ⟨w2.heap.size, 0, none⟩), .pointer (some ⟨w2.heap.size + 1, 0, none⟩), .pointer (some ⟨w2.heap.size + 1 + 1, 0, none⟩), .int .i64 (x.1 : Int), .int .i64 x.2, .bool true, .bool false, .slice A0 l0.length c0, .int .i64 (l0.length : Int), .bool (decide (100000 < (l0.length : Int))), .tuple #[.slice A1 (symsR l0).length c1, .slice A2 (startsR l0).length c2], .slice A0 l0.length c0, .tuple #[.slice A1 (symsR l0).length c1, .slice A2 (startsR l0).length c2], .slice A1 (symsR l0).length c1, .slice A2 (startsR l0).length c2, .slice A0 l0.length c0, .func (.func 41) #[] #[.pointer (some ⟨w3.heap.size + 1, 0, none⟩)], .int .i64 (x.1 : Int), .int .i64 x.2, undef, undef, undef, undef, undef, undef, undef, undef, undef, undef, undef, undef, undef, undef, undef, undef, undef, undef, undef, undef, undef, undef, undef, undef, undef, undef, undef, undef, undef, undef, undef, undef, undef, undef], defers := [] }) ?assign ?body ?done ?stop
    case assign =>
      intro l x W K hK
      gi_wp2
      exact hK
    case body =>
      rintro l pre x W ⟨⟨hn, hpre, hne⟩, hbx, hbW⟩ hlt
      have b0 : Boxed W w.heap.size 3 (.int .i64 a1) := (hbW.block _ (Array.getElem?_eq_some_iff.1 u0).1).trans u0
      have b1 : Boxed W (w.heap.size + 1) 4 (.bool false) := (hbW.block _ (Array.getElem?_eq_some_iff.1 u1).1).trans u1
      have b2 : Boxed W w2.heap.size 27 (.slice A1 (symsR l0).length c1) := (hbW.block _ u2.lt).trans u2
      have b3 : Boxed W (w2.heap.size + 1) 27 (.slice A2 (startsR l0).length c2) := (hbW.block _ u3.lt).trans u3
      have hq1 : (pre.length : Int) < ((symsR l0).length : Int) := by have := HN.out; omega
      have hq2 : (pre.length : Int) < ((startsR l0).length : Int) := by have := HN2.out; omega
      have hq3 : ¬ ((symsR l0).length : Int) ≤ (pre.length : Int) := by omega
      have hp0 : (0 : Int) ≤ (pre.length : Int) := by omega
      obtain ⟨ad1, rfl, xs1⟩ := Kd.at_int (Kd.C_below hD1 hbW) (pre.length : Int) hp0 hq1
      obtain ⟨ad2, rfl, xs2⟩ := Kd.at_int (Kd.C_below hD2 hbW) (pre.length : Int) hp0 hq2
      simp only [Int.toNat_natCast] at xs1 xs2
      have e1 : rd (symsR l0) (pre.length : Int) = ((eachAll l0)[pre.length]'hlt).2 := by
        simp [rd, symsR, hlt]
      have e2 : rd (startsR l0) (pre.length : Int) = (((eachAll l0)[pre.length]'hlt).1 : Int) := by
        unfold rd startsR
        simp only [Int.toNat_natCast, List.getD_eq_getElem?_getD]
        rw [List.getElem?_append_left (by simpa using hlt)]
        simp [hlt]
      have hwrong : x ≠ (eachAll l0)[pre.length]'hlt → ¬ (pre ++ [x]) <+: eachAll l0 := fun h hp => by
        have h1 := hp.getElem (i := pre.length) (by simp)
        simp at h1
        exact h h1
      have hright : x = (eachAll l0)[pre.length]'hlt → (pre ++ [x]) <+: eachAll l0 := fun h => by
        obtain ⟨t, ht⟩ := hpre
        rw [h]
        refine ⟨t.tail, ?_⟩
        have h2 : t ≠ [] := fun e => by
          rw [e, List.append_nil] at ht
          rw [← ht] at hlt
          omega
        obtain ⟨y, t', rfl⟩ := List.exists_cons_of_ne_nil h2
        have h3 : (eachAll l0)[pre.length]'hlt = y := by simp [← ht]
        rw [h3, ← ht]
        simp
      rw [e1] at xs1
      rw [e2] at xs2
      have hc0 := b0.cell
      have hc1 := b1.cell
      have hc2 := b2.cell
      have hc3 := b3.cell
      have hc4 := hn.cell
      have hf1 := b1.frozen
      have hf4 := hn.frozen
      generalize (eachAll l0)[pre.length]'hlt = y at xs1 xs2 hwrong hright
      obtain ⟨x1, x2⟩ := x
      obtain ⟨y1, y2⟩ := y
      dsimp only at xs1 xs2 ⊢
      by_cases g1 : x1 = y1
      · by_cases g2 : x2 = y2
        · subst g1
          subst g2
          have hr := hright rfl
          have hw : wrap64 ((pre.length : Int) + 1) = (pre.length : Int) + 1 := w64 (by omega) (by have := HN.out; omega)
          have hlen1 : ((pre ++ [(x1, x2)]).length : Int) = (pre.length : Int) + 1 := by simp
          have hn1 : Boxed (W.setCell ⟨w2.heap.size + 1 + 1, 0, none⟩ (.int .i64 ((pre.length : Int) + 1))) (w2.heap.size + 1 + 1) 3 (.int .i64 ((pre.length : Int) + 1)) := hn.set _
          have hB4 : Below w3.heap.size w3 (W.setCell ⟨w2.heap.size + 1 + 1, 0, none⟩ (.int .i64 ((pre.length : Int) + 1))) := hbW.setCell (p := ⟨w2.heap.size + 1 + 1, 0, none⟩) (Nat.le_of_eq E5.out) _
          have hB6 : Below w.heap.size W (W.setCell ⟨w2.heap.size + 1 + 1, 0, none⟩ (.int .i64 ((pre.length : Int) + 1))) := (Below.refl _ W).setCell (p := ⟨w2.heap.size + 1 + 1, 0, none⟩) (by show w.heap.size ≤ w2.heap.size + 1 + 1; have := hB2.size; omega) _
          have hbx1 : Boxed (W.setCell ⟨w2.heap.size + 1 + 1, 0, none⟩ (.int .i64 ((pre.length : Int) + 1))) (w3.heap.size + 1) 22 (.slice A0 l0.length c0) := hbx.other (by have := E5.out; omega) _
          have hK1 := keepB_of hB6 hbx hbx1
          have hc5 := hn1.cell
          have hc6 := (b0.other (B' := w2.heap.size + 1 + 1) (by have := hB2.size; omega) (.int .i64 ((pre.length : Int) + 1))).cell
          have HR := Aside0.mk hr
          have HL1 := Aside0.mk hlen1
          have HN1 := Aside0.mk hn1
          have HB4 := Aside0.mk hB4
          have HBX1 := Aside0.mk hbx1
          have HK1 := Aside0.mk hK1
          have HNE := Aside0.mk hne
          clear hwrong hright hr hlen1 hn1 hB4 hB6 hbx1 hK1 hne hpre b0 b1 b2 b3 hbx hbW e1 e2 hn hlt hD1 hD2
          by_cases g3 : (pre.length : Int) + 1 = a1
          · have g3b : (((pre.length : Int) + 1) == a1) = true := by simpa using g3
            have G3 := Aside0.mk g3
            clear g3
            gi_wp2
            exact ⟨(KeepsOthers.setCell _ _ _).from _, .inl ⟨rfl, by rw [HL1.out]; exact G3.out, by rw [HL1.out]; exact HN1.out, HB4.out⟩⟩
          · have g3b : (((pre.length : Int) + 1) == a1) = false := by simpa using g3
            have G3 := Aside0.mk g3
            clear g3
            gi_wp2
            refine ⟨(KeepsOthers.setCell _ _ _).from _, HK1.out, ⟨by rw [HL1.out]; exact HN1.out, HR.out, fun j h1 h2 => ?_⟩, HBX1.out, HB4.out⟩
            by_cases h3 : j ≤ pre.length
            · exact HNE.out j h1 h3
            · have h4 : (j : Int) = (pre.length : Int) + 1 := by
                simp only [List.length_append, List.length_singleton] at h2
                omega
              rw [h4]
              exact G3.out
        · have g1b : ((x1 : Int) == (y1 : Int)) = true := by
            rw [beq_iff_eq]
            omega
          have g2b : (x2 == y2) = false := by simpa using g2
          have hw2 : ¬ (pre ++ [(y1, x2)]) <+: eachAll l0 := by
            rw [← g1]
            exact hwrong (fun e => g2 (congrArg Prod.snd e))
          gi_wp2
          exact ⟨(KeepsOthers.setCell _ _ _).from _, .inr ⟨rfl, hw2⟩⟩
      · have g1b : ((x1 : Int) == (y1 : Int)) = false := by
          rw [beq_eq_false_iff_ne]
          omega
        gi_wp2
        exact ⟨(KeepsOthers.setCell _ _ _).from _, .inr ⟨rfl, hwrong (fun e => g1 (congrArg Prod.fst e))⟩⟩
    case done =>
      rintro D ys W hD rfl ⟨⟨hn, hpre, hne⟩, hbx, hbW⟩ hK
      have b0 : Boxed W w.heap.size 3 (.int .i64 a1) := (hbW.block _ (Array.getElem?_eq_some_iff.1 u0).1).trans u0
      have b1 : Boxed W (w.heap.size + 1) 4 (.bool false) := (hbW.block _ (Array.getElem?_eq_some_iff.1 u1).1).trans u1
      have b2 : Boxed W w2.heap.size 27 (.slice A1 (symsR l0).length c1) := (hbW.block _ u2.lt).trans u2
      have hc0 := b0.cell
      have hc1 := b1.cell
      have hc2 := b2.cell
      have hc4 := hn.cell
      have hf1 := b1.frozen
      rw [HN.out] at hc4
      have HBW := Aside0.mk (hB3.trans (hbW.mono hB3.size))
      have HK := Aside0.mk hK
      have HD : Aside0 (w.heap.size ≤ D) := Aside0.mk (by have := hB5.size; omega)
      clear hpre hne hbx b0 b1 b2 hbW hK hn u0 u1 u2 u3 u4 u5 hb35 hD1 hD2 hD hr0 hby hB5 hB3 hB2
      gi_wp2
      have hK' := (KeepsOthers.setCell W ⟨w.heap.size + 1, 0, none⟩ (.bool true)).same D _ HK.out rfl
      refine ⟨by simp, .inl ⟨_, _, rfl, run_takeDeferred hK', ?_⟩⟩
      have hc5 := cell_kept (World.cell?_setCell_same' W ⟨w.heap.size + 1, 0, none⟩ (.bool true) (by rw [hc1]; rfl)) (grownBy_putObj' _ D (.deferred none)) (fun r e => by cases e; exact ⟨_, hK', rfl⟩)
      refine ⟨.bool true, ?_, rfl, (HBW.out.setCell (p := ⟨w.heap.size + 1, 0, none⟩) (by show w.heap.size ≤ w.heap.size + 1; omega) _).trans (belowK_b (w := w) (Nat.le_refl _) _ D _ _ HD.out hK' rfl rfl)⟩
      simp [results, Tryd.f4, go_sem, hc5]
    case stop =>
      rintro D c pre W hD hpre hI hK
      rcases hI with ⟨rfl, hst, hn, hbW⟩ | ⟨rfl, hno⟩
      · have b0 : Boxed W w.heap.size 3 (.int .i64 a1) := (hbW.block _ (Array.getElem?_eq_some_iff.1 u0).1).trans u0
        have b1 : Boxed W (w.heap.size + 1) 4 (.bool false) := (hbW.block _ (Array.getElem?_eq_some_iff.1 u1).1).trans u1
        have b2 : Boxed W w2.heap.size 27 (.slice A1 (symsR l0).length c1) := (hbW.block _ u2.lt).trans u2
        have hc0 := b0.cell
        have hc1 := b1.cell
        have hc2 := b2.cell
        have hc4 := hn.cell
        have hf1 := b1.frozen
        rw [hst] at hc4
        have HBW := Aside0.mk (hB3.trans (hbW.mono hB3.size))
        have HK := Aside0.mk hK
        have HD : Aside0 (w.heap.size ≤ D) := Aside0.mk (by have := hB5.size; omega)
        clear hst hpre b0 b1 b2 hbW hK hn u0 u1 u2 u3 u4 u5 hb35 hD1 hD2 hD hr0 hby hB5 hB3 hB2
        cases he : (a1 == ((symsR l0).length : Int)) with
        | true =>
          gi_wp2
          have hK' := (KeepsOthers.setCell W ⟨w.heap.size + 1, 0, none⟩ (.bool true)).same D _ HK.out rfl
          refine ⟨by simp, .inl ⟨_, _, rfl, run_takeDeferred hK', ?_⟩⟩
          have hc5 := cell_kept (World.cell?_setCell_same' W ⟨w.heap.size + 1, 0, none⟩ (.bool true) (by rw [hc1]; rfl)) (grownBy_putObj' _ D (.deferred none)) (fun r e => by cases e; exact ⟨_, hK', rfl⟩)
          refine ⟨.bool true, ?_, rfl, (HBW.out.setCell (p := ⟨w.heap.size + 1, 0, none⟩) (by show w.heap.size ≤ w.heap.size + 1; omega) _).trans (belowK_b (w := w) (Nat.le_refl _) _ D _ _ HD.out hK' rfl rfl)⟩
          simp [results, Tryd.f4, go_sem, hc5]
        | false =>
          gi_wp2
          have hK' := (KeepsOthers.setCell W ⟨w.heap.size + 1, 0, none⟩ (.bool true)).same D _ HK.out rfl
          refine ⟨by simp, .inl ⟨_, _, rfl, run_takeDeferred hK', ?_⟩⟩
          have hc5 := cell_kept (World.cell?_setCell_same' W ⟨w.heap.size + 1, 0, none⟩ (.bool true) (by rw [hc1]; rfl)) (grownBy_putObj' _ D (.deferred none)) (fun r e => by cases e; exact ⟨_, hK', rfl⟩)
          refine ⟨.bool true, ?_, rfl, (HBW.out.setCell (p := ⟨w.heap.size + 1, 0, none⟩) (by show w.heap.size ≤ w.heap.size + 1; omega) _).trans (belowK_b (w := w) (Nat.le_refl _) _ D _ _ HD.out hK' rfl rfl)⟩
          simp [results, Tryd.f4, go_sem, hc5]
      · exact absurd hpre hno
end Go.Proofs.YtjgbhajaiifimaaDoor.P
