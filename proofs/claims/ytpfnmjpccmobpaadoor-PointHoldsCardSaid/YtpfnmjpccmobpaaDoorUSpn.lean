/- States of a walk, their groups' spans, and what a point holds at. -/
import Derived.Test.YtpfnmjpccmobpaaDoorUTen
import Derived.Test.YtpfnmjpccmobpaaDoorUTof
import Derived.Test.YtpfnmjpccmobpaaDoorVTPt
import Derived.Test.YtpfnmjpccmobpaaDoorVTLspan
import Derived.Test.YtpfnmjpccmobpaaDoorVTLholds
namespace Go.Proofs.YtpfnmjpccmobpaaDoor.V
open Go Go.Ev Go.RowKit
set_option linter.unusedVariables false
set_option linter.unusedSimpArgs false
structure Sta where
  kind : Int
  node : Int
  phase : Int
  pos : Int
  start : Int
  depth : Int
  origin : Int
  caps : List Int
def OkS (s : Sta) : Prop := s.caps.length ≤ 17592186043904
def staD (s : Sta) : Dat := .agg [.int s.kind, .int s.node, .int s.phase, .int s.pos, .int s.start, .int s.depth, .int s.origin, .list (s.caps.map .int)]
theorem fit_state {k : Nat} {d : Dat} (h : fitT C.T (k + 3) 37 d) : ∃ s : Sta, d = staD s ∧ OkS s := by
  obtain ⟨l, rfl, h1⟩ := fit_struct (t := 37) (ti := ⟨8, 80, [.int .i64, .int .i64, .int .i64, .int .i64, .int .i64, .int .i64, .int .i64, .slice 3], true, .struct [(0, 3), (1, 3), (2, 3), (3, 3), (4, 3), (5, 3), (6, 3), (7, 35)]⟩) rfl rfl h
  obtain ⟨d0, l, rfl, g0, h1⟩ := fitF_one h1 tyi rfl
  obtain ⟨d1, l, rfl, g1, h1⟩ := fitF_one h1 tyi rfl
  obtain ⟨d2, l, rfl, g2, h1⟩ := fitF_one h1 tyi rfl
  obtain ⟨d3, l, rfl, g3, h1⟩ := fitF_one h1 tyi rfl
  obtain ⟨d4, l, rfl, g4, h1⟩ := fitF_one h1 tyi rfl
  obtain ⟨d5, l, rfl, g5, h1⟩ := fitF_one h1 tyi rfl
  obtain ⟨d6, l, rfl, g6, h1⟩ := fitF_one h1 tyi rfl
  obtain ⟨d7, l, rfl, g7, h1⟩ := fitF_one (fti := ⟨1, 24, [.slice 3], false, .slice 3⟩) h1 rfl rfl
  obtain rfl : l = [] := h1
  obtain ⟨x0, rfl, e0⟩ := fit_i64 g0
  obtain ⟨x1, rfl, e1⟩ := fit_i64 g1
  obtain ⟨x2, rfl, e2⟩ := fit_i64 g2
  obtain ⟨x3, rfl, e3⟩ := fit_i64 g3
  obtain ⟨x4, rfl, e4⟩ := fit_i64 g4
  obtain ⟨x5, rfl, e5⟩ := fit_i64 g5
  obtain ⟨x6, rfl, e6⟩ := fit_i64 g6
  obtain ⟨x7, rfl, e7, f7⟩ := fit_int_row g7
  exact ⟨⟨x0, x1, x2, x3, x4, x5, x6, x7⟩, rfl, e7⟩
def spanO (caps : List Int) (g : Int) : Option (Int × Int) :=
  if g < 0 ∨ 2 * g + 1 ≥ (caps.length : Int) then none
  else if caps.getD (2 * g).toNat 0 < 0 then none
  else if caps.getD (2 * g + 1).toNat 0 < 0 then none
  else some (caps.getD (2 * g).toNat 0, caps.getD (2 * g + 1).toNat 0)
def spanD : Option (Int × Int) → List Dat
  | none => [.agg [.int (-1), .int (-1)]]
  | some p => [.agg [.int p.1, .int p.2]]
def spanP : Option (Int × Int) → List Dat
  | none => [.int 0, .int 0, .bool false]
  | some p => [.int p.1, .int p.2, .bool true]
abbrev avS (s : Sta) : AV := .agg [.int .i64 s.kind, .int .i64 s.node, .int .i64 s.phase, .int .i64 s.pos, .int .i64 s.start, .int .i64 s.depth, .int .i64 s.origin, .shr 3 (s.caps.map .int)]
theorem span_E {s : Sta} (hs : OkS s) (g : Int) (hg : g ≤ 100) : E C 70 [avS s, .int .i64 g] = some (spanD (spanO s.caps g)) := by
  unfold OkS at hs
  apply o70
  rw [List.length_map]
  unfold spanO
  by_cases h1 : g < 0
  · rw [dT h1, if_pos (.inl h1)]; rfl
  rw [dF h1, dF (by omega), w64 (n := 2 * g) (by omega) (by omega), w64 (n := 2 * g + 1) (by omega) (by omega)]
  by_cases h2 : 2 * g + 1 ≥ (s.caps.length : Int)
  · rw [dT h2, if_pos (.inr h2)]; rfl
  rw [dF h2, if_neg (by omega)]
  simp only [rdI]
  rw [dT (by omega), dT (by omega), dT (by omega)]
  by_cases h3 : s.caps.getD (2 * g).toNat 0 < 0
  · rw [dT h3, if_pos h3]; rfl
  rw [dF h3, if_neg h3, dT (by omega), dT (by omega), dT (by omega)]
  by_cases h4 : s.caps.getD (2 * g + 1).toNat 0 < 0
  · rw [dT h4, if_pos h4]; rfl
  rw [dF h4, if_neg h4, dT (by omega), dT (by omega), dT (by omega), dT (by omega), dT (by omega), dT (by omega)]
  rfl
theorem Span_E {s : Sta} (hs : OkS s) (g : Int) : E C 111 [avS s, .int .i64 g] = some (spanP (spanO s.caps g)) := by
  unfold OkS at hs
  apply o111
  rw [List.length_map]
  unfold spanO
  have ht : IntKind.i64.wrap ((s.caps.length : Int).tdiv 2) = ((s.caps.length / 2 : Nat) : Int) := by
    rw [show (2 : Int) = ((2 : Nat) : Int) from rfl, ← Int.ofNat_tdiv, w64 (by omega) (by omega)]
  rw [ht]
  by_cases h1 : g < 0
  · rw [dT h1, if_pos (.inl h1)]; rfl
  rw [dF h1]
  by_cases h2 : g ≥ ((s.caps.length / 2 : Nat) : Int)
  · rw [dT h2, if_pos (.inr (by omega))]; rfl
  rw [dF h2, w64 (n := 2 * g) (by omega) (by omega), w64 (n := 2 * g + 1) (by omega) (by omega), if_neg (by omega)]
  simp only [rdI]
  rw [dT (by omega), dT (by omega), dT (by omega)]
  by_cases h3 : s.caps.getD (2 * g).toNat 0 < 0
  · rw [dT h3, if_pos h3]; rfl
  rw [dF h3, if_neg h3, dT (by omega), dT (by omega), dT (by omega)]
  by_cases h4 : s.caps.getD (2 * g + 1).toNat 0 < 0
  · rw [dT h4, if_pos h4]; rfl
  rw [dF h4, if_neg h4, dT (by omega), dT (by omega), dT (by omega), dT (by omega), dT (by omega), dT (by omega)]
  rfl
theorem span_pos {caps : List Int} {g : Int} {p : Int × Int} (h : spanO caps g = some p) : 0 ≤ p.1 := by
  unfold spanO at h
  split at h
  · cases h
  split at h
  · cases h
  split at h
  · cases h
  · obtain rfl := Option.some.inj h
    show 0 ≤ caps.getD (2 * g).toNat 0
    omega
theorem moved_E {was now : Sta} (h1 : OkS was) (h2 : OkS now) (g : Int) : E C 71 [.int .i64 g, avS was, avS now] = some [.bool (decide (spanO was.caps g ≠ spanO now.caps g))] := by
  apply o71
  rw [bT (Span_E h1 g), bT (Span_E h2 g)]
  cases spanO was.caps g with
  | none =>
    cases spanO now.caps g with
    | none => rfl
    | some q => rfl
  | some p =>
    cases spanO now.caps g with
    | none => rfl
    | some q =>
      obtain ⟨p1, p2⟩ := p
      obtain ⟨q1, q2⟩ := q
      simp only [spanP, rd0, rd1, rd2, datI, datB]
      rw [nF (by rfl)]
      by_cases e1 : p1 = q1
      · rw [neF e1]
        by_cases e2 : p2 = q2
        · rw [e1, e2]; simp
        · rw [decide_eq_true (show some (p1, p2) ≠ some (q1, q2) from fun h => by simp at h; exact e2 h.2)]
          have : (p2 != q2) = true := by simpa using e2
          rw [this]
      · rw [neT e1, decide_eq_true (show some (p1, p2) ≠ some (q1, q2) from fun h => by simp at h; exact e1 h.1)]
def holdsB (t : Tr) (w a : Int) (was now : Sta) : Bool :=
  if w = 1 then insideB t now.node a
  else if w = 2 then now.pos == a && was.pos != a
  else if w = 3 then now.kind == a
  else if w = 4 then decide (spanO was.caps a ≠ spanO now.caps a)
  else if w = 5 then decide (now.depth ≥ a) && decide (was.depth < a)
  else false
abbrev avT (t : Tr) : AV := .agg [.shr 57 (nsD t.ns), .int .i64 t.groups, .shr 9 (t.names.map .str)]
theorem Holds_E {t : Tr} (ht : OkT t) (hl : Laid t) {was now : Sta} (h1 : OkS was) (h2 : OkS now) (w a : Int) : E C 25 [.agg [.int .i64 w, .int .i64 a], avT t, avS was, avS now] = some [.bool (holdsB t w a was now)] := by
  apply o25
  unfold holdsB
  by_cases c1 : w = 1
  · rw [eT c1, if_pos c1, bT (Inside_E ht hl _ _)]; rfl
  rw [eF c1, if_neg c1]
  by_cases c2 : w = 2
  · rw [eT c2, if_pos c2]
    by_cases c : now.pos = a
    · rw [eT c, c, beq_self_eq_true, Bool.true_and]
      have : (a != was.pos) = (was.pos != a) := bne_comm
      rw [this]
    · rw [eF c, beq_eq_false_iff_ne.2 c]; rfl
  rw [eF c2, if_neg c2]
  by_cases c3 : w = 3
  · rw [eT c3, if_pos c3]
  rw [eF c3, if_neg c3]
  by_cases c4 : w = 4
  · rw [eT c4, if_pos c4, bT (moved_E h1 h2 a)]; rfl
  rw [eF c4, if_neg c4]
  by_cases c5 : w = 5
  · rw [eT c5, if_pos c5]
    cases decide (now.depth ≥ a) <;> rfl
  rw [eF c5, if_neg c5]
theorem holds_E {t : Tr} (ht : OkT t) (hl : Laid t) {was now : Sta} (h1 : OkS was) (h2 : OkS now) (w a : Int) (ha : w = 4 → a ≤ 100) : E C 24 [.agg [.int .i64 w, .int .i64 a], avT t, avS was, avS now] = some [.bool (holdsB t w a was now)] := by
  apply o24
  unfold holdsB
  rw [nsD_len]
  by_cases c1 : w = 1
  · rw [eT c1, if_pos c1]
    unfold insideB
    by_cases g1 : a ≥ 0
    · rw [dT g1, decide_eq_true g1]
      by_cases g2 : a < (t.ns.length : Int)
      · rw [dT g2, if_pos ⟨g1, g2⟩]
        by_cases g3 : now.node ≥ a
        · have := EndR_E ht hl (i := a.toNat) (by omega)
          rw [show ((a.toNat : Nat) : Int) = a by omega] at this
          rw [dT g3, decide_eq_true g3, bT (of_E ht)]
          simp only [treeD, rd0, aggC0, aggC1, aggC2, datL, datI]
          rw [bT this]
          rfl
        · rw [dF g3, decide_eq_false g3]; rfl
      · rw [dF g2, if_neg (by omega)]
        by_cases g3 : now.node ≥ a
        · rw [decide_eq_true g3, decide_eq_false (show ¬ now.node < 0 by omega)]; rfl
        · rw [decide_eq_false g3]; rfl
    · rw [dF g1, decide_eq_false g1]; rfl
  rw [eF c1, if_neg c1]
  by_cases c2 : w = 2
  · rw [eT c2, if_pos c2]
    cases now.pos == a <;> rfl
  rw [eF c2, if_neg c2]
  by_cases c3 : w = 3
  · rw [eT c3, if_pos c3]
  rw [eF c3, if_neg c3]
  by_cases c4 : w = 4
  · rw [eT c4, if_pos c4, bT (span_E h1 a (ha c4)), bT (span_E h2 a (ha c4))]
    have hp1 := fun p => span_pos (caps := was.caps) (g := a) (p := p)
    have hp2 := fun p => span_pos (caps := now.caps) (g := a) (p := p)
    revert hp1 hp2
    cases spanO was.caps a with
    | none =>
      cases spanO now.caps a with
      | none => intro _ _; rfl
      | some q =>
        intro _ hp2
        obtain ⟨q1, q2⟩ := q
        have := hp2 (q1, q2) rfl
        simp only [spanD, rd0, aggC0, aggC1, datI]
        rw [beq_eq_false_iff_ne.2 (show (-1 : Int) ≠ q1 from fun e => by have h0 : 0 ≤ q1 := this; omega)]
        rfl
    | some p =>
      cases spanO now.caps a with
      | none =>
        intro hp1 _
        obtain ⟨p1, p2⟩ := p
        have := hp1 (p1, p2) rfl
        simp only [spanD, rd0, aggC0, aggC1, datI]
        rw [beq_eq_false_iff_ne.2 (show p1 ≠ (-1 : Int) from fun e => by have h0 : 0 ≤ p1 := this; omega)]
        rfl
      | some q =>
        intro _ _
        obtain ⟨p1, p2⟩ := p
        obtain ⟨q1, q2⟩ := q
        simp only [spanD, rd0, aggC0, aggC1, datI]
        by_cases e1 : p1 = q1
        · by_cases e2 : p2 = q2
          · rw [e1, e2]; simp
          · rw [decide_eq_true (show some (p1, p2) ≠ some (q1, q2) from fun h => by simp at h; exact e2 h.2), beq_eq_false_iff_ne.2 e2]
            simp
        · rw [decide_eq_true (show some (p1, p2) ≠ some (q1, q2) from fun h => by simp at h; exact e1 h.1), beq_eq_false_iff_ne.2 e1]
          simp
  rw [eF c4, if_neg c4]
  by_cases c5 : w = 5
  · rw [eT c5, if_pos c5]
    cases decide (now.depth ≥ a) <;> rfl
  rw [eF c5, if_neg c5]
end Go.Proofs.YtpfnmjpccmobpaaDoor.V
