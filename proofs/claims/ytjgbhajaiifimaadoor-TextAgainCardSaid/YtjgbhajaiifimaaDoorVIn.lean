/- TextIn: the symbol behind any place is in any set just if the document says so. -/
import Derived.Test.YtjgbhajaiifimaaDoorVHold
namespace Go.Proofs.YtjgbhajaiifimaaDoor.V
open Go Go.Ev Go.RowKit
set_option linter.unusedVariables false
set_option linter.unusedSimpArgs false
theorem tyR : C.T 62 = some ⟨2, 16, [.int .i64, .int .i64], true, .struct [(0, 3), (1, 3)]⟩ := rfl
theorem tyRs : C.T 59 = some ⟨1, 24, [.slice 62], false, .slice 62⟩ := rfl
theorem fitF_int {k : Nat} {o : Nat} {fs : List (Nat × TypeId)} {l : List Dat} (h : fitF (fitT C.T (k + 1)) C.T ((o, 3) :: fs) l) : ∃ (n : Int) (l' : List Dat), l = .int n :: l' ∧ (-9223372036854775808 ≤ n ∧ n ≤ 9223372036854775807) ∧ fitF (fitT C.T (k + 1)) C.T fs l' := by
  obtain ⟨fti, d, l', h1, h2, h3, h4, h5⟩ := h
  rw [tyi, Option.some.injEq] at h1
  subst h1
  obtain ⟨n, rfl, h6⟩ := fit_i64 h4
  exact ⟨n, l', h2, h6, h5⟩
theorem fit_range {k : Nat} {d : Dat} (h : fitT C.T (k + 2) 62 d) : ∃ p : Int × Int, d = .agg [.int p.1, .int p.2] := by
  have h' : ∃ ti, C.T 62 = some ti ∧ (match ti.sh with
    | .scal => ∃ c, ti.cts = [c] ∧ fitS c d
    | .slice e => ∃ l, d = .list l ∧ (∃ te, C.T e = some te ∧ l.length * te.bytes ≤ 140737488351232) ∧ ∀ x, x ∈ l → fitT C.T (k + 1) e x
    | .struct fs => ∃ l, d = .agg l ∧ fitF (fitT C.T (k + 1)) C.T fs l
    | _ => False) := h
  obtain ⟨ti, h1, h2⟩ := h'
  rw [tyR, Option.some.injEq] at h1
  subst h1
  obtain ⟨l, rfl, h3⟩ := h2
  obtain ⟨a, l1, rfl, _, h4⟩ := fitF_int h3
  obtain ⟨b, l2, rfl, _, h5⟩ := fitF_int h4
  have : l2 = [] := h5
  subst this
  exact ⟨(a, b), rfl⟩
theorem fit_ranges {k : Nat} {d : Dat} (h : fitT C.T (k + 3) 59 d) : ∃ l : List (Int × Int), d = .list (rs l) ∧ l.length ≤ 140737488351232 := by
  have h' : ∃ ti, C.T 59 = some ti ∧ (match ti.sh with
    | .scal => ∃ c, ti.cts = [c] ∧ fitS c d
    | .slice e => ∃ l, d = .list l ∧ (∃ te, C.T e = some te ∧ l.length * te.bytes ≤ 140737488351232) ∧ ∀ x, x ∈ l → fitT C.T (k + 2) e x
    | .struct fs => ∃ l, d = .agg l ∧ fitF (fitT C.T (k + 2)) C.T fs l
    | _ => False) := h
  obtain ⟨ti, h1, h2⟩ := h'
  rw [tyRs, Option.some.injEq] at h1
  subst h1
  obtain ⟨l, rfl, ⟨te, h3, h4⟩, h5⟩ := h2
  rw [tyR, Option.some.injEq] at h3
  subst h3
  have : ∀ l : List Dat, (∀ x, x ∈ l → fitT C.T (k + 2) 62 x) → ∃ m : List (Int × Int), l = rs m := by
    intro l
    induction l with
    | nil => intro _; exact ⟨[], rfl⟩
    | cons x l ih =>
      intro hx
      obtain ⟨p, rfl⟩ := fit_range (hx x List.mem_cons_self)
      obtain ⟨m, rfl⟩ := ih fun y hy => hx y (List.mem_cons_of_mem _ hy)
      exact ⟨p :: m, rfl⟩
  obtain ⟨m, rfl⟩ := this l h5
  refine ⟨m, rfl, ?_⟩
  have : (rs m).length = m.length := by simp [rs]
  rw [this] at h4
  have h4 : m.length * 16 ≤ 140737488351232 := h4
  omega
theorem RefHas_loop (l : List (Int × Int)) (x : Int) (hl : l.length ≤ 140737488351232) (v4 : Bool) : ∀ (d k : Nat), l.length - k = d → k ≤ l.length →
    M37_1 (rs l) x v4 (k : Int) = some [.bool (decide (0 ≤ x) && (decide (x ≤ 1114367) && (l.drop k).any (inR x)))] := by
  intro d
  induction d with
  | zero =>
    intro k hd hk
    apply M37_1_of
    have hrl : (rs l).length = l.length := by simp [rs]
    rw [hrl, dF (by omega), List.drop_of_length_le (by omega)]
    simp
  | succ d ih =>
    intro k hd hk
    have hlt : k < l.length := by omega
    have hrl : (rs l).length = l.length := by simp [rs]
    have hdr : l.drop k = l[k] :: l.drop (k + 1) := List.drop_eq_getElem_cons hlt
    have hn := ih (k + 1) (by omega) (by omega)
    apply M37_1_of
    simp only [Int.toNat_natCast, rs_rd l k hlt, hrl]
    have e0 : ((Dat.agg [Dat.int (l[k]).1, Dat.int (l[k]).2]).C 0).I = (l[k]).1 := rfl
    have e1 : ((Dat.agg [Dat.int (l[k]).1, Dat.int (l[k]).2]).C 1).I = (l[k]).2 := rfl
    have ew : IntKind.i64.wrap ((k : Int) + 1) = ((k + 1 : Nat) : Int) := by rw [w64 (by omega) (by omega)]; omega
    rw [dT (by omega), e0, e1, ew]
    by_cases h0 : x ≥ 0
    · rw [dT h0]
      by_cases h1 : x ≤ 1114367
      · rw [dT h1, dT (by omega), dT (by omega), dT (by omega)]
        rw [hdr, List.any_cons]
        by_cases h2 : x ≥ (l[k]).1
        · rw [dT h2, dT (by omega), dT (by omega), dT (by omega)]
          by_cases h3 : x ≤ (l[k]).2
          · rw [dT h3]
            have : inR x l[k] = true := by simp [inR, h3]; omega
            rw [this]
            simp [h0, h1]
          · rw [dF h3, hn]
            have : inR x l[k] = false := by simp [inR, h3]
            rw [this]
            simp
        · rw [dF h2, hn]
          have : inR x l[k] = false := by simp [inR]; omega
          rw [this]
          simp
      · rw [dF h1, hn, decide_eq_false h1]
        simp
    · rw [dF h0, hn, decide_eq_false (show ¬ 0 ≤ x by omega)]
      simp
theorem RefHas_E (l : List (Int × Int)) (x : Int) (hl : l.length ≤ 140737488351232) : E C 37 [.shr 63 (rs l), .int .i64 x] = some [.bool (decide (0 ≤ x) && (decide (x ≤ 1114367) && l.any (inR x)))] := by
  apply o37
  exact RefHas_loop l x hl false l.length 0 (by omega) (by omega)
theorem In_E (l : List Int) (i : Int) (s : List (Int × Int)) (hs : s.length ≤ 140737488351232) : E C 36 [.agg [.shr 3 (l.map .int)], .int .i64 i, .shr 62 (rs s)] = some [.bool (decide (0 ≤ atP l i) && (decide (atP l i ≤ 1114367) && s.any (inR (atP l i))))] := by
  apply o36
  rw [bT (At2_E l i)]
  simp only [rd0, datI]
  rw [bT (Has_E s _ hs)]
  rfl
theorem In_loop (b : List Dat) (l : List Int) (i : Int) (s : List (Int × Int)) (hs : s.length ≤ 50) : ∀ (d k : Nat), s.length - k = d → k ≤ s.length →
    M13_1 b i (rs s) false (l.map .int) 0 (l.map .int) (rs (s.take k)) (rs s) (s.length : Int) (k : Int) = some [.bool true] := by
  intro d
  have hrl : (rs s).length = s.length := by simp [rs]
  induction d with
  | zero =>
    intro k hd hk
    obtain rfl : k = s.length := by omega
    apply M13_1_of
    rw [dF (by omega), bT (RefAt13_E l i), eT rfl, bT (In_E l i s (by omega)), List.take_length]
    simp only [rd0, datI, datB]
    by_cases h : atP l i ≥ 0
    · rw [dT h, bT (RefHas_E s _ (by omega))]
      simp
    · rw [dF h, decide_eq_false (show ¬ 0 ≤ atP l i by omega)]
      simp
  | succ d ih =>
    intro k hd hk
    have hlt : k < s.length := by omega
    have hn := ih (k + 1) (by omega) (by omega)
    have hc : capB 16 = 8796093022208 := by decide
    have hrt : (rs (s.take k)).length = k := by simp [rs]; omega
    apply M13_1_of
    rw [hrl, dT (by omega), dT (by omega), dT (by omega), dT (by omega), hrt]
    rw [dT (by simp only [List.length_cons, List.length_nil]; omega), Int.toNat_natCast, rs_rd s k hlt, w64 (by omega) (by omega)]
    have e : rs (s.take k) ++ [.agg [.int (((Dat.agg [Dat.int (s[k]).1, Dat.int (s[k]).2]).C 0).I), .int (((Dat.agg [Dat.int (s[k]).1, Dat.int (s[k]).2]).C 1).I)]] = rs (s.take (k + 1)) := by
      have : s.take (k + 1) = s.take k ++ [s[k]] := by rw [List.take_succ_eq_append_getElem hlt]
      rw [this]
      unfold rs
      rw [List.map_append]
      rfl
    rw [e]
    exact hn
theorem TextIn_pure (e0 e1 e2 : Dat) (h0 : fitT C.T 9 22 e0) (h1 : fitT C.T 9 3 e1) (h2 : fitT C.T 9 59 e2) : E C 13 [.shr 5 e0.L, .int .i64 e1.I, .shr 62 e2.L] = some [.bool true] := by
  obtain ⟨b, rfl, hb, hbl⟩ := fit_bytes h0
  obtain ⟨s, rfl, hsl⟩ := fit_ranges h2
  apply o13
  rw [bT anchor_E]
  have hrl : (rs s).length = s.length := by simp [rs]
  simp only [rd0, datB, datL, Bool.not_true, cond_false, List.length_map, hrl]
  by_cases g : (b.length : Int) > 2000
  · rw [dT g]
  rw [dF g]
  by_cases g2 : (s.length : Int) > 50
  · rw [dT g2]
  rw [dF g2, bT (New_ok hb (by omega)), bT (RefAll_E hb (by omega))]
  simp only [rd0, rd1, datI, datL]
  exact In_loop _ (symsR b) e1.I s (by omega) s.length 0 (by omega) (by omega)
end Go.Proofs.YtjgbhajaiifimaaDoor.V
