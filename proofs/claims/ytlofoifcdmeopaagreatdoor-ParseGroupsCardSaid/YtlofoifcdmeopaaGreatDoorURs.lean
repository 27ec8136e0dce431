/- Lists of ranges: what they haven't, and what they have. -/
import Derived.Test.YtlofoifcdmeopaaGreatDoorURsA
namespace Go.Proofs.YtlofoifcdmeopaaGreatDoor.V
open Go Go.Ev Go.RowKit
set_option linter.unusedVariables false
set_option linter.unusedSimpArgs false
theorem Not_l1 (v0 v2 : List Dat) (xs : List (Int × Int)) (hx : ∀ r ∈ xs, okR r) (hlen : xs.length + 1 < 8796093022208) : ∀ (rest pre acc : List (Int × Int)) (n : Int), xs = pre ++ rest → acc.length ≤ pre.length → 0 ≤ n ∧ n ≤ 1114368 →
    M167_1 v0 v2 (rs acc) n (rs xs) (xs.length : Int) (pre.length : Int) = some [.list (rs (acc ++ notL n rest))] := by
  have hc16 : capB 16 = 8796093022208 := by decide
  intro rest
  induction rest with
  | nil =>
    intro pre acc n hxs ha hn
    rw [List.append_nil] at hxs
    subst hxs
    apply M167_1_of
    rw [dF (by omega)]
    unfold notL
    by_cases h : n ≤ 1114367
    · rw [dT h, if_pos h, rs_len, dT (by rw [List.length_singleton]; omega), rs1 (n, 1114367), ← rsA]
    · rw [dF h, if_neg h, List.append_nil]
  | cons r rest ih =>
    intro pre acc n hxs ha hn
    have hl : xs.length = pre.length + (rest.length + 1) := by rw [hxs]; simp
    have hrx : okR r := hx r (by rw [hxs]; simp)
    unfold okR at hrx
    have hat : rd (rs xs) pre.length = .agg [.int r.1, .int r.2] := by rw [hxs]; exact rs_at _ _ _
    have ek : IntKind.i64.wrap ((pre.length : Int) + 1) = (((pre ++ [r]).length : Nat) : Int) := by rw [w64 (by omega) (by omega)]; simp
    apply M167_1_of
    rw [rs_len, dT (by omega), ixT ⟨by omega, by omega⟩, Int.toNat_natCast, hat]
    simp only [aggC0, aggC1, datI]
    rw [ek, w64 (n := r.1 - 1) (by omega) (by omega), w64 (n := r.2 + 1) (by omega) (by omega)]
    unfold notL
    by_cases h : r.1 > n
    · rw [dT h, if_pos h, rs_len, dT (by rw [List.length_singleton]; omega), rs1 (n, r.1 - 1), ← rsA]
      refine (ih (pre ++ [r]) (acc ++ [(n, r.1 - 1)]) (r.2 + 1) (by rw [hxs]; simp) (by simp; omega) ⟨by omega, by omega⟩).trans ?_
      simp
    · rw [dF h, if_neg h]
      exact ih (pre ++ [r]) acc (r.2 + 1) (by rw [hxs]; simp) (by simp; omega) ⟨by omega, by omega⟩
theorem Not_E (l : List (Int × Int)) (hlen : l.length + 1 < 8796093022208) : E C 167 [.shr 82 (rs l)] = some [.list (rs (notR l))] := by
  have h := mk_length l
  apply o167
  rw [bT (Make_E l (by omega))]
  simp only [rd0, datL, rs_len]
  exact Not_l1 _ _ (mk l) (mk_least l).1 (by omega) (mk l) [] [] 0 rfl (Nat.le_refl _) (by omega)
theorem Has1_E (a b x : Int) : E C 76 [.agg [.int .i64 a, .int .i64 b], .sref 3 ([.int x] : List Dat) 0 0] = some [.bool (inR x (a, b))] := by
  apply o76_a
  rw [dT (by simp)]
  simp only [rd0, datI, inR]
  by_cases h : a ≤ x
  · rw [dT h, dT (by simp), decide_eq_true h]; rfl
  · rw [dF h, decide_eq_false h]; rfl
theorem Idx_loop (l : List (Int × Int)) (x : Int) (hl : l.length ≤ 140737488351232) (v4 : Int) : ∀ (d k : Nat), l.length - k = d → k ≤ l.length →
    ∃ r : Int, M112_a_1 (rs l) x v4 (l.length : Int) (k : Int) = some [.int r] ∧ (0 ≤ r ↔ (l.drop k).any (inR x) = true) := by
  intro d
  induction d with
  | zero =>
    intro k hd hk
    refine ⟨-1, ?_, ?_⟩
    · apply M112_a_1_of
      rw [dF (by omega)]
    · rw [List.drop_of_length_le (by omega)]
      simp
  | succ d ih =>
    intro k hd hk
    have hlt : k < l.length := by omega
    obtain ⟨r, h1, h2⟩ := ih (k + 1) (by omega) (by omega)
    have hdr : l.drop k = l[k] :: l.drop (k + 1) := List.drop_eq_getElem_cons hlt
    have e := Has1_E (l[k]).1 (l[k]).2 x
    rw [show ((l[k]).1, (l[k]).2) = l[k] from rfl] at e
    cases hb : inR x l[k] with
    | true =>
      refine ⟨k, ?_, ?_⟩
      · apply M112_a_1_of
        rw [rs_len, dT (by omega), dT (by omega), dT (by omega), dT (by omega), Int.toNat_natCast, rs_rd l k hlt]
        rw [hb] at e
        refine (bT e).trans ?_
        rfl
      · rw [hdr, List.any_cons, hb]
        simp
    | false =>
      refine ⟨r, ?_, ?_⟩
      · apply M112_a_1_of
        rw [rs_len, dT (by omega), dT (by omega), dT (by omega), dT (by omega), Int.toNat_natCast, rs_rd l k hlt]
        rw [hb] at e
        refine (bT e).trans ?_
        simp only [rd0, datB, cond_false]
        rw [w64 (by omega) (by omega)]
        exact h1
      · rw [hdr, List.any_cons, hb, h2]
        simp
theorem Has_E (l : List (Int × Int)) (x : Int) (hl : l.length ≤ 140737488351232) : E C 32 [.shr 82 (rs l), .int .i64 x] = some [.bool (hasB l x)] := by
  apply o32
  unfold hasB
  by_cases h0 : x < 0
  · rw [dT h0, decide_eq_false (show ¬ 0 ≤ x by omega)]; rfl
  rw [dF h0, decide_eq_true (show 0 ≤ x by omega)]
  by_cases h1 : x > 1114367
  · rw [dT h1, decide_eq_false (show ¬ x ≤ 1114367 by omega)]; rfl
  rw [dF h1, decide_eq_true (show x ≤ 1114367 by omega)]
  obtain ⟨r, k1, k2⟩ := Idx_loop l x hl 0 l.length 0 (by omega) (by omega)
  have e1 : E C 112 [.shr 82 (rs l), .clo 76 [] [.sref 3 ([.int x] : List Dat) 0 0]] = some [.int r] := by
    apply o112_a
    rw [rs_len]
    exact k1
  have e2 : E C 75 [.shr 82 (rs l), .clo 76 [] [.sref 3 ([.int x] : List Dat) 0 0]] = some [.bool (decide (r ≥ 0))] := by
    apply o75_a
    rw [bT e1]
    rfl
  rw [bT e2]
  simp only [rd0, datB]
  rw [List.drop_zero] at k2
  have : decide (r ≥ 0) = l.any (inR x) := by
    cases h : l.any (inR x) with
    | true => exact decide_eq_true (k2.2 h)
    | false => exact decide_eq_false (fun hr => by rw [k2.1 hr] at h; cases h)
  rw [this]
  rfl
end Go.Proofs.YtlofoifcdmeopaaGreatDoor.V
