/- Widths: the document's upper bound; Check. -/
import Derived.Test.YtlofoifcdmeopaaGreatDoorUWe2
namespace Go.Proofs.YtlofoifcdmeopaaGreatDoor.V
open Go Go.Ev Go.RowKit
set_option linter.unusedVariables false
set_option linter.unusedSimpArgs false
theorem high_E {t : Tr} (ht : OkT t) (h : RT t) : ∀ (d i : Nat), t.ns.length - i ≤ d → i < t.ns.length → E C 84 [avT9 t, .int .i64 (i : Int)] = some [.int (wd t.ns (i : Int)).2]
  | 0, i, h1, h2 => by omega
  | d + 1, i, h1, h2 => by
    have hn : NdOk t.ns[i] := h.nd _ (List.getElem_mem h2)
    have ho : OkN t.ns[i] := ht.nd _ (List.getElem_mem h2)
    have hko := ho.kids
    have kid : ∀ k, k ∈ t.ns[i].kids → E C 84 [avT9 t, .int .i64 k] = some [.int (wd t.ns k).2] ∧ HB (wd t.ns k).2 := fun k hk => by
      obtain ⟨m, rfl, m1, m2⟩ := h.laid.kid h2 hk
      exact ⟨high_E ht h d m (by omega) m2, (wd_in h _ m (Nat.le_refl _) m2).2⟩
    have loop : 5 ≤ t.ns[i].kind → ∀ (rest pre : List Int) (w : Int), t.ns[i].kids = pre ++ rest → HB w → (7 ≤ t.ns[i].kind → rest = []) →
        M84_1 (nsD t.ns) t.groups (t.names.map .str) (i : Int) (nsD t.ns) t.groups (t.names.map .str) 0 t.ns[i].kind t.ns[i].frm t.ns[i].to t.ns[i].num t.ns[i].min t.ns[i].max t.ns[i].mode t.ns[i].name (rs t.ns[i].set) (t.ns[i].kids.map .int) w (pre.length : Int) = some [.int (if t.ns[i].kind = 8 then timesH w t.ns[i].max else if t.ns[i].kind = 5 then foldH addH (fun k => (wd t.ns k).2) w rest else foldH orH (fun k => (wd t.ns k).2) w rest)] := by
      intro h5 rest
      induction rest with
      | nil =>
        intro pre w hx hw w8
        rw [List.append_nil] at hx
        apply M84_1_of
        rw [List.length_map, hx, dF (by omega)]
        unfold HB at hw
        by_cases c8 : t.ns[i].kind = 8
        · have hm := (hn.cnt c8).2
          rw [eT c8, if_pos c8]
          by_cases c0 : w = 0
          · rw [neF c0, show timesH w t.ns[i].max = 0 from if_pos c0, c0]
          rw [neT c0, show timesH w t.ns[i].max = (if w = -1 ∨ t.ns[i].max = -1 then -1 else if w * t.ns[i].max > 1048576 then -1 else w * t.ns[i].max) from if_neg c0]
          by_cases c1 : w < 0
          · rw [dT c1, if_pos (show w = -1 ∨ t.ns[i].max = -1 by omega)]
          rw [dF c1]
          by_cases c2 : t.ns[i].max < 0
          · rw [dT c2, if_pos (show w = -1 ∨ t.ns[i].max = -1 by omega)]
          have m2 := mul_small (a := w) (b := t.ns[i].max) (by omega) (by omega)
          rw [dF c2, w64 (by omega) (by omega), if_neg (show ¬ (w = -1 ∨ t.ns[i].max = -1) by omega)]
          by_cases c3 : w * t.ns[i].max > 1048576
          · rw [dT c3, if_pos c3]
          · rw [dF c3, if_neg c3]
        · rw [eF c8, if_neg c8]
          by_cases c5 : t.ns[i].kind = 5
          · rw [if_pos c5]; rfl
          · rw [if_neg c5]; rfl
      | cons k rest ihr =>
        intro pre w hx hw w8
        have k1 : t.ns[i].kids.length = pre.length + (rest.length + 1) := by rw [hx, List.length_append, List.length_cons]
        have hkk : (rd (t.ns[i].kids.map Dat.int) pre.length).I = k := by rw [hx]; exact kid_at
        obtain ⟨g1, g2⟩ := kid k (by rw [hx]; simp)
        have c7 : t.ns[i].kind < 7 := by
          refine Int.lt_of_not_ge fun c => ?_
          have := w8 c
          cases this
        have hrec := fun w' h0 => ihr (pre ++ [k]) w' (by rw [hx, List.append_assoc]; rfl) h0 (fun c => absurd c (by omega))
        simp only [List.length_append, List.length_cons, List.length_nil] at hrec
        apply M84_1_of
        rw [List.length_map, dT (by omega), ixT ⟨by omega, by omega⟩, Int.toNat_natCast, hkk, bT g1, upk (n := t.ns[i].kids.length) (by omega) (by omega)]
        simp only [rd0, datI]
        simp only [if_neg (show t.ns[i].kind ≠ 8 by omega)] at hrec ⊢
        have hm1 : HB (-1) := by unfold HB; omega
        unfold HB at hw g2
        by_cases c5 : t.ns[i].kind = 5
        · simp only [if_pos c5] at hrec ⊢
          rw [foldH]
          by_cases q1 : w < 0
          · rw [dT q1, show addH w (wd t.ns k).2 = -1 from if_pos (by omega)]; exact hrec _ hm1
          rw [dF q1]
          by_cases q2 : (wd t.ns k).2 < 0
          · rw [dT q2, show addH w (wd t.ns k).2 = -1 from if_pos (by omega)]; exact hrec _ hm1
          rw [dF q2, eT c5, w64 (by omega) (by omega), show addH w (wd t.ns k).2 = (if w + (wd t.ns k).2 > 1048576 then -1 else w + (wd t.ns k).2) from if_neg (by omega)]
          by_cases q3 : w + (wd t.ns k).2 > 1048576
          · rw [dT q3, if_pos q3]; exact hrec _ hm1
          · rw [dF q3, if_neg q3]; exact hrec _ (by unfold HB; omega)
        · simp only [if_neg c5] at hrec ⊢
          rw [foldH]
          by_cases q1 : w < 0
          · rw [dT q1, show orH w (wd t.ns k).2 = -1 from if_pos (by omega)]; exact hrec _ hm1
          rw [dF q1]
          by_cases q2 : (wd t.ns k).2 < 0
          · rw [dT q2, show orH w (wd t.ns k).2 = -1 from if_pos (by omega)]; exact hrec _ hm1
          rw [dF q2, eF c5, show orH w (wd t.ns k).2 = (if (wd t.ns k).2 > w then (wd t.ns k).2 else w) from if_neg (by omega)]
          by_cases q3 : (wd t.ns k).2 > w
          · rw [dT q3, if_pos q3, dF (by omega)]; exact hrec _ (by unfold HB; omega)
          · rw [dF q3, if_neg q3, dF (by omega)]; exact hrec _ (by unfold HB; omega)
    apply o84
    rw [nsD_len, ixT ⟨by omega, by omega⟩, Int.toNat_natCast, nsD_rd h2]
    simp only [nd0, nd1, nd2, nd3, nd4, nd5, nd6, nd7, nd8, nd9, datI, datS, datL]
    rw [List.length_map, wd_eq h h2]
    unfold highN
    by_cases c4 : t.ns[i].kind = 4
    · rw [eT c4, if_pos c4]
    rw [eF c4, if_neg c4]
    by_cases c2 : t.ns[i].kind = 2
    · rw [eT c2, if_pos c2]
    rw [eF c2, if_neg c2]
    by_cases c5 : t.ns[i].kind < 5
    · rw [dT c5, if_neg (by omega), if_neg (by omega), if_neg (by omega), if_neg (by omega)]
    rw [dF c5]
    by_cases c10 : t.ns[i].kind = 10
    · rw [eT c10, if_neg (by omega), if_neg (by omega), if_neg (by omega), if_neg (by omega)]
    rw [eF c10]
    have hne := kids_ne hn (by omega)
    obtain ⟨k, ks, hks⟩ : ∃ k ks, t.ns[i].kids = k :: ks := by
      cases hh : t.ns[i].kids with
      | nil => exact absurd hh hne
      | cons k ks => exact ⟨k, ks, rfl⟩
    have hx : (rd (t.ns[i].kids.map Dat.int) 0).I = k := by rw [hks]; rfl
    obtain ⟨g1, g2⟩ := kid k (by rw [hks]; exact List.mem_cons_self)
    have hkz : k0 t.ns[i] = k := by unfold k0; rw [hks]; rfl
    have htl : t.ns[i].kids.tail = ks := by rw [hks]; rfl
    have one : 7 ≤ t.ns[i].kind → ks = [] := fun c => by
      have h1 := hn.one c
      rw [hks, List.length_cons] at h1
      exact List.eq_nil_of_length_eq_zero (by omega)
    rw [dT (by rw [hks, List.length_cons]; omega), dT (by rw [hks, List.length_cons]; omega), hx, bT g1]
    simp only [rd0, datI]
    refine (loop (by omega) ks [k] (wd t.ns k).2 hks g2 one).trans ?_
    rw [hkz, htl]
    by_cases d8 : t.ns[i].kind = 8
    · rw [if_pos d8, if_neg (by omega), if_neg (by omega), if_pos d8]
    rw [if_neg d8]
    by_cases d5 : t.ns[i].kind = 5
    · rw [if_pos d5, if_pos d5]
    rw [if_neg d5, if_neg d5]
    by_cases d6 : t.ns[i].kind = 6
    · rw [if_pos d6]
    · have hk := hn.k
      rw [if_neg d6, if_neg d8, if_pos (by omega), one (by omega)]
      rfl
theorem Width_E {t : Tr} (ht : OkT t) (hl : t.ns.length ≤ 1000000) (h : RT t) {i : Nat} (hi : i < t.ns.length) : E C 39 [avT9 t, .int .i64 (i : Int)] = some [.int (wd t.ns (i : Int)).1, .int (wd t.ns (i : Int)).2] := by
  apply o39
  rw [bT (low_E ht hl h _ i (Nat.le_refl _) hi), bT (high_E ht h _ i (Nat.le_refl _) hi)]
  rfl
/-- What is wrong with a node. -/
def faultN (groups : Int) (ns : List Nd) (n : Nd) : Int :=
  if n.kind = 4 then (if n.num < 1 ∨ n.num > groups then 38 else 0) else if n.kind = 10 ∧ n.num ≥ 3 then (if (wd ns (k0 n)).2 < 0 ∨ (wd ns (k0 n)).2 > 255 then 41 else 0) else 0
def chk (groups : Int) (ns : List Nd) : List Nd → Int × Int
  | [] => (0, 0)
  | n :: l => if faultN groups ns n ≠ 0 then (faultN groups ns n, n.frm) else chk groups ns l
theorem fault_E {t : Tr} (ht : OkT t) (h : RT t) {n : Nd} (hm : n ∈ t.ns) : E C 85 [.agg [.shr 38 (nsD t.ns), .int .i64 t.groups, .shr 9 (t.names.map .str)], .agg (avNd n 82), .shr 62 (wTail t.ns 0)] = some [.int (faultN t.groups t.ns n)] := by
  have hns := ht.ns
  have hn := h.nd n hm
  obtain ⟨i, h2, rfl⟩ := List.getElem_of_mem hm
  apply o85
  unfold faultN
  by_cases c4 : t.ns[i].kind = 4
  · rw [eT c4, if_pos c4]
    by_cases q1 : t.ns[i].num < 1
    · rw [dT q1, if_pos (.inl q1)]
    rw [dF q1]
    by_cases q2 : t.ns[i].num > t.groups
    · rw [dT q2, if_pos (.inr q2)]
    rw [dF q2, neT (show t.ns[i].kind ≠ 10 by omega), if_neg (by omega)]
  rw [eF c4, if_neg c4]
  by_cases c10 : t.ns[i].kind = 10
  · have hne := kids_ne hn (by omega)
    obtain ⟨k, ks, hks⟩ : ∃ k ks, t.ns[i].kids = k :: ks := by
      cases hh : t.ns[i].kids with
      | nil => exact absurd hh hne
      | cons k ks => exact ⟨k, ks, rfl⟩
    have hx : (rd (t.ns[i].kids.map Dat.int) 0).I = k := by rw [hks]; rfl
    obtain ⟨m, rfl, m1, m2⟩ := h.laid.kid h2 (k := k) (by rw [hks]; exact List.mem_cons_self)
    have hkz : k0 t.ns[i] = (m : Int) := by unfold k0; rw [hks]; rfl
    have hb := (wd_in h _ m (Nat.le_refl _) m2).2
    unfold HB at hb
    have hw : ((rd (wTail t.ns 0) m).C 1).I = (wd t.ns (m : Int)).2 := by
      rw [show m = m - 0 from rfl, wTail_rd t.ns (Nat.zero_le _) m2]; rfl
    have tail : ((bif decide (0 < ((t.ns[i].kids.map Dat.int).length : Int)) then (bif decide (0 < (t.ns[i].kids.map Dat.int).length) then (bif decide (0 ≤ ((rd (t.ns[i].kids.map Dat.int) 0).I)) then (bif decide (((rd (t.ns[i].kids.map Dat.int) 0).I) < ((wTail t.ns 0).length : Int)) then (bif decide (((rd (t.ns[i].kids.map Dat.int) 0).I).toNat < (wTail t.ns 0).length) then (bif (((rd (wTail t.ns 0) (((rd (t.ns[i].kids.map Dat.int) 0).I).toNat)).C 1).I) == (-1) then (some [.int 41]) else (bif decide ((((rd (wTail t.ns 0) (((rd (t.ns[i].kids.map Dat.int) 0).I).toNat)).C 1).I) > 255) then (some [.int 41]) else (some [.int 0]))) else none) else none) else none) else none) else none) : R) = some [.int (if (wd t.ns (m : Int)).2 < 0 ∨ (wd t.ns (m : Int)).2 > 255 then 41 else 0)] := by
      rw [hx, List.length_map, dT (by rw [hks, List.length_cons]; omega), dT (by rw [hks, List.length_cons]; omega), wTail_len, ixT ⟨by omega, by omega⟩, Int.toNat_natCast, hw]
      by_cases q1 : (wd t.ns (m : Int)).2 = -1
      · rw [eT q1, if_pos (by omega)]
      rw [eF q1]
      by_cases q2 : (wd t.ns (m : Int)).2 > 255
      · rw [dT q2, if_pos (by omega)]
      · rw [dF q2, if_neg (by omega)]
    have lk := hn.look c10
    rw [neF c10, hkz]
    by_cases q3 : t.ns[i].num = 3
    · rw [neF q3, if_pos (by omega)]; exact tail
    rw [neT q3]
    by_cases q4 : t.ns[i].num = 4
    · rw [neF q4, if_pos (by omega)]; exact tail
    · rw [neT q4, if_neg (by omega)]
  · rw [neT c10, if_neg (by omega)]
theorem Check_loop {t : Tr} (ht : OkT t) (h : RT t) (x0 x2 : List Dat) (x1 u v : Int) : ∀ (rest pre : List Nd), t.ns = pre ++ rest →
    M40_1 x0 x1 x2 (nsD t.ns) t.groups (t.names.map .str) u v (wTail t.ns 0) (nsD t.ns) (t.ns.length : Int) (pre.length : Int) = some [.int (chk t.groups t.ns rest).1, .int (chk t.groups t.ns rest).2]
  | [], pre, e => by
    rw [List.append_nil] at e
    apply M40_1_of
    rw [e, dF (by omega)]
    rfl
  | n :: rest, pre, e => by
    have hns := ht.ns
    have k1 : t.ns.length = pre.length + (rest.length + 1) := by rw [e, List.length_append, List.length_cons]
    have h2 : pre.length < t.ns.length := by omega
    have hx : t.ns[pre.length] = n := by simp [e]
    have hm : n ∈ t.ns := by rw [e]; simp
    have hrec := Check_loop ht h x0 x2 x1 u v rest (pre ++ [n]) (by rw [e, List.append_assoc]; rfl)
    rw [List.length_append, List.length_cons, List.length_nil] at hrec
    apply M40_1_of
    rw [dT (by omega), nsD_len, ixT ⟨by omega, by omega⟩, Int.toNat_natCast, nsD_rd h2, hx]
    simp only [nd0, nd1, nd2, nd3, nd4, nd5, nd6, nd7, nd8, nd9, datI, datS, datL]
    rw [bT (fault_E ht h hm)]
    simp only [rd0, datI]
    unfold chk
    by_cases c : faultN t.groups t.ns n = 0
    · rw [neF c, if_neg (fun q => q c), upk (n := t.ns.length) (by omega) (by omega)]; exact hrec
    · rw [neT c, if_pos c]
theorem Check_E {t : Tr} (ht : OkT t) (h : RT t) : E C 40 [.agg [.shr 38 (nsD t.ns), .int .i64 t.groups, .shr 9 (t.names.map .str)]] = some [.int (chk t.groups t.ns t.ns).1, .int (chk t.groups t.ns t.ns).2] := by
  apply o40
  rw [bT (Widths_E ht h), nsD_len]
  exact Check_loop ht h _ _ _ _ _ t.ns [] rfl
theorem CheckR_loop {t : Tr} (ht : OkT t) (h : RT t) (x0 x2 : List Dat) (x1 u v : Int) : ∀ (rest pre : List Nd), t.ns = pre ++ rest →
    M41_1 x0 x1 x2 (nsD t.ns) t.groups (t.names.map .str) u v (pre.length : Int) = some [.int (chk t.groups t.ns rest).1, .int (chk t.groups t.ns rest).2]
  | [], pre, e => by
    rw [List.append_nil] at e
    apply M41_1_of
    rw [nsD_len, e, dF (by omega)]
    rfl
  | n :: rest, pre, e => by
    have hns := ht.ns
    have k1 : t.ns.length = pre.length + (rest.length + 1) := by rw [e, List.length_append, List.length_cons]
    have h2 : pre.length < t.ns.length := by omega
    have hx : t.ns[pre.length] = n := by simp [e]
    have hm : n ∈ t.ns := by rw [e]; simp
    have hn := h.nd n hm
    have hrec := CheckR_loop ht h x0 x2 x1 u v rest (pre ++ [n]) (by rw [e, List.append_assoc]; rfl)
    rw [List.length_append, List.length_cons, List.length_nil] at hrec
    apply M41_1_of
    rw [nsD_len, dT (by omega), ixT ⟨by omega, by omega⟩, Int.toNat_natCast, nsD_rd h2, hx]
    simp only [nd0, nd1, nd2, nd3, nd4, nd5, nd6, nd7, nd8, nd9, datI, datS, datL]
    rw [upk (n := t.ns.length) (by omega) (by omega)]
    have bad : ∀ f : Int, faultN t.groups t.ns n = f → f ≠ 0 → (some [.int f, .int n.frm] : R) = some [.int (chk t.groups t.ns (n :: rest)).1, .int (chk t.groups t.ns (n :: rest)).2] := fun f h1 h2 => by
      unfold chk
      rw [h1, if_pos h2]
    have good : faultN t.groups t.ns n = 0 → M41_1 x0 x1 x2 (nsD t.ns) t.groups (t.names.map .str) u v ((pre.length + 1 : Nat) : Int) = some [.int (chk t.groups t.ns (n :: rest)).1, .int (chk t.groups t.ns (n :: rest)).2] := fun h1 => by
      unfold chk
      rw [h1, if_neg (by decide)]
      exact hrec
    unfold faultN at bad good
    by_cases c4 : n.kind = 4
    · simp only [if_pos c4] at bad good
      rw [eT c4]
      by_cases q1 : n.num < 1
      · rw [dT q1]; exact bad 38 (if_pos (.inl q1)) (by decide)
      rw [dF q1]
      by_cases q2 : n.num > t.groups
      · rw [dT q2]; exact bad 38 (if_pos (.inr q2)) (by decide)
      rw [dF q2, eF (show n.kind ≠ 10 by omega)]
      exact good (if_neg (by omega))
    simp only [if_neg c4] at bad good
    rw [eF c4]
    by_cases c10 : n.kind = 10
    · rw [eT c10]
      by_cases q3 : n.num ≥ 3
      · have hne := kids_ne hn (by omega)
        obtain ⟨k, ks, hks⟩ : ∃ k ks, n.kids = k :: ks := by
          cases hh : n.kids with
          | nil => exact absurd hh hne
          | cons k ks => exact ⟨k, ks, rfl⟩
        have hy : (rd (n.kids.map Dat.int) 0).I = k := by rw [hks]; rfl
        obtain ⟨m, rfl, m1, m2⟩ := h.laid.kid h2 (k := k) (by rw [hx, hks]; exact List.mem_cons_self)
        have hkz : k0 n = (m : Int) := by unfold k0; rw [hks]; rfl
        simp only [if_pos (show n.kind = 10 ∧ n.num ≥ 3 from ⟨c10, q3⟩), hkz] at bad good
        rw [dT q3, List.length_map, dT (by rw [hks, List.length_cons]; omega), dT (by rw [hks, List.length_cons]; omega), hy, bT (high_E ht h _ m (Nat.le_refl _) m2)]
        simp only [rd0, datI]
        by_cases q4 : (wd t.ns (m : Int)).2 < 0
        · rw [dT q4]; exact bad 41 (if_pos (.inl q4)) (by decide)
        rw [dF q4]
        by_cases q5 : (wd t.ns (m : Int)).2 > 255
        · rw [dT q5]; exact bad 41 (if_pos (.inr q5)) (by decide)
        rw [dF q5]
        exact good (if_neg (by omega))
      · rw [dF q3]
        exact good (if_neg (by omega))
    · rw [eF c10]
      exact good (if_neg (by omega))
theorem CheckR_E {t : Tr} (ht : OkT t) (h : RT t) : E C 41 [avT9 t] = some [.int (chk t.groups t.ns t.ns).1, .int (chk t.groups t.ns t.ns).2] := by
  apply o41
  exact CheckR_loop ht h _ _ _ _ _ t.ns [] rfl
end Go.Proofs.YtlofoifcdmeopaaGreatDoor.V
