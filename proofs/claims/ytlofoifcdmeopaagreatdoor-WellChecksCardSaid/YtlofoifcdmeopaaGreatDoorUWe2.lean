/- Widths: what the program and the document answer. -/
import Derived.Test.YtlofoifcdmeopaaGreatDoorUWel
namespace Go.Proofs.YtlofoifcdmeopaaGreatDoor.V
open Go Go.Ev Go.RowKit
set_option linter.unusedVariables false
set_option linter.unusedSimpArgs false
abbrev avNd (n : Nd) (e : TypeId) : List AV := [.int .i64 n.kind, .int .i64 n.frm, .int .i64 n.to, .int .i64 n.num, .int .i64 n.min, .int .i64 n.max, .int .i64 n.mode, .str n.name, .shr e (rs n.set), .shr 3 (n.kids.map .int)]
def wD (w : Int × Int) : Dat := .agg [.int w.1, .int w.2]
theorem upk {k n : Nat} (h : k < n) (hn : n ≤ 20000000000000) : IntKind.i64.wrap ((k : Int) + 1) = ((k + 1 : Nat) : Int) := by rw [w64 (by omega) (by omega)]; omega
theorem kid_at {pre : List Int} {x : Int} {rest : List Int} : (rd ((pre ++ x :: rest).map Dat.int) pre.length).I = x := by rw [rdI]; simp
theorem wide_E (x : Int) : E C 155 [.int .i64 x] = some [.int (if x > 1048576 then -1 else x)] := by
  apply o155
  by_cases h : x > 1048576
  · rw [dT h, if_pos h]
  · rw [dF h, if_neg h]
theorem add_E (a b : Int × Int) (ha : 0 ≤ a.1 ∧ a.1 ≤ 1048576) (hb : 0 ≤ b.1 ∧ b.1 ≤ 1048576) (ka : HB a.2) (kb : HB b.2) : E C 122 [.agg [.int .i64 a.1, .int .i64 a.2], .agg [.int .i64 b.1, .int .i64 b.2]] = some [wD (capM (a.1 + b.1), addH a.2 b.2)] := by
  unfold HB at ka kb
  apply o122
  rw [w64 (n := a.1 + b.1) (by omega) (by omega)]
  by_cases h1 : a.2 = -1
  · rw [show addH a.2 b.2 = -1 from if_pos (.inl h1), neF h1]; rfl
  rw [neT h1]
  by_cases h2 : b.2 = -1
  · rw [show addH a.2 b.2 = -1 from if_pos (.inr h2), neF h2]; rfl
  rw [neT h2, w64 (n := a.2 + b.2) (by omega) (by omega), bT (wide_E _), show addH a.2 b.2 = if a.2 + b.2 > 1048576 then -1 else a.2 + b.2 from if_neg (by omega)]
  rfl
theorem or_E (a b : Int × Int) : E C 123 [.agg [.int .i64 a.1, .int .i64 a.2], .agg [.int .i64 b.1, .int .i64 b.2]] = some [wD (if b.1 < a.1 then b.1 else a.1, orH a.2 b.2)] := by
  apply o123
  by_cases h1 : a.2 = -1
  · rw [show orH a.2 b.2 = -1 from if_pos (.inl h1), neF h1]; rfl
  rw [neT h1]
  by_cases h2 : b.2 = -1
  · rw [show orH a.2 b.2 = -1 from if_pos (.inr h2), neF h2]; rfl
  rw [neT h2, show orH a.2 b.2 = if b.2 > a.2 then b.2 else a.2 from if_neg (by omega)]
  rfl
theorem times_E (a : Int × Int) (mn mx : Int) (ha : 0 ≤ a.1 ∧ a.1 ≤ 1048576) (ka : HB a.2) (h1 : 0 ≤ mn ∧ mn ≤ 1000) (h2 : mx = -1 ∨ 1 ≤ mx ∧ mx ≤ 1000) : E C 121 [.agg [.int .i64 a.1, .int .i64 a.2], .int .i64 mn, .int .i64 mx] = some [wD (capM (a.1 * mn), timesH a.2 mx)] := by
  unfold HB at ka
  have m1 := mul_small ha h1
  apply o121
  rw [w64 (n := a.1 * mn) (by omega) (by omega)]
  by_cases c0 : a.2 = 0
  · rw [show timesH a.2 mx = 0 from if_pos c0, eT c0]; rfl
  rw [show timesH a.2 mx = (if a.2 = -1 ∨ mx = -1 then -1 else if a.2 * mx > 1048576 then -1 else a.2 * mx) from if_neg c0, eF c0]
  by_cases c1 : a.2 = -1
  · rw [if_pos (show a.2 = -1 ∨ mx = -1 from .inl c1), eT c1]; rfl
  rw [eF c1]
  by_cases c2 : mx = -1
  · rw [if_pos (show a.2 = -1 ∨ mx = -1 from .inr c2), eT c2]; rfl
  have m2 := mul_small (a := a.2) (b := mx) (by omega) (by omega)
  rw [eF c2, if_neg (show ¬ (a.2 = -1 ∨ mx = -1) by omega), w64 (n := a.2 * mx) (by omega) (by omega), bT (wide_E _)]
  rfl
/-- A row in which the kids' widths stand. -/
def Has (v : List Dat) (n : Nd) (g : Int → Int × Int) : Prop := ∀ k, k ∈ n.kids → 0 ≤ k ∧ k < (v.length : Int) ∧ rd v k.toNat = wD (g k) ∧ (0 ≤ (g k).1 ∧ (g k).1 ≤ 1048576) ∧ HB (g k).2
theorem capM_add {a b : Int} (ha : 0 ≤ a) (hb : 0 ≤ b) : capM (capM a + b) = capM (a + b) := by unfold capM; split <;> split <;> (try split) <;> omega
theorem cat_loop (v : List Dat) (n : Nd) (hn : OkN n) (g : Int → Int × Int) (hv : Has v n g) (q0 q1 q2 q3 q4 q5 q6 p0 p1 p2 p3 p4 p5 p6 z0 z1 u : Int) (s1 s2 : ByteArray) (l1 l2 l3 l4 : List Dat) : ∀ (rest pre : List Int) (a b : Int), n.kids = pre ++ rest → 0 ≤ a → HB b →
    M82_1 q0 q1 q2 q3 q4 q5 q6 s1 l1 l2 v p0 p1 p2 p3 p4 p5 p6 s2 l3 l4 z0 z1 (capM a) b u (n.kids.map .int) (n.kids.length : Int) (pre.length : Int) = some [wD (capM (a + sumK (fun k => (g k).1) rest), foldH addH (fun k => (g k).2) b rest)] := by
  have hk := hn.kids
  intro rest
  induction rest with
  | nil =>
    intro pre a b h ha hb
    rw [List.append_nil] at h
    apply M82_1_of
    rw [h, dF (by omega), show a + sumK (fun k => (g k).1) [] = a from Int.add_zero a]
    rfl
  | cons k rest ih =>
    intro pre a b h ha hb
    have k1 : n.kids.length = pre.length + (rest.length + 1) := by rw [h, List.length_append, List.length_cons]
    have hx : (rd (n.kids.map Dat.int) pre.length).I = k := by rw [h]; exact kid_at
    obtain ⟨e1, e2, e3, e4, e5⟩ := hv k (by rw [h]; simp)
    have ca := capM_in ha
    have hrec := ih (pre ++ [k]) (a + (g k).1) (addH b (g k).2) (by rw [h, List.append_assoc]; rfl) (by omega) (addH_in hb e5)
    rw [List.length_append, List.length_cons, List.length_nil] at hrec
    apply M82_1_of
    rw [dT (by omega), List.length_map, ixT ⟨by omega, by omega⟩, Int.toNat_natCast, hx, ixT ⟨e1, e2⟩, e3]
    show Option.bind (E C 122 [.agg [.int .i64 (capM a, b).1, .int .i64 (capM a, b).2], .agg [.int .i64 (g k).1, .int .i64 (g k).2]]) _ = _
    rw [bT (add_E (capM a, b) (g k) ca e4 hb e5), upk (n := n.kids.length) (by omega) (by omega)]
    simp only [wD, rd0, aggC0, aggC1, datI] at hrec ⊢
    rw [capM_add ha e4.1, hrec, sumK, foldH, Int.add_assoc]
theorem alt_loop (v : List Dat) (n : Nd) (hn : OkN n) (g : Int → Int × Int) (hv : Has v n g) (q0 q1 q2 q3 q4 q5 q6 p0 p1 p2 p3 p4 p5 p6 z0 z1 u : Int) (s1 s2 : ByteArray) (l1 l2 l3 l4 : List Dat) (ks : List Int) (hks : ∀ k, k ∈ ks → k ∈ n.kids) (hkl : ks.length ≤ n.kids.length) : ∀ (rest pre : List Int) (a b : Int), ks = pre ++ rest →
    M82_2 q0 q1 q2 q3 q4 q5 q6 s1 l1 l2 v p0 p1 p2 p3 p4 p5 p6 s2 l3 l4 z0 z1 a b u (ks.map .int) (ks.length : Int) (pre.length : Int) = some [wD (minK (fun k => (g k).1) a rest, foldH orH (fun k => (g k).2) b rest)] := by
  have hk := hn.kids
  intro rest
  induction rest with
  | nil =>
    intro pre a b h
    rw [List.append_nil] at h
    apply M82_2_of
    rw [h, dF (by omega)]
    rfl
  | cons k rest ih =>
    intro pre a b h
    have k1 : ks.length = pre.length + (rest.length + 1) := by rw [h, List.length_append, List.length_cons]
    have hx : (rd (ks.map Dat.int) pre.length).I = k := by rw [h]; exact kid_at
    obtain ⟨e1, e2, e3, e4, e5⟩ := hv k (hks k (by rw [h]; simp))
    have hrec := ih (pre ++ [k]) (if (g k).1 < a then (g k).1 else a) (orH b (g k).2) (by rw [h, List.append_assoc]; rfl)
    rw [List.length_append, List.length_cons, List.length_nil] at hrec
    apply M82_2_of
    rw [dT (by omega), List.length_map, ixT ⟨by omega, by omega⟩, Int.toNat_natCast, hx, ixT ⟨e1, e2⟩, e3]
    show Option.bind (E C 123 [.agg [.int .i64 (a, b).1, .int .i64 (a, b).2], .agg [.int .i64 (g k).1, .int .i64 (g k).2]]) _ = _
    rw [bT (or_E (a, b) (g k)), upk (n := ks.length) (by omega) (by omega)]
    simp only [wD, rd0, aggC0, aggC1, datI] at hrec ⊢
    rw [hrec, minK, foldH]
theorem of9_E (v : List Dat) (n : Nd) (hn : OkN n) (ok : NdOk n) (g : Int → Int × Int) (hv : Has v n g) : E C 82 [.agg (avNd n 82), .shr 62 v] = some [wD (lowN n fun k => (g k).1, highN n fun k => (g k).2)] := by
  have hk := hn.kids
  apply o82
  unfold lowN highN
  by_cases c2 : n.kind = 2
  · rw [eT c2, if_pos c2, if_neg (by omega), if_pos c2]; rfl
  rw [eF c2, if_neg c2]
  by_cases c4 : n.kind = 4
  · rw [eT c4, if_pos c4, if_neg (by omega), if_neg (by omega), if_neg (by omega), if_neg (by omega)]; rfl
  rw [eF c4, if_neg c4, if_neg c2]
  by_cases h5 : n.kind < 5
  · rw [eF (show n.kind ≠ 7 by omega), eF (show n.kind ≠ 9 by omega), eF (show n.kind ≠ 8 by omega), eF (show n.kind ≠ 5 by omega), eF (show n.kind ≠ 6 by omega), if_neg (by omega), if_neg (by omega), if_neg (by omega), if_neg (by omega), if_neg (by omega), if_neg (by omega), if_neg (by omega), if_neg (by omega)]; rfl
  have hne := kids_ne ok (by omega)
  obtain ⟨k, ks, hks⟩ : ∃ k ks, n.kids = k :: ks := by
    cases h : n.kids with
    | nil => exact absurd h hne
    | cons k ks => exact ⟨k, ks, rfl⟩
  have hk0 : k0 n = k := by unfold k0; rw [hks]; rfl
  have htl : n.kids.tail = ks := by rw [hks]; rfl
  have hx : (rd (n.kids.map Dat.int) 0).I = k := by rw [hks]; rfl
  obtain ⟨e1, e2, e3, e4, e5⟩ := hv k (by rw [hks]; exact List.mem_cons_self)
  have hpos : 0 < n.kids.length := by rw [hks]; simp
  rw [List.length_map, hx, hk0, htl]
  have get : ∀ X : R, ((bif decide (0 < (n.kids.length : Int)) then (bif decide (0 < n.kids.length) then (bif decide (0 ≤ k) then (bif decide (k < (v.length : Int)) then (bif decide (k.toNat < v.length) then X else none) else none) else none) else none) else none) : R) = X := fun X => by
    rw [dT (by omega), dT hpos, ixT ⟨e1, e2⟩]
  by_cases c7 : n.kind = 7
  · rw [eT c7, eT c7, get, e3, if_neg (by omega), if_neg (by omega), if_neg (by omega), if_pos (.inl c7), if_neg (by omega), if_neg (by omega), if_neg (by omega), if_pos (.inl c7)]; rfl
  rw [eF c7]
  by_cases c9 : n.kind = 9
  · rw [eT c9, get, e3, if_neg (by omega), if_neg (by omega), if_neg (by omega), if_pos (.inr c9), if_neg (by omega), if_neg (by omega), if_neg (by omega), if_pos (.inr c9)]; rfl
  rw [eF c9]
  by_cases c8 : n.kind = 8
  · obtain ⟨m1, m2⟩ := ok.cnt c8
    rw [eT c8, get, e3]
    show Option.bind (E C 121 [.agg [.int .i64 (g k).1, .int .i64 (g k).2], .int .i64 n.min, .int .i64 n.max]) _ = _
    rw [bT (times_E (g k) n.min n.max e4 e5 m1 m2), if_neg (by omega), if_neg (by omega), if_pos c8, if_neg (by omega), if_neg (by omega), if_pos c8]
    rfl
  rw [eF c8]
  by_cases c5 : n.kind = 5
  · rw [eT c5, if_pos c5, if_pos c5]
    have := cat_loop v n hn g hv n.kind n.frm n.to n.num n.min n.max n.mode n.kind n.frm n.to n.num n.min n.max n.mode 0 0 n.kind n.name n.name (rs n.set) (n.kids.map .int) (rs n.set) (n.kids.map .int) n.kids [] 0 0 rfl (Int.le_refl _) (by unfold HB; omega)
    rw [Int.zero_add] at this
    refine this.trans ?_
    have e : foldH addH (fun k => (g k).2) 0 n.kids = foldH addH (fun k => (g k).2) (g k).2 ks := by
      rw [hks, foldH]
      congr 1
      unfold HB at e5
      unfold addH
      split
      · omega
      · rw [if_neg (by omega)]; omega
    rw [e]
  rw [eF c5]
  by_cases c6 : n.kind = 6
  · rw [eT c6, get, e3, dT (by omega), dT (by omega), if_neg c5, if_pos c6, if_neg c5, if_pos c6]
    have ht : ((n.kids.map Dat.int).take ((n.kids.length : Int)).toNat).drop 1 = ks.map Dat.int := by
      rw [Int.toNat_natCast, List.take_of_length_le (by rw [List.length_map]; exact Nat.le_refl _), hks]
      rfl
    rw [ht, List.length_map]
    exact alt_loop v n hn g hv n.kind n.frm n.to n.num n.min n.max n.mode n.kind n.frm n.to n.num n.min n.max n.mode 0 0 n.kind n.name n.name (rs n.set) (n.kids.map .int) (rs n.set) (n.kids.map .int) ks (fun x hx => by rw [hks]; exact List.mem_cons_of_mem _ hx) (by rw [hks]; simp) ks [] (g k).1 (g k).2 rfl
  · rw [eF c6, if_neg c5, if_neg c6, if_neg c8, if_neg (by omega), if_neg c5, if_neg c6, if_neg c8, if_neg (by omega)]; rfl
/-- The widths of all nodes from one on. -/
def wTail (ns : List Nd) (m : Nat) : List Dat := ((List.range ns.length).drop m).map fun (j : Nat) => wD (wd ns (j : Int))
theorem wTail_len (ns : List Nd) (m : Nat) : (wTail ns m).length = ns.length - m := by simp [wTail]
theorem wTail_cons (ns : List Nd) {m : Nat} (h : m < ns.length) : wTail ns m = wD (wd ns (m : Int)) :: wTail ns (m + 1) := by
  unfold wTail
  rw [List.drop_eq_getElem_cons (by simpa using h)]
  simp
theorem wTail_rd (ns : List Nd) {m j : Nat} (h1 : m ≤ j) (h2 : j < ns.length) : rd (wTail ns m) (j - m) = wD (wd ns (j : Int)) := by
  unfold wTail rd
  rw [List.getD_eq_getElem?_getD, List.getElem?_map, List.getElem?_drop, show m + (j - m) = j by omega, List.getElem?_range h2]
  rfl
theorem Widths_loop {t : Tr} (ht : OkT t) (h : RT t) (x0 x2 x3 : List Dat) (x1 : Int) : ∀ (m : Nat), m ≤ t.ns.length →
    M38_1 x0 x1 x2 (nsD t.ns) t.groups (t.names.map .str) x3 (List.replicate m (.agg [.int 0, .int 0]) ++ wTail t.ns m) ((m : Int) - 1) = some [.list (wTail t.ns 0)]
  | 0, _ => by
    apply M38_1_of
    rw [dF (by omega)]
    rfl
  | m + 1, hm => by
    have hns := ht.ns
    have hm' : m < t.ns.length := by omega
    have hvl : (List.replicate (m + 1) (Dat.agg [.int 0, .int 0]) ++ wTail t.ns (m + 1)).length = t.ns.length := by rw [List.length_append, List.length_replicate, wTail_len]; omega
    have hv : Has (List.replicate (m + 1) (Dat.agg [.int 0, .int 0]) ++ wTail t.ns (m + 1)) t.ns[m] (wd t.ns) := fun k hk => by
      obtain ⟨j, rfl, j1, j2⟩ := h.laid.kid hm' hk
      have hw := wd_in h _ j (Nat.le_refl _) j2
      refine ⟨by omega, by rw [hvl]; omega, ?_, hw.1, hw.2⟩
      rw [Int.toNat_natCast, ← wTail_rd t.ns (m := m + 1) (by omega) j2]
      unfold rd
      rw [List.getD_eq_getElem?_getD, List.getElem?_append_right (by rw [List.length_replicate]; omega), List.length_replicate, List.getD_eq_getElem?_getD]
    apply M38_1_of
    rw [show (((m + 1 : Nat) : Int) - 1) = (m : Int) by omega, dT (by omega), nsD_len, ixT ⟨by omega, by omega⟩, Int.toNat_natCast, nsD_rd hm']
    simp only [nd0, nd1, nd2, nd3, nd4, nd5, nd6, nd7, nd8, nd9, datI, datS, datL]
    rw [bT (of9_E _ t.ns[m] (ht.nd _ (List.getElem_mem hm')) (h.nd _ (List.getElem_mem hm')) (wd t.ns) hv), hvl, dT (by omega), dT (by omega), dT hm', w64 (by omega) (by omega), ← wd_eq h hm']
    have hset : (List.replicate (m + 1) (Dat.agg [.int 0, .int 0]) ++ wTail t.ns (m + 1)).set m (.agg [.int (((rd [wD (wd t.ns (m : Int))] 0).C 0).I), .int (((rd [wD (wd t.ns (m : Int))] 0).C 1).I)]) = List.replicate m (.agg [.int 0, .int 0]) ++ wTail t.ns m := by
      rw [wTail_cons t.ns hm', List.replicate_succ', List.append_assoc, List.set_append_right _ _ (by rw [List.length_replicate]; exact Nat.le_refl _), List.length_replicate, Nat.sub_self]
      rfl
    rw [hset]
    exact Widths_loop ht h x0 x2 x3 x1 m (by omega)
theorem cap16w : capB 16 = 8796093022208 := by decide
theorem Widths_E {t : Tr} (ht : OkT t) (h : RT t) : E C 38 [.agg [.shr 38 (nsD t.ns), .int .i64 t.groups, .shr 9 (t.names.map .str)]] = some [.list (wTail t.ns 0)] := by
  have hns := ht.ns
  apply o38
  rw [nsD_len, cap16w, dT (by omega), dT (by omega), dT (by omega), Int.toNat_natCast, w64 (by omega) (by omega)]
  have := Widths_loop ht h (nsD t.ns) (t.names.map .str) [] t.groups t.ns.length (Nat.le_refl _)
  have e : wTail t.ns t.ns.length = [] := List.eq_nil_of_length_eq_zero (by rw [wTail_len]; omega)
  rw [e, List.append_nil] at this
  exact this
/-! The document's. -/
abbrev avT9 (t : Tr) : AV := .agg [.shr 42 (nsD t.ns), .int .i64 t.groups, .shr 9 (t.names.map .str)]
theorem low_E {t : Tr} (ht : OkT t) (hl : t.ns.length ≤ 1000000) (h : RT t) : ∀ (d i : Nat), t.ns.length - i ≤ d → i < t.ns.length → E C 83 [avT9 t, .int .i64 (i : Int)] = some [.int (wd t.ns (i : Int)).1]
  | 0, i, h1, h2 => by omega
  | d + 1, i, h1, h2 => by
    have hn : NdOk t.ns[i] := h.nd _ (List.getElem_mem h2)
    have ho : OkN t.ns[i] := ht.nd _ (List.getElem_mem h2)
    have hko := ho.kids
    have kid : ∀ k, k ∈ t.ns[i].kids → E C 83 [avT9 t, .int .i64 k] = some [.int (wd t.ns k).1] ∧ (0 ≤ (wd t.ns k).1 ∧ (wd t.ns k).1 ≤ 1048576) := fun k hk => by
      obtain ⟨m, rfl, m1, m2⟩ := h.laid.kid h2 hk
      exact ⟨low_E ht hl h d m (by omega) m2, (wd_in h _ m (Nat.le_refl _) m2).1⟩
    -- few kids: there are no more than nodes
    have few : t.ns[i].kids.length ≤ 17592186043904 := hko
    have fin : ∀ (w : Int), 0 ≤ w → w ≤ 1048576 * 17592186043 → (t.ns[i].kind = 8 → w ≤ 1048576) → ((bif t.ns[i].kind == 8 then (bif decide ((IntKind.i64.wrap (w * t.ns[i].min)) > 1048576) then (some [.int 1048576]) else (some [.int (IntKind.i64.wrap (w * t.ns[i].min))])) else (bif decide (w > 1048576) then (some [.int 1048576]) else (some [.int w]))) : R) = some [.int (if t.ns[i].kind = 8 then capM (w * t.ns[i].min) else capM w)] := fun w w0 w1 w8 => by
      unfold capM
      by_cases c8 : t.ns[i].kind = 8
      · have := mul_small ⟨w0, w8 c8⟩ (hn.cnt c8).1
        rw [eT c8, if_pos c8, w64 (by omega) (by omega)]
        by_cases c : w * t.ns[i].min > 1048576
        · rw [dT c, if_pos (by omega)]
        · rw [dF c, if_neg (by omega)]
      · rw [eF c8, if_neg c8]
        by_cases c : w > 1048576
        · rw [dT c, if_pos (by omega)]
        · rw [dF c, if_neg (by omega)]
    have loop : ∀ (rest pre : List Int) (w : Int), t.ns[i].kids = pre ++ rest → 0 ≤ w → w ≤ 1048576 * pre.length → (t.ns[i].kind = 8 → w ≤ 1048576 ∧ rest = []) → t.ns[i].kids.length ≤ 17592186043 →
        M83_1 (nsD t.ns) t.groups (t.names.map .str) (i : Int) (nsD t.ns) t.groups (t.names.map .str) 0 t.ns[i].kind t.ns[i].frm t.ns[i].to t.ns[i].num t.ns[i].min t.ns[i].max t.ns[i].mode t.ns[i].name (rs t.ns[i].set) (t.ns[i].kids.map .int) w (pre.length : Int) = some [.int (if t.ns[i].kind = 8 then capM (w * t.ns[i].min) else if t.ns[i].kind = 5 then capM (w + sumK (fun k => (wd t.ns k).1) rest) else if t.ns[i].kind = 6 then capM (minK (fun k => (wd t.ns k).1) w rest) else capM w)] := by
      intro rest
      induction rest with
      | nil =>
        intro pre w hx w0 w1 w8 hf
        rw [List.append_nil] at hx
        apply M83_1_of
        rw [List.length_map, hx, dF (by omega)]
        rw [hx] at hf
        refine (fin w w0 (by omega) (fun c => (w8 c).1)).trans ?_
        by_cases c8 : t.ns[i].kind = 8
        · rw [if_pos c8, if_pos c8]
        · rw [if_neg c8, if_neg c8]
          by_cases c5 : t.ns[i].kind = 5
          · rw [if_pos c5, show w + sumK (fun k => (wd t.ns k).1) [] = w from Int.add_zero w]
          · rw [if_neg c5]
            by_cases c6 : t.ns[i].kind = 6
            · rw [if_pos c6]; rfl
            · rw [if_neg c6]
      | cons k rest ihr =>
        intro pre w hx w0 w1 w8 hf
        have k1 : t.ns[i].kids.length = pre.length + (rest.length + 1) := by rw [hx, List.length_append, List.length_cons]
        have hkk : (rd (t.ns[i].kids.map Dat.int) pre.length).I = k := by rw [hx]; exact kid_at
        obtain ⟨g1, g2⟩ := kid k (by rw [hx]; simp)
        have c8 : t.ns[i].kind ≠ 8 := fun c => by have := (w8 c).2; cases this
        have hrec := fun w' h0 h1 => ihr (pre ++ [k]) w' (by rw [hx, List.append_assoc]; rfl) h0 h1 (fun c => absurd c c8) hf
        simp only [List.length_append, List.length_cons, List.length_nil] at hrec
        apply M83_1_of
        rw [List.length_map, dT (by omega), ixT ⟨by omega, by omega⟩, Int.toNat_natCast, hkk, bT g1, upk (n := t.ns[i].kids.length) (by omega) (by omega)]
        simp only [rd0, datI]
        simp only [if_neg c8] at hrec ⊢
        by_cases c5 : t.ns[i].kind = 5
        · simp only [if_pos c5] at hrec ⊢
          rw [eT c5, eF (show t.ns[i].kind ≠ 6 by omega), w64 (by omega) (by omega), hrec _ (by omega) (by omega), sumK, Int.add_assoc]
        · simp only [if_neg c5] at hrec ⊢
          rw [eF c5]
          by_cases c6 : t.ns[i].kind = 6
          · simp only [if_pos c6] at hrec ⊢
            rw [eT c6, minK]
            by_cases c : (wd t.ns k).1 < w
            · rw [dT c, if_pos c]; exact hrec _ (by omega) (by omega)
            · rw [dF c, if_neg c]; exact hrec _ (by omega) (by omega)
          · simp only [if_neg c6] at hrec ⊢
            rw [eF c6]
            exact hrec _ (by omega) (by omega)
    have hlen : t.ns[i].kids.length ≤ 17592186043 := by
      have := kids_len h h2
      omega
    apply o83
    rw [nsD_len, ixT ⟨by omega, by omega⟩, Int.toNat_natCast, nsD_rd h2]
    simp only [nd0, nd1, nd2, nd3, nd4, nd5, nd6, nd7, nd8, nd9, datI, datS, datL]
    rw [List.length_map, wd_eq h h2]
    unfold lowN
    by_cases c2 : t.ns[i].kind = 2
    · have hk0 : t.ns[i].kids = [] := hn.leaf (by omega)
      rw [eT c2, dF (show ¬ t.ns[i].kind ≥ 5 by omega), if_pos c2]
      apply M83_1_of
      rw [List.length_map, hk0, dF (by simp), eF (show t.ns[i].kind ≠ 8 by omega), dF (by omega)]
    · rw [eF c2, if_neg c2]
      by_cases c5 : t.ns[i].kind ≥ 5
      · rw [dT c5]
        by_cases c10 : t.ns[i].kind ≤ 9
        · have hne := kids_ne hn c5
          obtain ⟨k, ks, hks⟩ : ∃ k ks, t.ns[i].kids = k :: ks := by
            cases hh : t.ns[i].kids with
            | nil => exact absurd hh hne
            | cons k ks => exact ⟨k, ks, rfl⟩
          have hx : (rd (t.ns[i].kids.map Dat.int) 0).I = k := by rw [hks]; rfl
          obtain ⟨g1, g2⟩ := kid k (by rw [hks]; exact List.mem_cons_self)
          have hkz : k0 t.ns[i] = k := by unfold k0; rw [hks]; rfl
          have htl : t.ns[i].kids.tail = ks := by rw [hks]; rfl
          rw [dT c10, dT (by rw [hks]; simp), dT (by rw [hks]; simp), hx, bT g1]
          simp only [rd0, datI]
          have := loop ks [k] (wd t.ns k).1 hks g2.1 (by simp; omega) (fun c => ⟨g2.2, by
            have h1 := hn.one (by omega)
            rw [hks, List.length_cons] at h1
            exact List.eq_nil_of_length_eq_zero (by omega)⟩) hlen
          refine this.trans ?_
          have cm : ∀ x : Int, 0 ≤ x ∧ x ≤ 1048576 → capM x = x := fun x hx => by unfold capM; rw [if_neg (by omega)]
          rw [hkz, htl]
          by_cases d8 : t.ns[i].kind = 8
          · rw [if_pos d8, if_neg (by omega), if_neg (by omega), if_pos d8]
          rw [if_neg d8]
          by_cases d5 : t.ns[i].kind = 5
          · rw [if_pos d5, if_pos d5, hks]; rfl
          rw [if_neg d5, if_neg d5]
          by_cases d6 : t.ns[i].kind = 6
          · rw [if_pos d6, if_pos d6, cm _ (minK_in g2 fun x hx => (kid x (by rw [hks]; exact List.mem_cons_of_mem _ hx)).2)]
          · rw [if_neg d6, if_neg d6, if_neg d8, if_pos (by omega), cm _ g2]
        · have h1 := hn.one (by omega)
          have hk10 : t.ns[i].kind = 10 := by have := hn.k; omega
          rw [dF c10, if_neg (by omega), if_neg (by omega), if_neg (by omega), if_neg (by omega)]
          apply M83_1_of
          rw [List.length_map, h1, dF (by omega), eF (show t.ns[i].kind ≠ 8 by omega), dF (by omega)]
      · have hk0 : t.ns[i].kids = [] := hn.leaf (by omega)
        rw [dF c5, if_neg (by omega), if_neg (by omega), if_neg (by omega), if_neg (by omega)]
        apply M83_1_of
        rw [List.length_map, hk0, dF (by simp), eF (show t.ns[i].kind ≠ 8 by omega), dF (by omega)]
where
  kids_len {t : Tr} (h : RT t) {i : Nat} (hi : i < t.ns.length) : t.ns[i].kids.length ≤ t.ns.length + 1 := by
    have hg := h.laid.at hi
    unfold endK at hg
    rw [List.getElem?_eq_getElem hi] at hg
    replace hg : walkK (endK t.ns t.ns.length) t.ns[i].kids (i + 1) = some (endT t i) := hg
    have w : ∀ (ks : List Int) (nx e : Nat), walkK (endK t.ns t.ns.length) ks nx = some e → nx + ks.length ≤ e := by
      intro ks
      induction ks with
      | nil => intro nx e he; obtain rfl := Option.some.inj he; simp
      | cons k ks ih =>
        intro nx e he
        unfold walkK at he
        split at he
        · cases he
        · cases hg2 : endK t.ns t.ns.length nx with
          | none => rw [hg2] at he; cases he
          | some m =>
            rw [hg2] at he
            have h1 := endK_bound _ _ _ hg2
            have h2 := ih m e he
            rw [List.length_cons]
            omega
    have h1 := w _ _ _ hg
    have h2 := h.laid.bound hi
    omega
end Go.Proofs.YtlofoifcdmeopaaGreatDoor.V
