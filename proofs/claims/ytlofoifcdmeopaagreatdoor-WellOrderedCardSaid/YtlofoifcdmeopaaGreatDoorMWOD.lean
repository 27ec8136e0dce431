/- Widths: what the program and the document answer. Widths: the document's upper bound; Check. Told functions: what each answers, as plain trees; written by a program of this session (tell.py). Package scan's small readers, and the document's: bytes at places, blanks, names. Told functions: what each answers, as plain trees; written by a program of this session (tell.py). Quantifiers: the program's counts and the document's. Told functions: what each answers, as plain trees; written by a program of this session (tell.py). The symbol at a place: the program's and the document's. Told functions: what each answers, as plain trees; written by a program of this session (tell.py). Package rset: what its functions answer. Lists of ranges: what they haven't, and what they have. Told functions: what each answers, as plain trees; written by a program of this session (tell.py). Letters that are the same but for their case: the document's fold and the program's. Orbits: the document's and the program's; the least of each. The document's orbit, sorted; its least is the program's. Closed lists: a list with all that is the same but for its case. -/
import Derived.Test.YtlofoifcdmeopaaGreatDoorMWOC
import Derived.KernelRfl
namespace Go.Proofs.YtlofoifcdmeopaaGreatDoor.V
open Go Go.Ev Go.RowKit
set_option linter.unusedVariables false
set_option linter.unusedSimpArgs false
abbrev avNd (n : Nd) (e : TypeId) : List AV := [.int .i64 n.kind, .int .i64 n.frm, .int .i64 n.to, .int .i64 n.num, .int .i64 n.min, .int .i64 n.max, .int .i64 n.mode, .str n.name, .shr e (rs n.set), .shr 3 (n.kids.map .int)]
def wD (w : Int × Int) : Dat := .agg [.int w.1, .int w.2]
theorem upk {k n : Nat} (h : k < n) (hn : n ≤ 20000000000000) : IntKind.i64.wrap ((k : Int) + 1) = ((k + 1 : Nat) : Int) := by rw [w64 (by omega) (by omega)]; omega
theorem kid_at {pre : List Int} {x : Int} {rest : List Int} : (rd ((pre ++ x :: rest).map Dat.int) pre.length).I = x := by rw [rdI]; simp
theorem wide_E (x : Int) : E C 155 [.int .i64 x] = some [.int (if x > 1048576 then -1 else x)] := by
  apply o155
  by_cases h : x > 1048576
  · rw [dT h, if_pos h]
  · rw [dF h, if_neg h]
theorem add_E (a b : Int × Int) (ha : 0 ≤ a.1 ∧ a.1 ≤ 1048576) (hb : 0 ≤ b.1 ∧ b.1 ≤ 1048576) (ka : HB a.2) (kb : HB b.2) : E C 122 [.agg [.int .i64 a.1, .int .i64 a.2], .agg [.int .i64 b.1, .int .i64 b.2]] = some [wD (capM (a.1 + b.1), addH a.2 b.2)] := by
  unfold HB at ka kb
  apply o122
  rw [w64 (n := a.1 + b.1) (by omega) (by omega)]
  by_cases h1 : a.2 = -1
  · rw [show addH a.2 b.2 = -1 from if_pos (.inl h1), neF h1]; rfl
  rw [neT h1]
  by_cases h2 : b.2 = -1
  · rw [show addH a.2 b.2 = -1 from if_pos (.inr h2), neF h2]; rfl
  rw [neT h2, w64 (n := a.2 + b.2) (by omega) (by omega), bT (wide_E _), show addH a.2 b.2 = if a.2 + b.2 > 1048576 then -1 else a.2 + b.2 from if_neg (by omega)]
  rfl
theorem or_E (a b : Int × Int) : E C 123 [.agg [.int .i64 a.1, .int .i64 a.2], .agg [.int .i64 b.1, .int .i64 b.2]] = some [wD (if b.1 < a.1 then b.1 else a.1, orH a.2 b.2)] := by
  apply o123
  by_cases h1 : a.2 = -1
  · rw [show orH a.2 b.2 = -1 from if_pos (.inl h1), neF h1]; rfl
  rw [neT h1]
  by_cases h2 : b.2 = -1
  · rw [show orH a.2 b.2 = -1 from if_pos (.inr h2), neF h2]; rfl
  rw [neT h2, show orH a.2 b.2 = if b.2 > a.2 then b.2 else a.2 from if_neg (by omega)]
  rfl
theorem times_E (a : Int × Int) (mn mx : Int) (ha : 0 ≤ a.1 ∧ a.1 ≤ 1048576) (ka : HB a.2) (h1 : 0 ≤ mn ∧ mn ≤ 1000) (h2 : mx = -1 ∨ 1 ≤ mx ∧ mx ≤ 1000) : E C 121 [.agg [.int .i64 a.1, .int .i64 a.2], .int .i64 mn, .int .i64 mx] = some [wD (capM (a.1 * mn), timesH a.2 mx)] := by
  unfold HB at ka
  have m1 := mul_small ha h1
  apply o121
  rw [w64 (n := a.1 * mn) (by omega) (by omega)]
  by_cases c0 : a.2 = 0
  · rw [show timesH a.2 mx = 0 from if_pos c0, eT c0]; rfl
  rw [show timesH a.2 mx = (if a.2 = -1 ∨ mx = -1 then -1 else if a.2 * mx > 1048576 then -1 else a.2 * mx) from if_neg c0, eF c0]
  by_cases c1 : a.2 = -1
  · rw [if_pos (show a.2 = -1 ∨ mx = -1 from .inl c1), eT c1]; rfl
  rw [eF c1]
  by_cases c2 : mx = -1
  · rw [if_pos (show a.2 = -1 ∨ mx = -1 from .inr c2), eT c2]; rfl
  have m2 := mul_small (a := a.2) (b := mx) (by omega) (by omega)
  rw [eF c2, if_neg (show ¬ (a.2 = -1 ∨ mx = -1) by omega), w64 (n := a.2 * mx) (by omega) (by omega), bT (wide_E _)]
  rfl
/-- A row in which the kids' widths stand. -/
def Has (v : List Dat) (n : Nd) (g : Int → Int × Int) : Prop := ∀ k, k ∈ n.kids → 0 ≤ k ∧ k < (v.length : Int) ∧ rd v k.toNat = wD (g k) ∧ (0 ≤ (g k).1 ∧ (g k).1 ≤ 1048576) ∧ HB (g k).2
theorem capM_add {a b : Int} (ha : 0 ≤ a) (hb : 0 ≤ b) : capM (capM a + b) = capM (a + b) := by unfold capM; split <;> split <;> (try split) <;> omega
theorem cat_loop (v : List Dat) (n : Nd) (hn : OkN n) (g : Int → Int × Int) (hv : Has v n g) (q0 q1 q2 q3 q4 q5 q6 p0 p1 p2 p3 p4 p5 p6 z0 z1 u : Int) (s1 s2 : ByteArray) (l1 l2 l3 l4 : List Dat) : ∀ (rest pre : List Int) (a b : Int), n.kids = pre ++ rest → 0 ≤ a → HB b →
    M82_1 q0 q1 q2 q3 q4 q5 q6 s1 l1 l2 v p0 p1 p2 p3 p4 p5 p6 s2 l3 l4 z0 z1 (capM a) b u (n.kids.map .int) (n.kids.length : Int) (pre.length : Int) = some [wD (capM (a + sumK (fun k => (g k).1) rest), foldH addH (fun k => (g k).2) b rest)] := by
  have hk := hn.kids
  intro rest
  induction rest with
  | nil =>
    intro pre a b h ha hb
    rw [List.append_nil] at h
    apply M82_1_of
    rw [h, dF (by omega), show a + sumK (fun k => (g k).1) [] = a from Int.add_zero a]
    rfl
  | cons k rest ih =>
    intro pre a b h ha hb
    have k1 : n.kids.length = pre.length + (rest.length + 1) := by rw [h, List.length_append, List.length_cons]
    have hx : (rd (n.kids.map Dat.int) pre.length).I = k := by rw [h]; exact kid_at
    obtain ⟨e1, e2, e3, e4, e5⟩ := hv k (by rw [h]; simp)
    have ca := capM_in ha
    have hrec := ih (pre ++ [k]) (a + (g k).1) (addH b (g k).2) (by rw [h, List.append_assoc]; rfl) (by omega) (addH_in hb e5)
    rw [List.length_append, List.length_cons, List.length_nil] at hrec
    apply M82_1_of
    rw [dT (by omega), List.length_map, ixT ⟨by omega, by omega⟩, Int.toNat_natCast, hx, ixT ⟨e1, e2⟩, e3]
    show Option.bind (E C 122 [.agg [.int .i64 (capM a, b).1, .int .i64 (capM a, b).2], .agg [.int .i64 (g k).1, .int .i64 (g k).2]]) _ = _
    rw [bT (add_E (capM a, b) (g k) ca e4 hb e5), upk (n := n.kids.length) (by omega) (by omega)]
    simp only [wD, rd0, aggC0, aggC1, datI] at hrec ⊢
    rw [capM_add ha e4.1, hrec, sumK, foldH, Int.add_assoc]
theorem alt_loop (v : List Dat) (n : Nd) (hn : OkN n) (g : Int → Int × Int) (hv : Has v n g) (q0 q1 q2 q3 q4 q5 q6 p0 p1 p2 p3 p4 p5 p6 z0 z1 u : Int) (s1 s2 : ByteArray) (l1 l2 l3 l4 : List Dat) (ks : List Int) (hks : ∀ k, k ∈ ks → k ∈ n.kids) (hkl : ks.length ≤ n.kids.length) : ∀ (rest pre : List Int) (a b : Int), ks = pre ++ rest →
    M82_2 q0 q1 q2 q3 q4 q5 q6 s1 l1 l2 v p0 p1 p2 p3 p4 p5 p6 s2 l3 l4 z0 z1 a b u (ks.map .int) (ks.length : Int) (pre.length : Int) = some [wD (minK (fun k => (g k).1) a rest, foldH orH (fun k => (g k).2) b rest)] := by
  have hk := hn.kids
  intro rest
  induction rest with
  | nil =>
    intro pre a b h
    rw [List.append_nil] at h
    apply M82_2_of
    rw [h, dF (by omega)]
    rfl
  | cons k rest ih =>
    intro pre a b h
    have k1 : ks.length = pre.length + (rest.length + 1) := by rw [h, List.length_append, List.length_cons]
    have hx : (rd (ks.map Dat.int) pre.length).I = k := by rw [h]; exact kid_at
    obtain ⟨e1, e2, e3, e4, e5⟩ := hv k (hks k (by rw [h]; simp))
    have hrec := ih (pre ++ [k]) (if (g k).1 < a then (g k).1 else a) (orH b (g k).2) (by rw [h, List.append_assoc]; rfl)
    rw [List.length_append, List.length_cons, List.length_nil] at hrec
    apply M82_2_of
    rw [dT (by omega), List.length_map, ixT ⟨by omega, by omega⟩, Int.toNat_natCast, hx, ixT ⟨e1, e2⟩, e3]
    show Option.bind (E C 123 [.agg [.int .i64 (a, b).1, .int .i64 (a, b).2], .agg [.int .i64 (g k).1, .int .i64 (g k).2]]) _ = _
    rw [bT (or_E (a, b) (g k)), upk (n := ks.length) (by omega) (by omega)]
    simp only [wD, rd0, aggC0, aggC1, datI] at hrec ⊢
    rw [hrec, minK, foldH]
theorem of9_E (v : List Dat) (n : Nd) (hn : OkN n) (ok : NdOk n) (g : Int → Int × Int) (hv : Has v n g) : E C 82 [.agg (avNd n 82), .shr 62 v] = some [wD (lowN n fun k => (g k).1, highN n fun k => (g k).2)] := by
  have hk := hn.kids
  apply o82
  unfold lowN highN
  by_cases c2 : n.kind = 2
  · rw [eT c2, if_pos c2, if_neg (by omega), if_pos c2]; rfl
  rw [eF c2, if_neg c2]
  by_cases c4 : n.kind = 4
  · rw [eT c4, if_pos c4, if_neg (by omega), if_neg (by omega), if_neg (by omega), if_neg (by omega)]; rfl
  rw [eF c4, if_neg c4, if_neg c2]
  by_cases h5 : n.kind < 5
  · rw [eF (show n.kind ≠ 7 by omega), eF (show n.kind ≠ 9 by omega), eF (show n.kind ≠ 8 by omega), eF (show n.kind ≠ 5 by omega), eF (show n.kind ≠ 6 by omega), if_neg (by omega), if_neg (by omega), if_neg (by omega), if_neg (by omega), if_neg (by omega), if_neg (by omega), if_neg (by omega), if_neg (by omega)]; rfl
  have hne := kids_ne ok (by omega)
  obtain ⟨k, ks, hks⟩ : ∃ k ks, n.kids = k :: ks := by
    cases h : n.kids with
    | nil => exact absurd h hne
    | cons k ks => exact ⟨k, ks, rfl⟩
  have hk0 : k0 n = k := by unfold k0; rw [hks]; rfl
  have htl : n.kids.tail = ks := by rw [hks]; rfl
  have hx : (rd (n.kids.map Dat.int) 0).I = k := by rw [hks]; rfl
  obtain ⟨e1, e2, e3, e4, e5⟩ := hv k (by rw [hks]; exact List.mem_cons_self)
  have hpos : 0 < n.kids.length := by rw [hks]; simp
  rw [List.length_map, hx, hk0, htl]
  have get : ∀ X : R, ((bif decide (0 < (n.kids.length : Int)) then (bif decide (0 < n.kids.length) then (bif decide (0 ≤ k) then (bif decide (k < (v.length : Int)) then (bif decide (k.toNat < v.length) then X else none) else none) else none) else none) else none) : R) = X := fun X => by
    rw [dT (by omega), dT hpos, ixT ⟨e1, e2⟩]
  by_cases c7 : n.kind = 7
  · rw [eT c7, eT c7, get, e3, if_neg (by omega), if_neg (by omega), if_neg (by omega), if_pos (.inl c7), if_neg (by omega), if_neg (by omega), if_neg (by omega), if_pos (.inl c7)]; rfl
  rw [eF c7]
  by_cases c9 : n.kind = 9
  · rw [eT c9, get, e3, if_neg (by omega), if_neg (by omega), if_neg (by omega), if_pos (.inr c9), if_neg (by omega), if_neg (by omega), if_neg (by omega), if_pos (.inr c9)]; rfl
  rw [eF c9]
  by_cases c8 : n.kind = 8
  · obtain ⟨m1, m2⟩ := ok.cnt c8
    rw [eT c8, get, e3]
    show Option.bind (E C 121 [.agg [.int .i64 (g k).1, .int .i64 (g k).2], .int .i64 n.min, .int .i64 n.max]) _ = _
    rw [bT (times_E (g k) n.min n.max e4 e5 m1 m2), if_neg (by omega), if_neg (by omega), if_pos c8, if_neg (by omega), if_neg (by omega), if_pos c8]
    rfl
  rw [eF c8]
  by_cases c5 : n.kind = 5
  · rw [eT c5, if_pos c5, if_pos c5]
    have := cat_loop v n hn g hv n.kind n.frm n.to n.num n.min n.max n.mode n.kind n.frm n.to n.num n.min n.max n.mode 0 0 n.kind n.name n.name (rs n.set) (n.kids.map .int) (rs n.set) (n.kids.map .int) n.kids [] 0 0 rfl (Int.le_refl _) (by unfold HB; omega)
    rw [Int.zero_add] at this
    refine this.trans ?_
    have e : foldH addH (fun k => (g k).2) 0 n.kids = foldH addH (fun k => (g k).2) (g k).2 ks := by
      rw [hks, foldH]
      congr 1
      unfold HB at e5
      unfold addH
      split
      · omega
      · rw [if_neg (by omega)]; omega
    rw [e]
  rw [eF c5]
  by_cases c6 : n.kind = 6
  · rw [eT c6, get, e3, dT (by omega), dT (by omega), if_neg c5, if_pos c6, if_neg c5, if_pos c6]
    have ht : ((n.kids.map Dat.int).take ((n.kids.length : Int)).toNat).drop 1 = ks.map Dat.int := by
      rw [Int.toNat_natCast, List.take_of_length_le (by rw [List.length_map]; exact Nat.le_refl _), hks]
      rfl
    rw [ht, List.length_map]
    exact alt_loop v n hn g hv n.kind n.frm n.to n.num n.min n.max n.mode n.kind n.frm n.to n.num n.min n.max n.mode 0 0 n.kind n.name n.name (rs n.set) (n.kids.map .int) (rs n.set) (n.kids.map .int) ks (fun x hx => by rw [hks]; exact List.mem_cons_of_mem _ hx) (by rw [hks]; simp) ks [] (g k).1 (g k).2 rfl
  · rw [eF c6, if_neg c5, if_neg c6, if_neg c8, if_neg (by omega), if_neg c5, if_neg c6, if_neg c8, if_neg (by omega)]; rfl
/-- The widths of all nodes from one on. -/
def wTail (ns : List Nd) (m : Nat) : List Dat := ((List.range ns.length).drop m).map fun (j : Nat) => wD (wd ns (j : Int))
theorem wTail_len (ns : List Nd) (m : Nat) : (wTail ns m).length = ns.length - m := by simp [wTail]
theorem wTail_cons (ns : List Nd) {m : Nat} (h : m < ns.length) : wTail ns m = wD (wd ns (m : Int)) :: wTail ns (m + 1) := by
  unfold wTail
  rw [List.drop_eq_getElem_cons (by simpa using h)]
  simp
theorem wTail_rd (ns : List Nd) {m j : Nat} (h1 : m ≤ j) (h2 : j < ns.length) : rd (wTail ns m) (j - m) = wD (wd ns (j : Int)) := by
  unfold wTail rd
  rw [List.getD_eq_getElem?_getD, List.getElem?_map, List.getElem?_drop, show m + (j - m) = j by omega, List.getElem?_range h2]
  rfl
theorem Widths_loop {t : Tr} (ht : OkT t) (h : RT t) (x0 x2 x3 : List Dat) (x1 : Int) : ∀ (m : Nat), m ≤ t.ns.length →
    M38_1 x0 x1 x2 (nsD t.ns) t.groups (t.names.map .str) x3 (List.replicate m (.agg [.int 0, .int 0]) ++ wTail t.ns m) ((m : Int) - 1) = some [.list (wTail t.ns 0)]
  | 0, _ => by
    apply M38_1_of
    rw [dF (by omega)]
    rfl
  | m + 1, hm => by
    have hns := ht.ns
    have hm' : m < t.ns.length := by omega
    have hvl : (List.replicate (m + 1) (Dat.agg [.int 0, .int 0]) ++ wTail t.ns (m + 1)).length = t.ns.length := by rw [List.length_append, List.length_replicate, wTail_len]; omega
    have hv : Has (List.replicate (m + 1) (Dat.agg [.int 0, .int 0]) ++ wTail t.ns (m + 1)) t.ns[m] (wd t.ns) := fun k hk => by
      obtain ⟨j, rfl, j1, j2⟩ := h.laid.kid hm' hk
      have hw := wd_in h _ j (Nat.le_refl _) j2
      refine ⟨by omega, by rw [hvl]; omega, ?_, hw.1, hw.2⟩
      rw [Int.toNat_natCast, ← wTail_rd t.ns (m := m + 1) (by omega) j2]
      unfold rd
      rw [List.getD_eq_getElem?_getD, List.getElem?_append_right (by rw [List.length_replicate]; omega), List.length_replicate, List.getD_eq_getElem?_getD]
    apply M38_1_of
    rw [show (((m + 1 : Nat) : Int) - 1) = (m : Int) by omega, dT (by omega), nsD_len, ixT ⟨by omega, by omega⟩, Int.toNat_natCast, nsD_rd hm']
    simp only [nd0, nd1, nd2, nd3, nd4, nd5, nd6, nd7, nd8, nd9, datI, datS, datL]
    rw [bT (of9_E _ t.ns[m] (ht.nd _ (List.getElem_mem hm')) (h.nd _ (List.getElem_mem hm')) (wd t.ns) hv), hvl, dT (by omega), dT (by omega), dT hm', w64 (by omega) (by omega), ← wd_eq h hm']
    have hset : (List.replicate (m + 1) (Dat.agg [.int 0, .int 0]) ++ wTail t.ns (m + 1)).set m (.agg [.int (((rd [wD (wd t.ns (m : Int))] 0).C 0).I), .int (((rd [wD (wd t.ns (m : Int))] 0).C 1).I)]) = List.replicate m (.agg [.int 0, .int 0]) ++ wTail t.ns m := by
      rw [wTail_cons t.ns hm', List.replicate_succ', List.append_assoc, List.set_append_right _ _ (by rw [List.length_replicate]; exact Nat.le_refl _), List.length_replicate, Nat.sub_self]
      rfl
    rw [hset]
    exact Widths_loop ht h x0 x2 x3 x1 m (by omega)
theorem cap16w : capB 16 = 8796093022208 := by decide
theorem Widths_E {t : Tr} (ht : OkT t) (h : RT t) : E C 38 [.agg [.shr 38 (nsD t.ns), .int .i64 t.groups, .shr 9 (t.names.map .str)]] = some [.list (wTail t.ns 0)] := by
  have hns := ht.ns
  apply o38
  rw [nsD_len, cap16w, dT (by omega), dT (by omega), dT (by omega), Int.toNat_natCast, w64 (by omega) (by omega)]
  have := Widths_loop ht h (nsD t.ns) (t.names.map .str) [] t.groups t.ns.length (Nat.le_refl _)
  have e : wTail t.ns t.ns.length = [] := List.eq_nil_of_length_eq_zero (by rw [wTail_len]; omega)
  rw [e, List.append_nil] at this
  exact this
/-! The document's. -/
abbrev avT9 (t : Tr) : AV := .agg [.shr 42 (nsD t.ns), .int .i64 t.groups, .shr 9 (t.names.map .str)]
end Go.Proofs.YtlofoifcdmeopaaGreatDoor.V
namespace Go.Proofs.YtlofoifcdmeopaaGreatDoor.V
open Go Go.Ev Go.RowKit
set_option linter.unusedVariables false
set_option linter.unusedSimpArgs false
/-- What is wrong with a node. -/
def faultN (groups : Int) (ns : List Nd) (n : Nd) : Int :=
  if n.kind = 4 then (if n.num < 1 ∨ n.num > groups then 38 else 0) else if n.kind = 10 ∧ n.num ≥ 3 then (if (wd ns (k0 n)).2 < 0 ∨ (wd ns (k0 n)).2 > 255 then 41 else 0) else 0
def chk (groups : Int) (ns : List Nd) : List Nd → Int × Int
  | [] => (0, 0)
  | n :: l => if faultN groups ns n ≠ 0 then (faultN groups ns n, n.frm) else chk groups ns l
theorem fault_E {t : Tr} (ht : OkT t) (h : RT t) {n : Nd} (hm : n ∈ t.ns) : E C 85 [.agg [.shr 38 (nsD t.ns), .int .i64 t.groups, .shr 9 (t.names.map .str)], .agg (avNd n 82), .shr 62 (wTail t.ns 0)] = some [.int (faultN t.groups t.ns n)] := by
  have hns := ht.ns
  have hn := h.nd n hm
  obtain ⟨i, h2, rfl⟩ := List.getElem_of_mem hm
  apply o85
  unfold faultN
  by_cases c4 : t.ns[i].kind = 4
  · rw [eT c4, if_pos c4]
    by_cases q1 : t.ns[i].num < 1
    · rw [dT q1, if_pos (.inl q1)]
    rw [dF q1]
    by_cases q2 : t.ns[i].num > t.groups
    · rw [dT q2, if_pos (.inr q2)]
    rw [dF q2, neT (show t.ns[i].kind ≠ 10 by omega), if_neg (by omega)]
  rw [eF c4, if_neg c4]
  by_cases c10 : t.ns[i].kind = 10
  · have hne := kids_ne hn (by omega)
    obtain ⟨k, ks, hks⟩ : ∃ k ks, t.ns[i].kids = k :: ks := by
      cases hh : t.ns[i].kids with
      | nil => exact absurd hh hne
      | cons k ks => exact ⟨k, ks, rfl⟩
    have hx : (rd (t.ns[i].kids.map Dat.int) 0).I = k := by rw [hks]; rfl
    obtain ⟨m, rfl, m1, m2⟩ := h.laid.kid h2 (k := k) (by rw [hks]; exact List.mem_cons_self)
    have hkz : k0 t.ns[i] = (m : Int) := by unfold k0; rw [hks]; rfl
    have hb := (wd_in h _ m (Nat.le_refl _) m2).2
    unfold HB at hb
    have hw : ((rd (wTail t.ns 0) m).C 1).I = (wd t.ns (m : Int)).2 := by
      rw [show m = m - 0 from rfl, wTail_rd t.ns (Nat.zero_le _) m2]; rfl
    have tail : ((bif decide (0 < ((t.ns[i].kids.map Dat.int).length : Int)) then (bif decide (0 < (t.ns[i].kids.map Dat.int).length) then (bif decide (0 ≤ ((rd (t.ns[i].kids.map Dat.int) 0).I)) then (bif decide (((rd (t.ns[i].kids.map Dat.int) 0).I) < ((wTail t.ns 0).length : Int)) then (bif decide (((rd (t.ns[i].kids.map Dat.int) 0).I).toNat < (wTail t.ns 0).length) then (bif (((rd (wTail t.ns 0) (((rd (t.ns[i].kids.map Dat.int) 0).I).toNat)).C 1).I) == (-1) then (some [.int 41]) else (bif decide ((((rd (wTail t.ns 0) (((rd (t.ns[i].kids.map Dat.int) 0).I).toNat)).C 1).I) > 255) then (some [.int 41]) else (some [.int 0]))) else none) else none) else none) else none) else none) : R) = some [.int (if (wd t.ns (m : Int)).2 < 0 ∨ (wd t.ns (m : Int)).2 > 255 then 41 else 0)] := by
      rw [hx, List.length_map, dT (by rw [hks, List.length_cons]; omega), dT (by rw [hks, List.length_cons]; omega), wTail_len, ixT ⟨by omega, by omega⟩, Int.toNat_natCast, hw]
      by_cases q1 : (wd t.ns (m : Int)).2 = -1
      · rw [eT q1, if_pos (by omega)]
      rw [eF q1]
      by_cases q2 : (wd t.ns (m : Int)).2 > 255
      · rw [dT q2, if_pos (by omega)]
      · rw [dF q2, if_neg (by omega)]
    have lk := hn.look c10
    rw [neF c10, hkz]
    by_cases q3 : t.ns[i].num = 3
    · rw [neF q3, if_pos (by omega)]; exact tail
    rw [neT q3]
    by_cases q4 : t.ns[i].num = 4
    · rw [neF q4, if_pos (by omega)]; exact tail
    · rw [neT q4, if_neg (by omega)]
  · rw [neT c10, if_neg (by omega)]
theorem Check_loop {t : Tr} (ht : OkT t) (h : RT t) (x0 x2 : List Dat) (x1 u v : Int) : ∀ (rest pre : List Nd), t.ns = pre ++ rest →
    M40_1 x0 x1 x2 (nsD t.ns) t.groups (t.names.map .str) u v (wTail t.ns 0) (nsD t.ns) (t.ns.length : Int) (pre.length : Int) = some [.int (chk t.groups t.ns rest).1, .int (chk t.groups t.ns rest).2]
  | [], pre, e => by
    rw [List.append_nil] at e
    apply M40_1_of
    rw [e, dF (by omega)]
    rfl
  | n :: rest, pre, e => by
    have hns := ht.ns
    have k1 : t.ns.length = pre.length + (rest.length + 1) := by rw [e, List.length_append, List.length_cons]
    have h2 : pre.length < t.ns.length := by omega
    have hx : t.ns[pre.length] = n := by simp [e]
    have hm : n ∈ t.ns := by rw [e]; simp
    have hrec := Check_loop ht h x0 x2 x1 u v rest (pre ++ [n]) (by rw [e, List.append_assoc]; rfl)
    rw [List.length_append, List.length_cons, List.length_nil] at hrec
    apply M40_1_of
    rw [dT (by omega), nsD_len, ixT ⟨by omega, by omega⟩, Int.toNat_natCast, nsD_rd h2, hx]
    simp only [nd0, nd1, nd2, nd3, nd4, nd5, nd6, nd7, nd8, nd9, datI, datS, datL]
    rw [bT (fault_E ht h hm)]
    simp only [rd0, datI]
    unfold chk
    by_cases c : faultN t.groups t.ns n = 0
    · rw [neF c, if_neg (fun q => q c), upk (n := t.ns.length) (by omega) (by omega)]; exact hrec
    · rw [neT c, if_pos c]
theorem Check_E {t : Tr} (ht : OkT t) (h : RT t) : E C 40 [.agg [.shr 38 (nsD t.ns), .int .i64 t.groups, .shr 9 (t.names.map .str)]] = some [.int (chk t.groups t.ns t.ns).1, .int (chk t.groups t.ns t.ns).2] := by
  apply o40
  rw [bT (Widths_E ht h), nsD_len]
  exact Check_loop ht h _ _ _ _ _ t.ns [] rfl
end Go.Proofs.YtlofoifcdmeopaaGreatDoor.V
namespace Go.Proofs.YtlofoifcdmeopaaGreatDoor.V
open Go Go.Ev
set_option maxRecDepth 100000
set_option linter.unusedVariables false
/-- clew/scan.Blank -/
noncomputable def f205 : Func := Tryz.f205
def kp205 : List Nat := [0, 1, 4, 5]
noncomputable def c205 (p : List Nat) : Code := pick f205 p
noncomputable def L205_2 (n : Nat) (m1 : Nat) (m2 : Nat) (v0 : List Dat) (v1 v4 v5 : Int) : R := loopIter (fun E K => evCode C (ev C n) n kp205 (c205 [1, 1, 0, 0, 0, 1, 0, 1, 0, 1, 1, 1, 0, 0, 0]) E K) [0, 1, 4, 5] (Kblk 3 (Kblk 2 (Kblk 1 (Klop (fun E K => evCode C (ev C n) n kp205 (c205 [1, 1, 0, 0, 0]) E K) [0, 1, 4] (Kblk 0 (Kseq C (ev C n) n kp205 (c205 [1, 1, 1]) (Ktop C 205 f205 [.und, .und]))) m1)))) m2 [.shr 5 v0, .int .i64 v1, .und, .und, .int .i64 v4, .int .u8 v5, .und, .und, .und, .und, .und, .und, .und, .und, .und, .und, .und, .und, .und, .und, .und, .und, .und, .und, .und, .und, .und, .und, .und, .und, .und, .und, .und, .und, .und, .und, .und, .und, .und, .und, .und, .und, .und, .und, .und, .und, .und]
noncomputable def M205_2 (v0 : List Dat) (v1 v4 v5 : Int) : R := lim fun φ => L205_2 (φ 0) (φ 1) (φ 2) v0 v1 v4 v5
theorem M205_2_c (v0 : List Dat) (v1 v4 v5 : Int) : Cont (fun φ => L205_2 (φ 0) (φ 1) (φ 2) v0 v1 v4 v5) (M205_2 v0 v1 v4 v5) := Cont.re id _
theorem M205_2_e (v0 : List Dat) (v1 v4 v5 : Int) : Cont (fun φ => L205_2 (φ 0) (φ 1) (φ 0) v0 v1 v4 v5) (M205_2 v0 v1 v4 v5) := Cont.re (toZ 2) fun φ => L205_2 (φ 0) (φ 1) (φ 2) v0 v1 v4 v5
noncomputable def L205_1 (n : Nat) (m1 : Nat) (v0 : List Dat) (v1 v4 : Int) : R := loopIter (fun E K => evCode C (ev C n) n kp205 (c205 [1, 1, 0, 0, 0]) E K) [0, 1, 4] (Kblk 0 (Kseq C (ev C n) n kp205 (c205 [1, 1, 1]) (Ktop C 205 f205 [.und, .und]))) m1 [.shr 5 v0, .int .i64 v1, .und, .und, .int .i64 v4, .und, .und, .und, .und, .und, .und, .und, .und, .und, .und, .und, .und, .und, .und, .und, .und, .und, .und, .und, .und, .und, .und, .und, .und, .und, .und, .und, .und, .und, .und, .und, .und, .und, .und, .und, .und, .und, .und, .und, .und, .und, .und]
noncomputable def M205_1 (v0 : List Dat) (v1 v4 : Int) : R := lim fun φ => L205_1 (φ 0) (φ 1) v0 v1 v4
theorem M205_1_c (v0 : List Dat) (v1 v4 : Int) : Cont (fun φ => L205_1 (φ 0) (φ 1) v0 v1 v4) (M205_1 v0 v1 v4) := Cont.re id _
theorem M205_1_e (v0 : List Dat) (v1 v4 : Int) : Cont (fun φ => L205_1 (φ 0) (φ 0) v0 v1 v4) (M205_1 v0 v1 v4) := Cont.re (toZ 1) fun φ => L205_1 (φ 0) (φ 1) v0 v1 v4
theorem M205_2_of (v0 : List Dat) (v1 v4 v5 : Int) {r : List Dat} (h : (bif decide (v1 < (v0.length : Int)) then (bif decide (0 ≤ v1) then (bif decide (v1 < (v0.length : Int)) then (bif decide (v1.toNat < v0.length) then (bif ((rd v0 v1.toNat).I) != 10 then (M205_2 v0 (IntKind.i64.wrap (v1 + 1)) v4 v5) else (M205_1 v0 v1 v4)) else none) else none) else none) else (M205_1 v0 v1 v4) : R) = some r) : M205_2 v0 v1 v4 v5 = some r := lim_st (g := fun φ => L205_2 (φ 0) (φ 1) (φ 2) v0 v1 v4 v5) 2 h (Cont.bif (Cont.bif (Cont.bif (Cont.bif (Cont.bif (M205_2_c _ _ _ _) (M205_1_c _ _ _)) Cont.nn) Cont.nn) Cont.nn) (M205_1_c _ _ _)) fun φ m hm => (congrArg (fun q => L205_2 (φ 0) (φ 1) q v0 v1 v4 v5) hm).trans (by kernel_rfl)
theorem M205_1_of (v0 : List Dat) (v1 v4 : Int) {r : List Dat} (h : (bif decide (v1 < (v0.length : Int)) then (bif decide (0 ≤ v1) then (bif decide (v1 < (v0.length : Int)) then (bif decide (v1.toNat < v0.length) then (bif ((rd v0 v1.toNat).I) == 32 then (M205_1 v0 (IntKind.i64.wrap (v1 + 1)) v4) else (bif decide (((rd v0 v1.toNat).I) ≥ 9) then (bif decide (((rd v0 v1.toNat).I) ≤ 13) then (M205_1 v0 (IntKind.i64.wrap (v1 + 1)) v4) else (bif ((rd v0 v1.toNat).I) == 35 then (M205_2 v0 v1 v4 ((rd v0 v1.toNat).I)) else (some [.int v1]))) else (bif ((rd v0 v1.toNat).I) == 35 then (M205_2 v0 v1 v4 ((rd v0 v1.toNat).I)) else (some [.int v1])))) else none) else none) else none) else (some [.int v1]) : R) = some r) : M205_1 v0 v1 v4 = some r := lim_st (g := fun φ => L205_1 (φ 0) (φ 1) v0 v1 v4) 1 h (Cont.bif (Cont.bif (Cont.bif (Cont.bif (Cont.bif (M205_1_c _ _ _) (Cont.bif (Cont.bif (M205_1_c _ _ _) (Cont.bif (M205_2_e _ _ _ _) (Cont.const _))) (Cont.bif (M205_2_e _ _ _ _) (Cont.const _)))) Cont.nn) Cont.nn) Cont.nn) (Cont.const _)) fun φ m hm => (congrArg (fun q => L205_1 (φ 0) q v0 v1 v4) hm).trans (by kernel_rfl)
theorem o205 (a0 : List Dat) (a1 : Int) {r : List Dat} (h : (M205_1 a0 (if 0 > a1 then 0 else a1) 0 : R) = some r) : E C 205 [.shr 5 a0, .int .i64 a1] = some r := E_st h (M205_1_e _ _ _) fun φ => by kernel_rfl
/-- clew/scan.at -/
noncomputable def f217 : Func := Tryz.f217
theorem o217 (a0 : List Dat) (a1 : Int) {r : List Dat} (h : (bif decide (a1 < 0) then (some [.int 0]) else (bif decide (a1 ≥ (a0.length : Int)) then (some [.int 0]) else (bif decide (0 ≤ a1) then (bif decide (a1 < (a0.length : Int)) then (bif decide (a1.toNat < a0.length) then (some [.int ((rd a0 a1.toNat).I)]) else none) else none) else none)) : R) = some r) : E C 217 [.shr 5 a0, .int .i64 a1] = some r := E_st h (Cont.bif (Cont.const _) (Cont.bif (Cont.const _) (Cont.bif (Cont.bif (Cont.bif (Cont.const _) Cont.nn) Cont.nn) Cont.nn))) fun φ => by kernel_rfl
theorem o232 (a0 : List Dat) (a1 : Int) {r : List Dat} (h : ((E C 217 [.shr 5 a0, .int .i64 a1]).bind fun d1 => (bif ((rd d1 0).I) != 92 then (some [.agg [.int 0, .int 0, .int 0, .str ByteArray.empty, .list ([] : List Dat)], .int 10]) else ((E C 253 [.shr 5 a0, .int .i64 a1]).bind fun d2 => (bif (rd d2 1).B then (some [.agg [.int (((rd d2 0).C 0).I), .int (((rd d2 0).C 1).I), .int (((rd d2 0).C 2).I), .str (((rd d2 0).C 3).S), .list (((rd d2 0).C 4).L)], .int ((rd d2 2).I)]) else ((E C 217 [.shr 5 a0, .int .i64 (IntKind.i64.wrap (a1 + 1))]).bind fun d3 => ((E C 254 [.int .u8 ((rd d3 0).I)]).bind fun d4 => (bif decide (((rd d4 0).I) > 0) then (some [.agg [.int 3, .int (IntKind.i64.wrap (a1 + 2)), .int ((rd d4 0).I), .str ByteArray.empty, .list ([] : List Dat)], .int 0]) else (bif decide (((rd d3 0).I) ≥ 49) then (bif decide (((rd d3 0).I) ≤ 57) then ((E C 217 [.shr 5 a0, .int .i64 (IntKind.i64.wrap (a1 + 2))]).bind fun d5 => ((E C 255 [.int .u8 ((rd d5 0).I)]).bind fun d6 => (bif (rd d6 0).B then (some [.agg [.int 4, .int (IntKind.i64.wrap ((IntKind.i64.wrap (a1 + 2)) + 1)), .int (IntKind.i64.wrap ((IntKind.i64.wrap ((IntKind.i64.wrap (IntKind.u8.wrap (((rd d3 0).I) - 48))) * 10)) + (IntKind.i64.wrap (IntKind.u8.wrap (((rd d5 0).I) - 48))))), .str ByteArray.empty, .list ([] : List Dat)], .int 0]) else (some [.agg [.int 4, .int (IntKind.i64.wrap (a1 + 2)), .int (IntKind.i64.wrap (IntKind.u8.wrap (((rd d3 0).I) - 48))), .str ByteArray.empty, .list ([] : List Dat)], .int 0])))) else (bif ((rd d3 0).I) != 107 then (some [.agg [.int 0, .int 0, .int 0, .str ByteArray.empty, .list ([] : List Dat)], .int 32]) else ((E C 217 [.shr 5 a0, .int .i64 (IntKind.i64.wrap (a1 + 2))]).bind fun d7 => (bif ((rd d7 0).I) != 60 then (some [.agg [.int 0, .int 0, .int 0, .str ByteArray.empty, .list ([] : List Dat)], .int 36]) else ((E C 256 [.shr 5 a0, .int .i64 (IntKind.i64.wrap (a1 + 3))]).bind fun d8 => (bif ((rd d8 2).I) != 0 then (some [.agg [.int 0, .int 0, .int 0, .str ByteArray.empty, .list ([] : List Dat)], .int ((rd d8 2).I)]) else (some [.agg [.int 5, .int ((rd d8 1).I), .int 0, .str ((rd d8 0).S), .list ([] : List Dat)], .int 0]))))))) else (bif ((rd d3 0).I) != 107 then (some [.agg [.int 0, .int 0, .int 0, .str ByteArray.empty, .list ([] : List Dat)], .int 32]) else ((E C 217 [.shr 5 a0, .int .i64 (IntKind.i64.wrap (a1 + 2))]).bind fun d9 => (bif ((rd d9 0).I) != 60 then (some [.agg [.int 0, .int 0, .int 0, .str ByteArray.empty, .list ([] : List Dat)], .int 36]) else ((E C 256 [.shr 5 a0, .int .i64 (IntKind.i64.wrap (a1 + 3))]).bind fun d10 => (bif ((rd d10 2).I) != 0 then (some [.agg [.int 0, .int 0, .int 0, .str ByteArray.empty, .list ([] : List Dat)], .int ((rd d10 2).I)]) else (some [.agg [.int 5, .int ((rd d10 1).I), .int 0, .str ((rd d10 0).S), .list ([] : List Dat)], .int 0]))))))))))))) : R) = some r) : E C 232 [.shr 5 a0, .int .i64 a1] = some r := E_st h (Cont.bind (Cont.call C 217 _) fun _ => (Cont.bif (Cont.const _) (Cont.bind (Cont.call C 253 _) fun _ => (Cont.bif (Cont.const _) (Cont.bind (Cont.call C 217 _) fun _ => (Cont.bind (Cont.call C 254 _) fun _ => (Cont.bif (Cont.const _) (Cont.bif (Cont.bif (Cont.bind (Cont.call C 217 _) fun _ => (Cont.bind (Cont.call C 255 _) fun _ => (Cont.bif (Cont.const _) (Cont.const _)))) (Cont.bif (Cont.const _) (Cont.bind (Cont.call C 217 _) fun _ => (Cont.bif (Cont.const _) (Cont.bind (Cont.call C 256 _) fun _ => (Cont.bif (Cont.const _) (Cont.const _))))))) (Cont.bif (Cont.const _) (Cont.bind (Cont.call C 217 _) fun _ => (Cont.bif (Cont.const _) (Cont.bind (Cont.call C 256 _) fun _ => (Cont.bif (Cont.const _) (Cont.const _)))))))))))))) fun φ => by kernel_rfl
theorem o253 (a0 : List Dat) (a1 : Int) {r : List Dat} (h : ((E C 217 [.shr 5 a0, .int .i64 (IntKind.i64.wrap (a1 + 1))]).bind fun d1 => (bif ((rd d1 0).I) == 120 then ((E C 274 [.shr 5 a0, .int .i64 (IntKind.i64.wrap (a1 + 2))]).bind fun d2 => (some [.agg [.int (((rd d2 0).C 0).I), .int (((rd d2 0).C 1).I), .int (((rd d2 0).C 2).I), .str (((rd d2 0).C 3).S), .list (((rd d2 0).C 4).L)], .bool true, .int ((rd d2 1).I)])) else ((E C 275 [.int .u8 ((rd d1 0).I)]).bind fun d3 => (bif decide (((rd d3 0).I) ≥ 0) then (some [.agg [.int 1, .int (IntKind.i64.wrap (a1 + 2)), .int ((rd d3 0).I), .str ByteArray.empty, .list ([] : List Dat)], .bool true, .int 0]) else ((E C 276 [.int .u8 ((rd d1 0).I)]).bind fun d4 => (bif (rd d4 1).B then (some [.agg [.int 2, .int (IntKind.i64.wrap (a1 + 2)), .int 0, .str ByteArray.empty, .list ((rd d4 0).L)], .bool true, .int 0]) else ((E C 277 [.int .u8 ((rd d1 0).I)]).bind fun d5 => (bif (rd d5 0).B then (some [.agg [.int 0, .int 0, .int 0, .str ByteArray.empty, .list ([] : List Dat)], .bool false, .int 0]) else ((E C 255 [.int .u8 ((rd d1 0).I)]).bind fun d6 => (bif (rd d6 0).B then (some [.agg [.int 0, .int 0, .int 0, .str ByteArray.empty, .list ([] : List Dat)], .bool false, .int 0]) else ((E C 213 [.shr 5 a0, .int .i64 (IntKind.i64.wrap (a1 + 1))]).bind fun d7 => (bif ((rd d7 1).I) == 0 then (some [.agg [.int 0, .int 0, .int 0, .str ByteArray.empty, .list ([] : List Dat)], .bool true, .int 32]) else (some [.agg [.int 1, .int (IntKind.i64.wrap ((IntKind.i64.wrap (a1 + 1)) + ((rd d7 1).I))), .int ((rd d7 0).I), .str ByteArray.empty, .list ([] : List Dat)], .bool true, .int 0])))))))))))) : R) = some r) : E C 253 [.shr 5 a0, .int .i64 a1] = some r := E_st h (Cont.bind (Cont.call C 217 _) fun _ => (Cont.bif (Cont.bind (Cont.call C 274 _) fun _ => (Cont.const _)) (Cont.bind (Cont.call C 275 _) fun _ => (Cont.bif (Cont.const _) (Cont.bind (Cont.call C 276 _) fun _ => (Cont.bif (Cont.const _) (Cont.bind (Cont.call C 277 _) fun _ => (Cont.bif (Cont.const _) (Cont.bind (Cont.call C 255 _) fun _ => (Cont.bif (Cont.const _) (Cont.bind (Cont.call C 213 _) fun _ => (Cont.bif (Cont.const _) (Cont.const _))))))))))))) fun φ => by kernel_rfl
theorem o254 (a0 : Int) {r : List Dat} (h : (bif a0 == 65 then (some [.int 1]) else (bif a0 == 90 then (some [.int 2]) else (bif a0 == 122 then (some [.int 3]) else (bif a0 == 98 then (some [.int 6]) else (bif a0 == 66 then (some [.int 7]) else (some [.int 0]))))) : R) = some r) : E C 254 [.int .u8 a0] = some r := E_st h (Cont.bif (Cont.const _) (Cont.bif (Cont.const _) (Cont.bif (Cont.const _) (Cont.bif (Cont.const _) (Cont.bif (Cont.const _) (Cont.const _)))))) fun φ => by kernel_rfl
theorem o255 (a0 : Int) {r : List Dat} (h : (bif decide (a0 ≥ 48) then (some [.bool (decide (a0 ≤ 57))]) else (some [.bool false]) : R) = some r) : E C 255 [.int .u8 a0] = some r := E_st h (Cont.bif (Cont.const _) (Cont.const _)) fun φ => by kernel_rfl
/-- clew/scan.Name -/
noncomputable def f256 : Func := Tryz.f256
def kp256 : List Nat := [0, 1, 4, 5, 6, 7, 8]
noncomputable def c256 (p : List Nat) : Code := pick f256 p
noncomputable def L256_1 (n : Nat) (m1 : Nat) (v0 : List Dat) (v1 : Int) (v4 : ByteArray) (v5 v6 v7 v8 : Int) : R := loopIter (fun E K => evCode C (ev C n) n kp256 (c256 [1, 1, 0, 1, 0, 0]) E K) [0, 1, 4, 5, 6, 7, 8] (Kblk 0 (Kseq C (ev C n) n kp256 (c256 [1, 1, 1]) (Ktop C 256 f256 [.und, .und]))) m1 [.shr 5 v0, .int .i64 v1, .und, .und, .str v4, .int .i64 v5, .int .i64 v6, .int .i64 v7, .int .u8 v8, .und, .und, .und, .und, .und, .und, .und, .und, .und, .und, .und, .und, .und, .und, .und, .und, .und, .und, .und, .und, .und, .und, .und, .und, .und, .und, .und, .und, .und, .und, .und, .und, .und, .und, .und, .und, .und, .und, .und, .und, .und, .und, .und, .und, .und, .und, .und, .und, .und, .und, .und]
noncomputable def M256_1 (v0 : List Dat) (v1 : Int) (v4 : ByteArray) (v5 v6 v7 v8 : Int) : R := lim fun φ => L256_1 (φ 0) (φ 1) v0 v1 v4 v5 v6 v7 v8
theorem M256_1_c (v0 : List Dat) (v1 : Int) (v4 : ByteArray) (v5 v6 v7 v8 : Int) : Cont (fun φ => L256_1 (φ 0) (φ 1) v0 v1 v4 v5 v6 v7 v8) (M256_1 v0 v1 v4 v5 v6 v7 v8) := Cont.re id _
theorem M256_1_e (v0 : List Dat) (v1 : Int) (v4 : ByteArray) (v5 v6 v7 v8 : Int) : Cont (fun φ => L256_1 (φ 0) (φ 0) v0 v1 v4 v5 v6 v7 v8) (M256_1 v0 v1 v4 v5 v6 v7 v8) := Cont.re (toZ 1) fun φ => L256_1 (φ 0) (φ 1) v0 v1 v4 v5 v6 v7 v8
theorem M256_1_of (v0 : List Dat) (v1 : Int) (v4 : ByteArray) (v5 v6 v7 v8 : Int) {r : List Dat} (h : ((E C 277 [.int .u8 v8]).bind fun d2 => (bif (rd d2 0).B then ((E C 217 [.shr 5 v0, .int .i64 (IntKind.i64.wrap (v7 + 1))]).bind fun d3 => (M256_1 v0 v1 v4 v5 v6 (IntKind.i64.wrap (v7 + 1)) ((rd d3 0).I))) else (bif v8 == 95 then ((E C 217 [.shr 5 v0, .int .i64 (IntKind.i64.wrap (v7 + 1))]).bind fun d4 => (M256_1 v0 v1 v4 v5 v6 (IntKind.i64.wrap (v7 + 1)) ((rd d4 0).I))) else ((E C 255 [.int .u8 v8]).bind fun d5 => (bif (rd d5 0).B then (bif decide (v7 > v1) then ((E C 217 [.shr 5 v0, .int .i64 (IntKind.i64.wrap (v7 + 1))]).bind fun d6 => (M256_1 v0 v1 v4 v5 v6 (IntKind.i64.wrap (v7 + 1)) ((rd d6 0).I))) else (bif decide (v1 < 0) then (some [.str ByteArray.empty, .int 0, .int 36]) else (bif v7 == v1 then (some [.str ByteArray.empty, .int 0, .int 36]) else (bif decide ((IntKind.i64.wrap (v7 - v1)) > 32) then (some [.str ByteArray.empty, .int 0, .int 36]) else ((E C 217 [.shr 5 v0, .int .i64 v7]).bind fun d7 => (bif ((rd d7 0).I) != 62 then (some [.str ByteArray.empty, .int 0, .int 36]) else (bif decide (0 ≤ v1) then (bif decide (v1 ≤ v7) then (bif decide (v7 ≤ (v0.length : Int)) then (some [.str (strOf ((v0.take v7.toNat).drop v1.toNat)), .int (IntKind.i64.wrap (v7 + 1)), .int 0]) else none) else none) else none))))))) else (bif decide (v1 < 0) then (some [.str ByteArray.empty, .int 0, .int 36]) else (bif v7 == v1 then (some [.str ByteArray.empty, .int 0, .int 36]) else (bif decide ((IntKind.i64.wrap (v7 - v1)) > 32) then (some [.str ByteArray.empty, .int 0, .int 36]) else ((E C 217 [.shr 5 v0, .int .i64 v7]).bind fun d8 => (bif ((rd d8 0).I) != 62 then (some [.str ByteArray.empty, .int 0, .int 36]) else (bif decide (0 ≤ v1) then (bif decide (v1 ≤ v7) then (bif decide (v7 ≤ (v0.length : Int)) then (some [.str (strOf ((v0.take v7.toNat).drop v1.toNat)), .int (IntKind.i64.wrap (v7 + 1)), .int 0]) else none) else none) else none)))))))))) : R) = some r) : M256_1 v0 v1 v4 v5 v6 v7 v8 = some r := lim_st (g := fun φ => L256_1 (φ 0) (φ 1) v0 v1 v4 v5 v6 v7 v8) 1 h (Cont.bind (Cont.call C 277 _) fun _ => (Cont.bif (Cont.bind (Cont.call C 217 _) fun _ => (M256_1_c _ _ _ _ _ _ _)) (Cont.bif (Cont.bind (Cont.call C 217 _) fun _ => (M256_1_c _ _ _ _ _ _ _)) (Cont.bind (Cont.call C 255 _) fun _ => (Cont.bif (Cont.bif (Cont.bind (Cont.call C 217 _) fun _ => (M256_1_c _ _ _ _ _ _ _)) (Cont.bif (Cont.const _) (Cont.bif (Cont.const _) (Cont.bif (Cont.const _) (Cont.bind (Cont.call C 217 _) fun _ => (Cont.bif (Cont.const _) (Cont.bif (Cont.bif (Cont.bif (Cont.const _) Cont.nn) Cont.nn) Cont.nn))))))) (Cont.bif (Cont.const _) (Cont.bif (Cont.const _) (Cont.bif (Cont.const _) (Cont.bind (Cont.call C 217 _) fun _ => (Cont.bif (Cont.const _) (Cont.bif (Cont.bif (Cont.bif (Cont.const _) Cont.nn) Cont.nn) Cont.nn))))))))))) fun φ m hm => (congrArg (fun q => L256_1 (φ 0) q v0 v1 v4 v5 v6 v7 v8) hm).trans (by kernel_rfl)
theorem o256 (a0 : List Dat) (a1 : Int) {r : List Dat} (h : ((E C 217 [.shr 5 a0, .int .i64 (if 0 > a1 then 0 else a1)]).bind fun d1 => (M256_1 a0 a1 ByteArray.empty 0 0 (if 0 > a1 then 0 else a1) ((rd d1 0).I)) : R) = some r) : E C 256 [.shr 5 a0, .int .i64 a1] = some r := E_st h (Cont.bind (Cont.call C 217 _) fun _ => (M256_1_e _ _ _ _ _ _ _)) fun φ => by kernel_rfl
theorem o268 (a0 : List Dat) (a1 : Int) {r : List Dat} (h : ((E C 217 [.shr 5 a0, .int .i64 a1]).bind fun d1 => (bif ((rd d1 0).I) != 92 then (some [.agg [.int 0, .int 0, .int 0, .str ByteArray.empty, .list ([] : List Dat)], .int 10]) else ((E C 253 [.shr 5 a0, .int .i64 a1]).bind fun d2 => (bif (rd d2 1).B then (some [.agg [.int (((rd d2 0).C 0).I), .int (((rd d2 0).C 1).I), .int (((rd d2 0).C 2).I), .str (((rd d2 0).C 3).S), .list (((rd d2 0).C 4).L)], .int ((rd d2 2).I)]) else ((E C 217 [.shr 5 a0, .int .i64 (IntKind.i64.wrap (a1 + 1))]).bind fun d3 => (bif ((rd d3 0).I) == 98 then (some [.agg [.int 1, .int (IntKind.i64.wrap (a1 + 2)), .int 8, .str ByteArray.empty, .list ([] : List Dat)], .int 0]) else (some [.agg [.int 0, .int 0, .int 0, .str ByteArray.empty, .list ([] : List Dat)], .int 32])))))) : R) = some r) : E C 268 [.shr 5 a0, .int .i64 a1] = some r := E_st h (Cont.bind (Cont.call C 217 _) fun _ => (Cont.bif (Cont.const _) (Cont.bind (Cont.call C 253 _) fun _ => (Cont.bif (Cont.const _) (Cont.bind (Cont.call C 217 _) fun _ => (Cont.bif (Cont.const _) (Cont.const _))))))) fun φ => by kernel_rfl
theorem o274 (a0 : List Dat) (a1 : Int) {r : List Dat} (h : ((E C 217 [.shr 5 a0, .int .i64 a1]).bind fun d1 => (bif ((rd d1 0).I) == 123 then ((E C 284 [.shr 5 a0, .int .i64 (IntKind.i64.wrap (a1 + 1)), .int .i64 6]).bind fun d2 => (bif ((rd d2 1).I) == 0 then (some [.agg [.int 0, .int 0, .int 0, .str ByteArray.empty, .list ([] : List Dat)], .int 32]) else ((E C 217 [.shr 5 a0, .int .i64 (IntKind.i64.wrap ((IntKind.i64.wrap (a1 + 1)) + ((rd d2 1).I)))]).bind fun d3 => (bif ((rd d3 0).I) != 125 then (some [.agg [.int 0, .int 0, .int 0, .str ByteArray.empty, .list ([] : List Dat)], .int 32]) else ((E C 97 [.int .i64 ((rd d2 0).I)]).bind fun d4 => (bif !((rd d4 0).B) then (some [.agg [.int 0, .int 0, .int 0, .str ByteArray.empty, .list ([] : List Dat)], .int 32]) else (some [.agg [.int 1, .int (IntKind.i64.wrap ((IntKind.i64.wrap (a1 + ((rd d2 1).I))) + 2)), .int ((rd d2 0).I), .str ByteArray.empty, .list ([] : List Dat)], .int 0]))))))) else ((E C 284 [.shr 5 a0, .int .i64 a1, .int .i64 2]).bind fun d5 => (bif decide (((rd d5 1).I) < 2) then (some [.agg [.int 0, .int 0, .int 0, .str ByteArray.empty, .list ([] : List Dat)], .int 32]) else (some [.agg [.int 1, .int (IntKind.i64.wrap (a1 + ((rd d5 1).I))), .int ((rd d5 0).I), .str ByteArray.empty, .list ([] : List Dat)], .int 0])))) : R) = some r) : E C 274 [.shr 5 a0, .int .i64 a1] = some r := E_st h (Cont.bind (Cont.call C 217 _) fun _ => (Cont.bif (Cont.bind (Cont.call C 284 _) fun _ => (Cont.bif (Cont.const _) (Cont.bind (Cont.call C 217 _) fun _ => (Cont.bif (Cont.const _) (Cont.bind (Cont.call C 97 _) fun _ => (Cont.bif (Cont.const _) (Cont.const _))))))) (Cont.bind (Cont.call C 284 _) fun _ => (Cont.bif (Cont.const _) (Cont.const _))))) fun φ => by kernel_rfl
theorem o275 (a0 : Int) {r : List Dat} (h : (bif a0 == 110 then (some [.int 10]) else (bif a0 == 116 then (some [.int 9]) else (bif a0 == 114 then (some [.int 13]) else (bif a0 == 102 then (some [.int 12]) else (bif a0 == 118 then (some [.int 11]) else (bif a0 == 97 then (some [.int 7]) else (bif a0 == 101 then (some [.int 27]) else (some [.int (-1)]))))))) : R) = some r) : E C 275 [.int .u8 a0] = some r := E_st h (Cont.bif (Cont.const _) (Cont.bif (Cont.const _) (Cont.bif (Cont.const _) (Cont.bif (Cont.const _) (Cont.bif (Cont.const _) (Cont.bif (Cont.const _) (Cont.bif (Cont.const _) (Cont.const _)))))))) fun φ => by kernel_rfl
theorem o277 (a0 : Int) {r : List Dat} (h : (bif decide (a0 ≥ 97) then (bif decide (a0 ≤ 122) then (some [.bool true]) else (bif decide (a0 ≥ 65) then (some [.bool (decide (a0 ≤ 90))]) else (some [.bool false]))) else (bif decide (a0 ≥ 65) then (some [.bool (decide (a0 ≤ 90))]) else (some [.bool false])) : R) = some r) : E C 277 [.int .u8 a0] = some r := E_st h (Cont.bif (Cont.bif (Cont.const _) (Cont.bif (Cont.const _) (Cont.const _))) (Cont.bif (Cont.const _) (Cont.const _))) fun φ => by kernel_rfl
/-- clew/scan.hexes -/
noncomputable def f284 : Func := Tryz.f284
def kp284 : List Nat := [0, 1, 2, 6, 7, 8, 9]
noncomputable def c284 (p : List Nat) : Code := pick f284 p
noncomputable def L284_1 (n : Nat) (m1 : Nat) (v0 : List Dat) (v1 v2 v6 v7 v8 v9 : Int) : R := loopIter (fun E K => evCode C (ev C n) n kp284 (c284 [1, 1, 0, 0, 0]) E K) [0, 1, 2, 6, 7, 8, 9] (Kblk 0 (Kseq C (ev C n) n kp284 (c284 [1, 1, 1]) (Ktop C 284 f284 [.und, .und, .und]))) m1 [.shr 5 v0, .int .i64 v1, .int .i64 v2, .und, .und, .und, .int .i64 v6, .int .i64 v7, .int .i64 v8, .int .i64 v9, .und, .und, .und, .und, .und, .und, .und, .und, .und, .und, .und, .und, .und, .und, .und, .und, .und, .und, .und, .und, .und, .und, .und, .und, .und, .und]
noncomputable def M284_1 (v0 : List Dat) (v1 v2 v6 v7 v8 v9 : Int) : R := lim fun φ => L284_1 (φ 0) (φ 1) v0 v1 v2 v6 v7 v8 v9
theorem M284_1_c (v0 : List Dat) (v1 v2 v6 v7 v8 v9 : Int) : Cont (fun φ => L284_1 (φ 0) (φ 1) v0 v1 v2 v6 v7 v8 v9) (M284_1 v0 v1 v2 v6 v7 v8 v9) := Cont.re id _
theorem M284_1_e (v0 : List Dat) (v1 v2 v6 v7 v8 v9 : Int) : Cont (fun φ => L284_1 (φ 0) (φ 0) v0 v1 v2 v6 v7 v8 v9) (M284_1 v0 v1 v2 v6 v7 v8 v9) := Cont.re (toZ 1) fun φ => L284_1 (φ 0) (φ 1) v0 v1 v2 v6 v7 v8 v9
theorem M284_1_of (v0 : List Dat) (v1 v2 v6 v7 v8 v9 : Int) {r : List Dat} (h : (bif decide (v9 < v2) then ((E C 217 [.shr 5 v0, .int .i64 (IntKind.i64.wrap (v1 + v9))]).bind fun d1 => ((E C 302 [.int .u8 ((rd d1 0).I)]).bind fun d2 => (bif decide (((rd d2 0).I) ≥ 0) then (bif decide (0 ≤ (IntKind.i64.wrap (v1 + v9))) then (bif decide ((IntKind.i64.wrap (v1 + v9)) < (v0.length : Int)) then (bif decide ((IntKind.i64.wrap (v1 + v9)).toNat < v0.length) then ((E C 302 [.int .u8 ((rd v0 ((IntKind.i64.wrap (v1 + v9)).toNat)).I)]).bind fun d3 => (M284_1 v0 v1 v2 v6 v7 (IntKind.i64.wrap ((IntKind.i64.wrap (v8 * 16)) + ((rd d3 0).I))) (IntKind.i64.wrap (v9 + 1)))) else none) else none) else none) else (some [.int v8, .int v9])))) else (some [.int v8, .int v9]) : R) = some r) : M284_1 v0 v1 v2 v6 v7 v8 v9 = some r := lim_st (g := fun φ => L284_1 (φ 0) (φ 1) v0 v1 v2 v6 v7 v8 v9) 1 h (Cont.bif (Cont.bind (Cont.call C 217 _) fun _ => (Cont.bind (Cont.call C 302 _) fun _ => (Cont.bif (Cont.bif (Cont.bif (Cont.bif (Cont.bind (Cont.call C 302 _) fun _ => (M284_1_c _ _ _ _ _ _ _)) Cont.nn) Cont.nn) Cont.nn) (Cont.const _)))) (Cont.const _)) fun φ m hm => (congrArg (fun q => L284_1 (φ 0) q v0 v1 v2 v6 v7 v8 v9) hm).trans (by kernel_rfl)
theorem o284 (a0 : List Dat) (a1 a2 : Int) {r : List Dat} (h : (M284_1 a0 a1 a2 0 0 0 0 : R) = some r) : E C 284 [.shr 5 a0, .int .i64 a1, .int .i64 a2] = some r := E_st h (M284_1_e _ _ _ _ _ _ _) fun φ => by kernel_rfl
theorem o302 (a0 : Int) {r : List Dat} (h : ((E C 255 [.int .u8 a0]).bind fun d1 => (bif (rd d1 0).B then (some [.int (IntKind.i64.wrap (IntKind.u8.wrap (a0 - 48)))]) else (bif decide (a0 ≥ 97) then (bif decide (a0 ≤ 102) then (some [.int (IntKind.i64.wrap ((IntKind.i64.wrap (IntKind.u8.wrap (a0 - 97))) + 10))]) else (bif decide (a0 ≥ 65) then (bif decide (a0 ≤ 70) then (some [.int (IntKind.i64.wrap ((IntKind.i64.wrap (IntKind.u8.wrap (a0 - 65))) + 10))]) else (some [.int (-1)])) else (some [.int (-1)]))) else (bif decide (a0 ≥ 65) then (bif decide (a0 ≤ 70) then (some [.int (IntKind.i64.wrap ((IntKind.i64.wrap (IntKind.u8.wrap (a0 - 65))) + 10))]) else (some [.int (-1)])) else (some [.int (-1)])))) : R) = some r) : E C 302 [.int .u8 a0] = some r := E_st h (Cont.bind (Cont.call C 255 _) fun _ => (Cont.bif (Cont.const _) (Cont.bif (Cont.bif (Cont.const _) (Cont.bif (Cont.bif (Cont.const _) (Cont.const _)) (Cont.const _))) (Cont.bif (Cont.bif (Cont.const _) (Cont.const _)) (Cont.const _))))) fun φ => by kernel_rfl
end Go.Proofs.YtlofoifcdmeopaaGreatDoor.V
namespace Go.Proofs.YtlofoifcdmeopaaGreatDoor.V
open Go Go.Ev Go.RowKit
set_option linter.unusedVariables false
set_option linter.unusedSimpArgs false
theorem at_E (b : List Int) (i : Int) : E C 217 [.shr 5 (b.map .int), .int .i64 i] = some [.int (atB b i)] := by
  apply o217
  rw [List.length_map]
  by_cases h0 : i < 0
  · rw [dT h0, atB_out (by omega)]
  by_cases h1 : i ≥ (b.length : Int)
  · rw [dF h0, dT h1, atB_out (by omega)]
  rw [dF h0, dF h1, ixT ⟨by omega, by omega⟩, rdA ⟨by omega, by omega⟩]
theorem letter_E (c : Int) : E C 277 [.int .u8 c] = some [.bool (letB c)] := by
  apply o277
  unfold letB
  by_cases h0 : c ≥ 97
  · by_cases h1 : c ≤ 122
    · rw [dT h0, dT h1, decide_eq_true (show 97 ≤ c from h0), decide_eq_true h1]; rfl
    · rw [dT h0, dF h1, dT (by omega), decide_eq_false h1, decide_eq_true (show 65 ≤ c by omega)]; simp
  · rw [dF h0, decide_eq_false (show ¬ 97 ≤ c from h0)]
    by_cases h2 : c ≥ 65
    · rw [dT h2, decide_eq_true (show 65 ≤ c from h2)]; simp
    · rw [dF h2, decide_eq_false (show ¬ 65 ≤ c from h2)]; simp
theorem digit_E (c : Int) : E C 255 [.int .u8 c] = some [.bool (digB c)] := by
  apply o255
  unfold digB
  by_cases h : c ≥ 48
  · rw [dT h, decide_eq_true (show 48 ≤ c from h)]; rfl
  · rw [dF h, decide_eq_false (show ¬ 48 ≤ c from h)]; rfl
/-- How many bytes are skipped; is it a remark? -/
def skipL : Bool → List Int → Nat
  | _, [] => 0
  | r, c :: l => if c = 10 then skipL false l + 1 else if c = 35 then skipL true l + 1 else if r = false ∧ c ≠ 32 ∧ (c < 9 ∨ 13 < c) then 0 else skipL r l + 1
theorem skipL_le : ∀ (l : List Int) (r : Bool), skipL r l ≤ l.length
  | [], _ => Nat.le_refl _
  | c :: l, r => by
    unfold skipL
    have h1 := skipL_le l false
    have h2 := skipL_le l true
    have h3 := skipL_le l r
    simp only [List.length_cons]
    repeat' split
    all_goals omega
theorem skipL_drop {b : List Int} {k : Nat} (h : k < b.length) (r : Bool) : skipL r (b.drop k) = if b[k] = 10 then skipL false (b.drop (k + 1)) + 1 else if b[k] = 35 then skipL true (b.drop (k + 1)) + 1 else if r = false ∧ b[k] ≠ 32 ∧ (b[k] < 9 ∨ 13 < b[k]) then 0 else skipL r (b.drop (k + 1)) + 1 := by
  rw [List.drop_eq_getElem_cons h, skipL]
def blankR (b : List Int) (i : Int) : Int := mx i 0 + skipL false (b.drop (mx i 0).toNat)
theorem blank1_loop (b : List Int) (hb : b.length ≤ 140737488351232) (v4 : Int) : ∀ (d k : Nat), b.length - k = d → k ≤ 9223372036854775807 →
    M205_1 (b.map .int) (k : Int) v4 = some [.int ((k : Int) + skipL false (b.drop k))] ∧ ∀ v5, M205_2 (b.map .int) (k : Int) v4 v5 = some [.int ((k : Int) + skipL true (b.drop k))] := by
  intro d
  induction d with
  | zero =>
    intro k hd hk
    have e1 : M205_1 (b.map .int) (k : Int) v4 = some [.int ((k : Int) + skipL false (b.drop k))] := by
      apply M205_1_of
      rw [List.length_map, dF (by omega), List.drop_of_length_le (by omega)]
      simp [skipL]
    refine ⟨e1, fun v5 => ?_⟩
    apply M205_2_of
    rw [List.length_map, dF (by omega), e1, List.drop_of_length_le (by omega)]
    simp [skipL]
  | succ d ih =>
    intro k hd hk
    have hlt : k < b.length := by omega
    obtain ⟨i1, i2⟩ := ih (k + 1) (by omega) (by omega)
    have ew : IntKind.i64.wrap ((k : Int) + 1) = ((k + 1 : Nat) : Int) := by rw [w64 (by omega) (by omega)]; omega
    have sk : ∀ (n : Nat), ((k + 1 : Nat) : Int) + n = (k : Int) + ((n + 1 : Nat) : Int) := fun n => by omega
    have e2 : ∀ v5, b[k] ≠ 10 → M205_2 (b.map .int) (k : Int) v4 v5 = some [.int ((k : Int) + skipL true (b.drop k))] := fun v5 c1 => by
      apply M205_2_of
      rw [List.length_map, dT (by omega), ixT ⟨by omega, by omega⟩, Int.toNat_natCast, rdB hlt, neT c1, ew, i2, skipL_drop hlt, if_neg c1, sk]
      by_cases c2 : b[k] = 35
      · rw [if_pos c2]
      · rw [if_neg c2, if_neg (by simp)]
    have e1 : M205_1 (b.map .int) (k : Int) v4 = some [.int ((k : Int) + skipL false (b.drop k))] := by
      apply M205_1_of
      rw [List.length_map, dT (by omega), ixT ⟨by omega, by omega⟩, Int.toNat_natCast, rdB hlt, ew, i1, skipL_drop hlt, sk]
      by_cases c1 : b[k] = 32
      · rw [eT c1, if_neg (by omega), if_neg (by omega), if_neg (by simp [c1])]
      rw [eF c1]
      by_cases c2 : b[k] ≥ 9
      · rw [dT c2]
        by_cases c3 : b[k] ≤ 13
        · rw [dT c3]
          by_cases c4 : b[k] = 10
          · rw [if_pos c4]
          · rw [if_neg c4, if_neg (by omega), if_neg (by rintro ⟨_, _, h⟩; omega)]
        · rw [dF c3, if_neg (by omega)]
          by_cases c4 : b[k] = 35
          · rw [eT c4, if_pos c4, e2 _ (by omega), skipL_drop hlt, if_neg (by omega), if_pos c4]
          · rw [eF c4, if_neg c4, if_pos ⟨rfl, c1, by omega⟩]; simp
      · rw [dF c2, eF (by omega), if_neg (by omega), if_neg (by omega), if_pos ⟨rfl, c1, by omega⟩]; simp
    refine ⟨e1, fun v5 => ?_⟩
    by_cases c1 : b[k] = 10
    · apply M205_2_of
      rw [List.length_map, dT (by omega), ixT ⟨by omega, by omega⟩, Int.toNat_natCast, rdB hlt, neF c1, e1, skipL_drop hlt, skipL_drop hlt, if_pos c1, if_pos c1]
    · exact e2 v5 c1
theorem Blank_E (b : List Int) (hb : b.length ≤ 140737488351232) (i : Int) (hi : i64P i) : E C 205 [.shr 5 (b.map .int), .int .i64 i] = some [.int (blankR b i)] := by
  apply o205
  unfold blankR mx
  by_cases h : 0 > i
  · rw [if_pos h]
    exact (blank1_loop b hb 0 _ 0 rfl (by omega)).1
  · rw [if_neg h]
    obtain ⟨k, rfl⟩ : ∃ k : Nat, i = (k : Int) := ⟨i.toNat, by omega⟩
    exact (blank1_loop b hb 0 _ k rfl (by have := hi.2; omega)).1
end Go.Proofs.YtlofoifcdmeopaaGreatDoor.V
namespace Go.Proofs.YtlofoifcdmeopaaGreatDoor.V
open Go Go.Ev
set_option maxRecDepth 100000
set_option linter.unusedVariables false
theorem o181 (a0 : List Dat) (a1 : Int) {r : List Dat} (h : ((E C 216 [.shr 5 a0, .int .i64 a1]).bind fun d1 => (bif !((rd d1 1).B) then (some [.agg [.int 0, .int 0, .int 0, .int 0], .bool false, .int 0]) else (bif decide ((((rd d1 0).C 0).I) > 1000) then (some [.agg [.int 0, .int 0, .int 0, .int 0], .bool false, .int 34]) else (bif decide ((((rd d1 0).C 1).I) > 1000) then (some [.agg [.int 0, .int 0, .int 0, .int 0], .bool false, .int 34]) else (bif (((rd d1 0).C 1).I) == 0 then (some [.agg [.int 0, .int 0, .int 0, .int 0], .bool false, .int 34]) else (bif (((rd d1 0).C 1).I) != (-1) then (bif decide ((((rd d1 0).C 1).I) < (((rd d1 0).C 0).I)) then (some [.agg [.int 0, .int 0, .int 0, .int 0], .bool false, .int 34]) else ((E C 217 [.shr 5 a0, .int .i64 (((rd d1 0).C 3).I)]).bind fun d2 => (bif ((rd d2 0).I) == 63 then (some [.agg [.int (((rd d1 0).C 0).I), .int (((rd d1 0).C 1).I), .int 1, .int (IntKind.i64.wrap ((((rd d1 0).C 3).I) + 1))], .bool true, .int 0]) else (bif ((rd d2 0).I) == 43 then (some [.agg [.int (((rd d1 0).C 0).I), .int (((rd d1 0).C 1).I), .int 2, .int (IntKind.i64.wrap ((((rd d1 0).C 3).I) + 1))], .bool true, .int 0]) else (some [.agg [.int (((rd d1 0).C 0).I), .int (((rd d1 0).C 1).I), .int (((rd d1 0).C 2).I), .int (((rd d1 0).C 3).I)], .bool true, .int 0]))))) else ((E C 217 [.shr 5 a0, .int .i64 (((rd d1 0).C 3).I)]).bind fun d3 => (bif ((rd d3 0).I) == 63 then (some [.agg [.int (((rd d1 0).C 0).I), .int (((rd d1 0).C 1).I), .int 1, .int (IntKind.i64.wrap ((((rd d1 0).C 3).I) + 1))], .bool true, .int 0]) else (bif ((rd d3 0).I) == 43 then (some [.agg [.int (((rd d1 0).C 0).I), .int (((rd d1 0).C 1).I), .int 2, .int (IntKind.i64.wrap ((((rd d1 0).C 3).I) + 1))], .bool true, .int 0]) else (some [.agg [.int (((rd d1 0).C 0).I), .int (((rd d1 0).C 1).I), .int (((rd d1 0).C 2).I), .int (((rd d1 0).C 3).I)], .bool true, .int 0]))))))))) : R) = some r) : E C 181 [.shr 5 a0, .int .i64 a1] = some r := E_st h (Cont.bind (Cont.call C 216 _) fun _ => (Cont.bif (Cont.const _) (Cont.bif (Cont.const _) (Cont.bif (Cont.const _) (Cont.bif (Cont.const _) (Cont.bif (Cont.bif (Cont.const _) (Cont.bind (Cont.call C 217 _) fun _ => (Cont.bif (Cont.const _) (Cont.bif (Cont.const _) (Cont.const _))))) (Cont.bind (Cont.call C 217 _) fun _ => (Cont.bif (Cont.const _) (Cont.bif (Cont.const _) (Cont.const _)))))))))) fun φ => by kernel_rfl
/-- clew/scan.counts -/
noncomputable def f216 : Func := Tryz.f216
theorem o216 (a0 : List Dat) (a1 : Int) {r : List Dat} (h : ((E C 217 [.shr 5 a0, .int .i64 a1]).bind fun d1 => (bif ((rd d1 0).I) == 42 then (some [.agg [.int 0, .int (-1), .int 0, .int (IntKind.i64.wrap (a1 + 1))], .bool true]) else (bif ((rd d1 0).I) == 43 then (some [.agg [.int 1, .int (-1), .int 0, .int (IntKind.i64.wrap (a1 + 1))], .bool true]) else (bif ((rd d1 0).I) == 63 then (some [.agg [.int 0, .int 1, .int 0, .int (IntKind.i64.wrap (a1 + 1))], .bool true]) else (bif ((rd d1 0).I) == 123 then ((E C 234 [.shr 5 a0, .int .i64 a1]).bind fun d2 => (some [.agg [.int (((rd d2 0).C 0).I), .int (((rd d2 0).C 1).I), .int (((rd d2 0).C 2).I), .int (((rd d2 0).C 3).I)], .bool ((rd d2 1).B)])) else (some [.agg [.int 0, .int 0, .int 0, .int 0], .bool false]))))) : R) = some r) : E C 216 [.shr 5 a0, .int .i64 a1] = some r := E_st h (Cont.bind (Cont.call C 217 _) fun _ => (Cont.bif (Cont.const _) (Cont.bif (Cont.const _) (Cont.bif (Cont.const _) (Cont.bif (Cont.bind (Cont.call C 234 _) fun _ => (Cont.const _)) (Cont.const _)))))) fun φ => by kernel_rfl
theorem o234 (a0 : List Dat) (a1 : Int) {r : List Dat} (h : ((E C 258 [.shr 5 a0, .int .i64 (IntKind.i64.wrap (a1 + 1))]).bind fun d1 => (bif ((rd d1 1).I) == (IntKind.i64.wrap (a1 + 1)) then (some [.agg [.int 0, .int 0, .int 0, .int 0], .bool false]) else ((E C 217 [.shr 5 a0, .int .i64 ((rd d1 1).I)]).bind fun d2 => (bif ((rd d2 0).I) == 44 then ((E C 258 [.shr 5 a0, .int .i64 (IntKind.i64.wrap (((rd d1 1).I) + 1))]).bind fun d3 => (bif ((rd d3 1).I) == (IntKind.i64.wrap (((rd d1 1).I) + 1)) then ((E C 217 [.shr 5 a0, .int .i64 ((rd d3 1).I)]).bind fun d4 => (some [.agg [.int ((rd d1 0).I), .int (-1), .int 0, .int (IntKind.i64.wrap (((rd d3 1).I) + 1))], .bool (((rd d4 0).I) == 125)])) else ((E C 217 [.shr 5 a0, .int .i64 ((rd d3 1).I)]).bind fun d5 => (some [.agg [.int ((rd d1 0).I), .int ((rd d3 0).I), .int 0, .int (IntKind.i64.wrap (((rd d3 1).I) + 1))], .bool (((rd d5 0).I) == 125)])))) else ((E C 217 [.shr 5 a0, .int .i64 ((rd d1 1).I)]).bind fun d6 => (some [.agg [.int ((rd d1 0).I), .int ((rd d1 0).I), .int 0, .int (IntKind.i64.wrap (((rd d1 1).I) + 1))], .bool (((rd d6 0).I) == 125)]))))) : R) = some r) : E C 234 [.shr 5 a0, .int .i64 a1] = some r := E_st h (Cont.bind (Cont.call C 258 _) fun _ => (Cont.bif (Cont.const _) (Cont.bind (Cont.call C 217 _) fun _ => (Cont.bif (Cont.bind (Cont.call C 258 _) fun _ => (Cont.bif (Cont.bind (Cont.call C 217 _) fun _ => (Cont.const _)) (Cont.bind (Cont.call C 217 _) fun _ => (Cont.const _)))) (Cont.bind (Cont.call C 217 _) fun _ => (Cont.const _)))))) fun φ => by kernel_rfl
/-- clew/scan.number -/
noncomputable def f258 : Func := Tryz.f258
def kp258 : List Nat := [0, 1, 4, 5, 6]
noncomputable def c258 (p : List Nat) : Code := pick f258 p
noncomputable def L258_1 (n : Nat) (m1 : Nat) (v0 : List Dat) (v1 v4 v5 v6 : Int) : R := loopIter (fun E K => evCode C (ev C n) n kp258 (c258 [1, 1, 0, 0, 0]) E K) [0, 1, 4, 5, 6] (Kblk 0 (Kseq C (ev C n) n kp258 (c258 [1, 1, 1]) (Ktop C 258 f258 [.und, .und]))) m1 [.shr 5 v0, .int .i64 v1, .und, .und, .int .i64 v4, .int .i64 v5, .int .i64 v6, .und, .und, .und, .und, .und, .und, .und, .und, .und, .und, .und, .und, .und, .und, .und, .und, .und, .und]
noncomputable def M258_1 (v0 : List Dat) (v1 v4 v5 v6 : Int) : R := lim fun φ => L258_1 (φ 0) (φ 1) v0 v1 v4 v5 v6
theorem M258_1_c (v0 : List Dat) (v1 v4 v5 v6 : Int) : Cont (fun φ => L258_1 (φ 0) (φ 1) v0 v1 v4 v5 v6) (M258_1 v0 v1 v4 v5 v6) := Cont.re id _
theorem M258_1_e (v0 : List Dat) (v1 v4 v5 v6 : Int) : Cont (fun φ => L258_1 (φ 0) (φ 0) v0 v1 v4 v5 v6) (M258_1 v0 v1 v4 v5 v6) := Cont.re (toZ 1) fun φ => L258_1 (φ 0) (φ 1) v0 v1 v4 v5 v6
theorem M258_1_of (v0 : List Dat) (v1 v4 v5 v6 : Int) {r : List Dat} (h : ((E C 217 [.shr 5 v0, .int .i64 v1]).bind fun d1 => ((E C 255 [.int .u8 ((rd d1 0).I)]).bind fun d2 => (bif (rd d2 0).B then (bif decide (0 ≤ v1) then (bif decide (v1 < (v0.length : Int)) then (bif decide (v1.toNat < v0.length) then (M258_1 v0 (IntKind.i64.wrap (v1 + 1)) v4 v5 (if 1001 < (IntKind.i64.wrap ((IntKind.i64.wrap (v6 * 10)) + (IntKind.i64.wrap (IntKind.u8.wrap (((rd v0 v1.toNat).I) - 48))))) then 1001 else (IntKind.i64.wrap ((IntKind.i64.wrap (v6 * 10)) + (IntKind.i64.wrap (IntKind.u8.wrap (((rd v0 v1.toNat).I) - 48))))))) else none) else none) else none) else (some [.int v6, .int v1]))) : R) = some r) : M258_1 v0 v1 v4 v5 v6 = some r := lim_st (g := fun φ => L258_1 (φ 0) (φ 1) v0 v1 v4 v5 v6) 1 h (Cont.bind (Cont.call C 217 _) fun _ => (Cont.bind (Cont.call C 255 _) fun _ => (Cont.bif (Cont.bif (Cont.bif (Cont.bif (M258_1_c _ _ _ _ _) Cont.nn) Cont.nn) Cont.nn) (Cont.const _)))) fun φ m hm => (congrArg (fun q => L258_1 (φ 0) q v0 v1 v4 v5 v6) hm).trans (by kernel_rfl)
theorem o258 (a0 : List Dat) (a1 : Int) {r : List Dat} (h : (M258_1 a0 a1 0 0 0 : R) = some r) : E C 258 [.shr 5 a0, .int .i64 a1] = some r := E_st h (M258_1_e _ _ _ _ _) fun φ => by kernel_rfl
end Go.Proofs.YtlofoifcdmeopaaGreatDoor.V
namespace Go.Proofs.YtlofoifcdmeopaaGreatDoor.V
open Go Go.Ev Go.RowKit
set_option linter.unusedVariables false
set_option linter.unusedSimpArgs false
def numC : List Int → Nat
  | [] => 0
  | c :: l => if digB c = true then numC l + 1 else 0
def numV : Int → List Int → Int
  | a, [] => a
  | a, c :: l => if digB c = true then numV (mn (a * 10 + (c - 48)) 1001) l else a
theorem numC_le : ∀ (l : List Int), numC l ≤ l.length
  | [] => Nat.le_refl _
  | c :: l => by
    have := numC_le l
    unfold numC
    simp only [List.length_cons]
    split <;> omega
theorem numV_in : ∀ (l : List Int) (a : Int), 0 ≤ a ∧ a ≤ 1001 → 0 ≤ numV a l ∧ numV a l ≤ 1001
  | [], a, h => h
  | c :: l, a, h => by
    unfold numV
    split
    · rename_i hd
      rw [digB_iff] at hd
      refine numV_in l _ ?_
      unfold mn
      split <;> omega
    · exact h
theorem num_drop {b : List Int} {k : Nat} (h : k < b.length) (a : Int) : numC (b.drop k) = (if digB (atB b k) = true then numC (b.drop (k + 1)) + 1 else 0) ∧ numV a (b.drop k) = if digB (atB b k) = true then numV (mn (a * 10 + (atB b k - 48)) 1001) (b.drop (k + 1)) else a := by
  rw [List.drop_eq_getElem_cons h, numC, numV, atB_in h]
  exact ⟨rfl, rfl⟩
theorem num_loop1 (b : List Int) (hb : b.length ≤ 140737488351232) (v4 v5 : Int) : ∀ (d k : Nat) (a : Int), b.length - k = d → k ≤ 140737488351240 → 0 ≤ a ∧ a ≤ 1001 →
    M258_1 (b.map .int) (k : Int) v4 v5 a = some [.int (numV a (b.drop k)), .int (((k + numC (b.drop k) : Nat)) : Int)] := by
  intro d
  induction d with
  | zero =>
    intro k a hd hk ha
    apply M258_1_of
    rw [bT (at_E b _), atB_out (by omega)]
    simp only [rd0, datI]
    rw [bT (digit_E _), show digB 0 = false from rfl]
    simp only [rd0, datB]
    rw [cF rfl, List.drop_of_length_le (by omega)]
    rfl
  | succ d ih =>
    intro k a hd hk ha
    have hlt : k < b.length := by omega
    obtain ⟨e1, e2⟩ := num_drop hlt a
    rw [e1, e2]
    apply M258_1_of
    rw [bT (at_E b _)]
    simp only [rd0, datI]
    rw [bT (digit_E _)]
    simp only [rd0, datB]
    cases hg : digB (atB b (k : Int)) with
    | false =>
      rw [cF rfl, if_neg (by simp), if_neg (by simp)]
      rfl
    | true =>
      have hg' := digB_iff.1 hg
      have hm : 0 ≤ mn (a * 10 + (atB b (k : Int) - 48)) 1001 ∧ mn (a * 10 + (atB b (k : Int) - 48)) 1001 ≤ 1001 := by unfold mn; split <;> omega
      have ew : IntKind.i64.wrap ((k : Int) + 1) = ((k + 1 : Nat) : Int) := by rw [w64 (by omega) (by omega)]; omega
      rw [cT rfl, List.length_map, ixT ⟨by omega, by omega⟩, rdA ⟨by omega, by omega⟩, ew, w8 (by omega) (by omega), w64 (n := atB b (k : Int) - 48) (by omega) (by omega), w64 (n := a * 10) (by omega) (by omega), w64 (n := a * 10 + (atB b (k : Int) - 48)) (by omega) (by omega)]
      have nx := ih (k + 1) _ (by omega) (by omega) hm
      rw [if_pos rfl, if_pos rfl]
      have e3 : (((k + 1 + numC (b.drop (k + 1)) : Nat)) : Int) = (((k + (numC (b.drop (k + 1)) + 1) : Nat)) : Int) := by omega
      rw [← e3]
      exact nx
theorem number_E (b : List Int) (hb : b.length ≤ 140737488351232) (k : Nat) (hk : k ≤ 140737488351240) : E C 258 [.shr 5 (b.map .int), .int .i64 (k : Int)] = some [.int (numV 0 (b.drop k)), .int (((k + numC (b.drop k) : Nat)) : Int)] := by
  apply o258
  exact num_loop1 b hb 0 0 _ k 0 rfl hk (by omega)
/-- Counts in braces, behind the brace's place; the least, the most, behind them. -/
def brQ (b : List Int) (i : Nat) : Option (Int × Int × Nat) :=
  if numC (b.drop (i + 1)) = 0 then none
  else if atB b ((i + 1 + numC (b.drop (i + 1)) : Nat) : Int) = 44 then
    if atB b ((i + 1 + numC (b.drop (i + 1)) + 1 + numC (b.drop (i + 1 + numC (b.drop (i + 1)) + 1)) : Nat) : Int) = 125 then
      some (numV 0 (b.drop (i + 1)), if numC (b.drop (i + 1 + numC (b.drop (i + 1)) + 1)) = 0 then -1 else numV 0 (b.drop (i + 1 + numC (b.drop (i + 1)) + 1)), i + 1 + numC (b.drop (i + 1)) + 1 + numC (b.drop (i + 1 + numC (b.drop (i + 1)) + 1)) + 1)
    else none
  else if atB b ((i + 1 + numC (b.drop (i + 1)) : Nat) : Int) = 125 then some (numV 0 (b.drop (i + 1)), numV 0 (b.drop (i + 1)), i + 1 + numC (b.drop (i + 1)) + 1)
  else none
def cntQ (b : List Int) (i : Int) : Option (Int × Int × Nat) :=
  if atB b i = 42 then some (0, -1, i.toNat + 1) else if atB b i = 43 then some (1, -1, i.toNat + 1) else if atB b i = 63 then some (0, 1, i.toNat + 1) else if atB b i = 123 then brQ b i.toNat else none
def noneC : List Dat := [.agg [.int 0, .int 0, .int 0, .int 0], .bool false, .int 0]
def errC : List Dat := [.agg [.int 0, .int 0, .int 0, .int 0], .bool false, .int 34]
def finC (b : List Int) (lo hi : Int) (to : Nat) : List Dat :=
  if lo > 1000 ∨ hi > 1000 ∨ hi = 0 ∨ (hi > 0 ∧ hi < lo) then errC
  else if atB b (to : Int) = 63 then [.agg [.int lo, .int hi, .int 1, .int ((to : Int) + 1)], .bool true, .int 0]
  else if atB b (to : Int) = 43 then [.agg [.int lo, .int hi, .int 2, .int ((to : Int) + 1)], .bool true, .int 0]
  else [.agg [.int lo, .int hi, .int 0, .int (to : Int)], .bool true, .int 0]
def countR (b : List Int) (i : Int) : List Dat := match cntQ b i with
  | none => noneC
  | some q => finC b q.1 q.2.1 q.2.2
theorem atB_at {b : List Int} {k : Nat} (h : atB b (k : Int) ≠ 0) : k < b.length := by have := atB_some h; omega
theorem brQ_in {b : List Int} {i : Nat} {lo hi : Int} {to : Nat} (h : brQ b i = some (lo, hi, to)) : 0 ≤ lo ∧ lo ≤ 1001 ∧ -1 ≤ hi ∧ hi ≤ 1001 ∧ to ≤ b.length := by
  have n1 := numV_in (b.drop (i + 1)) 0 (by omega)
  have n2 := numV_in (b.drop (i + 1 + numC (b.drop (i + 1)) + 1)) 0 (by omega)
  unfold brQ at h
  split at h
  · cases h
  split at h
  · split at h
    · rename_i h3
      have h4 := atB_at (b := b) (k := i + 1 + numC (b.drop (i + 1)) + 1 + numC (b.drop (i + 1 + numC (b.drop (i + 1)) + 1))) (by rw [h3]; decide)
      simp only [Option.some.injEq, Prod.mk.injEq] at h
      obtain ⟨rfl, rfl, rfl⟩ := h
      refine ⟨n1.1, n1.2, ?_, ?_, by omega⟩ <;> (split <;> omega)
    · cases h
  · split at h
    · rename_i h3
      have h4 := atB_at (b := b) (k := i + 1 + numC (b.drop (i + 1))) (by rw [h3]; decide)
      simp only [Option.some.injEq, Prod.mk.injEq] at h
      obtain ⟨rfl, rfl, rfl⟩ := h
      exact ⟨n1.1, n1.2, by omega, n1.2, by omega⟩
    · cases h
theorem cntQ_in {b : List Int} {i : Int} {lo hi : Int} {to : Nat} (h : cntQ b i = some (lo, hi, to)) : 0 ≤ lo ∧ lo ≤ 1001 ∧ -1 ≤ hi ∧ hi ≤ 1001 ∧ to ≤ b.length := by
  have hl : atB b i ≠ 0 → i.toNat + 1 ≤ b.length := fun h => by have := atB_some h; omega
  unfold cntQ at h
  split at h
  · rename_i h1
    have := hl (by rw [h1]; decide)
    simp only [Option.some.injEq, Prod.mk.injEq] at h
    omega
  split at h
  · rename_i h1
    have := hl (by rw [h1]; decide)
    simp only [Option.some.injEq, Prod.mk.injEq] at h
    omega
  split at h
  · rename_i h1
    have := hl (by rw [h1]; decide)
    simp only [Option.some.injEq, Prod.mk.injEq] at h
    omega
  split at h
  · exact brQ_in h
  · cases h
theorem braces_E (b : List Int) (hb : b.length ≤ 140737488351232) (i : Nat) (hi : i < b.length) : ∃ q0 q1 q3 : Int, E C 234 [.shr 5 (b.map .int), .int .i64 (i : Int)] = some [.agg [.int q0, .int q1, .int 0, .int q3], .bool (brQ b i).isSome] ∧ ∀ q, brQ b i = some q → q0 = q.1 ∧ q1 = q.2.1 ∧ q3 = (q.2.2 : Int) := by
  have ew : IntKind.i64.wrap ((i : Int) + 1) = ((i + 1 : Nat) : Int) := by rw [w64 (by omega) (by omega)]; omega
  have l1 := numC_le (b.drop (i + 1))
  rw [List.length_drop] at l1
  have key : ∀ {r : List Dat}, (∀ {r' : List Dat}, r' = r → E C 234 [.shr 5 (b.map .int), .int .i64 (i : Int)] = some r') → E C 234 [.shr 5 (b.map .int), .int .i64 (i : Int)] = some r := fun h => h rfl
  unfold brQ
  by_cases c0 : numC (b.drop (i + 1)) = 0
  · rw [if_pos c0]
    refine ⟨0, 0, 0, ?_, fun q h => by cases h⟩
    apply o234
    rw [ew, bT (number_E b hb _ (by omega))]
    simp only [rd1, datI]
    rw [eT (by omega)]
    rfl
  rw [if_neg c0]
  have hj : ((i + 1 + numC (b.drop (i + 1)) : Nat) : Int) ≠ ((i + 1 : Nat) : Int) := by omega
  have ew2 : IntKind.i64.wrap (((i + 1 + numC (b.drop (i + 1)) : Nat) : Int) + 1) = ((i + 1 + numC (b.drop (i + 1)) + 1 : Nat) : Int) := by rw [w64 (by omega) (by omega)]; omega
  by_cases c1 : atB b ((i + 1 + numC (b.drop (i + 1)) : Nat) : Int) = 44
  · have h4 := atB_at (b := b) (k := i + 1 + numC (b.drop (i + 1))) (by rw [c1]; decide)
    have l2 := numC_le (b.drop (i + 1 + numC (b.drop (i + 1)) + 1))
    rw [List.length_drop] at l2
    have ew3 : IntKind.i64.wrap (((i + 1 + numC (b.drop (i + 1)) + 1 + numC (b.drop (i + 1 + numC (b.drop (i + 1)) + 1)) : Nat) : Int) + 1) = ((i + 1 + numC (b.drop (i + 1)) + 1 + numC (b.drop (i + 1 + numC (b.drop (i + 1)) + 1)) + 1 : Nat) : Int) := by rw [w64 (by omega) (by omega)]; omega
    rw [if_pos c1]
    refine ⟨numV 0 (b.drop (i + 1)), if numC (b.drop (i + 1 + numC (b.drop (i + 1)) + 1)) = 0 then -1 else numV 0 (b.drop (i + 1 + numC (b.drop (i + 1)) + 1)), ((i + 1 + numC (b.drop (i + 1)) + 1 + numC (b.drop (i + 1 + numC (b.drop (i + 1)) + 1)) + 1 : Nat) : Int), ?_, fun q h => ?_⟩
    · apply o234
      rw [ew, bT (number_E b hb _ (by omega))]
      simp only [rd1, rd0, datI]
      rw [eF hj, bT (at_E b _), c1]
      simp only [rd0, datI]
      rw [eT rfl, ew2, bT (number_E b hb _ (by omega))]
      simp only [rd1, rd0, datI]
      by_cases c2 : numC (b.drop (i + 1 + numC (b.drop (i + 1)) + 1)) = 0
      · rw [eT (by omega), bT (at_E b _), ew3, if_pos c2]
        by_cases c3 : atB b ((i + 1 + numC (b.drop (i + 1)) + 1 + numC (b.drop (i + 1 + numC (b.drop (i + 1)) + 1)) : Nat) : Int) = 125
        · rw [if_pos c3, c3]; rfl
        · rw [if_neg c3]
          simp only [rd0, datI]
          rw [beq_false_of_ne c3]; rfl
      · rw [eF (by omega), bT (at_E b _), ew3, if_neg c2]
        by_cases c3 : atB b ((i + 1 + numC (b.drop (i + 1)) + 1 + numC (b.drop (i + 1 + numC (b.drop (i + 1)) + 1)) : Nat) : Int) = 125
        · rw [if_pos c3, c3]; rfl
        · rw [if_neg c3]
          simp only [rd0, datI]
          rw [beq_false_of_ne c3]; rfl
    · split at h
      · obtain rfl := Option.some.inj h
        exact ⟨rfl, rfl, rfl⟩
      · cases h
  · rw [if_neg c1]
    refine ⟨numV 0 (b.drop (i + 1)), numV 0 (b.drop (i + 1)), ((i + 1 + numC (b.drop (i + 1)) + 1 : Nat) : Int), ?_, fun q h => ?_⟩
    · apply o234
      rw [ew, bT (number_E b hb _ (by omega))]
      simp only [rd1, rd0, datI]
      rw [eF hj, bT (at_E b _)]
      simp only [rd0, datI]
      rw [eF c1, bT (at_E b _), ew2]
      by_cases c3 : atB b ((i + 1 + numC (b.drop (i + 1)) : Nat) : Int) = 125
      · rw [if_pos c3, c3]; rfl
      · rw [if_neg c3]
        simp only [rd0, datI]
        rw [beq_false_of_ne c3]; rfl
    · split at h
      · obtain rfl := Option.some.inj h
        exact ⟨rfl, rfl, rfl⟩
      · cases h
theorem counts_E (b : List Int) (hb : b.length ≤ 140737488351232) (i : Int) : ∃ q0 q1 q3 : Int, E C 216 [.shr 5 (b.map .int), .int .i64 i] = some [.agg [.int q0, .int q1, .int 0, .int q3], .bool (cntQ b i).isSome] ∧ ∀ q, cntQ b i = some q → q0 = q.1 ∧ q1 = q.2.1 ∧ q3 = (q.2.2 : Int) := by
  have ew : atB b i ≠ 0 → IntKind.i64.wrap (i + 1) = ((i.toNat + 1 : Nat) : Int) := fun h => by
    have := atB_some h
    rw [w64 (by omega) (by omega)]; omega
  unfold cntQ
  by_cases c1 : atB b i = 42
  · rw [if_pos c1]
    refine ⟨0, -1, ((i.toNat + 1 : Nat) : Int), ?_, fun q h => by obtain rfl := Option.some.inj h; exact ⟨rfl, rfl, rfl⟩⟩
    apply o216
    rw [bT (at_E b _), ew (by rw [c1]; decide), c1]; rfl
  rw [if_neg c1]
  by_cases c2 : atB b i = 43
  · rw [if_pos c2]
    refine ⟨1, -1, ((i.toNat + 1 : Nat) : Int), ?_, fun q h => by obtain rfl := Option.some.inj h; exact ⟨rfl, rfl, rfl⟩⟩
    apply o216
    rw [bT (at_E b _), ew (by rw [c2]; decide), c2]; rfl
  rw [if_neg c2]
  by_cases c3 : atB b i = 63
  · rw [if_pos c3]
    refine ⟨0, 1, ((i.toNat + 1 : Nat) : Int), ?_, fun q h => by obtain rfl := Option.some.inj h; exact ⟨rfl, rfl, rfl⟩⟩
    apply o216
    rw [bT (at_E b _), ew (by rw [c3]; decide), c3]; rfl
  rw [if_neg c3]
  by_cases c4 : atB b i = 123
  · have hin := atB_some (b := b) (i := i) (by rw [c4]; decide)
    obtain ⟨k, rfl⟩ : ∃ k : Nat, i = (k : Int) := ⟨i.toNat, by omega⟩
    obtain ⟨q0, q1, q3, h1, h2⟩ := braces_E b hb k (by omega)
    rw [if_pos c4, Int.toNat_natCast]
    refine ⟨q0, q1, q3, ?_, h2⟩
    apply o216
    rw [bT (at_E b _)]
    simp only [rd0, datI]
    rw [eF c1, eF c2, eF c3, eT c4, bT h1]
    rfl
  · rw [if_neg c4]
    refine ⟨0, 0, 0, ?_, fun q h => by cases h⟩
    apply o216
    rw [bT (at_E b _)]
    simp only [rd0, datI]
    rw [eF c1, eF c2, eF c3, eF c4]
    rfl
theorem Count_E (b : List Int) (hb : b.length ≤ 140737488351232) (i : Int) : E C 181 [.shr 5 (b.map .int), .int .i64 i] = some (countR b i) := by
  obtain ⟨q0, q1, q3, h1, h2⟩ := counts_E b hb i
  apply o181
  rw [bT h1]
  unfold countR
  simp only [rd0, rd1, datB, datI, aggC0, aggC1, aggC2, aggC3]
  cases hq : cntQ b i with
  | none => rw [nT (by simp)]; rfl
  | some q =>
    obtain ⟨lo, hi, to⟩ := q
    obtain ⟨e0, e1, e2⟩ := h2 _ hq
    simp only at e0 e1 e2
    subst e0 e1 e2
    have hin := cntQ_in hq
    rw [nF (by simp)]
    show _ = some (finC b q0 q1 to)
    unfold finC
    by_cases c1 : q0 > 1000
    · rw [dT c1, if_pos (.inl c1)]; rfl
    rw [dF c1]
    by_cases c2 : q1 > 1000
    · rw [dT c2, if_pos (.inr (.inl c2))]; rfl
    rw [dF c2]
    by_cases c3 : q1 = 0
    · rw [eT c3, if_pos (.inr (.inr (.inl c3)))]; rfl
    rw [eF c3, w64 (n := (to : Int) + 1) (by omega) (by omega)]
    have tail : ∀ P : Prop, ∀ [Decidable P], ¬ P → ((E C 217 [.shr 5 (b.map .int), .int .i64 (to : Int)]).bind fun d2 => (bif ((rd d2 0).I) == 63 then (some [.agg [.int q0, .int q1, .int 1, .int ((to : Int) + 1)], .bool true, .int 0]) else (bif ((rd d2 0).I) == 43 then (some [.agg [.int q0, .int q1, .int 2, .int ((to : Int) + 1)], .bool true, .int 0]) else (some [.agg [.int q0, .int q1, .int 0, .int (to : Int)], .bool true, .int 0]))) : R) =
        some (if P then errC else if atB b (to : Int) = 63 then [.agg [.int q0, .int q1, .int 1, .int ((to : Int) + 1)], .bool true, .int 0]
  else if atB b (to : Int) = 43 then [.agg [.int q0, .int q1, .int 2, .int ((to : Int) + 1)], .bool true, .int 0]
  else [.agg [.int q0, .int q1, .int 0, .int (to : Int)], .bool true, .int 0]) := fun P _ hP => by
      rw [if_neg hP, bT (at_E b _)]
      simp only [rd0, datI]
      by_cases d1 : atB b (to : Int) = 63
      · rw [eT d1, if_pos d1]
      rw [eF d1, if_neg d1]
      by_cases d2 : atB b (to : Int) = 43
      · rw [eT d2, if_pos d2]
      · rw [eF d2, if_neg d2]
    by_cases c4 : q1 = -1
    · rw [neF c4]
      exact tail _ (by omega)
    · rw [neT c4]
      by_cases c5 : q1 < q0
      · rw [dT c5, if_pos (.inr (.inr (.inr ⟨by omega, c5⟩)))]; rfl
      · rw [dF c5]
        exact tail _ (by omega)
end Go.Proofs.YtlofoifcdmeopaaGreatDoor.V
namespace Go.Proofs.YtlofoifcdmeopaaGreatDoor.V
open Go Go.Ev
set_option maxRecDepth 100000
set_option linter.unusedVariables false
/-- clew/clewref01.Is -/
noncomputable def f29 : Func := Tryz.f29
theorem o213 (a0 : List Dat) (a1 : Int) {r : List Dat} (h : (bif decide (a1 < 0) then (some [.int 0, .int 0]) else (bif decide (a1 ≥ (a0.length : Int)) then (some [.int 0, .int 0]) else (bif decide (0 ≤ a1) then (bif decide (a1 ≤ (a0.length : Int)) then (bif decide ((a0.length : Int) ≤ (a0.length : Int)) then ((E C 233 [.shr 5 ((a0.take ((a0.length : Int).toNat)).drop a1.toNat)]).bind fun d1 => (bif ((rd d1 0).I) == 65533 then (bif decide (((rd d1 1).I) ≤ 1) then (bif decide (0 ≤ a1) then (bif decide (a1 < (a0.length : Int)) then (bif decide (a1.toNat < a0.length) then (some [.int (IntKind.i64.wrap (1114112 + (IntKind.i64.wrap ((rd a0 a1.toNat).I)))), .int 1]) else none) else none) else none) else (some [.int (IntKind.i64.wrap ((rd d1 0).I)), .int ((rd d1 1).I)])) else (some [.int (IntKind.i64.wrap ((rd d1 0).I)), .int ((rd d1 1).I)]))) else none) else none) else none)) : R) = some r) : E C 213 [.shr 5 a0, .int .i64 a1] = some r := E_st h (Cont.bif (Cont.const _) (Cont.bif (Cont.const _) (Cont.bif (Cont.bif (Cont.bif (Cont.bind (Cont.call C 233 _) fun _ => (Cont.bif (Cont.bif (Cont.bif (Cont.bif (Cont.bif (Cont.const _) Cont.nn) Cont.nn) Cont.nn) (Cont.const _)) (Cont.const _))) Cont.nn) Cont.nn) Cont.nn))) fun φ => by kernel_rfl
theorem o97 (a0 : Int) {r : List Dat} (h : (bif decide (a0 < 0) then (some [.bool false]) else (bif decide (a0 > 1114367) then (some [.bool false]) else (bif decide (a0 > 1114111) then (some [.bool (decide (a0 ≥ 1114240))]) else (bif decide (a0 < 55296) then (some [.bool true]) else (some [.bool (decide (a0 > 57343))])))) : R) = some r) : E C 97 [.int .i64 a0] = some r := E_st h (Cont.bif (Cont.const _) (Cont.bif (Cont.const _) (Cont.bif (Cont.const _) (Cont.bif (Cont.const _) (Cont.const _))))) fun φ => by kernel_rfl
end Go.Proofs.YtlofoifcdmeopaaGreatDoor.V
namespace Go.Proofs.YtlofoifcdmeopaaGreatDoor.V
open Go Go.Ev Go.RowKit
set_option linter.unusedVariables false
set_option linter.unusedSimpArgs false
theorem dec_E (b : List Int) (hb : isBytes b = true) (hne : b ≠ []) : E C 233 [.shr 5 (b.map .int)] = some [.int (decR b).1, .int (decR b).2] := by
  refine E_given (h := gDecode 5) (by kernel_rfl) ?_
  have h1 : (b.map Dat.int).isEmpty = false := by cases b <;> simp at hne ⊢
  simp only [gDecode, ints_map, h1, hb]
  rfl
theorem At_E (b : List Int) (hb : isBytes b = true) (hlen : b.length ≤ 140737488351232) (i : Int) : E C 213 [.shr 5 (b.map .int), .int .i64 i] = some [.int (symR b i).1, .int (symR b i).2] := by
  apply o213
  simp only [List.length_map]
  unfold symR
  by_cases h0 : i < 0
  · rw [dT h0, if_neg (by omega)]
  · rw [dF h0]
    by_cases h1 : i ≥ (b.length : Int)
    · rw [dT h1, if_neg (by omega)]
    · obtain ⟨n, rfl⟩ : ∃ n : Nat, i = (n : Int) := ⟨i.toNat, by omega⟩
      have hn : n < b.length := by omega
      have hne : b.drop n ≠ [] := fun h => by
        have := congrArg List.length h
        simp at this
        omega
      have e1 : ((b.map Dat.int).take ((b.length : Int).toNat)).drop (n : Int).toNat = (b.drop n).map .int := by
        rw [Int.toNat_natCast, Int.toNat_natCast, List.take_of_length_le (by simp), List.map_drop]
      rw [dF h1, dT (by omega), dT (by omega), dT (by omega), e1]
      rw [bT (dec_E _ (isBytes_drop hb n) hne), if_pos (show 0 ≤ ((n : Nat) : Int) ∧ ((n : Nat) : Int) < (b.length : Int) by omega), decR_eq (isBytes_drop hb n) hne]
      simp only [bn_drop, List.length_drop, Nat.add_zero, Int.toNat_natCast, rdI, getD_bn hb]
      have hs := decodeN_small (b.length - n) _ _ _ _ (bn_lt hb n) (bn_lt hb (n + 1)) (bn_lt hb (n + 2)) (bn_lt hb (n + 3))
      have hbn := bn_lt hb n
      unfold symA symN
      generalize Go.Lib.decodeN (b.length - n) (bn b n) (bn b (n + 1)) (bn b (n + 2)) (bn b (n + 3)) = d at hs ⊢
      obtain ⟨x, m⟩ := d
      dsimp only at hs ⊢
      simp only [rd0, rd1, datI]
      rw [w64 (n := ((bn b n : Nat) : Int)) (by omega) (by omega), w64 (n := 1114112 + ((bn b n : Nat) : Int)) (by omega) (by omega), w64 (n := (x : Int)) (by omega) (by omega)]
      by_cases g1 : x = 65533
      · rw [eT (by omega)]
        by_cases g2 : m ≤ 1
        · rw [dT (by omega), dT (by omega), dT (by omega), dT (by omega), if_pos ⟨g1, g2⟩]
        · rw [dF (by omega), if_neg (fun h => g2 h.2)]
      · rw [eF (by omega), if_neg (fun h => g1 h.1)]
end Go.Proofs.YtlofoifcdmeopaaGreatDoor.V
namespace Go.Proofs.YtlofoifcdmeopaaGreatDoor.V
open Go Go.Ev
set_option maxRecDepth 100000
set_option linter.unusedVariables false
/-- clew/rset.Has -/
noncomputable def f32 : Func := Tryz.f32
theorem o32 (a0 : List Dat) (a1 : Int) {r : List Dat} (h : (bif decide (a1 < 0) then (some [.bool false]) else (bif decide (a1 > 1114367) then (some [.bool false]) else ((E C 75 [.shr 82 a0, .clo 76 [] [.sref 3 ([.int a1] : List Dat) 0 0]]).bind fun d1 => (some [.bool ((rd d1 0).B)]))) : R) = some r) : E C 32 [.shr 82 a0, .int .i64 a1] = some r := E_st h (Cont.bif (Cont.const _) (Cont.bif (Cont.const _) (Cont.bind (Cont.call C 75 _) fun _ => (Cont.const _)))) fun φ => by kernel_rfl
/-- clew/rset.Count -/
noncomputable def f33 : Func := Tryz.f33
noncomputable def c33 (p : List Nat) : Code := pick f33 p
theorem o75_a (a0 : List Dat) (a1c0d0 : Int) {r : List Dat} (h : ((E C 112 [.shr 82 a0, .clo 76 [] [.sref 3 ([.int a1c0d0] : List Dat) 0 0]]).bind fun d1 => (some [.bool (decide (((rd d1 0).I) ≥ 0))]) : R) = some r) : E C 75 [.shr 82 a0, .clo 76 [] [.sref 3 ([.int a1c0d0] : List Dat) 0 0]] = some r := E_st h (Cont.bind (Cont.call C 112 _) fun _ => (Cont.const _)) fun φ => by kernel_rfl
/-- clew/rset.Make -/
noncomputable def f77 : Func := Tryz.f77
def kp77 : List Nat := [0, 2, 3, 5, 6, 7, 8, 10, 11, 12, 13, 14, 31, 32, 33]
noncomputable def c77 (p : List Nat) : Code := pick f77 p
noncomputable def L77_2 (n : Nat) (m1 : Nat) (v0 v2 v3 v8 v12 : List Dat) (v13 v14 v32 v33 : Int) : R := loopIter (fun E K => evCode C (ev C n) n kp77 (c77 [1, 1, 1, 1, 1, 0, 1, 0, 0]) E K) [0, 2, 3, 8, 12, 13, 14, 31, 32, 33] (Kblk 2 (Kseq C (ev C n) n kp77 (c77 [1, 1, 1, 1, 1, 1]) (Ktop C 77 f77 [.und]))) m1 [.shr 82 v0, .und, .own 2 0 82 v2, .own 3 0 82 v3, .und, .und, .und, .und, .own 8 0 82 v8, .und, .und, .und, .shr 82 v12, .int .i64 v13, .int .i64 v14, .und, .und, .und, .und, .und, .und, .und, .und, .und, .und, .und, .und, .und, .und, .und, .und, .view 3 0 3 0, .int .i64 v32, .int .i64 v33, .und, .und, .und, .und, .und, .und, .und, .und, .und, .und, .und, .und, .und, .und, .und, .und, .und, .und, .und, .und, .und, .und, .und, .und, .und, .und, .und, .und, .und, .und, .und, .und, .und, .und, .und, .und, .und, .und, .und]
noncomputable def M77_2 (v0 v2 v3 v8 v12 : List Dat) (v13 v14 v32 v33 : Int) : R := lim fun φ => L77_2 (φ 0) (φ 1) v0 v2 v3 v8 v12 v13 v14 v32 v33
theorem M77_2_c (v0 v2 v3 v8 v12 : List Dat) (v13 v14 v32 v33 : Int) : Cont (fun φ => L77_2 (φ 0) (φ 1) v0 v2 v3 v8 v12 v13 v14 v32 v33) (M77_2 v0 v2 v3 v8 v12 v13 v14 v32 v33) := Cont.re id _
theorem M77_2_e (v0 v2 v3 v8 v12 : List Dat) (v13 v14 v32 v33 : Int) : Cont (fun φ => L77_2 (φ 0) (φ 0) v0 v2 v3 v8 v12 v13 v14 v32 v33) (M77_2 v0 v2 v3 v8 v12 v13 v14 v32 v33) := Cont.re (toZ 1) fun φ => L77_2 (φ 0) (φ 1) v0 v2 v3 v8 v12 v13 v14 v32 v33
noncomputable def L77_1 (n : Nat) (m1 : Nat) (v0 v2 v3 v12 : List Dat) (v13 v14 : Int) : R := loopIter (fun E K => evCode C (ev C n) n kp77 (c77 [1, 1, 0, 1, 0, 0]) E K) [0, 2, 3, 12, 13, 14] (Kblk 0 (Kseq C (ev C n) n kp77 (c77 [1, 1, 1]) (Ktop C 77 f77 [.und]))) m1 [.shr 82 v0, .und, .own 2 0 82 v2, .own 3 0 82 v3, .und, .und, .und, .und, .und, .und, .und, .und, .shr 82 v12, .int .i64 v13, .int .i64 v14, .und, .und, .und, .und, .und, .und, .und, .und, .und, .und, .und, .und, .und, .und, .und, .und, .und, .und, .und, .und, .und, .und, .und, .und, .und, .und, .und, .und, .und, .und, .und, .und, .und, .und, .und, .und, .und, .und, .und, .und, .und, .und, .und, .und, .und, .und, .und, .und, .und, .und, .und, .und, .und, .und, .und, .und, .und, .und]
noncomputable def M77_1 (v0 v2 v3 v12 : List Dat) (v13 v14 : Int) : R := lim fun φ => L77_1 (φ 0) (φ 1) v0 v2 v3 v12 v13 v14
theorem M77_1_c (v0 v2 v3 v12 : List Dat) (v13 v14 : Int) : Cont (fun φ => L77_1 (φ 0) (φ 1) v0 v2 v3 v12 v13 v14) (M77_1 v0 v2 v3 v12 v13 v14) := Cont.re id _
theorem M77_1_e (v0 v2 v3 v12 : List Dat) (v13 v14 : Int) : Cont (fun φ => L77_1 (φ 0) (φ 0) v0 v2 v3 v12 v13 v14) (M77_1 v0 v2 v3 v12 v13 v14) := Cont.re (toZ 1) fun φ => L77_1 (φ 0) (φ 1) v0 v2 v3 v12 v13 v14
theorem M77_2_of (v0 v2 v3 v8 v12 : List Dat) (v13 v14 v32 v33 : Int) {r : List Dat} (h : (bif decide (v33 < v32) then (bif decide (0 ≤ v33) then (bif decide (v33 < (v3.length : Int)) then (bif decide (v33.toNat < v3.length) then (bif decide ((v8.length : Int) > 0) then (bif decide (0 ≤ (IntKind.i64.wrap ((v8.length : Int) - 1))) then (bif decide ((IntKind.i64.wrap ((v8.length : Int) - 1)) < (v8.length : Int)) then (bif decide ((IntKind.i64.wrap ((v8.length : Int) - 1)).toNat < v8.length) then (bif decide ((((rd v3 v33.toNat).C 0).I) ≤ (IntKind.i64.wrap ((((rd v8 ((IntKind.i64.wrap ((v8.length : Int) - 1)).toNat)).C 1).I) + 1))) then (bif decide (0 ≤ (IntKind.i64.wrap ((v8.length : Int) - 1))) then (bif decide ((IntKind.i64.wrap ((v8.length : Int) - 1)) < (v8.length : Int)) then (bif decide ((IntKind.i64.wrap ((v8.length : Int) - 1)).toNat < v8.length) then (bif decide (0 ≤ (IntKind.i64.wrap ((v8.length : Int) - 1))) then (bif decide ((IntKind.i64.wrap ((v8.length : Int) - 1)) < (v8.length : Int)) then (bif decide ((IntKind.i64.wrap ((v8.length : Int) - 1)).toNat < v8.length) then (M77_2 v0 v2 v3 (v8.set ((IntKind.i64.wrap ((v8.length : Int) - 1)).toNat) (.agg [(rd v8 ((IntKind.i64.wrap ((v8.length : Int) - 1)).toNat)).C 0, .int (if (((rd v3 v33.toNat).C 1).I) > (((rd v8 ((IntKind.i64.wrap ((v8.length : Int) - 1)).toNat)).C 1).I) then (((rd v3 v33.toNat).C 1).I) else (((rd v8 ((IntKind.i64.wrap ((v8.length : Int) - 1)).toNat)).C 1).I))])) v12 v13 v14 v32 (IntKind.i64.wrap (v33 + 1))) else none) else none) else none) else none) else none) else none) else (bif decide (v8.length + ([.agg [.int (((rd v3 v33.toNat).C 0).I), .int (((rd v3 v33.toNat).C 1).I)]] : List Dat).length ≤ capB 16) then (M77_2 v0 v2 v3 (v8 ++ ([.agg [.int (((rd v3 v33.toNat).C 0).I), .int (((rd v3 v33.toNat).C 1).I)]] : List Dat)) v12 v13 v14 v32 (IntKind.i64.wrap (v33 + 1))) else none)) else none) else none) else none) else (bif decide (v8.length + ([.agg [.int (((rd v3 v33.toNat).C 0).I), .int (((rd v3 v33.toNat).C 1).I)]] : List Dat).length ≤ capB 16) then (M77_2 v0 v2 v3 (v8 ++ ([.agg [.int (((rd v3 v33.toNat).C 0).I), .int (((rd v3 v33.toNat).C 1).I)]] : List Dat)) v12 v13 v14 v32 (IntKind.i64.wrap (v33 + 1))) else none)) else none) else none) else none) else (some [.list v8]) : R) = some r) : M77_2 v0 v2 v3 v8 v12 v13 v14 v32 v33 = some r := lim_st (g := fun φ => L77_2 (φ 0) (φ 1) v0 v2 v3 v8 v12 v13 v14 v32 v33) 1 h (Cont.bif (Cont.bif (Cont.bif (Cont.bif (Cont.bif (Cont.bif (Cont.bif (Cont.bif (Cont.bif (Cont.bif (Cont.bif (Cont.bif (Cont.bif (Cont.bif (Cont.bif (M77_2_c _ _ _ _ _ _ _ _ _) Cont.nn) Cont.nn) Cont.nn) Cont.nn) Cont.nn) Cont.nn) (Cont.bif (M77_2_c _ _ _ _ _ _ _ _ _) Cont.nn)) Cont.nn) Cont.nn) Cont.nn) (Cont.bif (M77_2_c _ _ _ _ _ _ _ _ _) Cont.nn)) Cont.nn) Cont.nn) Cont.nn) (Cont.const _)) fun φ m hm => (congrArg (fun q => L77_2 (φ 0) q v0 v2 v3 v8 v12 v13 v14 v32 v33) hm).trans (by kernel_rfl)
theorem M77_1_of (v0 v2 v3 v12 : List Dat) (v13 v14 : Int) {r : List Dat} (h : (bif decide (v14 < v13) then (bif decide (0 ≤ v14) then (bif decide (v14 < (v12.length : Int)) then (bif decide (v14.toNat < v12.length) then ((E C 113 [.agg [.int .i64 (((rd v12 v14.toNat).C 0).I), .int .i64 (((rd v12 v14.toNat).C 1).I)]]).bind fun d1 => (bif (rd d1 1).B then (bif decide (v3.length + ([.agg [.int (((rd d1 0).C 0).I), .int (((rd d1 0).C 1).I)]] : List Dat).length ≤ capB 16) then (M77_1 v0 v2 (v3 ++ ([.agg [.int (((rd d1 0).C 0).I), .int (((rd d1 0).C 1).I)]] : List Dat)) v12 v13 (IntKind.i64.wrap (v14 + 1))) else none) else (M77_1 v0 v2 v3 v12 v13 (IntKind.i64.wrap (v14 + 1))))) else none) else none) else none) else ((E C 114 [.shr 82 v3, .clo 115 [] []]).bind fun d2 => (M77_2 v0 v2 ((rd d2 0).L) ([] : List Dat) v12 v13 v14 (((rd d2 0).L).length : Int) 0)) : R) = some r) : M77_1 v0 v2 v3 v12 v13 v14 = some r := lim_st (g := fun φ => L77_1 (φ 0) (φ 1) v0 v2 v3 v12 v13 v14) 1 h (Cont.bif (Cont.bif (Cont.bif (Cont.bif (Cont.bind (Cont.call C 113 _) fun _ => (Cont.bif (Cont.bif (M77_1_c _ _ _ _ _ _) Cont.nn) (M77_1_c _ _ _ _ _ _))) Cont.nn) Cont.nn) Cont.nn) (Cont.bind (Cont.call C 114 _) fun _ => (M77_2_e _ _ _ _ _ _ _ _ _))) fun φ m hm => (congrArg (fun q => L77_1 (φ 0) q v0 v2 v3 v12 v13 v14) hm).trans (by kernel_rfl)
theorem o77 (a0 : List Dat) {r : List Dat} (h : (M77_1 a0 ([] : List Dat) ([] : List Dat) a0 (a0.length : Int) 0 : R) = some r) : E C 77 [.shr 82 a0] = some r := E_st h (M77_1_e _ _ _ _ _ _) fun φ => by kernel_rfl
/-- slices.IndexFunc[[]clew/rset.Range,clew/rset.Range] -/
noncomputable def f112 : Func := Tryz.f112
def kp112 : List Nat := [0, 1, 4, 5, 7, 8]
noncomputable def c112 (p : List Nat) : Code := pick f112 p
noncomputable def L112_a_1 (n : Nat) (m1 : Nat) (v0 : List Dat) (v1c0d0 v4 v7 v8 : Int) : R := loopIter (fun E K => evCode C (ev C n) n kp112 (c112 [1, 0, 1, 0, 0]) E K) [0, 1, 4, 7, 8] (Kblk 0 (Kseq C (ev C n) n kp112 (c112 [1, 1]) (Ktop C 112 f112 [.und, .und]))) m1 [.shr 82 v0, .clo 76 [] [.sref 3 ([.int v1c0d0] : List Dat) 0 0], .und, .und, .int .i64 v4, .und, .und, .int .i64 v7, .int .i64 v8, .und, .und, .und, .und, .und, .und, .und, .und, .und, .und]
noncomputable def M112_a_1 (v0 : List Dat) (v1c0d0 v4 v7 v8 : Int) : R := lim fun φ => L112_a_1 (φ 0) (φ 1) v0 v1c0d0 v4 v7 v8
theorem M112_a_1_c (v0 : List Dat) (v1c0d0 v4 v7 v8 : Int) : Cont (fun φ => L112_a_1 (φ 0) (φ 1) v0 v1c0d0 v4 v7 v8) (M112_a_1 v0 v1c0d0 v4 v7 v8) := Cont.re id _
theorem M112_a_1_e (v0 : List Dat) (v1c0d0 v4 v7 v8 : Int) : Cont (fun φ => L112_a_1 (φ 0) (φ 0) v0 v1c0d0 v4 v7 v8) (M112_a_1 v0 v1c0d0 v4 v7 v8) := Cont.re (toZ 1) fun φ => L112_a_1 (φ 0) (φ 1) v0 v1c0d0 v4 v7 v8
theorem M112_a_1_of (v0 : List Dat) (v1c0d0 v4 v7 v8 : Int) {r : List Dat} (h : (bif decide (v8 < v7) then (bif decide (0 ≤ v8) then (bif decide (v8 < (v0.length : Int)) then (bif decide (v8.toNat < v0.length) then ((E C 76 [.agg [.int .i64 (((rd v0 v8.toNat).C 0).I), .int .i64 (((rd v0 v8.toNat).C 1).I)], .sref 3 ([.int v1c0d0] : List Dat) 0 0]).bind fun d1 => (bif (rd d1 0).B then (some [.int v8]) else (M112_a_1 v0 v1c0d0 v4 v7 (IntKind.i64.wrap (v8 + 1))))) else none) else none) else none) else (some [.int (-1)]) : R) = some r) : M112_a_1 v0 v1c0d0 v4 v7 v8 = some r := lim_st (g := fun φ => L112_a_1 (φ 0) (φ 1) v0 v1c0d0 v4 v7 v8) 1 h (Cont.bif (Cont.bif (Cont.bif (Cont.bif (Cont.bind (Cont.call C 76 _) fun _ => (Cont.bif (Cont.const _) (M112_a_1_c _ _ _ _ _))) Cont.nn) Cont.nn) Cont.nn) (Cont.const _)) fun φ m hm => (congrArg (fun q => L112_a_1 (φ 0) q v0 v1c0d0 v4 v7 v8) hm).trans (by kernel_rfl)
theorem o112_a (a0 : List Dat) (a1c0d0 : Int) {r : List Dat} (h : (M112_a_1 a0 a1c0d0 0 (a0.length : Int) 0 : R) = some r) : E C 112 [.shr 82 a0, .clo 76 [] [.sref 3 ([.int a1c0d0] : List Dat) 0 0]] = some r := E_st h (M112_a_1_e _ _ _ _ _) fun φ => by kernel_rfl
theorem o113 (a0_0 a0_1 : Int) {r : List Dat} (h : (some [.agg [.int (if 0 > a0_0 then 0 else a0_0), .int (if 1114367 < a0_1 then 1114367 else a0_1)], .bool (decide ((if 0 > a0_0 then 0 else a0_0) ≤ (if 1114367 < a0_1 then 1114367 else a0_1)))] : R) = some r) : E C 113 [.agg [.int .i64 a0_0, .int .i64 a0_1]] = some r := E_st h (Cont.const _) fun φ => by kernel_rfl
theorem o76_a (a0_0 a0_1 a1d0 : Int) {r : List Dat} (h : (bif decide (0 < ([.int a1d0] : List Dat).length) then (bif decide (a0_0 ≤ ((rd ([.int a1d0] : List Dat) 0).I)) then (bif decide (0 < ([.int a1d0] : List Dat).length) then (some [.bool (decide (((rd ([.int a1d0] : List Dat) 0).I) ≤ a0_1))]) else none) else (some [.bool false])) else none : R) = some r) : E C 76 [.agg [.int .i64 a0_0, .int .i64 a0_1], .sref 3 ([.int a1d0] : List Dat) 0 0] = some r := E_st h (Cont.bif (Cont.bif (Cont.bif (Cont.const _) Cont.nn) (Cont.const _)) Cont.nn) fun φ => by kernel_rfl
/-- clew/rset.Of -/
noncomputable def f215 : Func := Tryz.f215
theorem o215 (a0 : Int) {r : List Dat} (h : ((E C 77 [.shr 82 ([.agg [.int a0, .int a0]] : List Dat)]).bind fun d1 => (some [.list ((rd d1 0).L)]) : R) = some r) : E C 215 [.int .i64 a0] = some r := E_st h (Cont.bind (Cont.call C 77 _) fun _ => (Cont.const _)) fun φ => by kernel_rfl
/-- clew/rset.Not -/
noncomputable def f167 : Func := Tryz.f167
def kp167 : List Nat := [0, 2, 3, 4, 6, 8, 9, 10]
noncomputable def c167 (p : List Nat) : Code := pick f167 p
noncomputable def L167_1 (n : Nat) (m1 : Nat) (v0 v2 v3 : List Dat) (v4 : Int) (v8 : List Dat) (v9 v10 : Int) : R := loopIter (fun E K => evCode C (ev C n) n kp167 (c167 [1, 1, 1, 0, 1, 0, 0]) E K) [0, 2, 3, 4, 8, 9, 10] (Kblk 0 (Kseq C (ev C n) n kp167 (c167 [1, 1, 1, 1]) (Ktop C 167 f167 [.und]))) m1 [.shr 82 v0, .und, .own 2 0 82 v2, .own 3 0 82 v3, .int .i64 v4, .und, .und, .und, .own 8 0 82 v8, .int .i64 v9, .int .i64 v10, .und, .und, .und, .und, .und, .und, .und, .und, .und, .und, .und, .und, .und, .und, .und, .und, .und, .und, .und, .und, .und, .und, .und, .und, .und, .und, .und]
noncomputable def M167_1 (v0 v2 v3 : List Dat) (v4 : Int) (v8 : List Dat) (v9 v10 : Int) : R := lim fun φ => L167_1 (φ 0) (φ 1) v0 v2 v3 v4 v8 v9 v10
theorem M167_1_c (v0 v2 v3 : List Dat) (v4 : Int) (v8 : List Dat) (v9 v10 : Int) : Cont (fun φ => L167_1 (φ 0) (φ 1) v0 v2 v3 v4 v8 v9 v10) (M167_1 v0 v2 v3 v4 v8 v9 v10) := Cont.re id _
theorem M167_1_e (v0 v2 v3 : List Dat) (v4 : Int) (v8 : List Dat) (v9 v10 : Int) : Cont (fun φ => L167_1 (φ 0) (φ 0) v0 v2 v3 v4 v8 v9 v10) (M167_1 v0 v2 v3 v4 v8 v9 v10) := Cont.re (toZ 1) fun φ => L167_1 (φ 0) (φ 1) v0 v2 v3 v4 v8 v9 v10
theorem M167_1_of (v0 v2 v3 : List Dat) (v4 : Int) (v8 : List Dat) (v9 v10 : Int) {r : List Dat} (h : (bif decide (v10 < v9) then (bif decide (0 ≤ v10) then (bif decide (v10 < (v8.length : Int)) then (bif decide (v10.toNat < v8.length) then (bif decide ((((rd v8 v10.toNat).C 0).I) > v4) then (bif decide (v3.length + ([.agg [.int v4, .int (IntKind.i64.wrap ((((rd v8 v10.toNat).C 0).I) - 1))]] : List Dat).length ≤ capB 16) then (M167_1 v0 v2 (v3 ++ ([.agg [.int v4, .int (IntKind.i64.wrap ((((rd v8 v10.toNat).C 0).I) - 1))]] : List Dat)) (IntKind.i64.wrap ((((rd v8 v10.toNat).C 1).I) + 1)) v8 v9 (IntKind.i64.wrap (v10 + 1))) else none) else (M167_1 v0 v2 v3 (IntKind.i64.wrap ((((rd v8 v10.toNat).C 1).I) + 1)) v8 v9 (IntKind.i64.wrap (v10 + 1)))) else none) else none) else none) else (bif decide (v4 ≤ 1114367) then (bif decide (v3.length + ([.agg [.int v4, .int 1114367]] : List Dat).length ≤ capB 16) then (some [.list (v3 ++ ([.agg [.int v4, .int 1114367]] : List Dat))]) else none) else (some [.list v3])) : R) = some r) : M167_1 v0 v2 v3 v4 v8 v9 v10 = some r := lim_st (g := fun φ => L167_1 (φ 0) (φ 1) v0 v2 v3 v4 v8 v9 v10) 1 h (Cont.bif (Cont.bif (Cont.bif (Cont.bif (Cont.bif (Cont.bif (M167_1_c _ _ _ _ _ _ _) Cont.nn) (M167_1_c _ _ _ _ _ _ _)) Cont.nn) Cont.nn) Cont.nn) (Cont.bif (Cont.bif (Cont.const _) Cont.nn) (Cont.const _))) fun φ m hm => (congrArg (fun q => L167_1 (φ 0) q v0 v2 v3 v4 v8 v9 v10) hm).trans (by kernel_rfl)
theorem o167 (a0 : List Dat) {r : List Dat} (h : ((E C 77 [.shr 82 a0]).bind fun d1 => (M167_1 a0 ([] : List Dat) ([] : List Dat) 0 ((rd d1 0).L) (((rd d1 0).L).length : Int) 0) : R) = some r) : E C 167 [.shr 82 a0] = some r := E_st h (Cont.bind (Cont.call C 77 _) fun _ => (M167_1_e _ _ _ _ _ _ _)) fun φ => by kernel_rfl
end Go.Proofs.YtlofoifcdmeopaaGreatDoor.V
namespace Go.Proofs.YtlofoifcdmeopaaGreatDoor.V
open Go Go.Ev Go.RowKit
set_option linter.unusedVariables false
set_option linter.unusedSimpArgs false
theorem rsA (a b : List (Int × Int)) : rs (a ++ b) = rs a ++ rs b := List.map_append
theorem rs1 (p : Int × Int) : ([.agg [.int p.1, .int p.2]] : List Dat) = rs [p] := rfl
theorem rs_at (pre : List (Int × Int)) (r : Int × Int) (rest : List (Int × Int)) : rd (rs (pre ++ r :: rest)) pre.length = .agg [.int r.1, .int r.2] := by
  rw [rs_rd _ _ (by simp)]
  simp
theorem rs_set (done : List (Int × Int)) (c d : Int × Int) : (rs (done ++ [c])).set done.length (.agg [.int d.1, .int d.2]) = rs (done ++ [d]) := by
  unfold rs prs
  simp
theorem clip_E (a b : Int) : E C 113 [.agg [.int .i64 a, .int .i64 b]] = some [.agg [.int (mx a 0), .int (mn b 1114367)], .bool (decide (mx a 0 ≤ mn b 1114367))] := by
  apply o113
  rfl
theorem Sort_rs (l : List (Int × Int)) (h : l.length < 4611686018427387904) : E C 114 [.shr 82 (rs l), .clo 115 [] []] = some [.list (rs (sortP l))] := by
  refine E_given (h := gSortR 82 115) (by kernel_rfl) ?_
  simp only [gSortR]
  rw [rs_len, decide_eq_true h]
  show some [Dat.list (prs (sortP (unprs (prs l))))] = _
  rw [unprs_prs]
theorem Make_l2 (v0 v2 v12 : List Dat) (v13 v14 : Int) (xs : List (Int × Int)) (hx : ∀ r ∈ xs, okR r) (hlen : xs.length < 8796093022208) : ∀ (rest pre done : List (Int × Int)) (c : Int × Int), xs = pre ++ rest → done.length + 1 ≤ pre.length → 0 ≤ c.2 ∧ c.2 ≤ 1114367 →
    M77_2 v0 v2 (rs xs) (rs (done ++ [c])) v12 v13 v14 (xs.length : Int) (pre.length : Int) = some [.list (rs (done ++ mg c rest))] := by
  have hc16 : capB 16 = 8796093022208 := by decide
  intro rest
  induction rest with
  | nil =>
    intro pre done c hxs hd hc
    rw [List.append_nil] at hxs
    subst hxs
    apply M77_2_of
    rw [dF (by omega)]
    rfl
  | cons r rest ih =>
    intro pre done c hxs hd hc
    have hl : xs.length = pre.length + (rest.length + 1) := by rw [hxs]; simp
    have hrx : okR r := hx r (by rw [hxs]; simp)
    unfold okR at hrx
    have hat : rd (rs xs) pre.length = .agg [.int r.1, .int r.2] := by rw [hxs]; exact rs_at _ _ _
    have hdl : (rs (done ++ [c])).length = done.length + 1 := by rw [rs_len]; simp
    have hdc : rd (rs (done ++ [c])) done.length = .agg [.int c.1, .int c.2] := rs_at done c []
    have ew : IntKind.i64.wrap (((done.length + 1 : Nat) : Int) - 1) = ((done.length : Nat) : Int) := by rw [w64 (by omega) (by omega)]; omega
    have ek : IntKind.i64.wrap ((pre.length : Int) + 1) = (((pre ++ [r]).length : Nat) : Int) := by rw [w64 (by omega) (by omega)]; simp
    apply M77_2_of
    rw [rs_len, dT (by omega), ixT ⟨by omega, by omega⟩, hdl, dT (by omega), ew, Int.toNat_natCast, Int.toNat_natCast]
    rw [dT (by omega), dT (by omega), dT (by omega), hat, hdc]
    simp only [aggC0, aggC1, datI]
    rw [w64 (n := c.2 + 1) (by omega) (by omega), ek]
    by_cases h : r.1 ≤ c.2 + 1
    · rw [dT h, dT (by omega), dT (by omega), dT (by omega), dT (by omega), dT (by omega), dT (by omega)]
      have e1 := rs_set done c (c.1, mx c.2 r.2)
      have e2 : (if r.2 > c.2 then r.2 else c.2) = mx c.2 r.2 := rfl
      rw [e2]
      dsimp only at e1
      rw [e1]
      refine (ih (pre ++ [r]) done (c.1, mx c.2 r.2) (by rw [hxs]; simp) (by simp; omega) (by unfold mx; dsimp only; split <;> omega)).trans ?_
      have : mg c (r :: rest) = mg (c.1, mx c.2 r.2) rest := by rw [mg, if_pos h]
      rw [this]
    · rw [dF h, dT (by rw [List.length_singleton]; omega), rs1 r, ← rsA]
      refine (ih (pre ++ [r]) (done ++ [c]) r (by rw [hxs]; simp) (by simp; omega) ⟨by omega, by omega⟩).trans ?_
      have : mg c (r :: rest) = c :: mg r rest := by rw [mg, if_neg h]
      rw [this]
      simp
theorem Make_l2_top (v0 v2 v12 : List Dat) (v13 v14 : Int) (xs : List (Int × Int)) (hx : ∀ r ∈ xs, okR r) (hlen : xs.length < 8796093022208) : M77_2 v0 v2 (rs xs) [] v12 v13 v14 (xs.length : Int) 0 = some [.list (rs (mgT xs))] := by
  have hc16 : capB 16 = 8796093022208 := by decide
  cases xs with
  | nil =>
    apply M77_2_of
    rw [dF (by simp)]
    rfl
  | cons r rest =>
    have hrx := hx r (by simp)
    unfold okR at hrx
    have hl : (r :: rest).length = rest.length + 1 := rfl
    apply M77_2_of
    rw [rs_len, dT (by omega), dT (by omega), dT (by omega), dT (by omega), dF (by simp)]
    have hat : rd (rs (r :: rest)) (0 : Int).toNat = .agg [.int r.1, .int r.2] := rs_at [] r rest
    rw [hat]
    simp only [aggC0, aggC1, datI]
    rw [dT (by rw [List.length_singleton, List.length_nil]; omega), List.nil_append, rs1 r, show IntKind.i64.wrap (0 + 1) = ((([r] : List (Int × Int)).length : Nat) : Int) from by rw [w64 (by omega) (by omega)]; rfl]
    exact Make_l2 v0 v2 v12 v13 v14 (r :: rest) hx hlen rest [r] [] r rfl (by simp) ⟨by omega, by omega⟩
theorem Make_l1 (v0 v2 : List Dat) (xs : List (Int × Int)) (hlen : xs.length < 8796093022208) : ∀ (rest pre acc : List (Int × Int)), xs = pre ++ rest → acc.length ≤ pre.length → (∀ r ∈ acc, okR r) →
    M77_1 v0 v2 (rs acc) (rs xs) (xs.length : Int) (pre.length : Int) = some [.list (rs (mgT (sortP (acc ++ rest.filterMap clipR))))] := by
  have hc16 : capB 16 = 8796093022208 := by decide
  intro rest
  induction rest with
  | nil =>
    intro pre acc hxs ha hok
    rw [List.append_nil] at hxs
    subst hxs
    apply M77_1_of
    rw [dF (by omega), bT (Sort_rs acc (by omega))]
    simp only [rd0, datL, rs_len]
    refine (Make_l2_top _ _ _ _ _ (sortP acc) (fun r hr => hok r (mem_sortP.1 hr)) (by rw [sortP_length]; omega)).trans ?_
    simp
  | cons r rest ih =>
    intro pre acc hxs ha hok
    have hl : xs.length = pre.length + (rest.length + 1) := by rw [hxs]; simp
    have hat : rd (rs xs) pre.length = .agg [.int r.1, .int r.2] := by rw [hxs]; exact rs_at _ _ _
    have ek : IntKind.i64.wrap ((pre.length : Int) + 1) = (((pre ++ [r]).length : Nat) : Int) := by rw [w64 (by omega) (by omega)]; simp
    apply M77_1_of
    rw [rs_len, dT (by omega), ixT ⟨by omega, by omega⟩, Int.toNat_natCast, hat]
    simp only [aggC0, aggC1, datI]
    rw [bT (clip_E r.1 r.2), ek]
    simp only [rd0, rd1, datB, aggC0, aggC1, datI]
    by_cases h : mx r.1 0 ≤ mn r.2 1114367
    · have hcl : clipR r = some (mx r.1 0, mn r.2 1114367) := if_pos h
      rw [dT h, rs_len, dT (by rw [List.length_singleton]; omega), rs1 (mx r.1 0, mn r.2 1114367), ← rsA]
      refine (ih (pre ++ [r]) (acc ++ [(mx r.1 0, mn r.2 1114367)]) (by rw [hxs]; simp) (by simp; omega) (fun q hq => ?_)).trans ?_
      · rcases List.mem_append.1 hq with hq | hq
        · exact hok q hq
        · rw [List.mem_singleton.1 hq]
          exact okR_clip hcl
      · rw [List.filterMap_cons, hcl]
        simp
    · have hcl : clipR r = none := if_neg h
      rw [dF h]
      refine (ih (pre ++ [r]) acc (by rw [hxs]; simp) (by simp; omega) hok).trans ?_
      rw [List.filterMap_cons, hcl]
theorem Make_E (l : List (Int × Int)) (hlen : l.length < 8796093022208) : E C 77 [.shr 82 (rs l)] = some [.list (rs (mk l))] := by
  apply o77
  rw [rs_len]
  refine (Make_l1 _ _ l hlen l [] [] rfl (Nat.le_refl _) (fun r hr => by cases hr)).trans ?_
  rfl
end Go.Proofs.YtlofoifcdmeopaaGreatDoor.V
namespace Go.Proofs.YtlofoifcdmeopaaGreatDoor.V
open Go Go.Ev Go.RowKit
set_option linter.unusedVariables false
set_option linter.unusedSimpArgs false
theorem Not_l1 (v0 v2 : List Dat) (xs : List (Int × Int)) (hx : ∀ r ∈ xs, okR r) (hlen : xs.length + 1 < 8796093022208) : ∀ (rest pre acc : List (Int × Int)) (n : Int), xs = pre ++ rest → acc.length ≤ pre.length → 0 ≤ n ∧ n ≤ 1114368 →
    M167_1 v0 v2 (rs acc) n (rs xs) (xs.length : Int) (pre.length : Int) = some [.list (rs (acc ++ notL n rest))] := by
  have hc16 : capB 16 = 8796093022208 := by decide
  intro rest
  induction rest with
  | nil =>
    intro pre acc n hxs ha hn
    rw [List.append_nil] at hxs
    subst hxs
    apply M167_1_of
    rw [dF (by omega)]
    unfold notL
    by_cases h : n ≤ 1114367
    · rw [dT h, if_pos h, rs_len, dT (by rw [List.length_singleton]; omega), rs1 (n, 1114367), ← rsA]
    · rw [dF h, if_neg h, List.append_nil]
  | cons r rest ih =>
    intro pre acc n hxs ha hn
    have hl : xs.length = pre.length + (rest.length + 1) := by rw [hxs]; simp
    have hrx : okR r := hx r (by rw [hxs]; simp)
    unfold okR at hrx
    have hat : rd (rs xs) pre.length = .agg [.int r.1, .int r.2] := by rw [hxs]; exact rs_at _ _ _
    have ek : IntKind.i64.wrap ((pre.length : Int) + 1) = (((pre ++ [r]).length : Nat) : Int) := by rw [w64 (by omega) (by omega)]; simp
    apply M167_1_of
    rw [rs_len, dT (by omega), ixT ⟨by omega, by omega⟩, Int.toNat_natCast, hat]
    simp only [aggC0, aggC1, datI]
    rw [ek, w64 (n := r.1 - 1) (by omega) (by omega), w64 (n := r.2 + 1) (by omega) (by omega)]
    unfold notL
    by_cases h : r.1 > n
    · rw [dT h, if_pos h, rs_len, dT (by rw [List.length_singleton]; omega), rs1 (n, r.1 - 1), ← rsA]
      refine (ih (pre ++ [r]) (acc ++ [(n, r.1 - 1)]) (r.2 + 1) (by rw [hxs]; simp) (by simp; omega) ⟨by omega, by omega⟩).trans ?_
      simp
    · rw [dF h, if_neg h]
      exact ih (pre ++ [r]) acc (r.2 + 1) (by rw [hxs]; simp) (by simp; omega) ⟨by omega, by omega⟩
theorem Not_E (l : List (Int × Int)) (hlen : l.length + 1 < 8796093022208) : E C 167 [.shr 82 (rs l)] = some [.list (rs (notR l))] := by
  have h := mk_length l
  apply o167
  rw [bT (Make_E l (by omega))]
  simp only [rd0, datL, rs_len]
  exact Not_l1 _ _ (mk l) (mk_least l).1 (by omega) (mk l) [] [] 0 rfl (Nat.le_refl _) (by omega)
theorem Has1_E (a b x : Int) : E C 76 [.agg [.int .i64 a, .int .i64 b], .sref 3 ([.int x] : List Dat) 0 0] = some [.bool (inR x (a, b))] := by
  apply o76_a
  rw [dT (by simp)]
  simp only [rd0, datI, inR]
  by_cases h : a ≤ x
  · rw [dT h, dT (by simp), decide_eq_true h]; rfl
  · rw [dF h, decide_eq_false h]; rfl
theorem Idx_loop (l : List (Int × Int)) (x : Int) (hl : l.length ≤ 140737488351232) (v4 : Int) : ∀ (d k : Nat), l.length - k = d → k ≤ l.length →
    ∃ r : Int, M112_a_1 (rs l) x v4 (l.length : Int) (k : Int) = some [.int r] ∧ (0 ≤ r ↔ (l.drop k).any (inR x) = true) := by
  intro d
  induction d with
  | zero =>
    intro k hd hk
    refine ⟨-1, ?_, ?_⟩
    · apply M112_a_1_of
      rw [dF (by omega)]
    · rw [List.drop_of_length_le (by omega)]
      simp
  | succ d ih =>
    intro k hd hk
    have hlt : k < l.length := by omega
    obtain ⟨r, h1, h2⟩ := ih (k + 1) (by omega) (by omega)
    have hdr : l.drop k = l[k] :: l.drop (k + 1) := List.drop_eq_getElem_cons hlt
    have e := Has1_E (l[k]).1 (l[k]).2 x
    rw [show ((l[k]).1, (l[k]).2) = l[k] from rfl] at e
    cases hb : inR x l[k] with
    | true =>
      refine ⟨k, ?_, ?_⟩
      · apply M112_a_1_of
        rw [rs_len, dT (by omega), dT (by omega), dT (by omega), dT (by omega), Int.toNat_natCast, rs_rd l k hlt]
        rw [hb] at e
        refine (bT e).trans ?_
        rfl
      · rw [hdr, List.any_cons, hb]
        simp
    | false =>
      refine ⟨r, ?_, ?_⟩
      · apply M112_a_1_of
        rw [rs_len, dT (by omega), dT (by omega), dT (by omega), dT (by omega), Int.toNat_natCast, rs_rd l k hlt]
        rw [hb] at e
        refine (bT e).trans ?_
        simp only [rd0, datB, cond_false]
        rw [w64 (by omega) (by omega)]
        exact h1
      · rw [hdr, List.any_cons, hb, h2]
        simp
theorem Has_E (l : List (Int × Int)) (x : Int) (hl : l.length ≤ 140737488351232) : E C 32 [.shr 82 (rs l), .int .i64 x] = some [.bool (hasB l x)] := by
  apply o32
  unfold hasB
  by_cases h0 : x < 0
  · rw [dT h0, decide_eq_false (show ¬ 0 ≤ x by omega)]; rfl
  rw [dF h0, decide_eq_true (show 0 ≤ x by omega)]
  by_cases h1 : x > 1114367
  · rw [dT h1, decide_eq_false (show ¬ x ≤ 1114367 by omega)]; rfl
  rw [dF h1, decide_eq_true (show x ≤ 1114367 by omega)]
  obtain ⟨r, k1, k2⟩ := Idx_loop l x hl 0 l.length 0 (by omega) (by omega)
  have e1 : E C 112 [.shr 82 (rs l), .clo 76 [] [.sref 3 ([.int x] : List Dat) 0 0]] = some [.int r] := by
    apply o112_a
    rw [rs_len]
    exact k1
  have e2 : E C 75 [.shr 82 (rs l), .clo 76 [] [.sref 3 ([.int x] : List Dat) 0 0]] = some [.bool (decide (r ≥ 0))] := by
    apply o75_a
    rw [bT e1]
    rfl
  rw [bT e2]
  simp only [rd0, datB]
  rw [List.drop_zero] at k2
  have : decide (r ≥ 0) = l.any (inR x) := by
    cases h : l.any (inR x) with
    | true => exact decide_eq_true (k2.2 h)
    | false => exact decide_eq_false (fun hr => by rw [k2.1 hr] at h; cases h)
  rw [this]
  rfl
end Go.Proofs.YtlofoifcdmeopaaGreatDoor.V
namespace Go.Proofs.YtlofoifcdmeopaaGreatDoor.V
open Go Go.Ev
set_option maxRecDepth 100000
set_option linter.unusedVariables false
/-- clew/fold.Close -/
noncomputable def f231 : Func := Tryz.f231
def kp231 : List Nat := [0, 2, 3, 5, 7, 10, 11, 12, 21, 22, 23]
noncomputable def c231 (p : List Nat) : Code := pick f231 p
noncomputable def L231_2 (n : Nat) (m1 : Nat) (m2 : Nat) (v0 v2 v3 : List Dat) (v5 : Int) (v10 : List Dat) (v11 v12 : Int) (v21 : List Dat) (v22 v23 : Int) : R := loopIter (fun E K => evCode C (ev C n) n kp231 (c231 [1, 1, 0, 1, 0, 0, 1, 1, 0, 0, 1, 1, 1, 0, 0]) E K) [0, 2, 3, 5, 10, 11, 12, 21, 22, 23] (Kblk 2 (Kblk 1 (Kseq C (ev C n) n kp231 (c231 [1, 1, 0, 1, 0, 0, 1, 1, 1]) (Klop (fun E K => evCode C (ev C n) n kp231 (c231 [1, 1, 0, 1, 0, 0]) E K) [0, 2, 3, 10, 11, 12] (Kblk 0 (Kseq C (ev C n) n kp231 (c231 [1, 1, 1]) (Ktop C 231 f231 [.und]))) m1)))) m2 [.shr 82 v0, .und, .own 2 0 82 v2, .own 3 0 82 v3, .und, .int .i64 v5, .und, .und, .und, .und, .shr 3 v10, .int .i64 v11, .int .i64 v12, .und, .und, .und, .und, .und, .und, .und, .und, .own 21 0 3 v21, .int .i64 v22, .int .i64 v23, .und, .und, .und, .und, .und, .und, .und, .und, .und, .und, .und, .und, .und]
noncomputable def M231_2 (v0 v2 v3 : List Dat) (v5 : Int) (v10 : List Dat) (v11 v12 : Int) (v21 : List Dat) (v22 v23 : Int) : R := lim fun φ => L231_2 (φ 0) (φ 1) (φ 2) v0 v2 v3 v5 v10 v11 v12 v21 v22 v23
theorem M231_2_c (v0 v2 v3 : List Dat) (v5 : Int) (v10 : List Dat) (v11 v12 : Int) (v21 : List Dat) (v22 v23 : Int) : Cont (fun φ => L231_2 (φ 0) (φ 1) (φ 2) v0 v2 v3 v5 v10 v11 v12 v21 v22 v23) (M231_2 v0 v2 v3 v5 v10 v11 v12 v21 v22 v23) := Cont.re id _
theorem M231_2_e (v0 v2 v3 : List Dat) (v5 : Int) (v10 : List Dat) (v11 v12 : Int) (v21 : List Dat) (v22 v23 : Int) : Cont (fun φ => L231_2 (φ 0) (φ 1) (φ 0) v0 v2 v3 v5 v10 v11 v12 v21 v22 v23) (M231_2 v0 v2 v3 v5 v10 v11 v12 v21 v22 v23) := Cont.re (toZ 2) fun φ => L231_2 (φ 0) (φ 1) (φ 2) v0 v2 v3 v5 v10 v11 v12 v21 v22 v23
noncomputable def L231_1 (n : Nat) (m1 : Nat) (v0 v2 v3 v10 : List Dat) (v11 v12 : Int) : R := loopIter (fun E K => evCode C (ev C n) n kp231 (c231 [1, 1, 0, 1, 0, 0]) E K) [0, 2, 3, 10, 11, 12] (Kblk 0 (Kseq C (ev C n) n kp231 (c231 [1, 1, 1]) (Ktop C 231 f231 [.und]))) m1 [.shr 82 v0, .und, .own 2 0 82 v2, .own 3 0 82 v3, .und, .und, .und, .und, .und, .und, .shr 3 v10, .int .i64 v11, .int .i64 v12, .und, .und, .und, .und, .und, .und, .und, .und, .und, .und, .und, .und, .und, .und, .und, .und, .und, .und, .und, .und, .und, .und, .und, .und]
noncomputable def M231_1 (v0 v2 v3 v10 : List Dat) (v11 v12 : Int) : R := lim fun φ => L231_1 (φ 0) (φ 1) v0 v2 v3 v10 v11 v12
theorem M231_1_c (v0 v2 v3 v10 : List Dat) (v11 v12 : Int) : Cont (fun φ => L231_1 (φ 0) (φ 1) v0 v2 v3 v10 v11 v12) (M231_1 v0 v2 v3 v10 v11 v12) := Cont.re id _
theorem M231_1_e (v0 v2 v3 v10 : List Dat) (v11 v12 : Int) : Cont (fun φ => L231_1 (φ 0) (φ 0) v0 v2 v3 v10 v11 v12) (M231_1 v0 v2 v3 v10 v11 v12) := Cont.re (toZ 1) fun φ => L231_1 (φ 0) (φ 1) v0 v2 v3 v10 v11 v12
theorem M231_2_of (v0 v2 v3 : List Dat) (v5 : Int) (v10 : List Dat) (v11 v12 : Int) (v21 : List Dat) (v22 v23 : Int) {r : List Dat} (h : (bif decide (v23 < v22) then (bif decide (0 ≤ v23) then (bif decide (v23 < (v21.length : Int)) then (bif decide (v23.toNat < v21.length) then (bif decide (v3.length + ([.agg [.int ((rd v21 v23.toNat).I), .int ((rd v21 v23.toNat).I)]] : List Dat).length ≤ capB 16) then (M231_2 v0 v2 (v3 ++ ([.agg [.int ((rd v21 v23.toNat).I), .int ((rd v21 v23.toNat).I)]] : List Dat)) v5 v10 v11 v12 v21 v22 (IntKind.i64.wrap (v23 + 1))) else none) else none) else none) else none) else (M231_1 v0 v2 v3 v10 v11 (IntKind.i64.wrap (v12 + 1))) : R) = some r) : M231_2 v0 v2 v3 v5 v10 v11 v12 v21 v22 v23 = some r := lim_st (g := fun φ => L231_2 (φ 0) (φ 1) (φ 2) v0 v2 v3 v5 v10 v11 v12 v21 v22 v23) 2 h (Cont.bif (Cont.bif (Cont.bif (Cont.bif (Cont.bif (M231_2_c _ _ _ _ _ _ _ _ _ _) Cont.nn) Cont.nn) Cont.nn) Cont.nn) (M231_1_c _ _ _ _ _ _)) fun φ m hm => (congrArg (fun q => L231_2 (φ 0) (φ 1) q v0 v2 v3 v5 v10 v11 v12 v21 v22 v23) hm).trans (by kernel_rfl)
theorem M231_1_of (v0 v2 v3 v10 : List Dat) (v11 v12 : Int) {r : List Dat} (h : (bif decide (v12 < v11) then (bif decide (0 ≤ v12) then (bif decide (v12 < (v10.length : Int)) then (bif decide (v12.toNat < v10.length) then ((E C 32 [.shr 82 v0, .int .i64 ((rd v10 v12.toNat).I)]).bind fun d3 => (bif !((rd d3 0).B) then (M231_1 v0 v2 v3 v10 v11 (IntKind.i64.wrap (v12 + 1))) else ((E C 252 [.int .i64 ((rd v10 v12.toNat).I)]).bind fun d4 => (M231_2 v0 v2 v3 ((rd v10 v12.toNat).I) v10 v11 v12 ((rd d4 0).L) (((rd d4 0).L).length : Int) 0)))) else none) else none) else none) else ((E C 77 [.shr 82 v3]).bind fun d5 => (some [.list ((rd d5 0).L)])) : R) = some r) : M231_1 v0 v2 v3 v10 v11 v12 = some r := lim_st (g := fun φ => L231_1 (φ 0) (φ 1) v0 v2 v3 v10 v11 v12) 1 h (Cont.bif (Cont.bif (Cont.bif (Cont.bif (Cont.bind (Cont.call C 32 _) fun _ => (Cont.bif (M231_1_c _ _ _ _ _ _) (Cont.bind (Cont.call C 252 _) fun _ => (M231_2_e _ _ _ _ _ _ _ _ _ _)))) Cont.nn) Cont.nn) Cont.nn) (Cont.bind (Cont.call C 77 _) fun _ => (Cont.const _))) fun φ m hm => (congrArg (fun q => L231_1 (φ 0) q v0 v2 v3 v10 v11 v12) hm).trans (by kernel_rfl)
theorem o231 (a0 : List Dat) {r : List Dat} (h : ((E C 250 [.shr 82 a0]).bind fun d1 => ((E C 251 []).bind fun d2 => (M231_1 a0 ([] : List Dat) ((rd d1 0).L) ((rd d2 0).L) (((rd d2 0).L).length : Int) 0)) : R) = some r) : E C 231 [.shr 82 a0] = some r := E_st h (Cont.bind (Cont.call C 250 _) fun _ => (Cont.bind (Cont.call C 251 _) fun _ => (M231_1_e _ _ _ _ _ _))) fun φ => by kernel_rfl
/-- clew/fold.cased -/
noncomputable def f251 : Func := Tryz.f251
def kp251 : List Nat := [0, 1, 3, 4, 6, 7, 8, 9, 32, 33, 34]
noncomputable def c251 (p : List Nat) : Code := pick f251 p
noncomputable def L251_2 (n : Nat) (m1 : Nat) (m2 : Nat) (v0 v1 : List Dat) (v3_0 v3_1 v3_2 v3_3 v4 : Int) (v7 : List Dat) (v8 v9 : Int) : R := loopIter (fun E K => evCode C (ev C n) n kp251 (c251 [1, 1, 0, 1, 0, 0, 1, 1, 0, 0, 1, 1, 0, 0]) E K) [0, 1, 3, 4, 7, 8, 9] (Kblk 2 (Kblk 1 (Kseq C (ev C n) n kp251 (c251 [1, 1, 0, 1, 0, 0, 1, 1, 1]) (Klop (fun E K => evCode C (ev C n) n kp251 (c251 [1, 1, 0, 1, 0, 0]) E K) [0, 1, 7, 8, 9] (Kblk 0 (Kseq C (ev C n) n kp251 (c251 [1, 1, 1]) (Ktop C 251 f251 []))) m1)))) m2 [.own 0 0 3 v0, .own 1 0 3 v1, .und, .box 311 [.int .i64 v3_0, .int .i64 v3_1, .int .i64 v3_2, .int .i64 v3_3], .int .i64 v4, .und, .und, .shr 311 v7, .int .i64 v8, .int .i64 v9, .und, .und, .und, .und, .und, .und, .und, .und, .und, .und, .und, .und, .und, .und, .und, .und, .und, .und, .und, .und, .und, .und, .und, .und, .und, .und, .und, .und, .und, .und, .und, .und, .und, .und, .und, .und, .und]
noncomputable def M251_2 (v0 v1 : List Dat) (v3_0 v3_1 v3_2 v3_3 v4 : Int) (v7 : List Dat) (v8 v9 : Int) : R := lim fun φ => L251_2 (φ 0) (φ 1) (φ 2) v0 v1 v3_0 v3_1 v3_2 v3_3 v4 v7 v8 v9
theorem M251_2_c (v0 v1 : List Dat) (v3_0 v3_1 v3_2 v3_3 v4 : Int) (v7 : List Dat) (v8 v9 : Int) : Cont (fun φ => L251_2 (φ 0) (φ 1) (φ 2) v0 v1 v3_0 v3_1 v3_2 v3_3 v4 v7 v8 v9) (M251_2 v0 v1 v3_0 v3_1 v3_2 v3_3 v4 v7 v8 v9) := Cont.re id _
theorem M251_2_e (v0 v1 : List Dat) (v3_0 v3_1 v3_2 v3_3 v4 : Int) (v7 : List Dat) (v8 v9 : Int) : Cont (fun φ => L251_2 (φ 0) (φ 1) (φ 0) v0 v1 v3_0 v3_1 v3_2 v3_3 v4 v7 v8 v9) (M251_2 v0 v1 v3_0 v3_1 v3_2 v3_3 v4 v7 v8 v9) := Cont.re (toZ 2) fun φ => L251_2 (φ 0) (φ 1) (φ 2) v0 v1 v3_0 v3_1 v3_2 v3_3 v4 v7 v8 v9
noncomputable def L251_3 (n : Nat) (m1 : Nat) (v0 v1 v7 : List Dat) (v8 v9 : Int) (v32 : List Dat) (v33 v34 : Int) : R := loopIter (fun E K => evCode C (ev C n) n kp251 (c251 [1, 1, 1, 0, 1, 0, 0]) E K) [0, 1, 7, 8, 9, 32, 33, 34] (Kblk 4 (Kseq C (ev C n) n kp251 (c251 [1, 1, 1, 1]) (Ktop C 251 f251 []))) m1 [.own 0 0 3 v0, .own 1 0 3 v1, .und, .und, .und, .und, .und, .shr 311 v7, .int .i64 v8, .int .i64 v9, .und, .und, .und, .und, .und, .und, .und, .und, .und, .und, .und, .und, .und, .und, .und, .und, .und, .und, .und, .und, .und, .und, .shr 315 v32, .int .i64 v33, .int .i64 v34, .und, .und, .und, .und, .und, .und, .und, .und, .und, .und, .und, .und]
noncomputable def M251_3 (v0 v1 v7 : List Dat) (v8 v9 : Int) (v32 : List Dat) (v33 v34 : Int) : R := lim fun φ => L251_3 (φ 0) (φ 1) v0 v1 v7 v8 v9 v32 v33 v34
theorem M251_3_c (v0 v1 v7 : List Dat) (v8 v9 : Int) (v32 : List Dat) (v33 v34 : Int) : Cont (fun φ => L251_3 (φ 0) (φ 1) v0 v1 v7 v8 v9 v32 v33 v34) (M251_3 v0 v1 v7 v8 v9 v32 v33 v34) := Cont.re id _
theorem M251_3_e (v0 v1 v7 : List Dat) (v8 v9 : Int) (v32 : List Dat) (v33 v34 : Int) : Cont (fun φ => L251_3 (φ 0) (φ 0) v0 v1 v7 v8 v9 v32 v33 v34) (M251_3 v0 v1 v7 v8 v9 v32 v33 v34) := Cont.re (toZ 1) fun φ => L251_3 (φ 0) (φ 1) v0 v1 v7 v8 v9 v32 v33 v34
noncomputable def L251_1 (n : Nat) (m1 : Nat) (v0 v1 v7 : List Dat) (v8 v9 : Int) : R := loopIter (fun E K => evCode C (ev C n) n kp251 (c251 [1, 1, 0, 1, 0, 0]) E K) [0, 1, 7, 8, 9] (Kblk 0 (Kseq C (ev C n) n kp251 (c251 [1, 1, 1]) (Ktop C 251 f251 []))) m1 [.own 0 0 3 v0, .own 1 0 3 v1, .und, .und, .und, .und, .und, .shr 311 v7, .int .i64 v8, .int .i64 v9, .und, .und, .und, .und, .und, .und, .und, .und, .und, .und, .und, .und, .und, .und, .und, .und, .und, .und, .und, .und, .und, .und, .und, .und, .und, .und, .und, .und, .und, .und, .und, .und, .und, .und, .und, .und, .und]
noncomputable def M251_1 (v0 v1 v7 : List Dat) (v8 v9 : Int) : R := lim fun φ => L251_1 (φ 0) (φ 1) v0 v1 v7 v8 v9
theorem M251_1_c (v0 v1 v7 : List Dat) (v8 v9 : Int) : Cont (fun φ => L251_1 (φ 0) (φ 1) v0 v1 v7 v8 v9) (M251_1 v0 v1 v7 v8 v9) := Cont.re id _
theorem M251_1_e (v0 v1 v7 : List Dat) (v8 v9 : Int) : Cont (fun φ => L251_1 (φ 0) (φ 0) v0 v1 v7 v8 v9) (M251_1 v0 v1 v7 v8 v9) := Cont.re (toZ 1) fun φ => L251_1 (φ 0) (φ 1) v0 v1 v7 v8 v9
theorem M251_2_of (v0 v1 : List Dat) (v3_0 v3_1 v3_2 v3_3 v4 : Int) (v7 : List Dat) (v8 v9 : Int) {r : List Dat} (h : (bif decide (v4 ≤ v3_1) then (bif decide (v1.length + ([.int v4, .int (IntKind.i64.wrap (v4 + v3_3))] : List Dat).length ≤ capB 8) then (M251_2 v0 (v1 ++ ([.int v4, .int (IntKind.i64.wrap (v4 + v3_3))] : List Dat)) v3_0 v3_1 v3_2 v3_3 (IntKind.i64.wrap (v4 + v3_2)) v7 v8 v9) else none) else (M251_1 v0 v1 v7 v8 (IntKind.i64.wrap (v9 + 1))) : R) = some r) : M251_2 v0 v1 v3_0 v3_1 v3_2 v3_3 v4 v7 v8 v9 = some r := lim_st (g := fun φ => L251_2 (φ 0) (φ 1) (φ 2) v0 v1 v3_0 v3_1 v3_2 v3_3 v4 v7 v8 v9) 2 h (Cont.bif (Cont.bif (M251_2_c _ _ _ _ _ _ _ _ _ _) Cont.nn) (M251_1_c _ _ _ _ _)) fun φ m hm => (congrArg (fun q => L251_2 (φ 0) (φ 1) q v0 v1 v3_0 v3_1 v3_2 v3_3 v4 v7 v8 v9) hm).trans (by kernel_rfl)
theorem M251_3_of (v0 v1 v7 : List Dat) (v8 v9 : Int) (v32 : List Dat) (v33 v34 : Int) {r : List Dat} (h : (bif decide (v34 < v33) then (bif decide (0 ≤ v34) then (bif decide (v34 < (v32.length : Int)) then (bif decide (v34.toNat < v32.length) then (bif decide (v1.length + ([.int (((rd v32 v34.toNat).C 0).I), .int (((rd v32 v34.toNat).C 1).I)] : List Dat).length ≤ capB 8) then (M251_3 v0 (v1 ++ ([.int (((rd v32 v34.toNat).C 0).I), .int (((rd v32 v34.toNat).C 1).I)] : List Dat)) v7 v8 v9 v32 v33 (IntKind.i64.wrap (v34 + 1))) else none) else none) else none) else none) else (some [.list v1]) : R) = some r) : M251_3 v0 v1 v7 v8 v9 v32 v33 v34 = some r := lim_st (g := fun φ => L251_3 (φ 0) (φ 1) v0 v1 v7 v8 v9 v32 v33 v34) 1 h (Cont.bif (Cont.bif (Cont.bif (Cont.bif (Cont.bif (M251_3_c _ _ _ _ _ _ _ _) Cont.nn) Cont.nn) Cont.nn) Cont.nn) (Cont.const _)) fun φ m hm => (congrArg (fun q => L251_3 (φ 0) q v0 v1 v7 v8 v9 v32 v33 v34) hm).trans (by kernel_rfl)
theorem M251_1_of (v0 v1 v7 : List Dat) (v8 v9 : Int) {r : List Dat} (h : (bif decide (v9 < v8) then (bif decide (0 ≤ v9) then (bif decide (v9 < (v7.length : Int)) then (bif decide (v9.toNat < v7.length) then (M251_2 v0 v1 (((rd v7 v9.toNat).C 0).I) (((rd v7 v9.toNat).C 1).I) (((rd v7 v9.toNat).C 2).I) (((rd v7 v9.toNat).C 3).I) (((rd v7 v9.toNat).C 0).I) v7 v8 v9) else none) else none) else none) else ((E C 270 []).bind fun d2 => (M251_3 v0 v1 v7 v8 v9 ((rd d2 0).L) (((rd d2 0).L).length : Int) 0)) : R) = some r) : M251_1 v0 v1 v7 v8 v9 = some r := lim_st (g := fun φ => L251_1 (φ 0) (φ 1) v0 v1 v7 v8 v9) 1 h (Cont.bif (Cont.bif (Cont.bif (Cont.bif (M251_2_e _ _ _ _ _ _ _ _ _ _) Cont.nn) Cont.nn) Cont.nn) (Cont.bind (Cont.call C 270 _) fun _ => (M251_3_e _ _ _ _ _ _ _ _))) fun φ m hm => (congrArg (fun q => L251_1 (φ 0) q v0 v1 v7 v8 v9) hm).trans (by kernel_rfl)
theorem o251 {r : List Dat} (h : ((E C 269 []).bind fun d1 => (M251_1 ([] : List Dat) ([] : List Dat) ((rd d1 0).L) (((rd d1 0).L).length : Int) 0) : R) = some r) : E C 251 [] = some r := E_st h (Cont.bind (Cont.call C 269 _) fun _ => (M251_1_e _ _ _ _ _)) fun φ => by kernel_rfl
/-- clew/fold.Orbit -/
noncomputable def f252 : Func := Tryz.f252
def kp252 : List Nat := [0, 2, 3, 4, 6, 8, 19, 20, 21, 39, 40, 41]
noncomputable def c252 (p : List Nat) : Code := pick f252 p
noncomputable def L252_2 (n : Nat) (m1 : Nat) (v0 : Int) (v2 : List Dat) (v3 : Int) (v4 v19 : List Dat) (v20 v21 : Int) (v39 : List Dat) (v40 v41 : Int) : R := loopIter (fun E K => evCode C (ev C n) n kp252 (c252 [1, 1, 1, 1, 1, 0, 1, 0, 0]) E K) [0, 2, 3, 4, 19, 20, 21, 39, 40, 41] (Kblk 2 (Kseq C (ev C n) n kp252 (c252 [1, 1, 1, 1, 1, 1]) (Ktop C 252 f252 [.und]))) m1 [.int .i64 v0, .und, .own 2 0 3 v2, .int .i64 v3, .own 4 0 3 v4, .und, .und, .und, .und, .und, .und, .und, .und, .und, .und, .und, .und, .und, .und, .shr 311 v19, .int .i64 v20, .int .i64 v21, .und, .und, .und, .und, .und, .und, .und, .und, .und, .und, .und, .und, .und, .und, .und, .und, .und, .shr 315 v39, .int .i64 v40, .int .i64 v41, .und, .und, .und, .und, .und, .und, .und, .und, .und, .und, .und, .und, .und, .und, .und, .und]
noncomputable def M252_2 (v0 : Int) (v2 : List Dat) (v3 : Int) (v4 v19 : List Dat) (v20 v21 : Int) (v39 : List Dat) (v40 v41 : Int) : R := lim fun φ => L252_2 (φ 0) (φ 1) v0 v2 v3 v4 v19 v20 v21 v39 v40 v41
theorem M252_2_c (v0 : Int) (v2 : List Dat) (v3 : Int) (v4 v19 : List Dat) (v20 v21 : Int) (v39 : List Dat) (v40 v41 : Int) : Cont (fun φ => L252_2 (φ 0) (φ 1) v0 v2 v3 v4 v19 v20 v21 v39 v40 v41) (M252_2 v0 v2 v3 v4 v19 v20 v21 v39 v40 v41) := Cont.re id _
theorem M252_2_e (v0 : Int) (v2 : List Dat) (v3 : Int) (v4 v19 : List Dat) (v20 v21 : Int) (v39 : List Dat) (v40 v41 : Int) : Cont (fun φ => L252_2 (φ 0) (φ 0) v0 v2 v3 v4 v19 v20 v21 v39 v40 v41) (M252_2 v0 v2 v3 v4 v19 v20 v21 v39 v40 v41) := Cont.re (toZ 1) fun φ => L252_2 (φ 0) (φ 1) v0 v2 v3 v4 v19 v20 v21 v39 v40 v41
noncomputable def L252_1 (n : Nat) (m1 : Nat) (v0 : Int) (v2 : List Dat) (v3 : Int) (v4 v19 : List Dat) (v20 v21 : Int) : R := loopIter (fun E K => evCode C (ev C n) n kp252 (c252 [1, 1, 1, 1, 0, 1, 0, 0]) E K) [0, 2, 3, 4, 19, 20, 21] (Kblk 0 (Kseq C (ev C n) n kp252 (c252 [1, 1, 1, 1, 1]) (Ktop C 252 f252 [.und]))) m1 [.int .i64 v0, .und, .own 2 0 3 v2, .int .i64 v3, .own 4 0 3 v4, .und, .und, .und, .und, .und, .und, .und, .und, .und, .und, .und, .und, .und, .und, .shr 311 v19, .int .i64 v20, .int .i64 v21, .und, .und, .und, .und, .und, .und, .und, .und, .und, .und, .und, .und, .und, .und, .und, .und, .und, .und, .und, .und, .und, .und, .und, .und, .und, .und, .und, .und, .und, .und, .und, .und, .und, .und, .und, .und]
noncomputable def M252_1 (v0 : Int) (v2 : List Dat) (v3 : Int) (v4 v19 : List Dat) (v20 v21 : Int) : R := lim fun φ => L252_1 (φ 0) (φ 1) v0 v2 v3 v4 v19 v20 v21
theorem M252_1_c (v0 : Int) (v2 : List Dat) (v3 : Int) (v4 v19 : List Dat) (v20 v21 : Int) : Cont (fun φ => L252_1 (φ 0) (φ 1) v0 v2 v3 v4 v19 v20 v21) (M252_1 v0 v2 v3 v4 v19 v20 v21) := Cont.re id _
theorem M252_1_e (v0 : Int) (v2 : List Dat) (v3 : Int) (v4 v19 : List Dat) (v20 v21 : Int) : Cont (fun φ => L252_1 (φ 0) (φ 0) v0 v2 v3 v4 v19 v20 v21) (M252_1 v0 v2 v3 v4 v19 v20 v21) := Cont.re (toZ 1) fun φ => L252_1 (φ 0) (φ 1) v0 v2 v3 v4 v19 v20 v21
theorem M252_2_of (v0 : Int) (v2 : List Dat) (v3 : Int) (v4 v19 : List Dat) (v20 v21 : Int) (v39 : List Dat) (v40 v41 : Int) {r : List Dat} (h : (bif decide (v41 < v40) then (bif decide (0 ≤ v41) then (bif decide (v41 < (v39.length : Int)) then (bif decide (v41.toNat < v39.length) then (bif (((rd v39 v41.toNat).C 1).I) == v3 then (bif decide (v4.length + ([.int (((rd v39 v41.toNat).C 0).I)] : List Dat).length ≤ capB 8) then (M252_2 v0 v2 v3 (v4 ++ ([.int (((rd v39 v41.toNat).C 0).I)] : List Dat)) v19 v20 v21 v39 v40 (IntKind.i64.wrap (v41 + 1))) else none) else (M252_2 v0 v2 v3 v4 v19 v20 v21 v39 v40 (IntKind.i64.wrap (v41 + 1)))) else none) else none) else none) else ((E C 273 [.shr 3 v4]).bind fun d5 => (some [.list ((rd d5 0).L)])) : R) = some r) : M252_2 v0 v2 v3 v4 v19 v20 v21 v39 v40 v41 = some r := lim_st (g := fun φ => L252_2 (φ 0) (φ 1) v0 v2 v3 v4 v19 v20 v21 v39 v40 v41) 1 h (Cont.bif (Cont.bif (Cont.bif (Cont.bif (Cont.bif (Cont.bif (M252_2_c _ _ _ _ _ _ _ _ _ _) Cont.nn) (M252_2_c _ _ _ _ _ _ _ _ _ _)) Cont.nn) Cont.nn) Cont.nn) (Cont.bind (Cont.call C 273 _) fun _ => (Cont.const _))) fun φ m hm => (congrArg (fun q => L252_2 (φ 0) q v0 v2 v3 v4 v19 v20 v21 v39 v40 v41) hm).trans (by kernel_rfl)
theorem M252_1_of (v0 : Int) (v2 : List Dat) (v3 : Int) (v4 v19 : List Dat) (v20 v21 : Int) {r : List Dat} (h : (bif decide (v21 < v20) then (bif decide (0 ≤ v21) then (bif decide (v21 < (v19.length : Int)) then (bif decide (v21.toNat < v19.length) then ((E C 272 [.agg [.int .i64 (((rd v19 v21.toNat).C 0).I), .int .i64 (((rd v19 v21.toNat).C 1).I), .int .i64 (((rd v19 v21.toNat).C 2).I), .int .i64 (((rd v19 v21.toNat).C 3).I)], .int .i64 (IntKind.i64.wrap (v3 - (((rd v19 v21.toNat).C 3).I)))]).bind fun d3 => (bif (rd d3 0).B then (bif decide (v4.length + ([.int (IntKind.i64.wrap (v3 - (((rd v19 v21.toNat).C 3).I)))] : List Dat).length ≤ capB 8) then (M252_1 v0 v2 v3 (v4 ++ ([.int (IntKind.i64.wrap (v3 - (((rd v19 v21.toNat).C 3).I)))] : List Dat)) v19 v20 (IntKind.i64.wrap (v21 + 1))) else none) else (M252_1 v0 v2 v3 v4 v19 v20 (IntKind.i64.wrap (v21 + 1))))) else none) else none) else none) else ((E C 270 []).bind fun d4 => (M252_2 v0 v2 v3 v4 v19 v20 v21 ((rd d4 0).L) (((rd d4 0).L).length : Int) 0)) : R) = some r) : M252_1 v0 v2 v3 v4 v19 v20 v21 = some r := lim_st (g := fun φ => L252_1 (φ 0) (φ 1) v0 v2 v3 v4 v19 v20 v21) 1 h (Cont.bif (Cont.bif (Cont.bif (Cont.bif (Cont.bind (Cont.call C 272 _) fun _ => (Cont.bif (Cont.bif (M252_1_c _ _ _ _ _ _ _) Cont.nn) (M252_1_c _ _ _ _ _ _ _))) Cont.nn) Cont.nn) Cont.nn) (Cont.bind (Cont.call C 270 _) fun _ => (M252_2_e _ _ _ _ _ _ _ _ _ _))) fun φ m hm => (congrArg (fun q => L252_1 (φ 0) q v0 v2 v3 v4 v19 v20 v21) hm).trans (by kernel_rfl)
theorem o252 (a0 : Int) {r : List Dat} (h : (bif decide (a0 < 0) then (some [.list ([] : List Dat)]) else (bif decide (a0 > 1114367) then (some [.list ([] : List Dat)]) else ((E C 271 [.int .i64 a0]).bind fun d1 => ((E C 269 []).bind fun d2 => (M252_1 a0 ([] : List Dat) ((rd d1 0).I) ([.int ((rd d1 0).I)] : List Dat) ((rd d2 0).L) (((rd d2 0).L).length : Int) 0)))) : R) = some r) : E C 252 [.int .i64 a0] = some r := E_st h (Cont.bif (Cont.const _) (Cont.bif (Cont.const _) (Cont.bind (Cont.call C 271 _) fun _ => (Cont.bind (Cont.call C 269 _) fun _ => (M252_1_e _ _ _ _ _ _ _))))) fun φ => by kernel_rfl
theorem o269 {r : List Dat} (h : (some [.list ([.agg [.int 65, .int 90, .int 1, .int 32], .agg [.int 192, .int 214, .int 1, .int 32], .agg [.int 216, .int 222, .int 1, .int 32], .agg [.int 256, .int 302, .int 2, .int 1], .agg [.int 306, .int 310, .int 2, .int 1], .agg [.int 313, .int 327, .int 2, .int 1], .agg [.int 330, .int 374, .int 2, .int 1], .agg [.int 377, .int 381, .int 2, .int 1], .agg [.int 913, .int 929, .int 1, .int 32], .agg [.int 931, .int 939, .int 1, .int 32], .agg [.int 1024, .int 1039, .int 1, .int 80], .agg [.int 1040, .int 1071, .int 1, .int 32], .agg [.int 1120, .int 1152, .int 2, .int 1], .agg [.int 1329, .int 1366, .int 1, .int 48], .agg [.int 7680, .int 7828, .int 2, .int 1], .agg [.int 9398, .int 9423, .int 1, .int 26], .agg [.int 65313, .int 65338, .int 1, .int 32], .agg [.int 66560, .int 66599, .int 1, .int 40]] : List Dat)] : R) = some r) : E C 269 [] = some r := E_st h (Cont.const _) fun φ => by kernel_rfl
theorem o270 {r : List Dat} (h : (some [.list ([.agg [.int 181, .int 956], .agg [.int 376, .int 255], .agg [.int 383, .int 115], .agg [.int 962, .int 963], .agg [.int 8490, .int 107], .agg [.int 8491, .int 229]] : List Dat)] : R) = some r) : E C 270 [] = some r := E_st h (Cont.const _) fun φ => by kernel_rfl
/-- clew/fold.base -/
noncomputable def f271 : Func := Tryz.f271
def kp271 : List Nat := [0, 2, 4, 6, 7, 8, 9, 20, 21, 22]
noncomputable def c271 (p : List Nat) : Code := pick f271 p
noncomputable def L271_2 (n : Nat) (m1 : Nat) (v0 v2 : Int) (v7 : List Dat) (v8 v9 : Int) (v20 : List Dat) (v21 v22 : Int) : R := loopIter (fun E K => evCode C (ev C n) n kp271 (c271 [1, 1, 0, 1, 0, 0]) E K) [0, 2, 7, 8, 9, 20, 21, 22] (Kblk 2 (Kseq C (ev C n) n kp271 (c271 [1, 1, 1]) (Ktop C 271 f271 [.und]))) m1 [.int .i64 v0, .und, .int .i64 v2, .und, .und, .und, .und, .shr 315 v7, .int .i64 v8, .int .i64 v9, .und, .und, .und, .und, .und, .und, .und, .und, .und, .und, .shr 311 v20, .int .i64 v21, .int .i64 v22, .und, .und, .und, .und, .und, .und, .und, .und, .und, .und, .und, .und]
noncomputable def M271_2 (v0 v2 : Int) (v7 : List Dat) (v8 v9 : Int) (v20 : List Dat) (v21 v22 : Int) : R := lim fun φ => L271_2 (φ 0) (φ 1) v0 v2 v7 v8 v9 v20 v21 v22
theorem M271_2_c (v0 v2 : Int) (v7 : List Dat) (v8 v9 : Int) (v20 : List Dat) (v21 v22 : Int) : Cont (fun φ => L271_2 (φ 0) (φ 1) v0 v2 v7 v8 v9 v20 v21 v22) (M271_2 v0 v2 v7 v8 v9 v20 v21 v22) := Cont.re id _
theorem M271_2_e (v0 v2 : Int) (v7 : List Dat) (v8 v9 : Int) (v20 : List Dat) (v21 v22 : Int) : Cont (fun φ => L271_2 (φ 0) (φ 0) v0 v2 v7 v8 v9 v20 v21 v22) (M271_2 v0 v2 v7 v8 v9 v20 v21 v22) := Cont.re (toZ 1) fun φ => L271_2 (φ 0) (φ 1) v0 v2 v7 v8 v9 v20 v21 v22
noncomputable def L271_1 (n : Nat) (m1 : Nat) (v0 v2 : Int) (v7 : List Dat) (v8 v9 : Int) : R := loopIter (fun E K => evCode C (ev C n) n kp271 (c271 [1, 0, 1, 0, 0]) E K) [0, 2, 7, 8, 9] (Kblk 0 (Kseq C (ev C n) n kp271 (c271 [1, 1]) (Ktop C 271 f271 [.und]))) m1 [.int .i64 v0, .und, .int .i64 v2, .und, .und, .und, .und, .shr 315 v7, .int .i64 v8, .int .i64 v9, .und, .und, .und, .und, .und, .und, .und, .und, .und, .und, .und, .und, .und, .und, .und, .und, .und, .und, .und, .und, .und, .und, .und, .und, .und]
noncomputable def M271_1 (v0 v2 : Int) (v7 : List Dat) (v8 v9 : Int) : R := lim fun φ => L271_1 (φ 0) (φ 1) v0 v2 v7 v8 v9
theorem M271_1_c (v0 v2 : Int) (v7 : List Dat) (v8 v9 : Int) : Cont (fun φ => L271_1 (φ 0) (φ 1) v0 v2 v7 v8 v9) (M271_1 v0 v2 v7 v8 v9) := Cont.re id _
theorem M271_1_e (v0 v2 : Int) (v7 : List Dat) (v8 v9 : Int) : Cont (fun φ => L271_1 (φ 0) (φ 0) v0 v2 v7 v8 v9) (M271_1 v0 v2 v7 v8 v9) := Cont.re (toZ 1) fun φ => L271_1 (φ 0) (φ 1) v0 v2 v7 v8 v9
theorem M271_2_of (v0 v2 : Int) (v7 : List Dat) (v8 v9 : Int) (v20 : List Dat) (v21 v22 : Int) {r : List Dat} (h : (bif decide (v22 < v21) then (bif decide (0 ≤ v22) then (bif decide (v22 < (v20.length : Int)) then (bif decide (v22.toNat < v20.length) then ((E C 272 [.agg [.int .i64 (((rd v20 v22.toNat).C 0).I), .int .i64 (((rd v20 v22.toNat).C 1).I), .int .i64 (((rd v20 v22.toNat).C 2).I), .int .i64 (((rd v20 v22.toNat).C 3).I)], .int .i64 v0]).bind fun d3 => (bif (rd d3 0).B then (some [.int (IntKind.i64.wrap (v0 + (((rd v20 v22.toNat).C 3).I)))]) else (M271_2 v0 v2 v7 v8 v9 v20 v21 (IntKind.i64.wrap (v22 + 1))))) else none) else none) else none) else (some [.int v0]) : R) = some r) : M271_2 v0 v2 v7 v8 v9 v20 v21 v22 = some r := lim_st (g := fun φ => L271_2 (φ 0) (φ 1) v0 v2 v7 v8 v9 v20 v21 v22) 1 h (Cont.bif (Cont.bif (Cont.bif (Cont.bif (Cont.bind (Cont.call C 272 _) fun _ => (Cont.bif (Cont.const _) (M271_2_c _ _ _ _ _ _ _ _))) Cont.nn) Cont.nn) Cont.nn) (Cont.const _)) fun φ m hm => (congrArg (fun q => L271_2 (φ 0) q v0 v2 v7 v8 v9 v20 v21 v22) hm).trans (by kernel_rfl)
theorem M271_1_of (v0 v2 : Int) (v7 : List Dat) (v8 v9 : Int) {r : List Dat} (h : (bif decide (v9 < v8) then (bif decide (0 ≤ v9) then (bif decide (v9 < (v7.length : Int)) then (bif decide (v9.toNat < v7.length) then (bif (((rd v7 v9.toNat).C 0).I) == v0 then (some [.int (((rd v7 v9.toNat).C 1).I)]) else (M271_1 v0 v2 v7 v8 (IntKind.i64.wrap (v9 + 1)))) else none) else none) else none) else ((E C 269 []).bind fun d2 => (M271_2 v0 v2 v7 v8 v9 ((rd d2 0).L) (((rd d2 0).L).length : Int) 0)) : R) = some r) : M271_1 v0 v2 v7 v8 v9 = some r := lim_st (g := fun φ => L271_1 (φ 0) (φ 1) v0 v2 v7 v8 v9) 1 h (Cont.bif (Cont.bif (Cont.bif (Cont.bif (Cont.bif (Cont.const _) (M271_1_c _ _ _ _ _)) Cont.nn) Cont.nn) Cont.nn) (Cont.bind (Cont.call C 269 _) fun _ => (M271_2_e _ _ _ _ _ _ _ _))) fun φ m hm => (congrArg (fun q => L271_1 (φ 0) q v0 v2 v7 v8 v9) hm).trans (by kernel_rfl)
theorem o271 (a0 : Int) {r : List Dat} (h : ((E C 270 []).bind fun d1 => (M271_1 a0 0 ((rd d1 0).L) (((rd d1 0).L).length : Int) 0) : R) = some r) : E C 271 [.int .i64 a0] = some r := E_st h (Cont.bind (Cont.call C 270 _) fun _ => (M271_1_e _ _ _ _ _)) fun φ => by kernel_rfl
theorem o272 (a0_0 a0_1 a0_2 a0_3 a1 : Int) {r : List Dat} (h : (bif decide (a1 ≥ a0_0) then (bif decide (a1 ≤ a0_1) then (bif a0_2 != 0 then (some [.bool (((IntKind.i64.wrap (a1 - a0_0)).tmod a0_2) == 0)]) else none) else (some [.bool false])) else (some [.bool false]) : R) = some r) : E C 272 [.agg [.int .i64 a0_0, .int .i64 a0_1, .int .i64 a0_2, .int .i64 a0_3], .int .i64 a1] = some r := E_st h (Cont.bif (Cont.bif (Cont.bif (Cont.const _) Cont.nn) (Cont.const _)) (Cont.const _)) fun φ => by kernel_rfl
end Go.Proofs.YtlofoifcdmeopaaGreatDoor.V
namespace Go.Proofs.YtlofoifcdmeopaaGreatDoor.V
open Go Go.Ev Go.RowKit
set_option linter.unusedVariables false
set_option linter.unusedSimpArgs false
abbrev Row := Int × Int × Int × Int
def rowsL : List Row := [(65, 90, 1, 32), (192, 214, 1, 32), (216, 222, 1, 32), (256, 302, 2, 1), (306, 310, 2, 1), (313, 327, 2, 1), (330, 374, 2, 1), (377, 381, 2, 1), (913, 929, 1, 32), (931, 939, 1, 32), (1024, 1039, 1, 80), (1040, 1071, 1, 32), (1120, 1152, 2, 1), (1329, 1366, 1, 48), (7680, 7828, 2, 1), (9398, 9423, 1, 26), (65313, 65338, 1, 32), (66560, 66599, 1, 40)]
def sinL : List (Int × Int) := [(181, 956), (376, 255), (383, 115), (962, 963), (8490, 107), (8491, 229)]
def rowsD (l : List Row) : List Dat := l.map fun r => .agg [.int r.1, .int r.2.1, .int r.2.2.1, .int r.2.2.2]
theorem rowsD_rd (l : List Row) (i : Nat) (h : i < l.length) : rd (rowsD l) i = .agg [.int (l[i]).1, .int (l[i]).2.1, .int (l[i]).2.2.1, .int (l[i]).2.2.2] := by simp [rd, rowsD, h]
def upB (r : Row) (x : Int) : Bool := decide (r.1 ≤ x) && (decide (x ≤ r.2.1) && ((x - r.1) % r.2.2.1 == 0))
structure OkRow (r : Row) : Prop where
  f0 : 0 ≤ r.1
  f1 : r.1 ≤ 100000
  t1 : r.2.1 ≤ 100000
  s : r.2.2.1 = 1 ∨ r.2.2.1 = 2
  b0 : 0 < r.2.2.2
  b1 : r.2.2.2 ≤ 100
theorem rows_ok {r : Row} (h : r ∈ rowsL) : OkRow r := by
  have key : ∀ r, r ∈ rowsL → 0 ≤ r.1 ∧ r.1 ≤ 100000 ∧ r.2.1 ≤ 100000 ∧ (r.2.2.1 = 1 ∨ r.2.2.1 = 2) ∧ 0 < r.2.2.2 ∧ r.2.2.2 ≤ 100 := by decide
  obtain ⟨h1, h2, h3, h4, h5, h6⟩ := key r h
  exact ⟨h1, h2, h3, h4, h5, h6⟩
def findW (l : List Row) (x : Int) : Int := match l.find? (fun r => upB r x) with | some r => x + r.2.2.2 | none => x
def WS (s : List (Int × Int)) (x : Int) : Int := match s.find? (fun p => p.1 == x) with | some p => p.2 | none => findW rowsL x
/-- What a symbol goes with. -/
def W (x : Int) : Int := WS sinL x
theorem findW_cons (r : Row) (l : List Row) (x : Int) : findW (r :: l) x = if upB r x = true then x + r.2.2.2 else findW l x := by
  unfold findW
  rw [List.find?_cons]
  cases upB r x <;> rfl
theorem WS_cons (p : Int × Int) (s : List (Int × Int)) (x : Int) : WS (p :: s) x = if p.1 = x then p.2 else WS s x := by
  unfold WS
  rw [List.find?_cons]
  by_cases h : p.1 = x
  · rw [if_pos h, show (p.1 == x) = true from by simpa using h]
  · rw [if_neg h, beq_false_of_ne h]
theorem upper_E {r : Row} (hr : OkRow r) (x : Int) (hx : -1000000 ≤ x ∧ x ≤ 2000000) : E C 272 [.agg [.int .i64 r.1, .int .i64 r.2.1, .int .i64 r.2.2.1, .int .i64 r.2.2.2], .int .i64 x] = some [.bool (upB r x)] := by
  obtain ⟨g1, g2, g3, g4, g5, g6⟩ := hr
  apply o272
  unfold upB
  by_cases h0 : x ≥ r.1
  · rw [dT h0, decide_eq_true h0]
    by_cases h1 : x ≤ r.2.1
    · rw [dT h1, decide_eq_true h1, cT (by rcases g4 with h | h <;> rw [h] <;> rfl), w64 (by omega) (by omega), Int.tmod_eq_emod_of_nonneg (by omega)]
      rfl
    · rw [dF h1, decide_eq_false h1]; rfl
  · rw [dF h0, decide_eq_false h0]; rfl
theorem base_rows (l : List Row) (hl : ∀ r, r ∈ l → OkRow r) (hlen : l.length ≤ 1000) (x : Int) (hx : 0 ≤ x ∧ x ≤ 2000000) (v2 v8 v9 : Int) (v7 : List Dat) : ∀ (d k : Nat), l.length - k = d → k ≤ l.length →
    M271_2 x v2 v7 v8 v9 (rowsD l) (l.length : Int) (k : Int) = some [.int (findW (l.drop k) x)] := by
  intro d
  have hrl : (rowsD l).length = l.length := by simp [rowsD]
  induction d with
  | zero =>
    intro k hd hk
    apply M271_2_of
    rw [dF (by omega), List.drop_of_length_le (by omega)]
    rfl
  | succ d ih =>
    intro k hd hk
    have hlt : k < l.length := by omega
    have hr := hl _ (List.getElem_mem hlt)
    have hn := ih (k + 1) (by omega) (by omega)
    have hb1 := hr.b1
    have hb0 := hr.b0
    apply M271_2_of
    rw [hrl, dT (by omega), dT (by omega), dT (by omega), dT (by omega), Int.toNat_natCast, rowsD_rd l k hlt]
    refine (bT (upper_E hr x (by omega))).trans ?_
    rw [List.drop_eq_getElem_cons hlt, findW_cons]
    simp only [rd0, datB]
    cases hu : upB l[k] x with
    | true =>
      rw [if_pos rfl]
      show (some [.int (IntKind.i64.wrap (x + (l[k]).2.2.2))] : R) = _
      rw [w64 (by omega) (by omega)]
    | false =>
      rw [if_neg (by simp)]
      show M271_2 _ _ _ _ _ _ _ _ = _
      rw [w64 (by omega) (by omega)]
      exact hn
theorem rowsF_E : E C 269 [] = some [.list (rowsD rowsL)] := by
  apply o269
  rfl
theorem sinsF_E : E C 270 [] = some [.list (rs sinL)] := by
  apply o270
  rfl
theorem base_sin (s : List (Int × Int)) (hlen : s.length ≤ 1000) (x : Int) (hx : 0 ≤ x ∧ x ≤ 2000000) (v2 : Int) : ∀ (d k : Nat), s.length - k = d → k ≤ s.length →
    M271_1 x v2 (rs s) (s.length : Int) (k : Int) = some [.int (WS (s.drop k) x)] := by
  intro d
  have hrl : (rs s).length = s.length := rs_len s
  induction d with
  | zero =>
    intro k hd hk
    apply M271_1_of
    rw [dF (by omega), bT rowsF_E, List.drop_of_length_le (by omega)]
    simp only [rd0, datL]
    exact base_rows rowsL (fun r hr => rows_ok hr) (by decide) x hx _ _ _ _ rowsL.length 0 rfl (by omega)
  | succ d ih =>
    intro k hd hk
    have hlt : k < s.length := by omega
    have hn := ih (k + 1) (by omega) (by omega)
    apply M271_1_of
    rw [hrl, dT (by omega), dT (by omega), dT (by omega), dT (by omega), Int.toNat_natCast, rs_rd s k hlt, List.drop_eq_getElem_cons hlt, WS_cons]
    by_cases h : (s[k]).1 = x
    · rw [if_pos h]
      exact eT h
    · rw [if_neg h]
      refine (eF h).trans ?_
      rw [w64 (by omega) (by omega)]
      exact hn
theorem base_E (x : Int) (hx : 0 ≤ x ∧ x ≤ 2000000) : E C 271 [.int .i64 x] = some [.int (W x)] := by
  apply o271
  rw [bT sinsF_E]
  simp only [rd0, datL]
  exact base_sin sinL (by decide) x hx _ sinL.length 0 rfl (by omega)
/-! The document's. -/
theorem rowsL_len : rowsL.length = 18 := rfl
theorem rowsDL_len : (rowsD rowsL).length = 18 := rfl
theorem rsS_len : (rs sinL).length = 6 := rfl
end Go.Proofs.YtlofoifcdmeopaaGreatDoor.V
namespace Go.Proofs.YtlofoifcdmeopaaGreatDoor.V
open Go Go.Ev Go.RowKit
set_option linter.unusedVariables false
set_option linter.unusedSimpArgs false
def ups (l : List Row) (b : Int) : List Int := l.filterMap fun r => if upB r (b - r.2.2.2) = true then some (b - r.2.2.2) else none
def sins (l : List (Int × Int)) (b : Int) : List Int := l.filterMap fun s => if s.2 = b then some s.1 else none
def P (b : Int) : List Int := [b] ++ ups rowsL b ++ sins sinL b
theorem Sort_E (l : List Int) (h : l.length < 1000000) : E C 273 [.shr 3 (l.map .int)] = some [.list ((sortI l).map .int)] := by
  refine E_given (h := gSortI 3) (by kernel_rfl) ?_
  simp only [gSortI, ints_map, List.length_map]
  rw [show decide (l.length < 4611686018427387904) = true from decide_eq_true (by omega)]
  rfl
theorem cap8 : capB 8 = 17592186044416 := by decide
theorem orb_sin (b : Int) (v0 : Int) (v2 v19 : List Dat) (v20 v21 : Int) : ∀ (d k : Nat) (acc : List Int), 6 - k = d → k ≤ 6 → acc.length ≤ 100 + k →
    M252_2 v0 v2 b (acc.map .int) v19 v20 v21 (rs sinL) 6 (k : Int) = some [.list ((sortI (acc ++ sins (sinL.drop k) b)).map .int)] := by
  intro d
  have hc := cap8
  induction d with
  | zero =>
    intro k acc hd hk ha
    apply M252_2_of
    rw [dF (by omega), bT (Sort_E acc (by omega)), List.drop_of_length_le (by show sinL.length ≤ k; have : sinL.length = 6 := rfl; omega)]
    simp [sins]
  | succ d ih =>
    intro k acc hd hk ha
    have hlt : k < sinL.length := by show k < 6; omega
    apply M252_2_of
    rw [rsS_len, dT (by omega), dT (by omega), dT (by omega), dT (by omega), Int.toNat_natCast, rs_rd sinL k hlt, List.drop_eq_getElem_cons hlt]
    have c1 : ((Dat.agg [Dat.int (sinL[k]).1, Dat.int (sinL[k]).2]).C 1).I = (sinL[k]).2 := rfl
    have c0 : ((Dat.agg [Dat.int (sinL[k]).1, Dat.int (sinL[k]).2]).C 0).I = (sinL[k]).1 := rfl
    rw [c1, c0, w64 (by omega) (by omega)]
    have e : sins (sinL[k] :: sinL.drop (k + 1)) b = (if (sinL[k]).2 = b then [(sinL[k]).1] else []) ++ sins (sinL.drop (k + 1)) b := by
      unfold sins
      rw [List.filterMap_cons]
      by_cases h : (sinL[k]).2 = b
      · simp [h]
      · simp [h]
    rw [e]
    by_cases h : (sinL[k]).2 = b
    · rw [eT h, if_pos h, dT (by simp only [List.length_map, List.length_cons, List.length_nil]; omega)]
      have := ih (k + 1) (acc ++ [(sinL[k]).1]) (by omega) (by omega) (by simp; omega)
      simpa using this
    · rw [eF h, if_neg h]
      have := ih (k + 1) acc (by omega) (by omega) (by omega)
      simpa using this
theorem orb_rows (b : Int) (hb : 0 ≤ b ∧ b ≤ 2000000) (v0 : Int) (v2 : List Dat) : ∀ (d k : Nat) (acc : List Int), 18 - k = d → k ≤ 18 → acc.length ≤ 1 + k →
    M252_1 v0 v2 b (acc.map .int) (rowsD rowsL) 18 (k : Int) = some [.list ((sortI (acc ++ ups (rowsL.drop k) b ++ sins sinL b)).map .int)] := by
  intro d
  have hc := cap8
  induction d with
  | zero =>
    intro k acc hd hk ha
    apply M252_1_of
    rw [dF (by omega), bT sinsF_E]
    simp only [rd0, datL, rsS_len]
    refine (orb_sin b v0 v2 _ _ _ 6 0 acc rfl (by omega) (by omega)).trans ?_
    have e : rowsL.drop k = [] := List.drop_of_length_le (by rw [rowsL_len]; omega)
    rw [e, List.drop_zero]
    simp [ups]
  | succ d ih =>
    intro k acc hd hk ha
    have hlt : k < rowsL.length := by show k < 18; omega
    have hr := rows_ok (List.getElem_mem hlt)
    have hb1 := hr.b1
    have hb0 := hr.b0
    apply M252_1_of
    rw [rowsDL_len, dT (by omega), dT (by omega), dT (by omega), dT (by omega), Int.toNat_natCast, rowsD_rd rowsL k hlt, List.drop_eq_getElem_cons hlt]
    generalize rowsL[k] = r at hr hb0 hb1 ⊢
    have c0 : ((Dat.agg [Dat.int r.1, Dat.int r.2.1, Dat.int r.2.2.1, Dat.int r.2.2.2]).C 0).I = r.1 := rfl
    have c1 : ((Dat.agg [Dat.int r.1, Dat.int r.2.1, Dat.int r.2.2.1, Dat.int r.2.2.2]).C 1).I = r.2.1 := rfl
    have c2 : ((Dat.agg [Dat.int r.1, Dat.int r.2.1, Dat.int r.2.2.1, Dat.int r.2.2.2]).C 2).I = r.2.2.1 := rfl
    have c3 : ((Dat.agg [Dat.int r.1, Dat.int r.2.1, Dat.int r.2.2.1, Dat.int r.2.2.2]).C 3).I = r.2.2.2 := rfl
    rw [c0, c1, c2, c3, w64 (n := b - r.2.2.2) (by omega) (by omega), w64 (n := (k : Int) + 1) (by omega) (by omega), bT (upper_E hr _ (by omega))]
    have e : ups (r :: rowsL.drop (k + 1)) b = (if upB r (b - r.2.2.2) = true then [b - r.2.2.2] else []) ++ ups (rowsL.drop (k + 1)) b := by
      unfold ups
      rw [List.filterMap_cons]
      cases h : upB r (b - r.2.2.2) <;> simp
    rw [e]
    simp only [rd0, datB]
    cases hu : upB r (b - r.2.2.2) with
    | true =>
      rw [if_pos rfl, cT rfl, dT (by simp only [List.length_map, List.length_cons, List.length_nil]; omega)]
      have := ih (k + 1) (acc ++ [b - r.2.2.2]) (by omega) (by omega) (by simp; omega)
      simpa using this
    | false =>
      rw [if_neg (by simp), cF rfl]
      have := ih (k + 1) acc (by omega) (by omega) (by omega)
      simpa using this
theorem W_bound (x : Int) (hx : 0 ≤ x ∧ x ≤ 2000000) : 0 ≤ W x ∧ W x ≤ 2000100 ∧ (x ≤ 1114367 → W x ≤ 1114467) := by
  unfold W WS
  cases hf : sinL.find? (fun p => p.1 == x) with
  | some p =>
    have hm := List.mem_of_find?_eq_some hf
    have key : ∀ p, p ∈ sinL → 0 ≤ p.2 ∧ p.2 ≤ 1000 := by decide
    have := key p hm
    exact ⟨this.1, by show p.2 ≤ _; omega, fun _ => by show p.2 ≤ _; omega⟩
  | none =>
    show 0 ≤ findW rowsL x ∧ findW rowsL x ≤ 2000100 ∧ (x ≤ 1114367 → findW rowsL x ≤ 1114467)
    unfold findW
    cases hr : rowsL.find? (fun r => upB r x) with
    | some r =>
      have := rows_ok (List.mem_of_find?_eq_some hr)
      have h1 := this.b0
      have h2 := this.b1
      exact ⟨by show 0 ≤ x + r.2.2.2; omega, by show x + r.2.2.2 ≤ _; omega, fun _ => by show x + r.2.2.2 ≤ _; omega⟩
    | none => exact ⟨hx.1, by show x ≤ _; omega, fun h => by show x ≤ _; omega⟩
theorem Orbit_E (x : Int) : E C 252 [.int .i64 x] = some [.list (if 0 ≤ x ∧ x ≤ 1114367 then (sortI (P (W x))).map .int else [])] := by
  apply o252
  by_cases h0 : x < 0
  · rw [dT h0, if_neg (by omega)]
  by_cases h1 : x > 1114367
  · rw [dF h0, dT h1, if_neg (by omega)]
  have hb := W_bound x (by omega)
  rw [dF h0, dF h1, if_pos (by omega), bT (base_E x (by omega)), bT rowsF_E]
  simp only [rd0, datI, datL, rowsDL_len]
  exact orb_rows (W x) ⟨hb.1, by have := hb.2.2 (by omega); omega⟩ x [] 18 0 [W x] rfl (by omega) (by simp)
/-! The document's. -/
def fars : List Int := [80, 48, 40, 32, 26, 1, 0, -1]
def symL : List Int := [181, 376, 383, 962, 8490, 8491]
def g1 (b far : Int) : Option Int := if far ≥ 0 ∧ b - far ≥ 0 ∧ W (b - far) = b then some (b - far) else none
def g2 (b : Int) (acc : List Int) (y : Int) : List Int := if W y = b ∧ y ∉ acc then acc ++ [y] else acc
end Go.Proofs.YtlofoifcdmeopaaGreatDoor.V
namespace Go.Proofs.YtlofoifcdmeopaaGreatDoor.V
open Go Go.Ev Go.RowKit
set_option linter.unusedVariables false
set_option linter.unusedSimpArgs false
def g3 (b : Int) (acc : List Int) (y : Int) : List Int := if W y = b ∧ acc.all (fun z => z != y) = true then acc ++ [y] else acc
/-- What the document gathers. -/
def Q (b : Int) : List Int := symL.foldl (g3 b) (fars.filterMap (g1 b))
end Go.Proofs.YtlofoifcdmeopaaGreatDoor.V
namespace Go.Proofs.YtlofoifcdmeopaaGreatDoor.V
open Go Go.Ev Go.RowKit
set_option linter.unusedVariables false
set_option linter.unusedSimpArgs false
/-- All that is the same as a symbol. -/
def orbL (x : Int) : List Int := if 0 ≤ x ∧ x ≤ 1114367 then sortI (P (W x)) else []
theorem P_length (b : Int) : (P b).length ≤ 25 := by
  have h1 : (ups rowsL b).length ≤ 18 := List.length_filterMap_le _ _
  have h2 : (sins sinL b).length ≤ 6 := List.length_filterMap_le _ _
  unfold P
  rw [List.length_append, List.length_append, List.length_singleton]
  omega
theorem orbL_length (x : Int) : (orbL x).length ≤ 25 := by
  unfold orbL
  split
  · rw [sortI_length]; exact P_length _
  · simp
theorem Orbit2_E (x : Int) : E C 252 [.int .i64 x] = some [.list ((orbL x).map .int)] := by
  rw [Orbit_E x]
  unfold orbL
  split <;> rfl
def runL (by_ step hi : Int) : Nat → Int → List Int
  | 0, _ => []
  | n + 1, x => if x ≤ hi then x :: (x + by_) :: runL by_ step hi n (x + step) else []
theorem runL_length (by_ step hi : Int) : ∀ (n : Nat) (x : Int), (runL by_ step hi n x).length ≤ 2 * n
  | 0, x => by simp [runL]
  | n + 1, x => by
    have := runL_length by_ step hi n (x + step)
    unfold runL
    split <;> simp only [List.length_cons, List.length_nil] <;> omega
def casedR (r : Row) : List Int := runL r.2.2.2 r.2.2.1 r.2.1 200 r.1
def casedS (s : Int × Int) : List Int := [s.1, s.2]
def casedL : List Int := rowsL.flatMap casedR ++ sinL.flatMap casedS
theorem rows_short : ∀ r ∈ rowsL, r.2.1 - r.1 < 200 := by decide +kernel
theorem flatMap_length {α : Type} (f : α → List Int) (b : Nat) (h : ∀ a, (f a).length ≤ b) : ∀ L : List α, (L.flatMap f).length ≤ b * L.length
  | [] => by simp
  | a :: L => by
    have h1 := flatMap_length f b h L
    have h2 := h a
    rw [List.flatMap_cons, List.length_append, List.length_cons, Nat.mul_add]
    omega
theorem casedL_length : casedL.length ≤ 10000 := by
  have h1 := flatMap_length casedR 400 (fun r => runL_length _ _ _ 200 _) rowsL
  have h2 := flatMap_length casedS 2 (fun s => Nat.le_refl _) sinL
  have e1 : rowsL.length = 18 := rfl
  have e2 : sinL.length = 6 := rfl
  unfold casedL
  rw [List.length_append]
  omega
theorem rsI_at (pre : List Int) (r : Int) (rest : List Int) : (rd ((pre ++ r :: rest).map Dat.int) pre.length).I = r := by
  rw [rdB (by simp)]
  simp
theorem cap8' : capB 8 = 17592186044416 := by decide
theorem cased_3 (v0 v7 : List Dat) (v8 v9 : Int) : ∀ (rest pre : List (Int × Int)) (acc : List Int), sinL = pre ++ rest → acc.length + 2 * rest.length < 1000000 →
    M251_3 v0 (acc.map .int) v7 v8 v9 (rs sinL) 6 (pre.length : Int) = some [.list ((acc ++ rest.flatMap casedS).map .int)] := by
  have hc := cap8'
  intro rest
  induction rest with
  | nil =>
    intro pre acc hxs ha
    have hl : pre.length = 6 := by have := congrArg List.length hxs; simpa [sinL] using this.symm
    apply M251_3_of
    rw [dF (by omega)]
    simp
  | cons s rest ih =>
    intro pre acc hxs ha
    have hl : 6 = pre.length + (rest.length + 1) := by have := congrArg List.length hxs; simpa [sinL] using this
    simp only [List.length_cons] at ha
    have hat : rd (rs sinL) pre.length = .agg [.int s.1, .int s.2] := by rw [hxs]; exact rs_at _ _ _
    apply M251_3_of
    rw [dT (by omega), rsS_len, dT (by omega), dT (by omega), dT (by omega), Int.toNat_natCast, hat]
    simp only [aggC0, aggC1, datI, List.length_map]
    rw [dT (by simp only [List.length_cons, List.length_nil]; omega), show IntKind.i64.wrap ((pre.length : Int) + 1) = (((pre ++ [s]).length : Nat) : Int) from by rw [w64 (by omega) (by omega)]; simp]
    have := ih (pre ++ [s]) (acc ++ [s.1, s.2]) (by rw [hxs]; simp) (by simp only [List.length_append, List.length_cons, List.length_nil]; omega)
    rw [List.map_append] at this
    refine this.trans ?_
    simp [casedS]
theorem cased_2 (v0 v7 : List Dat) (v8 v9 : Int) {r : Row} (hr : OkRow r) (res : List Dat) : ∀ (n : Nat) (x : Int) (acc : List Int), r.2.1 - x < n → 0 ≤ x → x ≤ 200000 → acc.length + 2 * n < 1000000 →
    M251_1 v0 ((acc ++ runL r.2.2.2 r.2.2.1 r.2.1 n x).map .int) v7 v8 (IntKind.i64.wrap (v9 + 1)) = some res → M251_2 v0 (acc.map .int) r.1 r.2.1 r.2.2.1 r.2.2.2 x v7 v8 v9 = some res := by
  have hc := cap8'
  obtain ⟨g1, g2, g3, g4, g5, g6⟩ := hr
  intro n
  induction n with
  | zero =>
    intro x acc h1 h2 h3 h4 hE
    apply M251_2_of
    rw [dF (by omega)]
    simpa [runL] using hE
  | succ n ih =>
    intro x acc h1 h2 h3 h4 hE
    apply M251_2_of
    unfold runL at hE
    by_cases h : x ≤ r.2.1
    · rw [if_pos h] at hE
      rw [dT h, List.length_map, dT (by simp only [List.length_cons, List.length_nil]; omega), w64 (n := x + r.2.2.2) (by omega) (by omega), w64 (n := x + r.2.2.1) (by omega) (by omega)]
      have := ih (x + r.2.2.1) (acc ++ [x, x + r.2.2.2]) (by omega) (by omega) (by omega) (by simp only [List.length_append, List.length_cons, List.length_nil]; omega) (by simpa using hE)
      rw [List.map_append] at this
      exact this
    · rw [if_neg h, List.append_nil] at hE
      rw [dF h]
      exact hE
theorem cased_1 (v0 : List Dat) : ∀ (rest pre : List Row) (acc : List Int), rowsL = pre ++ rest → acc.length + 400 * rest.length < 100000 →
    M251_1 v0 (acc.map .int) (rowsD rowsL) 18 (pre.length : Int) = some [.list ((acc ++ rest.flatMap casedR ++ sinL.flatMap casedS).map .int)] := by
  intro rest
  induction rest with
  | nil =>
    intro pre acc hxs ha
    have hl : pre.length = 18 := by have := congrArg List.length hxs; simpa [rowsL] using this.symm
    apply M251_1_of
    rw [dF (by omega), bT sinsF_E]
    simp only [rd0, datL, rsS_len]
    refine (cased_3 _ _ _ _ sinL [] acc rfl (by simp only [List.length_nil] at ha; have : sinL.length = 6 := rfl; omega)).trans ?_
    simp
  | cons r rest ih =>
    intro pre acc hxs ha
    have hl : 18 = pre.length + (rest.length + 1) := by have := congrArg List.length hxs; simpa [rowsL] using this
    simp only [List.length_cons] at ha
    have hmem : r ∈ rowsL := by rw [hxs]; simp
    have hok := rows_ok hmem
    have hsh := rows_short r hmem
    have hat : rd (rowsD rowsL) pre.length = .agg [.int r.1, .int r.2.1, .int r.2.2.1, .int r.2.2.2] := by
      have hk : pre.length < rowsL.length := by rw [hxs]; simp
      rw [rowsD_rd rowsL _ hk]
      have : rowsL[pre.length] = r := by
        have h2 : rowsL[pre.length]? = some r := by rw [hxs]; simp
        exact Option.some.inj ((List.getElem?_eq_getElem hk).symm.trans h2)
      rw [this]
    have hrl := runL_length r.2.2.2 r.2.2.1 r.2.1 200 r.1
    have g0 := hok.f0
    have g1 := hok.f1
    apply M251_1_of
    rw [dT (by omega), rowsDL_len, dT (by omega), dT (by omega), dT (by omega), Int.toNat_natCast, hat]
    simp only [aggC0, aggC1, aggC2, aggC3, datI]
    obtain ⟨N, hN⟩ : ∃ N : Nat, N = 200 := ⟨_, rfl⟩
    rw [← hN] at hrl
    refine cased_2 _ _ _ _ hok _ N r.1 acc (by omega) g0 (by omega) (by omega) ?_
    rw [show IntKind.i64.wrap ((pre.length : Int) + 1) = (((pre ++ [r]).length : Nat) : Int) from by rw [w64 (by omega) (by omega)]; simp]
    have hcs : casedR r = runL r.2.2.2 r.2.2.1 r.2.1 N r.1 := by rw [hN]; rfl
    refine (ih (pre ++ [r]) (acc ++ runL r.2.2.2 r.2.2.1 r.2.1 N r.1) (by rw [hxs]; simp) (by rw [List.length_append]; omega)).trans ?_
    rw [← hcs]
    simp
theorem cased_E : E C 251 [] = some [.list (casedL.map .int)] := by
  apply o251
  rw [bT rowsF_E]
  simp only [rd0, datL, rowsDL_len]
  refine (cased_1 [] rowsL [] [] (List.nil_append _).symm (by have : rowsL.length = 18 := rfl; simp only [List.length_nil]; omega)).trans ?_
  rw [List.nil_append]
  unfold casedL
  rfl
def ptR (y : Int) : Int × Int := (y, y)
def addL (l : List (Int × Int)) (c : Int) : List (Int × Int) := if hasB l c = true then (orbL c).map ptR else []
def closeR (l : List (Int × Int)) : List (Int × Int) := mk (l ++ casedL.flatMap (addL l))
theorem addL_length (l : List (Int × Int)) (c : Int) : (addL l c).length ≤ 25 := by
  unfold addL
  split
  · rw [List.length_map]; exact orbL_length c
  · simp
theorem close_2 (v0 v2 : List Dat) (v5 : Int) (v10 : List Dat) (v11 v12 : Int) (os : List Int) (ho : os.length ≤ 25) (res : List Dat) : ∀ (rest pre : List Int) (acc : List (Int × Int)), os = pre ++ rest → acc.length + rest.length < 8000000 →
    M231_1 v0 v2 (rs (acc ++ rest.map ptR)) v10 v11 (IntKind.i64.wrap (v12 + 1)) = some res → M231_2 v0 v2 (rs acc) v5 v10 v11 v12 (os.map .int) (os.length : Int) (pre.length : Int) = some res := by
  have hc16 : capB 16 = 8796093022208 := by decide
  intro rest
  induction rest with
  | nil =>
    intro pre acc hxs ha hE
    have hl : os.length = pre.length := by rw [hxs]; simp
    apply M231_2_of
    rw [dF (by omega)]
    simpa using hE
  | cons y rest ih =>
    intro pre acc hxs ha hE
    simp only [List.length_cons] at ha
    have hl : os.length = pre.length + (rest.length + 1) := by rw [hxs]; simp
    have hat : (rd (os.map Dat.int) pre.length).I = y := by rw [hxs]; exact rsI_at _ _ _
    apply M231_2_of
    rw [List.length_map, dT (by omega), ixT ⟨by omega, by omega⟩, Int.toNat_natCast, hat, rs_len, dT (by rw [List.length_singleton]; omega), rs1 (y, y), ← rsA, show IntKind.i64.wrap ((pre.length : Int) + 1) = (((pre ++ [y]).length : Nat) : Int) from by rw [w64 (by omega) (by omega)]; simp]
    exact ih (pre ++ [y]) (acc ++ [(y, y)]) (by rw [hxs]; simp) (by rw [List.length_append, List.length_singleton]; omega) (by simpa [ptR] using hE)
theorem close_1 (l : List (Int × Int)) (hl0 : l.length ≤ 1000000) (v2 : List Dat) (xs : List Int) (hxl : xs.length ≤ 10000) : ∀ (rest pre : List Int) (acc : List (Int × Int)), xs = pre ++ rest → acc.length + 25 * rest.length < 4000000 →
    M231_1 (rs l) v2 (rs acc) (xs.map .int) (xs.length : Int) (pre.length : Int) = some [.list (rs (mk (acc ++ rest.flatMap (addL l))))] := by
  intro rest
  induction rest with
  | nil =>
    intro pre acc hxs ha
    have hl : xs.length = pre.length := by rw [hxs]; simp
    apply M231_1_of
    rw [dF (by omega), bT (Make_E acc (by simp only [List.length_nil] at ha; omega)), List.flatMap_nil, List.append_nil]
    rfl
  | cons c rest ih =>
    intro pre acc hxs ha
    simp only [List.length_cons] at ha
    have hl : xs.length = pre.length + (rest.length + 1) := by rw [hxs]; simp
    have hat : (rd (xs.map Dat.int) pre.length).I = c := by rw [hxs]; exact rsI_at _ _ _
    have hal := addL_length l c
    have hs := orbL_length c
    have ek : IntKind.i64.wrap ((pre.length : Int) + 1) = (((pre ++ [c]).length : Nat) : Int) := by rw [w64 (by omega) (by omega)]; simp
    have h := ih (pre ++ [c]) (acc ++ addL l c) (by rw [hxs]; simp) (by rw [List.length_append]; omega)
    rw [List.flatMap_cons, ← List.append_assoc]
    apply M231_1_of
    rw [List.length_map, dT (by omega), ixT ⟨by omega, by omega⟩, Int.toNat_natCast, hat, bT (Has_E l c (by omega))]
    simp only [rd0, datB]
    cases hc : hasB l c with
    | true =>
      have e : addL l c = (orbL c).map ptR := by unfold addL; rw [if_pos hc]
      rw [e] at h ⊢
      rw [nF rfl, bT (Orbit2_E c)]
      simp only [rd0, datL, List.length_map]
      exact close_2 _ _ _ _ _ _ (orbL c) hs _ (orbL c) [] acc rfl (by omega) (by rw [ek]; exact h)
    | false =>
      have e : addL l c = [] := by unfold addL; rw [if_neg (by rw [hc]; simp)]
      rw [e, List.append_nil] at h ⊢
      rw [nT rfl, ek]
      exact h
theorem Clone_E (l : List (Int × Int)) (h : l.length < 8796093022208) : E C 250 [.shr 82 (rs l)] = some [.list (rs l)] := by
  refine E_given (h := gClone 82) (by kernel_rfl) ?_
  simp only [gClone]
  rw [rs_len, decide_eq_true h]
  rfl
theorem Close_E (l : List (Int × Int)) (hl : l.length ≤ 1000000) : E C 231 [.shr 82 (rs l)] = some [.list (rs (closeR l))] := by
  have hc := casedL_length
  apply o231
  rw [bT (Clone_E l (by omega)), bT cased_E]
  simp only [rd0, datL, List.length_map]
  exact close_1 l hl _ casedL hc casedL [] l (List.nil_append _).symm (by omega)
theorem closeR_length (l : List (Int × Int)) : (closeR l).length ≤ l.length + 250000 := by
  have h := mk_length (l ++ casedL.flatMap (addL l))
  have hc := casedL_length
  have h2 : (casedL.flatMap (addL l)).length ≤ 25 * casedL.length := by
    generalize casedL = L
    induction L with
    | nil => simp
    | cons a L ih =>
      rw [List.flatMap_cons, List.length_append, List.length_cons, Nat.mul_add]
      have := addL_length l a
      omega
  rw [List.length_append] at h
  unfold closeR
  omega
end Go.Proofs.YtlofoifcdmeopaaGreatDoor.V
