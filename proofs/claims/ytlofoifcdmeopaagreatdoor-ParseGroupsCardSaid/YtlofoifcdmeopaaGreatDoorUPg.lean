/- The parser, where no quantifiers, flags or alternatives are: pieces, rows, groups. -/
import Derived.Test.YtlofoifcdmeopaaGreatDoorUPs
namespace Go.Proofs.YtlofoifcdmeopaaGreatDoor.V
open Go Go.Ev Go.RowKit
set_option linter.unusedVariables false
set_option linter.unusedSimpArgs false
theorem count_no (b : List Int) (hb : b.length ≤ 140737488351232) (s : PS) (h : cntQ b s.k = none) : E C 178 [pv b s] = some [.agg [.int 0, .int 0, .int 0, .int 0], .bool false, pd b s] := by
  have hc : countR b s.k = noneC := by unfold countR; rw [h]
  have := count_E b hb s
  rw [hc] at this
  unfold countS at this
  rw [hc] at this
  exact this
theorem piece_ok (b : List Int) (hb : b.length ≤ 140737488351232) (s : PS) (d : Int) (he : s.e = 0) (h1 : cntQ b s.k = none) {n : Nd} {ks : List Dat} {may : Bool} {s1 : PS} (hat : E C 179 [pv b s, .int .i64 d] = some [ptD n ks, .bool may, pd b s1]) (e1 : s1.e = 0) (hk1 : i64P s1.k) (h2 : cntQ b (skipS b s1).k = none) (hk : n.kind ≠ 0) : E C 148 [pv b s, .int .i64 d] = some [.list [ptD n ks], pd b (skipS b s1)] := by
  apply o148
  rw [bT (count_no b hb s h1)]
  simp only [rd0, rd1, rd2, rd3, pd0, pd1, pd2, pd3, pd4, pd5, pd6, pd7, pd8, pd9, pt0, pt1, pt2, pt3, pt4, pt5, pt6, pt7, pt8, pt9, pt10, aggC0, aggC1, aggC2, aggC3, aggC4, aggC5, datL, datI, datB, datS]
  rw [cond_false, neF he, bT hat]
  simp only [rd0, rd1, rd2, rd3, pd0, pd1, pd2, pd3, pd4, pd5, pd6, pd7, pd8, pd9, pt0, pt1, pt2, pt3, pt4, pt5, pt6, pt7, pt8, pt9, pt10, aggC0, aggC1, aggC2, aggC3, aggC4, aggC5, datL, datI, datB, datS]
  rw [neF e1, bT (skip_E b hb s1 hk1)]
  simp only [rd0, rd1, rd2, rd3, pd0, pd1, pd2, pd3, pd4, pd5, pd6, pd7, pd8, pd9, pt0, pt1, pt2, pt3, pt4, pt5, pt6, pt7, pt8, pt9, pt10, aggC0, aggC1, aggC2, aggC3, aggC4, aggC5, datL, datI, datB, datS]
  rw [bT (count_no b hb (skipS b s1) h2)]
  simp only [rd0, rd1, rd2, rd3, pd0, pd1, pd2, pd3, pd4, pd5, pd6, pd7, pd8, pd9, pt0, pt1, pt2, pt3, pt4, pt5, pt6, pt7, pt8, pt9, pt10, aggC0, aggC1, aggC2, aggC3, aggC4, aggC5, datL, datI, datB, datS]
  rw [cond_false, eF hk]
  rfl
theorem piece_bad (b : List Int) (hb : b.length ≤ 140737488351232) (s : PS) (d : Int) (he : s.e = 0) (h1 : cntQ b s.k = none) {n : Nd} {ks : List Dat} {may : Bool} {s1 : PS} (hat : E C 179 [pv b s, .int .i64 d] = some [ptD n ks, .bool may, pd b s1]) (e1 : s1.e ≠ 0) : E C 148 [pv b s, .int .i64 d] = some [.list [], pd b s1] := by
  apply o148
  rw [bT (count_no b hb s h1)]
  simp only [rd0, rd1, rd2, rd3, pd0, pd1, pd2, pd3, pd4, pd5, pd6, pd7, pd8, pd9, pt0, pt1, pt2, pt3, pt4, pt5, pt6, pt7, pt8, pt9, pt10, aggC0, aggC1, aggC2, aggC3, aggC4, aggC5, datL, datI, datB, datS]
  rw [cond_false, neF he, bT hat]
  simp only [rd0, rd1, rd2, rd3, pd0, pd1, pd2, pd3, pd4, pd5, pd6, pd7, pd8, pd9, pt0, pt1, pt2, pt3, pt4, pt5, pt6, pt7, pt8, pt9, pt10, aggC0, aggC1, aggC2, aggC3, aggC4, aggC5, datL, datI, datB, datS]
  rw [neT e1]
  rfl
theorem atom_par (b : List Int) (s : PS) (d : Int) (hd : 0 ≤ d ∧ d ≤ 1000) (h0 : 0 ≤ s.k) (hc : atB b s.k = 40) {n : Nd} {ks : List Dat} {may : Bool} {s1 : PS} (hg : E C 206 [pv b s, .int .i64 (d + 1)] = some [ptD n ks, .bool may, pd b s1]) : E C 179 [pv b s, .int .i64 d] = some [ptD n ks, .bool may, pd b s1] := by
  apply o179
  rw [bT (byteAt_E b s _ h0)]
  simp only [rd0, rd1, rd2, rd3, pd0, pd1, pd2, pd3, pd4, pd5, pd6, pd7, pd8, pd9, pt0, pt1, pt2, pt3, pt4, pt5, pt6, pt7, pt8, pt9, pt10, aggC0, aggC1, aggC2, aggC3, aggC4, aggC5, datL, datI, datB, datS]
  rw [eT hc, w64 (by omega) (by omega), bT hg]
  rfl
theorem atom_lit (b : List Int) (hbb : isBytes b = true) (hb : b.length ≤ 140737488351232) (s : PS) (d : Int) (h0 : 0 ≤ s.k ∧ s.k ≤ 140737488351232) (hc : atB b s.k ≠ 40 ∧ atB b s.k ≠ 91 ∧ atB b s.k ≠ 46 ∧ atB b s.k ≠ 94 ∧ atB b s.k ≠ 36 ∧ atB b s.k ≠ 92) (hs : 0 ≤ (symR b s.k).2 ∧ (symR b s.k).2 ≤ 4) : E C 179 [pv b s, .int .i64 d] = some [ptD ⟨2, s.k, s.k + (symR b s.k).2, 0, 0, 0, 0, ByteArray.empty, bif s.fo then closeR (mk [((symR b s.k).1, (symR b s.k).1)]) else mk [((symR b s.k).1, (symR b s.k).1)], []⟩ [], .bool true, pd b { s with k := s.k + (symR b s.k).2 }] := by
  obtain ⟨c1, c2, c3, c4, c5, c6⟩ := hc
  apply o179
  rw [bT (byteAt_E b s _ h0.1)]
  simp only [rd0, rd1, rd2, rd3, pd0, pd1, pd2, pd3, pd4, pd5, pd6, pd7, pd8, pd9, pt0, pt1, pt2, pt3, pt4, pt5, pt6, pt7, pt8, pt9, pt10, aggC0, aggC1, aggC2, aggC3, aggC4, aggC5, datL, datI, datB, datS]
  rw [eF c1, eF c2, eF c3, eF c4, eF c5, eF c6, bT (At_E b hbb hb s.k)]
  simp only [rd0, rd1, rd2, rd3, pd0, pd1, pd2, pd3, pd4, pd5, pd6, pd7, pd8, pd9, pt0, pt1, pt2, pt3, pt4, pt5, pt6, pt7, pt8, pt9, pt10, aggC0, aggC1, aggC2, aggC3, aggC4, aggC5, datL, datI, datB, datS]
  rw [bT (Of1_E _)]
  simp only [rd0, rd1, rd2, rd3, pd0, pd1, pd2, pd3, pd4, pd5, pd6, pd7, pd8, pd9, pt0, pt1, pt2, pt3, pt4, pt5, pt6, pt7, pt8, pt9, pt10, aggC0, aggC1, aggC2, aggC3, aggC4, aggC5, datL, datI, datB, datS]
  rw [bT (closed_E b s _ (mk1_len _))]
  simp only [rd0, rd1, rd2, rd3, pd0, pd1, pd2, pd3, pd4, pd5, pd6, pd7, pd8, pd9, pt0, pt1, pt2, pt3, pt4, pt5, pt6, pt7, pt8, pt9, pt10, aggC0, aggC1, aggC2, aggC3, aggC4, aggC5, datL, datI, datB, datS]
  rw [w64 (by omega) (by omega), bT (set_E b s _ _ _)]
  rfl
where
  mk1_len (x : Int) : (mk [(x, x)]).length ≤ 1000000 := Nat.le_trans (mk_length [(x, x)]) (show 1 ≤ 1000000 by decide)
theorem open_E (b : List Int) (s : PS) (f : Int) (hf : 0 ≤ f ∧ f ≤ 140737488351232) (hq : atB b (f + 1) ≠ 63) : E C 229 [pv b s, .int .i64 f] = some [.agg [.int 7, .int 0, .str ByteArray.empty, .bool s.fo, .bool s.li, .bool s.al, .bool s.wi, .bool false], pd b { s with k := f + 1 }] := by
  apply o229
  rw [w64 (n := f + 1) (by omega) (by omega), bT (byteAt_E b s _ (by omega))]
  simp only [rd0, rd1, rd2, rd3, pd0, pd1, pd2, pd3, pd4, pd5, pd6, pd7, pd8, pd9, pt0, pt1, pt2, pt3, pt4, pt5, pt6, pt7, pt8, pt9, pt10, aggC0, aggC1, aggC2, aggC3, aggC4, aggC5, datL, datI, datB, datS]
  rw [neT hq]
  rfl
theorem cap16p : capB 16 = 8796093022208 := by decide
theorem group_ok (b : List Int) (s : PS) (d : Int) (hd : d ≤ 100) (he : s.e = 0) (hk : 0 ≤ s.k ∧ s.k ≤ 140737488351232) (hq : atB b (s.k + 1) ≠ 63) (hgr : 0 ≤ s.gr ∧ s.gr < 99) (hnm : s.nm.length ≤ 1000000) {n : Nd} {ks : List Dat} {s1 : PS} (halt : E C 66 [pv b { s with k := s.k + 1, gr := s.gr + 1, nm := s.nm ++ [ByteArray.empty] }, .int .i64 d] = some [ptD n ks, pd b s1]) (e1 : s1.e = 0) (hk1 : 0 ≤ s1.k ∧ s1.k < (b.length : Int) ∧ s1.k ≤ 140737488351232) (hc : atB b s1.k = 41) : E C 206 [pv b s, .int .i64 d] = some [ptD ⟨7, s.k, s1.k + 1, s.gr + 1, 0, 0, 0, ByteArray.empty, [], []⟩ [ptD n ks], .bool true, pd b { s1 with k := s1.k + 1, fo := s.fo, li := s.li, al := s.al, wi := s.wi }] := by
  apply o206
  rw [dF (by omega), bT (open_E b s _ hk hq)]
  simp only [rd0, rd1, rd2, rd3, pd0, pd1, pd2, pd3, pd4, pd5, pd6, pd7, pd8, pd9, pt0, pt1, pt2, pt3, pt4, pt5, pt6, pt7, pt8, pt9, pt10, aggC0, aggC1, aggC2, aggC3, aggC4, aggC5, datL, datI, datB, datS, ag2, ag3, ag6, ag7]
  rw [cond_false, neF he, eT rfl, eF (show s.gr ≠ 99 by omega), cap16p, List.length_map, dT (by show s.nm.length + 1 ≤ _; omega), w64 (n := s.gr + 1) (by omega) (by omega), show s.nm.map Dat.str ++ [Dat.str ByteArray.empty] = (s.nm ++ [ByteArray.empty]).map .str by simp, bT halt]
  simp only [rd0, rd1, rd2, rd3, pd0, pd1, pd2, pd3, pd4, pd5, pd6, pd7, pd8, pd9, pt0, pt1, pt2, pt3, pt4, pt5, pt6, pt7, pt8, pt9, pt10, aggC0, aggC1, aggC2, aggC3, aggC4, aggC5, datL, datI, datB, datS]
  rw [bT (byteAt_E b { s1 with fo := s.fo, li := s.li, al := s.al, wi := s.wi } _ hk1.1)]
  simp only [rd0, rd1, rd2, rd3, pd0, pd1, pd2, pd3, pd4, pd5, pd6, pd7, pd8, pd9, pt0, pt1, pt2, pt3, pt4, pt5, pt6, pt7, pt8, pt9, pt10, aggC0, aggC1, aggC2, aggC3, aggC4, aggC5, datL, datI, datB, datS]
  rw [neF hc, bT (over_E b { s1 with fo := s.fo, li := s.li, al := s.al, wi := s.wi })]
  simp only [rd0, rd1, rd2, rd3, pd0, pd1, pd2, pd3, pd4, pd5, pd6, pd7, pd8, pd9, pt0, pt1, pt2, pt3, pt4, pt5, pt6, pt7, pt8, pt9, pt10, aggC0, aggC1, aggC2, aggC3, aggC4, aggC5, datL, datI, datB, datS]
  rw [show overB b { s1 with fo := s.fo, li := s.li, al := s.al, wi := s.wi } = false by unfold overB; simp only [e1]; simp; omega, cond_false, eF (by decide), w64 (by omega) (by omega)]
  rfl
where
  ag2 (a b c : Dat) (l : List Dat) : (Dat.agg (a :: b :: c :: l)).C 2 = c := (rfl)
  ag3 (a b c d : Dat) (l : List Dat) : (Dat.agg (a :: b :: c :: d :: l)).C 3 = d := (rfl)
  ag6 (a b c d e f g : Dat) (l : List Dat) : (Dat.agg (a :: b :: c :: d :: e :: f :: g :: l)).C 6 = g := (rfl)
  ag7 (a b c d e f g h : Dat) (l : List Dat) : (Dat.agg (a :: b :: c :: d :: e :: f :: g :: h :: l)).C 7 = h := (rfl)
theorem group_bad (b : List Int) (s : PS) (d : Int) (hd : d ≤ 100) (he : s.e = 0) (hk : 0 ≤ s.k ∧ s.k ≤ 140737488351232) (hq : atB b (s.k + 1) ≠ 63) (hgr : 0 ≤ s.gr ∧ s.gr < 99) (hnm : s.nm.length ≤ 1000000) {n : Nd} {ks : List Dat} {s1 : PS} (halt : E C 66 [pv b { s with k := s.k + 1, gr := s.gr + 1, nm := s.nm ++ [ByteArray.empty] }, .int .i64 d] = some [ptD n ks, pd b s1]) (e1 : s1.e ≠ 0) (hk1 : 0 ≤ s1.k) : E C 206 [pv b s, .int .i64 d] = some [ptD nd0P [], .bool false, pd b { s1 with fo := s.fo, li := s.li, al := s.al, wi := s.wi }] := by
  apply o206
  rw [dF (by omega), bT (open_E b s _ hk hq)]
  simp only [rd0, rd1, rd2, rd3, pd0, pd1, pd2, pd3, pd4, pd5, pd6, pd7, pd8, pd9, pt0, pt1, pt2, pt3, pt4, pt5, pt6, pt7, pt8, pt9, pt10, aggC0, aggC1, aggC2, aggC3, aggC4, aggC5, datL, datI, datB, datS, group_ok.ag2, group_ok.ag3, group_ok.ag6, group_ok.ag7]
  rw [cond_false, neF he, eT rfl, eF (show s.gr ≠ 99 by omega), cap16p, List.length_map, dT (by show s.nm.length + 1 ≤ _; omega), w64 (n := s.gr + 1) (by omega) (by omega), show s.nm.map Dat.str ++ [Dat.str ByteArray.empty] = (s.nm ++ [ByteArray.empty]).map .str by simp, bT halt]
  simp only [rd0, rd1, rd2, rd3, pd0, pd1, pd2, pd3, pd4, pd5, pd6, pd7, pd8, pd9, pt0, pt1, pt2, pt3, pt4, pt5, pt6, pt7, pt8, pt9, pt10, aggC0, aggC1, aggC2, aggC3, aggC4, aggC5, datL, datI, datB, datS]
  rw [bT (byteAt_E b { s1 with fo := s.fo, li := s.li, al := s.al, wi := s.wi } _ hk1)]
  simp only [rd0, rd1, rd2, rd3, pd0, pd1, pd2, pd3, pd4, pd5, pd6, pd7, pd8, pd9, pt0, pt1, pt2, pt3, pt4, pt5, pt6, pt7, pt8, pt9, pt10, aggC0, aggC1, aggC2, aggC3, aggC4, aggC5, datL, datI, datB, datS]
  have hf : failS { s1 with fo := s.fo, li := s.li, al := s.al, wi := s.wi } 30 s.k = { s1 with fo := s.fo, li := s.li, al := s.al, wi := s.wi } := if_neg e1
  by_cases hc : atB b s1.k = 41
  · rw [neF hc, bT (over_E b { s1 with fo := s.fo, li := s.li, al := s.al, wi := s.wi })]
    simp only [rd0, rd1, rd2, rd3, pd0, pd1, pd2, pd3, pd4, pd5, pd6, pd7, pd8, pd9, pt0, pt1, pt2, pt3, pt4, pt5, pt6, pt7, pt8, pt9, pt10, aggC0, aggC1, aggC2, aggC3, aggC4, aggC5, datL, datI, datB, datS]
    rw [show overB b { s1 with fo := s.fo, li := s.li, al := s.al, wi := s.wi } = true by unfold overB; simp [e1], cond_true, bT (fail_E b { s1 with fo := s.fo, li := s.li, al := s.al, wi := s.wi } 30 s.k), hf]
    rfl
  · rw [neT hc, bT (fail_E b { s1 with fo := s.fo, li := s.li, al := s.al, wi := s.wi } 30 s.k), hf]
    rfl
/-- The hundredth group. -/
theorem group_many (b : List Int) (s : PS) (d : Int) (hd : d ≤ 100) (he : s.e = 0) (hk : 0 ≤ s.k ∧ s.k ≤ 140737488351232) (hq : atB b (s.k + 1) ≠ 63) (hgr : s.gr = 99) : E C 206 [pv b s, .int .i64 d] = some [ptD nd0P [], .bool false, pd b { s with k := s.k + 1, e := 40, wh := s.k }] := by
  apply o206
  rw [dF (by omega), bT (open_E b s _ hk hq)]
  simp only [rd0, rd1, rd2, rd3, pd0, pd1, pd2, pd3, pd4, pd5, pd6, pd7, pd8, pd9, pt0, pt1, pt2, pt3, pt4, pt5, pt6, pt7, pt8, pt9, pt10, aggC0, aggC1, aggC2, aggC3, aggC4, aggC5, datL, datI, datB, datS, group_ok.ag2, group_ok.ag3, group_ok.ag6, group_ok.ag7]
  rw [cond_false, neF he, eT rfl, eT hgr, bT (fail_E b { s with k := s.k + 1 } 40 s.k), show failS { s with k := s.k + 1 } 40 s.k = { s with k := s.k + 1, e := 40, wh := s.k } from if_pos he]
  rfl
theorem cap144 : capB 144 = 977343669134 := by decide
/-- A row of one piece. -/
theorem row_one (b : List Int) (hb : b.length ≤ 140737488351232) (s : PS) (d : Int) (hw : s.wi = false) (hk : i64P s.k) (h0 : 0 ≤ s.k) (hn : endsB b s = false) {x : Dat} {l : List Dat} {s1 : PS} (hp : E C 148 [pv b s, .int .i64 d] = some [.list l, pd b s1]) (hl : l.length ≤ 1) (w1 : s1.wi = false) (k1 : i64P s1.k) (h1 : 0 ≤ s1.k) (he : endsB b s1 = true) : E C 108 [pv b s, .int .i64 d] = some [(match l with | [] => ptD ⟨1, s.k, s.k, 0, 0, 0, 0, ByteArray.empty, [], []⟩ [] | x :: _ => .agg [.int (x.C 0).I, .int (x.C 1).I, .int (x.C 2).I, .int (x.C 3).I, .int (x.C 4).I, .int (x.C 5).I, .int (x.C 6).I, .str (x.C 7).S, .list (x.C 8).L, .list (x.C 9).L, .list (x.C 10).L]), pd b s1] := by
  have sk : skipS b s = s := by unfold skipS; rw [hw]; rfl
  have sk1 : skipS b s1 = s1 := by unfold skipS; rw [w1]; rfl
  apply o108
  apply M108_1_of
  have e0 := ends_E b hb s hk (by rw [sk]; exact h0)
  rw [sk, hn] at e0
  rw [bT e0]
  simp only [rd0, rd1, rd2, rd3, pd0, pd1, pd2, pd3, pd4, pd5, pd6, pd7, pd8, pd9, pt0, pt1, pt2, pt3, pt4, pt5, pt6, pt7, pt8, pt9, pt10, aggC0, aggC1, aggC2, aggC3, aggC4, aggC5, datL, datI, datB, datS]
  rw [nF' rfl, bT hp]
  simp only [rd0, rd1, rd2, rd3, pd0, pd1, pd2, pd3, pd4, pd5, pd6, pd7, pd8, pd9, pt0, pt1, pt2, pt3, pt4, pt5, pt6, pt7, pt8, pt9, pt10, aggC0, aggC1, aggC2, aggC3, aggC4, aggC5, datL, datI, datB, datS]
  rw [cap144, dT (by show 0 + l.length ≤ _; omega)]
  apply M108_1_of
  have e1 := ends_E b hb s1 k1 (by rw [sk1]; exact h1)
  rw [sk1, he] at e1
  rw [bT e1]
  simp only [rd0, rd1, rd2, rd3, pd0, pd1, pd2, pd3, pd4, pd5, pd6, pd7, pd8, pd9, pt0, pt1, pt2, pt3, pt4, pt5, pt6, pt7, pt8, pt9, pt10, aggC0, aggC1, aggC2, aggC3, aggC4, aggC5, datL, datI, datB, datS]
  rw [nF rfl]
  match l, hl with
  | [], _ => rfl
  | [x], _ => rfl
where
  nF' {α : Type} {b : Bool} {x y : α} (h : b = false) : (bif !b then x else y) = x := nT h
theorem alt_one (b : List Int) (s : PS) (d : Int) {n : Nd} {ks : List Dat} {s1 : PS} (hr : E C 108 [pv b s, .int .i64 d] = some [ptD n ks, pd b s1]) (h1 : 0 ≤ s1.k) (hc : overB b s1 = true ∨ atB b s1.k ≠ 124) : E C 66 [pv b s, .int .i64 d] = some [ptD n ks, pd b s1] := by
  apply o66
  rw [bT hr]
  simp only [rd0, rd1, rd2, rd3, pd0, pd1, pd2, pd3, pd4, pd5, pd6, pd7, pd8, pd9, pt0, pt1, pt2, pt3, pt4, pt5, pt6, pt7, pt8, pt9, pt10, aggC0, aggC1, aggC2, aggC3, aggC4, aggC5, datL, datI, datB, datS]
  apply M66_1_of
  rw [bT (over_E b s1)]
  simp only [rd0, rd1, rd2, rd3, pd0, pd1, pd2, pd3, pd4, pd5, pd6, pd7, pd8, pd9, pt0, pt1, pt2, pt3, pt4, pt5, pt6, pt7, pt8, pt9, pt10, aggC0, aggC1, aggC2, aggC3, aggC4, aggC5, datL, datI, datB, datS]
  cases ho : overB b s1 with
  | true => rfl
  | false =>
    rw [nT rfl, bT (byteAt_E b s1 _ h1)]
    simp only [rd0, rd1, rd2, rd3, pd0, pd1, pd2, pd3, pd4, pd5, pd6, pd7, pd8, pd9, pt0, pt1, pt2, pt3, pt4, pt5, pt6, pt7, pt8, pt9, pt10, aggC0, aggC1, aggC2, aggC3, aggC4, aggC5, datL, datI, datB, datS]
    rcases hc with hc | hc
    · rw [ho] at hc; cases hc
    · rw [eF hc]; rfl
end Go.Proofs.YtlofoifcdmeopaaGreatDoor.V
