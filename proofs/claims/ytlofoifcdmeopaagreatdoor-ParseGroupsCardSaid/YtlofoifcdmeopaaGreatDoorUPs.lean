/- The parser's state, and what its small functions answer. -/
import Derived.Test.YtlofoifcdmeopaaGreatDoorUCnt
import Derived.Test.YtlofoifcdmeopaaGreatDoorUSym
import Derived.Test.YtlofoifcdmeopaaGreatDoorURsA
import Derived.Test.YtlofoifcdmeopaaGreatDoorUClo
import Derived.Test.YtlofoifcdmeopaaGreatDoorUTre
import Derived.Test.YtlofoifcdmeopaaGreatDoorVUPa
namespace Go.Proofs.YtlofoifcdmeopaaGreatDoor.V
open Go Go.Ev Go.RowKit
set_option linter.unusedVariables false
set_option linter.unusedSimpArgs false
/-- What a parser holds, but for its pattern. -/
structure PS where
  k : Int
  fo : Bool
  li : Bool
  al : Bool
  wi : Bool
  gr : Int
  nm : List ByteArray
  e : Int
  wh : Int
abbrev pv (b : List Int) (s : PS) : AV := .pbox [.shr 5 (b.map .int), .int .i64 s.k, .bool s.fo, .bool s.li, .bool s.al, .bool s.wi, .int .i64 s.gr, .own 0 8 9 (s.nm.map .str), .int .i64 s.e, .int .i64 s.wh]
def pd (b : List Int) (s : PS) : Dat := .agg [.list (b.map .int), .int s.k, .bool s.fo, .bool s.li, .bool s.al, .bool s.wi, .int s.gr, .list (s.nm.map .str), .int s.e, .int s.wh]
theorem pd0 (b : List Int) (s : PS) : (pd b s).C 0 = .list (b.map .int) := (rfl)
theorem pd1 (b : List Int) (s : PS) : (pd b s).C 1 = .int s.k := (rfl)
theorem pd2 (b : List Int) (s : PS) : (pd b s).C 2 = .bool s.fo := (rfl)
theorem pd3 (b : List Int) (s : PS) : (pd b s).C 3 = .bool s.li := (rfl)
theorem pd4 (b : List Int) (s : PS) : (pd b s).C 4 = .bool s.al := (rfl)
theorem pd5 (b : List Int) (s : PS) : (pd b s).C 5 = .bool s.wi := (rfl)
theorem pd6 (b : List Int) (s : PS) : (pd b s).C 6 = .int s.gr := (rfl)
theorem pd7 (b : List Int) (s : PS) : (pd b s).C 7 = .list (s.nm.map .str) := (rfl)
theorem pd8 (b : List Int) (s : PS) : (pd b s).C 8 = .int s.e := (rfl)
theorem pd9 (b : List Int) (s : PS) : (pd b s).C 9 = .int s.wh := (rfl)
/-- A part: its node, and its kids. -/
def ptD (n : Nd) (ks : List Dat) : Dat := .agg [.int n.kind, .int n.frm, .int n.to, .int n.num, .int n.min, .int n.max, .int n.mode, .str n.name, .list (rs n.set), .list (n.kids.map .int), .list ks]
abbrev ptV (n : Nd) (ks : List Dat) : AV := .agg [.int .i64 n.kind, .int .i64 n.frm, .int .i64 n.to, .int .i64 n.num, .int .i64 n.min, .int .i64 n.max, .int .i64 n.mode, .str n.name, .shr 82 (rs n.set), .shr 3 (n.kids.map .int), .shr 103 ks]
theorem pt0 (n : Nd) (ks : List Dat) : (ptD n ks).C 0 = .int n.kind := (rfl)
theorem pt1 (n : Nd) (ks : List Dat) : (ptD n ks).C 1 = .int n.frm := (rfl)
theorem pt2 (n : Nd) (ks : List Dat) : (ptD n ks).C 2 = .int n.to := (rfl)
theorem pt3 (n : Nd) (ks : List Dat) : (ptD n ks).C 3 = .int n.num := (rfl)
theorem pt4 (n : Nd) (ks : List Dat) : (ptD n ks).C 4 = .int n.min := (rfl)
theorem pt5 (n : Nd) (ks : List Dat) : (ptD n ks).C 5 = .int n.max := (rfl)
theorem pt6 (n : Nd) (ks : List Dat) : (ptD n ks).C 6 = .int n.mode := (rfl)
theorem pt7 (n : Nd) (ks : List Dat) : (ptD n ks).C 7 = .str n.name := (rfl)
theorem pt8 (n : Nd) (ks : List Dat) : (ptD n ks).C 8 = .list (rs n.set) := (rfl)
theorem pt9 (n : Nd) (ks : List Dat) : (ptD n ks).C 9 = .list (n.kids.map .int) := (rfl)
theorem pt10 (n : Nd) (ks : List Dat) : (ptD n ks).C 10 = .list ks := (rfl)
def nd0P : Nd := ⟨0, 0, 0, 0, 0, 0, 0, ByteArray.empty, [], []⟩
def overB (b : List Int) (s : PS) : Bool := s.e != 0 || decide (s.k ≥ (b.length : Int))
def failS (s : PS) (e at_ : Int) : PS := if s.e = 0 then { s with e := e, wh := at_ } else s
def skipS (b : List Int) (s : PS) : PS := bif s.wi then { s with k := blankR b s.k } else s
def endsB (b : List Int) (s : PS) : Bool := overB b (skipS b s) || atB b (skipS b s).k == 124 || atB b (skipS b s).k == 41
theorem over_E (b : List Int) (s : PS) : E C 67 [pv b s] = some [.bool (overB b s), pd b s] := by
  apply o67
  unfold overB
  by_cases h : s.e = 0
  · rw [neF h, List.length_map, show (s.e != 0) = false by simp [h], Bool.false_or]; rfl
  · rw [neT h, show (s.e != 0) = true by simp [h], Bool.true_or]; rfl
theorem fail_E (b : List Int) (s : PS) (e a : Int) : E C 68 [pv b s, .int .i64 e, .int .i64 a] = some [pd b (failS s e a)] := by
  apply o68
  unfold failS
  by_cases h : s.e = 0
  · rw [eT h, if_pos h]; rfl
  · rw [eF h, if_neg h]; rfl
theorem byteAt_E (b : List Int) (s : PS) (i : Int) (hi : 0 ≤ i) : E C 109 [pv b s, .int .i64 i] = some [.int (atB b i), pd b s] := by
  apply o109
  rw [List.length_map]
  by_cases h : i ≥ (b.length : Int)
  · rw [dT h, atB_out (by omega)]; rfl
  · rw [dF h, ixT ⟨hi, by omega⟩, rdA ⟨hi, by omega⟩]; rfl
theorem skip_E (b : List Int) (hb : b.length ≤ 140737488351232) (s : PS) (hk : i64P s.k) : E C 177 [pv b s] = some [pd b (skipS b s)] := by
  apply o177
  unfold skipS
  cases hw : s.wi with
  | true => rw [cond_true, cond_true, bT (Blank_E b hb s.k hk)]; rfl
  | false => rw [cond_false, cond_false, ← hw]; rfl
theorem ends_E (b : List Int) (hb : b.length ≤ 140737488351232) (s : PS) (hk : i64P s.k) (h0 : 0 ≤ (skipS b s).k) : E C 147 [pv b s] = some [.bool (endsB b s), pd b (skipS b s)] := by
  apply o147
  rw [bT (skip_E b hb s hk)]
  simp only [rd0, pd0, pd1, pd2, pd3, pd4, pd5, pd6, pd7, pd8, pd9, datL, datI, datB]
  rw [bT (over_E b (skipS b s))]
  simp only [rd0, rd1, pd0, pd1, pd2, pd3, pd4, pd5, pd6, pd7, pd8, pd9, datL, datI, datB]
  unfold endsB
  cases overB b (skipS b s) with
  | true => rfl
  | false =>
  rw [cond_false, Bool.false_or, bT (byteAt_E b (skipS b s) _ h0)]
  simp only [rd0, rd1, pd0, pd1, pd2, pd3, pd4, pd5, pd6, pd7, pd8, pd9, datL, datI, datB]
  by_cases h : atB b (skipS b s).k = 124
  · rw [eT h, show (atB b (skipS b s).k == 124) = true by simp [h], Bool.true_or]; rfl
  rw [eF h, show (atB b (skipS b s).k == 124) = false by simp [h], Bool.false_or, bT (byteAt_E b (skipS b s) _ h0)]
  rfl
theorem set_E (b : List Int) (s : PS) (f t : Int) (l : List (Int × Int)) : E C 208 [pv b s, .int .i64 f, .int .i64 t, .shr 82 (rs l)] = some [ptD ⟨2, f, t, 0, 0, 0, 0, ByteArray.empty, l, []⟩ [], pd b { s with k := t }] := by
  apply o208
  rfl
theorem hold_E (b : List Int) (s : PS) (f t w : Int) : E C 210 [pv b s, .int .i64 f, .int .i64 t, .int .i64 w] = some [ptD ⟨3, f, t, w, 0, 0, 0, ByteArray.empty, [], []⟩ [], pd b { s with k := t }] := by
  apply o210
  rfl
theorem closed_E (b : List Int) (s : PS) (l : List (Int × Int)) (hl : l.length ≤ 1000000) : E C 214 [pv b s, .shr 82 (rs l)] = some [.list (rs (bif s.fo then closeR l else l)), pd b s] := by
  apply o214
  cases hf : s.fo with
  | true => rw [cond_true, cond_true, bT (Close_E l hl), ← hf]; rfl
  | false => rw [cond_false, cond_false, ← hf]; rfl
theorem either_E (c : Bool) (x y : Int) : E C 211 [.bool c, .int .i64 x, .int .i64 y] = some [.int (bif c then x else y)] := by
  apply o211
  cases c <;> rfl
theorem look_E (c x y : Int) : E C 244 [.int .u8 c, .int .i64 x, .int .i64 y] = some [.int (bif c == 61 then x else y)] := by
  apply o244
  rw [bT (either_E _ _ _)]
  rfl
theorem Of1_E (x : Int) : E C 215 [.int .i64 x] = some [.list (rs (mk [(x, x)]))] := by
  apply o215
  rw [show ([.agg [.int x, .int x]] : List Dat) = rs [(x, x)] from rfl, bT (Make_E [(x, x)] (show 1 < 8796093022208 by decide))]
  rfl
/-- The quantifier at a place: what is found, whether it counts, the state behind. -/
def countS (b : List Int) (s : PS) : PS := let c := ((rd (countR b s.k) 2).I); if c = 0 then s else failS s c s.k
theorem countR_len (b : List Int) (i : Int) : ∃ q0 q1 q2 q3 : Int, ∃ ok : Bool, ∃ e : Int, countR b i = [.agg [.int q0, .int q1, .int q2, .int q3], .bool ok, .int e] ∧ (e ≠ 0 → ok = false ∧ e = 34) := by
  unfold countR
  split
  · exact ⟨_, _, _, _, _, _, rfl, fun h => absurd rfl h⟩
  · unfold finC
    split
    · exact ⟨_, _, _, _, _, _, rfl, fun h => ⟨rfl, rfl⟩⟩
    · split
      · exact ⟨_, _, _, _, _, _, rfl, fun h => absurd rfl h⟩
      · split
        · exact ⟨_, _, _, _, _, _, rfl, fun h => absurd rfl h⟩
        · exact ⟨_, _, _, _, _, _, rfl, fun h => absurd rfl h⟩
theorem count_E (b : List Int) (hb : b.length ≤ 140737488351232) (s : PS) : E C 178 [pv b s] = some [rd (countR b s.k) 0, .bool ((rd (countR b s.k) 1).B && (s.e == 0)), pd b (countS b s)] := by
  obtain ⟨q0, q1, q2, q3, ok, e, hq, he⟩ := countR_len b s.k
  apply o178
  rw [bT (Count_E b hb s.k)]
  unfold countS
  rw [hq]
  simp only [rd0, rd1, rd2, aggC0, aggC1, aggC2, aggC3, datI, datB]
  by_cases h : e = 0
  · rw [neF h, if_pos h]
    cases ok with
    | true => rw [cond_true, Bool.true_and]; rfl
    | false => rfl
  · obtain ⟨rfl, rfl⟩ := he h
    rw [neT h, if_neg h, bT (fail_E b s _ _)]
    rfl
end Go.Proofs.YtlofoifcdmeopaaGreatDoor.V
