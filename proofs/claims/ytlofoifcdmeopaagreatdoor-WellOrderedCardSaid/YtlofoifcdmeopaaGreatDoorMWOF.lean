/- Told functions: what each answers, as plain trees; written by a program of this session (tell.py). Told functions: what each answers, as plain trees; written by a program of this session (tell.py). What a parenthesis opens: names, remarks, all. What a parenthesis opens, in all. Parts as trees; how they are numbered; that what is numbered is laid as a tree is. Groups: what is known of their parts. Quantifiers: what is known of them. Blanks; any atom. A part with a quantifier. A piece. Rows of pieces, ways: what is known of their parts. The tree of a part that was read may be. What a node takes at least is no more than what it takes at most. Rows, ways, Parse: what is known of the trees. Parse: a tree that may be, or an error at a place within the pattern. Told functions: what each answers, as plain trees; written by a program of this session (tell.py). The law's own examples. WellOrdered. DERIVED: THE SHELF's CONTRACTS AT THIS DUMP, IN PLAIN WORDS (tools/lay-plain.mjs out of 'YtlofoifcdmeopaaGreatDoorLaySortIScr.lean', which tools/lay-shelf.mjs wrote): THE SAME DECLARATIONS UNDER THE SAME NAMES: 'import', 'namespace', 'open', 'def', 'theorem' AND NOTHING ELSE: no command of the shelf's: FOR A HAND-IN. Each laying: the table of numbers ('.._ren') and one theorem, a field a fact of the dump's own or the kernel's comparison; each contract: ONE APPLICATION. slices.Sort of whole numbers as a function that is given. DERIVED: THE SHELF's CONTRACTS AT THIS DUMP, IN PLAIN WORDS (tools/lay-plain.mjs out of 'YtlofoifcdmeopaaGreatDoorLaySortRScr.lean', which tools/lay-shelf.mjs wrote): THE SAME DECLARATIONS UNDER THE SAME NAMES: 'import', 'namespace', 'open', 'def', 'theorem' AND NOTHING ELSE: no command of the shelf's: FOR A HAND-IN. Each laying: the table of numbers ('.._ren') and one theorem, a field a fact of the dump's own or the kernel's comparison; each contract: ONE APPLICATION. slices.SortFunc at ranges with rset.Make's own closure, as a function that is given: over the library's contract. slices.Clone of ranges as a function that is given. DERIVED: THE SHELF's CONTRACTS AT THIS DUMP, IN PLAIN WORDS (tools/lay-plain.mjs out of 'YtlofoifcdmeopaaGreatDoorLayCutScr.lean', which tools/lay-shelf.mjs wrote): THE SAME DECLARATIONS UNDER THE SAME NAMES: 'import', 'namespace', 'open', 'def', 'theorem' AND NOTHING ELSE: no command of the shelf's: FOR A HAND-IN. Each laying: the table of numbers ('.._ren') and one theorem, a field a fact of the dump's own or the kernel's comparison; each contract: ONE APPLICATION. strings.Cut as a function that is given. All functions that are given, as the reader has them. -/
import Derived.Test.YtlofoifcdmeopaaGreatDoorMWOC
import Derived.KernelRfl
import Derived.Test.YtlofoifcdmeopaaGreatDoorMWOE
import Derived.Test.YtlofoifcdmeopaaGreatDoorMWOD
import Derived.Shelf.Slices.In.SortNone
import Derived.Shelf.Sort.Plain
import Derived.Ground.NamesProg
import Derived.Test.YtlofoifcdmeopaaGreatDoorProg
import Derived.Shelf.SlSortCmp.NoneTotal
import Derived.Ground.SlsfProg
import Derived.StillTailTactics
import Derived.WalkKit
import Derived.OwnWalk
import Derived.Laws.AppendOwn
import Derived.Lib.SliceRun
import Derived.Shelf.Strings.Cut
namespace Go.Proofs.YtlofoifcdmeopaaGreatDoor.V
open Go Go.Ev
set_option maxRecDepth 100000
set_option linter.unusedVariables false
/-- slices.Index[[]string,string] -/
noncomputable def f70 : Func := Tryz.f70
def kp70 : List Nat := [0, 1, 4, 5, 7, 8]
noncomputable def c70 (p : List Nat) : Code := pick f70 p
noncomputable def L70_1 (n : Nat) (m1 : Nat) (v0 : List Dat) (v1 : ByteArray) (v4 v7 v8 : Int) : R := loopIter (fun E K => evCode C (ev C n) n kp70 (c70 [1, 0, 1, 0, 0]) E K) [0, 1, 4, 7, 8] (Kblk 0 (Kseq C (ev C n) n kp70 (c70 [1, 1]) (Ktop C 70 f70 [.und, .und]))) m1 [.shr 9 v0, .str v1, .und, .und, .int .i64 v4, .und, .und, .int .i64 v7, .int .i64 v8, .und, .und, .und, .und, .und, .und, .und, .und, .und, .und]
noncomputable def M70_1 (v0 : List Dat) (v1 : ByteArray) (v4 v7 v8 : Int) : R := lim fun φ => L70_1 (φ 0) (φ 1) v0 v1 v4 v7 v8
theorem M70_1_c (v0 : List Dat) (v1 : ByteArray) (v4 v7 v8 : Int) : Cont (fun φ => L70_1 (φ 0) (φ 1) v0 v1 v4 v7 v8) (M70_1 v0 v1 v4 v7 v8) := Cont.re id _
theorem M70_1_e (v0 : List Dat) (v1 : ByteArray) (v4 v7 v8 : Int) : Cont (fun φ => L70_1 (φ 0) (φ 0) v0 v1 v4 v7 v8) (M70_1 v0 v1 v4 v7 v8) := Cont.re (toZ 1) fun φ => L70_1 (φ 0) (φ 1) v0 v1 v4 v7 v8
theorem M70_1_of (v0 : List Dat) (v1 : ByteArray) (v4 v7 v8 : Int) {r : List Dat} (h : (bif decide (v8 < v7) then (bif decide (0 ≤ v8) then (bif decide (v8 < (v0.length : Int)) then (bif decide (v8.toNat < v0.length) then (bif v1.toList == ((rd v0 v8.toNat).S).toList then (some [.int v8]) else (M70_1 v0 v1 v4 v7 (IntKind.i64.wrap (v8 + 1)))) else none) else none) else none) else (some [.int (-1)]) : R) = some r) : M70_1 v0 v1 v4 v7 v8 = some r := lim_st (g := fun φ => L70_1 (φ 0) (φ 1) v0 v1 v4 v7 v8) 1 h (Cont.bif (Cont.bif (Cont.bif (Cont.bif (Cont.bif (Cont.const _) (M70_1_c _ _ _ _ _)) Cont.nn) Cont.nn) Cont.nn) (Cont.const _)) fun φ m hm => (congrArg (fun q => L70_1 (φ 0) q v0 v1 v4 v7 v8) hm).trans (by kernel_rfl)
theorem o70 (a0 : List Dat) (a1 : ByteArray) {r : List Dat} (h : (M70_1 a0 a1 0 (a0.length : Int) 0 : R) = some r) : E C 70 [.shr 9 a0, .str a1] = some r := E_st h (M70_1_e _ _ _ _ _) fun φ => by kernel_rfl
theorem o265 (a0 : List Dat) (a1 : ByteArray) {r : List Dat} (h : ((E C 70 [.shr 9 a0, .str a1]).bind fun d1 => (some [.bool (decide (((rd d1 0).I) ≥ 0))]) : R) = some r) : E C 265 [.shr 9 a0, .str a1] = some r := E_st h (Cont.bind (Cont.call C 70 _) fun _ => (Cont.const _)) fun φ => by kernel_rfl
end Go.Proofs.YtlofoifcdmeopaaGreatDoor.V
namespace Go.Proofs.YtlofoifcdmeopaaGreatDoor.V
open Go Go.Ev
set_option maxRecDepth 100000
set_option linter.unusedVariables false
/-- slices.Index[[]byte,byte] -/
noncomputable def f264 : Func := Tryz.f264
def kp264 : List Nat := [0, 1, 4, 5, 7, 8]
noncomputable def c264 (p : List Nat) : Code := pick f264 p
noncomputable def L264_1 (n : Nat) (m1 : Nat) (v0 : List Dat) (v1 v4 v7 v8 : Int) : R := loopIter (fun E K => evCode C (ev C n) n kp264 (c264 [1, 0, 1, 0, 0]) E K) [0, 1, 4, 7, 8] (Kblk 0 (Kseq C (ev C n) n kp264 (c264 [1, 1]) (Ktop C 264 f264 [.und, .und]))) m1 [.shr 5 v0, .int .u8 v1, .und, .und, .int .i64 v4, .und, .und, .int .i64 v7, .int .i64 v8, .und, .und, .und, .und, .und, .und, .und, .und, .und, .und]
noncomputable def M264_1 (v0 : List Dat) (v1 v4 v7 v8 : Int) : R := lim fun φ => L264_1 (φ 0) (φ 1) v0 v1 v4 v7 v8
theorem M264_1_c (v0 : List Dat) (v1 v4 v7 v8 : Int) : Cont (fun φ => L264_1 (φ 0) (φ 1) v0 v1 v4 v7 v8) (M264_1 v0 v1 v4 v7 v8) := Cont.re id _
theorem M264_1_e (v0 : List Dat) (v1 v4 v7 v8 : Int) : Cont (fun φ => L264_1 (φ 0) (φ 0) v0 v1 v4 v7 v8) (M264_1 v0 v1 v4 v7 v8) := Cont.re (toZ 1) fun φ => L264_1 (φ 0) (φ 1) v0 v1 v4 v7 v8
theorem M264_1_of (v0 : List Dat) (v1 v4 v7 v8 : Int) {r : List Dat} (h : (bif decide (v8 < v7) then (bif decide (0 ≤ v8) then (bif decide (v8 < (v0.length : Int)) then (bif decide (v8.toNat < v0.length) then (bif v1 == ((rd v0 v8.toNat).I) then (some [.int v8]) else (M264_1 v0 v1 v4 v7 (IntKind.i64.wrap (v8 + 1)))) else none) else none) else none) else (some [.int (-1)]) : R) = some r) : M264_1 v0 v1 v4 v7 v8 = some r := lim_st (g := fun φ => L264_1 (φ 0) (φ 1) v0 v1 v4 v7 v8) 1 h (Cont.bif (Cont.bif (Cont.bif (Cont.bif (Cont.bif (Cont.const _) (M264_1_c _ _ _ _ _)) Cont.nn) Cont.nn) Cont.nn) (Cont.const _)) fun φ m hm => (congrArg (fun q => L264_1 (φ 0) q v0 v1 v4 v7 v8) hm).trans (by kernel_rfl)
theorem o264 (a0 : List Dat) (a1 : Int) {r : List Dat} (h : (M264_1 a0 a1 0 (a0.length : Int) 0 : R) = some r) : E C 264 [.shr 5 a0, .int .u8 a1] = some r := E_st h (M264_1_e _ _ _ _ _) fun φ => by kernel_rfl
end Go.Proofs.YtlofoifcdmeopaaGreatDoor.V
namespace Go.Proofs.YtlofoifcdmeopaaGreatDoor.V
open Go Go.Ev Go.RowKit
set_option linter.unusedVariables false
set_option linter.unusedSimpArgs false
theorem upk' {k n : Nat} (h : k < n) (hn : n ≤ 20000000000000) : IntKind.i64.wrap ((k : Int) + 1) = ((k + 1 : Nat) : Int) := by rw [w64 (by omega) (by omega)]; omega
theorem idx_loop (l : List Int) (hl : l.length ≤ 20000000000000) (c z : Int) : ∀ (d k : Nat), k + d = l.length → ∃ i : Int, M264_1 (l.map .int) c z (l.length : Int) (k : Int) = some [.int i] ∧ -1 ≤ i ∧ i < (l.length : Int) + (if l.length = 0 then 1 else 0)
  | 0, k, h => ⟨-1, by
      apply M264_1_of
      rw [dF (by omega)], by omega, by split <;> omega⟩
  | d + 1, k, h => by
    obtain ⟨i, r1, r2⟩ := idx_loop l hl c z d (k + 1) (by omega)
    by_cases q : c = (rd (l.map Dat.int) k).I
    · refine ⟨(k : Int), ?_, by omega, by split <;> omega⟩
      apply M264_1_of
      rw [dT (by omega), List.length_map, ixT ⟨by omega, by omega⟩, Int.toNat_natCast, eT q]
    · refine ⟨i, ?_, r2⟩
      apply M264_1_of
      rw [dT (by omega), List.length_map, ixT ⟨by omega, by omega⟩, Int.toNat_natCast, eF q, upk' (n := l.length) (by omega) hl]
      exact r1
theorem idx_E (l : List Int) (hl : l.length ≤ 20000000000000) (c : Int) : ∃ i : Int, E C 264 [.shr 5 (l.map .int), .int .u8 c] = some [.int i] ∧ -1 ≤ i ∧ i < (l.length : Int) + (if l.length = 0 then 1 else 0) := by
  obtain ⟨i, r1, r2⟩ := idx_loop l hl c 0 l.length 0 (by omega)
  refine ⟨i, ?_, r2⟩
  apply o264
  rw [List.length_map]
  exact r1
theorem idxS_loop (l : List ByteArray) (hl : l.length ≤ 20000000000000) (a : ByteArray) (z : Int) : ∀ (d k : Nat), k + d = l.length → ∃ i : Int, M70_1 (l.map .str) a z (l.length : Int) (k : Int) = some [.int i]
  | 0, k, h => ⟨-1, by
      apply M70_1_of
      rw [dF (by omega)]⟩
  | d + 1, k, h => by
    obtain ⟨i, r1⟩ := idxS_loop l hl a z d (k + 1) (by omega)
    cases q : (a.toList == ((rd (l.map Dat.str) k).S).toList) with
    | true =>
      refine ⟨(k : Int), ?_⟩
      apply M70_1_of
      rw [dT (by omega), List.length_map, ixT ⟨by omega, by omega⟩, Int.toNat_natCast, q, cond_true]
    | false =>
      refine ⟨i, ?_⟩
      apply M70_1_of
      rw [dT (by omega), List.length_map, ixT ⟨by omega, by omega⟩, Int.toNat_natCast, q, cond_false, upk' (n := l.length) (by omega) hl]
      exact r1
theorem idxS_E (l : List ByteArray) (hl : l.length ≤ 20000000000000) (a : ByteArray) : ∃ i : Int, E C 70 [.shr 9 (l.map .str), .str a] = some [.int i] := by
  obtain ⟨i, r1⟩ := idxS_loop l hl a 0 l.length 0 (by omega)
  refine ⟨i, ?_⟩
  apply o70
  rw [List.length_map]
  exact r1
theorem conS_E (l : List ByteArray) (hl : l.length ≤ 20000000000000) (a : ByteArray) : ∃ c : Bool, E C 265 [.shr 9 (l.map .str), .str a] = some [.bool c] := by
  obtain ⟨i, r1⟩ := idxS_E l hl a
  refine ⟨decide (i ≥ 0), ?_⟩
  apply o265
  rw [bT r1]
  rfl
theorem SOk.at_ {b : List Int} {s : PS} (h : SOk b s) {t : Int} (h0 : 0 ≤ t) (h1 : t ≤ (b.length : Int) + 10) (h2 : s.e = 0 → t ≤ (b.length : Int)) : SOk b { s with k := t } := ⟨h0, h1, h2, h.g0, h.g1, h.nm, h.nms, h.wh⟩
theorem named_T {b : List Int} (hl : b.length ≤ 4096) {s : PS} (hs : SOk b s) (he : s.e = 0) (f : Int) (hf : 0 ≤ f ∧ f ≤ (b.length : Int)) : ∃ (a : ByteArray) (h1 h2 h3 h4 : Bool) (s1 : PS), E C 246 [pv b s, .int .i64 f] = some [opD 7 0 a h1 h2 h3 h4 false, pd b s1] ∧ SOk b s1 ∧ s1.gr = s.gr ∧ s1.nm = s.nm ∧ (s1.e = 0 → f < s1.k ∧ (a.size : Int) ≤ 32) := by
  have hN := Name_E b (by omega) f (by unfold i64P; omega)
  have hnm := hs.nm
  have hg := hs.g1
  rcases name_ok b f hf.1 with h | ⟨a, to, h, r1, r2, r3, r4⟩
  · rw [h] at hN
    have hF := hs.fail 36 f (by decide) (fun _ => hf)
    refine ⟨ByteArray.empty, (failS s 36 f).fo, (failS s 36 f).li, (failS s 36 f).al, (failS s 36 f).wi, { failS s 36 f with k := 0 }, ?_, hF.1.at_ (Int.le_refl 0) (by omega) (fun _ => by omega), by show (failS s 36 f).gr = _; unfold failS; split <;> rfl, by show (failS s 36 f).nm = _; unfold failS; split <;> rfl, fun q => absurd q hF.2⟩
    apply o246
    refine (bT hN).trans ?_
    simp only [errN, stP, agA]
    rw [eF (by decide), neT (by decide), bT (fail_E b s 36 f)]
    rfl
  · rw [h] at hN
    obtain ⟨c, hc⟩ := conS_E s.nm (by omega) a
    cases c with
    | true =>
      have hF := hs.fail 37 f (by decide) (fun _ => hf)
      refine ⟨a, (failS s 37 f).fo, (failS s 37 f).li, (failS s 37 f).al, (failS s 37 f).wi, { failS s 37 f with k := to }, ?_, hF.1.at_ (by omega) (by omega) (fun _ => r2), by show (failS s 37 f).gr = _; unfold failS; split <;> rfl, by show (failS s 37 f).nm = _; unfold failS; split <;> rfl, fun q => absurd q hF.2⟩
      apply o246
      refine (bT hN).trans ?_
      simp only [stP, agA]
      rw [eT rfl, bT hc]
      simp only [stP, agA]
      rw [cond_true, bT (fail_E b s 37 f)]
      rfl
    | false =>
      refine ⟨a, s.fo, s.li, s.al, s.wi, { s with k := to }, ?_, hs.to (by omega) r2, rfl, rfl, fun _ => ⟨r1, r3⟩⟩
      apply o246
      refine (bT hN).trans ?_
      simp only [stP, agA]
      rw [eT rfl, bT hc]
      simp only [stP, agA]
      rw [cond_false, neF rfl]
      rfl
theorem remark_T {b : List Int} (hl : b.length ≤ 4096) {s : PS} (hs : SOk b s) (f : Int) (hf : 0 ≤ f ∧ f < (b.length : Int)) : ∃ (h1 h2 h3 h4 : Bool) (s1 : PS), E C 245 [pv b s, .int .i64 f] = some [opD 0 0 ByteArray.empty h1 h2 h3 h4 true, pd b s1] ∧ SOk b s1 ∧ s1.gr = s.gr ∧ s1.nm = s.nm ∧ (s1.e = 0 → f < s1.k) := by
  obtain ⟨i, hi, i1, i2⟩ := idx_E (b.drop f.toNat) (by rw [List.length_drop]; omega) 41
  rw [List.length_drop] at i2
  have i3 : i < (b.length : Int) - f := by
    rw [if_neg (by omega)] at i2
    omega
  have hw : IntKind.i64.wrap (IntKind.i64.wrap (f + i) + 1) = f + i + 1 := by rw [w64 (n := f + i) (by omega) (by omega), w64 (by omega) (by omega)]
  have hsl : (((b.map Dat.int).take (((b.map Dat.int).length : Int).toNat)).drop f.toNat) = (b.drop f.toNat).map .int := by
    rw [Int.toNat_natCast, List.take_length, List.map_drop]
  by_cases c : i < 0
  · have hF := hs.fail 30 f (by decide) (fun _ => ⟨hf.1, by omega⟩)
    refine ⟨(failS s 30 f).fo, (failS s 30 f).li, (failS s 30 f).al, (failS s 30 f).wi, { failS s 30 f with k := f + i + 1 }, ?_, hF.1.at_ (by omega) (by omega) (fun _ => by omega), by show (failS s 30 f).gr = _; unfold failS; split <;> rfl, by show (failS s 30 f).nm = _; unfold failS; split <;> rfl, fun q => absurd q hF.2⟩
    apply o245
    rw [hsl, List.length_map, dT hf.1, dT (by omega), dT (Int.le_refl _), bT hi]
    simp only [stP, agA]
    rw [dT c, bT (fail_E b s 30 f), hw]
    rfl
  · refine ⟨s.fo, s.li, s.al, s.wi, { s with k := f + i + 1 }, ?_, hs.to (by omega) (by omega), rfl, rfl, fun _ => by show f < f + i + 1; omega⟩
    apply o245
    rw [hsl, List.length_map, dT hf.1, dT (by omega), dT (Int.le_refl _), bT hi]
    simp only [stP, agA]
    rw [dF c, hw]
    rfl
end Go.Proofs.YtlofoifcdmeopaaGreatDoor.V
namespace Go.Proofs.YtlofoifcdmeopaaGreatDoor.V
open Go Go.Ev Go.RowKit
set_option linter.unusedVariables false
set_option linter.unusedSimpArgs false
theorem op0 (k n : Int) (a : ByteArray) (f1 f2 f3 f4 no : Bool) : (opD k n a f1 f2 f3 f4 no).C 0 = .int k := (rfl)
theorem op1 (k n : Int) (a : ByteArray) (f1 f2 f3 f4 no : Bool) : (opD k n a f1 f2 f3 f4 no).C 1 = .int n := (rfl)
theorem op2 (k n : Int) (a : ByteArray) (f1 f2 f3 f4 no : Bool) : (opD k n a f1 f2 f3 f4 no).C 2 = .str a := (rfl)
theorem op3 (k n : Int) (a : ByteArray) (f1 f2 f3 f4 no : Bool) : (opD k n a f1 f2 f3 f4 no).C 3 = .bool f1 := (rfl)
theorem op4 (k n : Int) (a : ByteArray) (f1 f2 f3 f4 no : Bool) : (opD k n a f1 f2 f3 f4 no).C 4 = .bool f2 := (rfl)
theorem op5 (k n : Int) (a : ByteArray) (f1 f2 f3 f4 no : Bool) : (opD k n a f1 f2 f3 f4 no).C 5 = .bool f3 := (rfl)
theorem op6 (k n : Int) (a : ByteArray) (f1 f2 f3 f4 no : Bool) : (opD k n a f1 f2 f3 f4 no).C 6 = .bool f4 := (rfl)
theorem op7 (k n : Int) (a : ByteArray) (f1 f2 f3 f4 no : Bool) : (opD k n a f1 f2 f3 f4 no).C 7 = .bool no := (rfl)
theorem opA : (∀ (k n : Int) (a : ByteArray) (f1 f2 f3 f4 no : Bool), (opD k n a f1 f2 f3 f4 no).C 0 = .int k) ∧ (∀ (k n : Int) (a : ByteArray) (f1 f2 f3 f4 no : Bool), (opD k n a f1 f2 f3 f4 no).C 1 = .int n) ∧ (∀ (k n : Int) (a : ByteArray) (f1 f2 f3 f4 no : Bool), (opD k n a f1 f2 f3 f4 no).C 2 = .str a) ∧ (∀ (k n : Int) (a : ByteArray) (f1 f2 f3 f4 no : Bool), (opD k n a f1 f2 f3 f4 no).C 3 = .bool f1) ∧ (∀ (k n : Int) (a : ByteArray) (f1 f2 f3 f4 no : Bool), (opD k n a f1 f2 f3 f4 no).C 4 = .bool f2) ∧ (∀ (k n : Int) (a : ByteArray) (f1 f2 f3 f4 no : Bool), (opD k n a f1 f2 f3 f4 no).C 5 = .bool f3) ∧ (∀ (k n : Int) (a : ByteArray) (f1 f2 f3 f4 no : Bool), (opD k n a f1 f2 f3 f4 no).C 6 = .bool f4) ∧ (∀ (k n : Int) (a : ByteArray) (f1 f2 f3 f4 no : Bool), (opD k n a f1 f2 f3 f4 no).C 7 = .bool no) := ⟨op0, op1, op2, op3, op4, op5, op6, op7⟩
theorem open_T {b : List Int} (hl : b.length ≤ 4096) {s : PS} (hs : SOk b s) (he : s.e = 0) (hk : s.k < (b.length : Int)) : ∃ (kind num : Int) (a : ByteArray) (h1 h2 h3 h4 no : Bool) (s1 : PS), E C 229 [pv b s, .int .i64 s.k] = some [opD kind num a h1 h2 h3 h4 no, pd b s1] ∧ OpT b s s.k kind num a no s1 := by
  have k0 := hs.k0
  have e1 : IntKind.i64.wrap (s.k + 1) = s.k + 1 := w64 (by omega) (by omega)
  have e2 : IntKind.i64.wrap (s.k + 2) = s.k + 2 := w64 (by omega) (by omega)
  have e3 : IntKind.i64.wrap (s.k + 3) = s.k + 3 := w64 (by omega) (by omega)
  have e4 : IntKind.i64.wrap (s.k + 4) = s.k + 4 := w64 (by omega) (by omega)
  have b1 := byteAt_E b s (s.k + 1) (by omega)
  have b2 := byteAt_E b s (s.k + 2) (by omega)
  have b3 := byteAt_E b s (s.k + 3) (by omega)
  by_cases c63 : atB b (s.k + 1) ≠ 63
  · refine ⟨7, 0, ByteArray.empty, s.fo, s.li, s.al, s.wi, false, { s with k := s.k + 1 }, open_E b s s.k ⟨k0, by omega⟩ c63, hs.to (by omega) (by omega), rfl, rfl, fun _ => ⟨by show s.k < s.k + 1; omega, fun _ => .inr (.inl ⟨rfl, rfl, by show ((0 : Nat) : Int) ≤ 32; decide⟩)⟩⟩
  have c63' : atB b (s.k + 1) = 63 := by
    by_cases q : atB b (s.k + 1) = 63
    · exact q
    · exact absurd q c63
  have i2 : atB b (s.k + 2) ≠ 0 → s.k + 3 ≤ (b.length : Int) := fun h => by have := atB_some h; omega
  have i3 : atB b (s.k + 3) ≠ 0 → s.k + 4 ≤ (b.length : Int) := fun h => by have := atB_some h; omega
  have in1 := atB_some (b := b) (i := s.k + 1) (by rw [c63']; decide)
  have go3 : s.k + 3 ≤ (b.length : Int) → SOk b { s with k := s.k + 3 } := fun h => hs.to (by omega) h
  by_cases c58 : atB b (s.k + 2) = 58
  · refine ⟨0, 0, ByteArray.empty, s.fo, s.li, s.al, s.wi, false, { s with k := s.k + 3 }, ?_, go3 (i2 (by omega)), rfl, rfl, fun _ => ⟨by show s.k < s.k + 3; omega, fun _ => .inl ⟨rfl, rfl⟩⟩⟩
    apply o229
    rw [e1, e2, e3, bT b1]
    simp only [stP, agA]
    rw [neF c63', bT b2]
    simp only [stP, agA]
    rw [bT b3]
    simp only [stP, agA]
    rw [eT c58]
    rfl
  by_cases c62 : atB b (s.k + 2) = 62
  · refine ⟨9, 0, ByteArray.empty, s.fo, s.li, s.al, s.wi, false, { s with k := s.k + 3 }, ?_, go3 (i2 (by omega)), rfl, rfl, fun _ => ⟨by show s.k < s.k + 3; omega, fun _ => .inr (.inr (.inl ⟨rfl, rfl, rfl⟩))⟩⟩
    apply o229
    rw [e1, e2, e3, bT b1]
    simp only [stP, agA]
    rw [neF c63', bT b2]
    simp only [stP, agA]
    rw [bT b3]
    simp only [stP, agA]
    rw [eF c58, eT c62]
    rfl
  by_cases c61 : atB b (s.k + 2) = 61
  · refine ⟨10, _, ByteArray.empty, s.fo, s.li, s.al, s.wi, false, { s with k := s.k + 3 }, ?_, go3 (i2 (by omega)), rfl, rfl, fun _ => ⟨by show s.k < s.k + 3; omega, fun _ => .inr (.inr (.inr ⟨rfl, (by cases (atB b (s.k + 2) == 61) <;> decide : 1 ≤ (bif atB b (s.k + 2) == 61 then (1 : Int) else 2) ∧ (bif atB b (s.k + 2) == 61 then (1 : Int) else 2) ≤ 4), rfl⟩))⟩⟩
    apply o229
    rw [e1, e2, e3, bT b1]
    simp only [stP, agA]
    rw [neF c63', bT b2]
    simp only [stP, agA]
    rw [bT b3]
    simp only [stP, agA]
    rw [eF c58, eF c62, eT c61, bT (look_E _ _ _)]
    rfl
  by_cases c33 : atB b (s.k + 2) = 33
  · refine ⟨10, _, ByteArray.empty, s.fo, s.li, s.al, s.wi, false, { s with k := s.k + 3 }, ?_, go3 (i2 (by omega)), rfl, rfl, fun _ => ⟨by show s.k < s.k + 3; omega, fun _ => .inr (.inr (.inr ⟨rfl, (by cases (atB b (s.k + 2) == 61) <;> decide : 1 ≤ (bif atB b (s.k + 2) == 61 then (1 : Int) else 2) ∧ (bif atB b (s.k + 2) == 61 then (1 : Int) else 2) ≤ 4), rfl⟩))⟩⟩
    apply o229
    rw [e1, e2, e3, bT b1]
    simp only [stP, agA]
    rw [neF c63', bT b2]
    simp only [stP, agA]
    rw [bT b3]
    simp only [stP, agA]
    rw [eF c58, eF c62, eF c61, eT c33, bT (look_E _ _ _)]
    rfl
  by_cases c35 : atB b (s.k + 2) = 35
  · obtain ⟨h1, h2, h3, h4, s1, r1, r2, r3, r4, r5⟩ := remark_T hl (go3 (i2 (by omega))) s.k ⟨k0, hk⟩
    refine ⟨0, 0, ByteArray.empty, h1, h2, h3, h4, true, s1, ?_, r2, r3, r4, fun q => ⟨r5 q, fun h => by cases h⟩⟩
    apply o229
    rw [e1, e2, e3, bT b1]
    simp only [stP, agA]
    rw [neF c63', bT b2]
    simp only [stP, agA]
    rw [bT b3]
    simp only [stP, agA]
    rw [eF c58, eF c62, eF c61, eF c33, eT c35, bT r1]
    rfl
  by_cases c60 : atB b (s.k + 2) = 60
  · by_cases d61 : atB b (s.k + 3) = 61
    · refine ⟨10, _, ByteArray.empty, s.fo, s.li, s.al, s.wi, false, { s with k := s.k + 4 }, ?_, hs.to (by omega) (i3 (by omega)), rfl, rfl, fun _ => ⟨by show s.k < s.k + 4; omega, fun _ => .inr (.inr (.inr ⟨rfl, (by cases (atB b (s.k + 3) == 61) <;> decide : 1 ≤ (bif atB b (s.k + 3) == 61 then (3 : Int) else 4) ∧ (bif atB b (s.k + 3) == 61 then (3 : Int) else 4) ≤ 4), rfl⟩))⟩⟩
      apply o229
      rw [e1, e2, e3, e4, bT b1]
      simp only [stP, agA]
      rw [neF c63', bT b2]
      simp only [stP, agA]
      rw [bT b3]
      simp only [stP, agA]
      rw [eF c58, eF c62, eF c61, eF c33, eF c35, eT c60, eT d61, bT (look_E _ _ _)]
      rfl
    by_cases d33 : atB b (s.k + 3) = 33
    · refine ⟨10, _, ByteArray.empty, s.fo, s.li, s.al, s.wi, false, { s with k := s.k + 4 }, ?_, hs.to (by omega) (i3 (by omega)), rfl, rfl, fun _ => ⟨by show s.k < s.k + 4; omega, fun _ => .inr (.inr (.inr ⟨rfl, (by cases (atB b (s.k + 3) == 61) <;> decide : 1 ≤ (bif atB b (s.k + 3) == 61 then (3 : Int) else 4) ∧ (bif atB b (s.k + 3) == 61 then (3 : Int) else 4) ≤ 4), rfl⟩))⟩⟩
      apply o229
      rw [e1, e2, e3, e4, bT b1]
      simp only [stP, agA]
      rw [neF c63', bT b2]
      simp only [stP, agA]
      rw [bT b3]
      simp only [stP, agA]
      rw [eF c58, eF c62, eF c61, eF c33, eF c35, eT c60, eF d61, eT d33, bT (look_E _ _ _)]
      rfl
    · obtain ⟨a, h1, h2, h3, h4, s1, r1, r2, r3, r4, r5⟩ := named_T hl (go3 (i2 (by omega))) he (s.k + 3) ⟨by omega, i2 (by omega)⟩
      refine ⟨7, 0, a, h1, h2, h3, h4, false, s1, ?_, r2, r3, r4, fun q => ⟨by have := (r5 q).1; omega, fun _ => .inr (.inl ⟨rfl, rfl, (r5 q).2⟩)⟩⟩
      apply o229
      rw [e1, e2, e3, e4, bT b1]
      simp only [stP, agA]
      rw [neF c63', bT b2]
      simp only [stP, agA]
      rw [bT b3]
      simp only [stP, agA]
      rw [eF c58, eF c62, eF c61, eF c33, eF c35, eT c60, eF d61, eF d33, eT c60, bT r1]
      rfl
  · obtain ⟨h1, h2, h3, h4, no, s1, r1, r2, r3, r4, r5⟩ := toggles_loop hl (b.length + 1) { s with k := s.k + 2 } (hs.to (by omega) (by omega)) he (by show (b.length : Int) - (s.k + 2) < _; omega) s.fo s.li s.al s.wi true false
    have r0 : E C 247 [pv b { s with k := s.k + 2 }] = some [opD 0 0 ByteArray.empty h1 h2 h3 h4 no, pd b s1] := by
      apply o247
      exact r1
    refine ⟨0, 0, ByteArray.empty, h1, h2, h3, h4, no, s1, ?_, r2, r3, r4, fun q => ⟨by have h := r5 q; change s.k + 2 < s1.k at h; omega, fun _ => .inl ⟨rfl, rfl⟩⟩⟩
    apply o229
    rw [e1, e2, e3, bT b1]
    simp only [stP, agA]
    rw [neF c63', bT b2]
    simp only [stP, agA]
    rw [bT b3]
    simp only [stP, agA]
    rw [eF c58, eF c62, eF c61, eF c33, eF c35, eF c60, eF c60, bT r0]
    rfl
end Go.Proofs.YtlofoifcdmeopaaGreatDoor.V
namespace Go.Proofs.YtlofoifcdmeopaaGreatDoor.V
open Go Go.Ev Go.RowKit
set_option linter.unusedVariables false
set_option linter.unusedSimpArgs false
inductive PT where
  | mk : Nd → List PT → PT
def PT.nd : PT → Nd | .mk n _ => n
def PT.kids : PT → List PT | .mk _ ks => ks
mutual
def ptDat : PT → Dat
  | .mk n ks => ptD n (ptsDat ks)
def ptsDat : List PT → List Dat
  | [] => []
  | x :: l => ptDat x :: ptsDat l
end
mutual
def szP : PT → Nat
  | .mk _ ks => 1 + szsP ks
def szsP : List PT → Nat
  | [] => 0
  | x :: l => szP x + szsP l
end
def kidsAt : Nat → List PT → List Int
  | _, [] => []
  | m, x :: l => (m : Int) :: kidsAt (m + szP x) l
mutual
def flat : Nat → PT → List Nd
  | m, .mk n ks => { n with kids := kidsAt (m + 1) ks } :: flats (m + 1) ks
def flats : Nat → List PT → List Nd
  | _, [] => []
  | m, x :: l => flat m x ++ flats (m + szP x) l
end
mutual
theorem flat_len : ∀ (m : Nat) (x : PT), (flat m x).length = szP x
  | m, .mk n ks => by rw [flat, szP, List.length_cons, flats_len (m + 1) ks]; omega
theorem flats_len : ∀ (m : Nat) (l : List PT), (flats m l).length = szsP l
  | m, [] => rfl
  | m, x :: l => by rw [flats, szsP, List.length_append, flat_len m x, flats_len (m + szP x) l]
end
theorem szP_pos : ∀ x : PT, 1 ≤ szP x
  | .mk n ks => by rw [szP]; omega
theorem ptsDat_len : ∀ l : List PT, (ptsDat l).length = l.length
  | [] => rfl
  | x :: l => by rw [ptsDat, List.length_cons, List.length_cons, ptsDat_len l]
theorem ptsDat_rd : ∀ (pre : List PT) (x : PT) (rest : List PT), rd (ptsDat (pre ++ x :: rest)) pre.length = ptDat x
  | [], x, rest => rfl
  | y :: pre, x, rest => ptsDat_rd pre x rest
theorem len_szs : ∀ l : List PT, l.length ≤ szsP l
  | [] => Nat.le_refl _
  | x :: l => by have := szP_pos x; have := len_szs l; rw [szsP, List.length_cons]; omega
theorem kidsAt_len : ∀ (m : Nat) (l : List PT), (kidsAt m l).length = l.length
  | m, [] => rfl
  | m, x :: l => by rw [kidsAt, List.length_cons, List.length_cons, kidsAt_len]
theorem cap120t : capB 120 = 1172812402961 := by decide
theorem cap8t : capB 8 = 17592186044416 := by decide
theorem fin_setT (out rest : List Dat) (x : Nd) (ks : List Int) (kk : List Dat) (hk : kk = ks.map .int) : ((bif decide (0 ≤ (out.length : Int)) then (bif decide ((out.length : Int) < ((out ++ nodeD x :: rest).length : Int)) then (bif decide ((out.length : Int).toNat < (out ++ nodeD x :: rest).length) then (some [.list ((out ++ nodeD x :: rest).set (out.length : Int).toNat (.agg [(rd (out ++ nodeD x :: rest) (out.length : Int).toNat).C 0, (rd (out ++ nodeD x :: rest) (out.length : Int).toNat).C 1, (rd (out ++ nodeD x :: rest) (out.length : Int).toNat).C 2, (rd (out ++ nodeD x :: rest) (out.length : Int).toNat).C 3, (rd (out ++ nodeD x :: rest) (out.length : Int).toNat).C 4, (rd (out ++ nodeD x :: rest) (out.length : Int).toNat).C 5, (rd (out ++ nodeD x :: rest) (out.length : Int).toNat).C 6, (rd (out ++ nodeD x :: rest) (out.length : Int).toNat).C 7, (rd (out ++ nodeD x :: rest) (out.length : Int).toNat).C 8, .list kk]))]) else none) else none) else none) : R) = some [.list (out ++ nodeD { x with kids := ks } :: rest)] := by
  subst hk
  rw [ixT ⟨by omega, by simp; omega⟩, Int.toNat_natCast, show rd (out ++ nodeD x :: rest) out.length = nodeD x by simp [rd, List.getD_eq_getElem?_getD], List.set_append_right _ _ (Nat.le_refl _), Nat.sub_self]
  rfl
/-- What number answers at a part. -/
def NumE (x : PT) : Prop := ∀ out : List Dat, out.length + szP x ≤ 1000000 → E C 69 [ptV x.nd (ptsDat x.kids), .own 1 0 38 out] = some [.list (out ++ nsD (flat out.length x))]
theorem num_loopT (n : Nd) (ks : List PT) (hall : ∀ x, x ∈ ks → NumE x) (out : List Dat) (hsz : out.length + 1 + szsP ks ≤ 1000000) (z : List Dat) : ∀ (rest pre : List PT) (acc : List Dat) (kk : List Int), ks = pre ++ rest → acc.length = szsP pre → kk.length = pre.length → szsP pre + szsP rest = szsP ks →
    M69_1 n.kind n.frm n.to n.num n.min n.max n.mode n.name (rs n.set) (n.kids.map .int) (ptsDat ks) (out ++ nodeD n :: acc) n.kind n.frm n.to n.num n.min n.max n.mode n.name (rs n.set) (n.kids.map .int) (ptsDat ks) z (out.length : Int) (kk.map .int) (ptsDat ks) ((ptsDat ks).length : Int) (pre.length : Int) = some [.list (out ++ nodeD { n with kids := kk ++ kidsAt (out.length + 1 + acc.length) rest } :: (acc ++ nsD (flats (out.length + 1 + acc.length) rest)))]
  | [], pre, acc, kk, e, ha, hk, hs => by
    rw [List.append_nil] at e
    apply M69_1_of
    rw [e, ptsDat_len, dF (by omega)]
    refine (fin_setT out acc n kk _ rfl).trans ?_
    rw [kidsAt, List.append_nil, flats]
    simp [nsD]
  | .mk m ms :: rest, pre, acc, kk, e, ha, hk, hs => by
    have hx := hall (.mk m ms) (by rw [e]; simp)
    have hp := len_szs pre
    have hz1 := szP_pos (.mk m ms)
    rw [szsP] at hs
    have hE := hx (out ++ nodeD n :: acc) (by rw [List.length_append, List.length_cons, ha]; omega)
    have hlen : (out ++ nodeD n :: acc).length = out.length + 1 + acc.length := by rw [List.length_append, List.length_cons]; omega
    have hrec := num_loopT n ks hall out hsz z rest (pre ++ [.mk m ms]) (acc ++ nsD (flat (out.length + 1 + acc.length) (.mk m ms))) (kk ++ [((out.length + 1 + acc.length : Nat) : Int)]) (by rw [e, List.append_assoc]; rfl) (by rw [List.length_append, nsD_len, flat_len, ha, szs_app, szsP, szsP]; omega) (by rw [List.length_append, List.length_append, hk]; rfl) (by rw [szs_app, szsP, szsP]; omega)
    have hks : ks.length = pre.length + (rest.length + 1) := by rw [e, List.length_append, List.length_cons]
    have hks2 := len_szs ks
    apply M69_1_of
    rw [dT (by rw [ptsDat_len]; omega), ixT ⟨by omega, by rw [ptsDat_len]; omega⟩, cap8t, dT (by rw [List.length_map, hk]; show _ + 1 ≤ _; omega), Int.toNat_natCast]
    have hr : rd (ptsDat ks) pre.length = ptD m (ptsDat ms) := by rw [e, ptsDat_rd]; rfl
    rw [hr]
    simp only [rd0, rd1, rd2, rd3, pt0, pt1, pt2, pt3, pt4, pt5, pt6, pt7, pt8, pt9, pt10, aggC0, aggC1, aggC2, aggC3, aggC4, aggC5, datL, datI, datB, datS]
    refine (bT hE).trans ?_
    simp only [rd0, rd1, rd2, rd3, pt0, pt1, pt2, pt3, pt4, pt5, pt6, pt7, pt8, pt9, pt10, aggC0, aggC1, aggC2, aggC3, aggC4, aggC5, datL, datI, datB, datS]
    rw [hlen, upT (n := ks.length) (by omega) (by omega)]
    rw [List.length_append, List.length_cons, List.length_nil] at hrec
    rw [List.length_append, nsD_len, flat_len] at hrec
    have e1 : kk.map Dat.int ++ [Dat.int ((out.length + 1 + acc.length : Nat) : Int)] = (kk ++ [((out.length + 1 + acc.length : Nat) : Int)]).map .int := by simp
    have e2 : out ++ nodeD n :: acc ++ nsD (flat (out.length + 1 + acc.length) (.mk m ms)) = out ++ nodeD n :: (acc ++ nsD (flat (out.length + 1 + acc.length) (.mk m ms))) := by simp
    rw [e1, e2]
    refine hrec.trans ?_
    rw [kidsAt, flats, ← Nat.add_assoc]
    simp [nsD, List.append_assoc]
where
  szs_app : ∀ (a b : List PT), szsP (a ++ b) = szsP a + szsP b
    | [], b => by rw [List.nil_append, szsP]; omega
    | x :: a, b => by rw [List.cons_append, szsP, szsP, szs_app a b]; omega
  upT {k n : Nat} (h : k < n) (hn : n ≤ 20000000000000) : IntKind.i64.wrap ((k : Int) + 1) = ((k + 1 : Nat) : Int) := by rw [w64 (by omega) (by omega)]; omega
mutual
theorem number_T : ∀ x : PT, NumE x
  | .mk n ks => fun out ho => by
    rw [szP] at ho
    have hl := len_szs ks
    apply o69
    rw [cap120t, dT (by show out.length + 1 ≤ _; omega)]
    have := num_loopT n ks (numbers_T ks) out (by omega) [] ks [] [] [] rfl rfl rfl (by rw [szsP]; omega)
    refine this.trans ?_
    rw [flat]
    rfl
theorem numbers_T : ∀ (ks : List PT), ∀ x, x ∈ ks → NumE x
  | [], x, h => by cases h
  | y :: l, x, h => by
    rw [List.mem_cons] at h
    rcases h with rfl | h
    · exact number_T x
    · exact numbers_T l x h
end
/-! What is numbered is laid. -/
mutual
theorem flat_laid (ns : List Nd) : ∀ (x : PT) (i f : Nat), (∀ j, j < szP x → ns[i + j]? = (flat i x)[j]?) → szP x ≤ f → endK ns f i = some (i + szP x)
  | .mk n ks, i, f, h, hf => by
    rw [szP] at hf
    obtain ⟨g, rfl⟩ : ∃ g, f = g + 1 := ⟨f - 1, by omega⟩
    have h0 := h 0 (by rw [szP]; omega)
    rw [flat, Nat.add_zero] at h0
    unfold endK
    rw [h0]
    show walkK (endK ns g) (kidsAt (i + 1) ks) (i + 1) = _
    rw [flats_laid ns ks (i + 1) g (fun j hj => by
      have := h (j + 1) (by rw [szP]; omega)
      rw [flat, List.getElem?_cons_succ] at this
      rw [← this]
      congr 1
      omega) (by omega), szP]
    congr 1
    omega
theorem flats_laid (ns : List Nd) : ∀ (l : List PT) (i f : Nat), (∀ j, j < szsP l → ns[i + j]? = (flats i l)[j]?) → szsP l ≤ f → walkK (endK ns f) (kidsAt i l) i = some (i + szsP l)
  | [], i, f, h, hf => by rw [kidsAt, szsP]; rfl
  | x :: l, i, f, h, hf => by
    rw [szsP] at hf
    have h1 := flat_laid ns x i f (fun j hj => by
      have := h j (by rw [szsP]; omega)
      rw [this, flats, List.getElem?_append_left (by rw [flat_len]; exact hj)]) (by omega)
    have h2 := flats_laid ns l (i + szP x) f (fun j hj => by
      have := h (szP x + j) (by rw [szsP]; omega)
      rw [flats, List.getElem?_append_right (by rw [flat_len]; omega), flat_len, Nat.add_sub_cancel_left] at this
      rw [← this, Nat.add_assoc]) (by omega)
    rw [kidsAt]
    unfold walkK
    rw [if_neg (fun q => q rfl), h1]
    show walkK (endK ns f) (kidsAt (i + szP x) l) (i + szP x) = _
    rw [h2, szsP]
    congr 1
    omega
end
theorem flat_all (x : PT) : endK (flat 0 x) ((flat 0 x).length + 1) 0 = some (flat 0 x).length := by
  have := flat_laid (flat 0 x) x 0 ((flat 0 x).length + 1) (fun j _ => by rw [Nat.zero_add]) (by rw [flat_len]; omega)
  rw [this, flat_len, Nat.zero_add]
/-! A property of each node, with as many kids as it has. -/
mutual
def AllP (p : Nd → List PT → Prop) : PT → Prop
  | .mk n ks => p n ks ∧ AllsP p ks
def AllsP (p : Nd → List PT → Prop) : List PT → Prop
  | [] => True
  | x :: l => AllP p x ∧ AllsP p l
end
end Go.Proofs.YtlofoifcdmeopaaGreatDoor.V
namespace Go.Proofs.YtlofoifcdmeopaaGreatDoor.V
open Go Go.Ev Go.RowKit
set_option linter.unusedVariables false
set_option linter.unusedSimpArgs false
mutual
def grpsP : PT → List (Int × ByteArray)
  | .mk n ks => (if n.kind = 7 then [(n.num, n.name)] else []) ++ grpsL ks
def grpsL : List PT → List (Int × ByteArray)
  | [] => []
  | x :: l => grpsP x ++ grpsL l
end
def numb : Int → List ByteArray → List (Int × ByteArray)
  | _, [] => []
  | g, a :: l => (g, a) :: numb (g + 1) l
theorem numb_app : ∀ (g : Int) (a c : List ByteArray), numb g (a ++ c) = numb g a ++ numb (g + a.length) c
  | g, [], c => by simp [numb]
  | g, x :: a, c => by
    rw [List.cons_append, numb, numb, numb_app (g + 1) a c, List.length_cons, List.cons_append, show g + 1 + (a.length : Int) = g + ((a.length + 1 : Nat) : Int) by omega]
/-- The groups that were read between two states. -/
def Grp (s s' : PS) (l : List (Int × ByteArray)) : Prop := ∃ ns, s'.nm = s.nm ++ ns ∧ s'.gr = s.gr + (ns.length : Int) ∧ l = numb (s.gr + 1) ns
theorem Grp.none {s s' : PS} (h1 : s'.nm = s.nm) (h2 : s'.gr = s.gr) : Grp s s' [] := ⟨[], by rw [h1, List.append_nil], by rw [h2]; simp, rfl⟩
theorem Grp.trans {s t u : PS} {l m : List (Int × ByteArray)} (h1 : Grp s t l) (h2 : Grp t u m) : Grp s u (l ++ m) := by
  obtain ⟨a, a1, a2, rfl⟩ := h1
  obtain ⟨c, c1, c2, rfl⟩ := h2
  exact ⟨a ++ c, by rw [c1, a1, List.append_assoc], by rw [c2, a2, List.length_append]; omega, by rw [numb_app, a2, show s.gr + (a.length : Int) + 1 = s.gr + 1 + (a.length : Int) by omega]⟩
/-- What a node is by itself, and that its kids stand within it. -/
def AlF (n : Nd) (ks : List PT) : Prop := AloneN n ks.length ∧ ∀ k, k ∈ ks → n.frm ≤ k.nd.frm ∧ k.nd.to ≤ n.to
theorem AlF.leaf {n : Nd} (h : AloneN n 0) : AlF n [] := ⟨h, fun k hk => by cases hk⟩
theorem AlF.one {n : Nd} {x : PT} (h : AloneN n 1) (h1 : n.frm ≤ x.nd.frm) (h2 : x.nd.to ≤ n.to) : AlF n [x] := ⟨h, fun k hk => by rw [List.mem_singleton] at hk; rw [hk]; exact ⟨h1, h2⟩⟩
/-- A part that was read between two states. -/
def PartOk (s : PS) (x : PT) (s' : PS) : Prop := AllP AlF x ∧ s.k ≤ x.nd.frm ∧ x.nd.frm ≤ x.nd.to ∧ x.nd.to ≤ s'.k ∧ s.k ≤ s'.k ∧ 1 ≤ x.nd.kind ∧ Grp s s' (grpsP x)
def AltSpec (b : List Int) (d : Int) : Prop := ∀ s, SOk b s → s.e = 0 → ∃ x s', E C 66 [pv b s, .int .i64 d] = some [ptDat x, pd b s'] ∧ SOk b s' ∧ (s'.e = 0 → PartOk s x s' ∧ ((szP x : Nat) : Int) ≤ 8 * (s'.k - s.k) + 1)
theorem cap16g : capB 16 = 8796093022208 := by decide
theorem group_T {b : List Int} (hl : b.length ≤ 4096) {d : Int} (IH : d ≤ 100 → AltSpec b d) {s : PS} (hs : SOk b s) (he : s.e = 0) (hk : s.k < (b.length : Int)) : ∃ x may s', E C 206 [pv b s, .int .i64 d] = some [ptDat x, .bool may, pd b s'] ∧ SOk b s' ∧ (s'.e = 0 → s.k < s'.k ∧ ((x = .mk nd0P [] ∧ may = false ∧ Grp s s' []) ∨ (PartOk s x s' ∧ ((szP x : Nat) : Int) ≤ 8 * (s'.k - s.k)))) := by
  have k0 := hs.k0
  by_cases hd : d > 100
  · have hF := hs.fail 39 s.k (by decide) (fun _ => ⟨k0, by omega⟩)
    refine ⟨.mk nd0P [], false, failS s 39 s.k, ?_, hF.1, fun q => absurd q hF.2⟩
    rw [ptDat]
    apply o206
    rw [dT hd, bT (fail_E b s 39 s.k)]
    rfl
  have IH' := IH (by omega)
  obtain ⟨kind, num, a, h1, h2, h3, h4, no, s1, r1, r2, r3, r4, r5⟩ := open_T hl hs he hk
  have hs2 : SOk b { s1 with fo := h1, li := h2, al := h3, wi := h4 } := ⟨r2.k0, r2.k1, r2.kE, r2.g0, r2.g1, r2.nm, r2.nms, r2.wh⟩
  cases no with
  | true =>
    refine ⟨.mk nd0P [], false, { s1 with fo := h1, li := h2, al := h3, wi := h4 }, ?_, hs2, fun q => ⟨(r5 q).1, .inl ⟨rfl, rfl, Grp.none r4 r3⟩⟩⟩
    rw [ptDat]
    apply o206
    rw [dF hd, bT r1]
    simp only [stP, opA]
    rfl
  | false =>
  by_cases e1n : s1.e ≠ 0
  · refine ⟨.mk nd0P [], false, { s1 with fo := h1, li := h2, al := h3, wi := h4 }, ?_, hs2, fun q => absurd q e1n⟩
    rw [ptDat]
    apply o206
    rw [dF hd, bT r1]
    simp only [stP, opA]
    rw [cond_false, neT e1n]
    rfl
  have e1 : s1.e = 0 := by omega
  obtain ⟨p1, p2⟩ := r5 e1
  have p3 := p2 rfl
  have kE1 := r2.kE e1
  by_cases k7 : kind = 7
  · obtain ⟨n0, ha⟩ : num = 0 ∧ (a.size : Int) ≤ 32 := by
      rcases p3 with q | q | q | q
      · omega
      · exact ⟨q.2.1, q.2.2⟩
      · omega
      · omega
    by_cases g99 : s1.gr = 99
    · have hF := r2.fail 40 s.k (by decide) (fun _ => ⟨k0, by omega⟩)
      refine ⟨.mk nd0P [], false, failS s1 40 s.k, ?_, hF.1, fun q => absurd q hF.2⟩
      rw [ptDat]
      apply o206
      rw [dF hd, bT r1]
      simp only [stP, opA]
      rw [cond_false, neF e1, eT k7, eT g99, bT (fail_E b s1 40 s.k)]
      rfl
    have gg := r2.g0
    have gg1 := r2.g1
    have nn := r2.nm
    obtain ⟨x, s3, iE, i1, i2⟩ := IH' { s1 with fo := h1, li := h2, al := h3, wi := h4, gr := s1.gr + 1, nm := s1.nm ++ [a] } ⟨r2.k0, r2.k1, r2.kE, by show 0 ≤ s1.gr + 1; omega, by show s1.gr + 1 ≤ 99; omega, by show ((s1.nm ++ [a]).length : Int) = s1.gr + 1 + 1; rw [List.length_append]; simp; omega, fun y hy => by
      have hy' : y ∈ s1.nm ++ [a] := hy
      rw [List.mem_append] at hy'
      rcases hy' with hy' | hy'
      · exact r2.nms y hy'
      · rw [List.mem_singleton] at hy'; rw [hy']; exact ha, r2.wh⟩ e1
    obtain ⟨n, ks⟩ := x
    rw [ptDat] at iE
    have hs4 : SOk b { s3 with fo := s1.fo, li := s1.li, al := s1.al, wi := s1.wi } := ⟨i1.k0, i1.k1, i1.kE, i1.g0, i1.g1, i1.nm, i1.nms, i1.wh⟩
    by_cases c41 : atB b s3.k = 41
    · cases ho : overB b { s3 with fo := s1.fo, li := s1.li, al := s1.al, wi := s1.wi } with
      | true =>
        have hF := hs4.fail 30 s.k (by decide) (fun _ => ⟨k0, by omega⟩)
        refine ⟨.mk nd0P [], false, failS { s3 with fo := s1.fo, li := s1.li, al := s1.al, wi := s1.wi } 30 s.k, ?_, hF.1, fun q => absurd q hF.2⟩
        rw [ptDat]
        apply o206
        rw [dF hd, bT r1]
        simp only [stP, opA]
        rw [cond_false, neF e1, eT k7, eF g99, cap16g, List.length_map, dT (by show s1.nm.length + 1 ≤ _; omega), w64 (n := s1.gr + 1) (by omega) (by omega), show s1.nm.map Dat.str ++ [Dat.str a] = (s1.nm ++ [a]).map .str by simp]
        refine (bT iE).trans ?_
        simp only [stP, opA]
        rw [bT (byteAt_E b { s3 with fo := s1.fo, li := s1.li, al := s1.al, wi := s1.wi } _ i1.k0)]
        simp only [stP, opA]
        rw [neF c41, bT (over_E b { s3 with fo := s1.fo, li := s1.li, al := s1.al, wi := s1.wi }), ho]
        simp only [stP, opA]
        rw [cond_true, bT (fail_E b { s3 with fo := s1.fo, li := s1.li, al := s1.al, wi := s1.wi } 30 s.k)]
        rfl
      | false =>
        unfold overB at ho
        simp only [Bool.or_eq_false_iff, decide_eq_false_iff_not, bne_eq_false_iff_eq] at ho
        obtain ⟨e3, k3⟩ := ho
        obtain ⟨⟨g1, g2, g3, g4, g5, g6, g7⟩, gz⟩ := i2 e3
        have k30 := i1.k0
        refine ⟨.mk ⟨7, s.k, s3.k + 1, s1.gr + 1, 0, 0, 0, a, [], []⟩ [.mk n ks], true, { s3 with k := s3.k + 1, fo := s1.fo, li := s1.li, al := s1.al, wi := s1.wi }, ?_, ⟨by show 0 ≤ s3.k + 1; omega, by show s3.k + 1 ≤ _; omega, fun _ => by show s3.k + 1 ≤ _; omega, i1.g0, i1.g1, i1.nm, i1.nms, i1.wh⟩, fun _ => ⟨by show s.k < s3.k + 1; (have hst : s1.k ≤ s3.k := g5; omega), .inr ⟨?_, by
            have hst : s1.k ≤ s3.k := g5
            have gz' : ((szP (PT.mk n ks) : Nat) : Int) ≤ 8 * (s3.k - s1.k) + 1 := gz
            show ((szP (PT.mk _ [PT.mk n ks]) : Nat) : Int) ≤ 8 * (s3.k + 1 - s.k)
            rw [szP, szsP, szsP]
            omega⟩⟩⟩
        · rw [ptDat, ptsDat, ptsDat, ptDat]
          apply o206
          rw [dF hd, bT r1]
          simp only [stP, opA]
          rw [cond_false, neF e1, eT k7, eF g99, cap16g, List.length_map, dT (by show s1.nm.length + 1 ≤ _; omega), w64 (n := s1.gr + 1) (by omega) (by omega), show s1.nm.map Dat.str ++ [Dat.str a] = (s1.nm ++ [a]).map .str by simp]
          refine (bT iE).trans ?_
          simp only [stP, opA]
          rw [bT (byteAt_E b { s3 with fo := s1.fo, li := s1.li, al := s1.al, wi := s1.wi } _ i1.k0)]
          simp only [stP, opA]
          rw [neF c41, bT (over_E b { s3 with fo := s1.fo, li := s1.li, al := s1.al, wi := s1.wi }), show overB b { s3 with fo := s1.fo, li := s1.li, al := s1.al, wi := s1.wi } = false by unfold overB; rw [show (s3.e != 0) = false by simp [e3], decide_eq_false k3]; rfl]
          simp only [stP, opA]
          rw [cond_false, eF (show kind ≠ 0 by omega), k7, w64 (n := s3.k + 1) (by omega) (by omega)]
          rfl
        · have g1' : s1.k ≤ n.frm := g2
          have hst : s1.k ≤ s3.k := g5
          refine ⟨?_, Int.le_refl _, ?_, Int.le_refl _, ?_, by show (1 : Int) ≤ 7; decide, ?_⟩
          · rw [AllP]
            exact ⟨AlF.one (alone_group k0 (by omega) (by omega) ha ⟨by omega, by omega⟩) (by show s.k ≤ n.frm; omega) (by show n.to ≤ s3.k + 1; (have g4' : n.to ≤ s3.k := g4; omega)), by rw [AllsP, AllsP]; exact ⟨g1, trivial⟩⟩
          · show s.k ≤ s3.k + 1; omega
          · show s.k ≤ s3.k + 1; omega
          · obtain ⟨ns, m1, m2, m3⟩ := g7
            refine ⟨a :: ns, ?_, ?_, ?_⟩
            · show s3.nm = _
              rw [m1, ← r4, List.append_assoc]; rfl
            · show s3.gr = _
              rw [m2, List.length_cons, ← r3]
              show s1.gr + 1 + _ = _
              omega
            · rw [grpsP, grpsL, grpsL, if_pos rfl, List.append_nil, m3, numb, ← r3]
              rfl
    · have hF := hs4.fail 30 s.k (by decide) (fun _ => ⟨k0, by omega⟩)
      refine ⟨.mk nd0P [], false, failS { s3 with fo := s1.fo, li := s1.li, al := s1.al, wi := s1.wi } 30 s.k, ?_, hF.1, fun q => absurd q hF.2⟩
      rw [ptDat]
      apply o206
      rw [dF hd, bT r1]
      simp only [stP, opA]
      rw [cond_false, neF e1, eT k7, eF g99, cap16g, List.length_map, dT (by show s1.nm.length + 1 ≤ _; omega), w64 (n := s1.gr + 1) (by omega) (by omega), show s1.nm.map Dat.str ++ [Dat.str a] = (s1.nm ++ [a]).map .str by simp]
      refine (bT iE).trans ?_
      simp only [stP, opA]
      rw [bT (byteAt_E b { s3 with fo := s1.fo, li := s1.li, al := s1.al, wi := s1.wi } _ i1.k0)]
      simp only [stP, opA]
      rw [neT c41, bT (fail_E b { s3 with fo := s1.fo, li := s1.li, al := s1.al, wi := s1.wi } 30 s.k)]
      rfl
  · obtain ⟨x, s3, iE, i1, i2⟩ := IH' { s1 with fo := h1, li := h2, al := h3, wi := h4 } hs2 e1
    obtain ⟨n, ks⟩ := x
    rw [ptDat] at iE
    by_cases k00 : kind = 0
    · have hs4 : SOk b { s3 with fo := s1.fo, li := s1.li, al := s1.al, wi := s1.wi } := ⟨i1.k0, i1.k1, i1.kE, i1.g0, i1.g1, i1.nm, i1.nms, i1.wh⟩
      by_cases c41 : atB b s3.k = 41
      · cases ho : overB b { s3 with fo := s1.fo, li := s1.li, al := s1.al, wi := s1.wi } with
        | true =>
          have hF := hs4.fail 30 s.k (by decide) (fun _ => ⟨k0, by omega⟩)
          refine ⟨.mk nd0P [], false, failS { s3 with fo := s1.fo, li := s1.li, al := s1.al, wi := s1.wi } 30 s.k, ?_, hF.1, fun q => absurd q hF.2⟩
          rw [ptDat]
          apply o206
          rw [dF hd, bT r1]
          simp only [stP, opA]
          rw [cond_false, neF e1, eF k7]
          refine (bT iE).trans ?_
          simp only [stP, opA]
          rw [bT (byteAt_E b { s3 with fo := s1.fo, li := s1.li, al := s1.al, wi := s1.wi } _ i1.k0)]
          simp only [stP, opA]
          rw [neF c41, bT (over_E b { s3 with fo := s1.fo, li := s1.li, al := s1.al, wi := s1.wi }), ho]
          simp only [stP, opA]
          rw [cond_true, bT (fail_E b { s3 with fo := s1.fo, li := s1.li, al := s1.al, wi := s1.wi } 30 s.k)]
          rfl
        | false =>
          unfold overB at ho
          simp only [Bool.or_eq_false_iff, decide_eq_false_iff_not, bne_eq_false_iff_eq] at ho
          obtain ⟨e3, k3⟩ := ho
          obtain ⟨⟨g1, g2, g3, g4, g5, g6, g7⟩, gz⟩ := i2 e3
          have k30 := i1.k0
          refine ⟨.mk n ks, true, { s3 with k := s3.k + 1, fo := s1.fo, li := s1.li, al := s1.al, wi := s1.wi }, ?_, ⟨by show 0 ≤ s3.k + 1; omega, by show s3.k + 1 ≤ _; omega, fun _ => by show s3.k + 1 ≤ _; omega, i1.g0, i1.g1, i1.nm, i1.nms, i1.wh⟩, fun _ => ⟨by show s.k < s3.k + 1; (have hst : s1.k ≤ s3.k := g5; omega), .inr ⟨?_, by
            have hst : s1.k ≤ s3.k := g5
            have gz' : ((szP (PT.mk n ks) : Nat) : Int) ≤ 8 * (s3.k - s1.k) + 1 := gz
            show ((szP (PT.mk n ks) : Nat) : Int) ≤ 8 * (s3.k + 1 - s.k)
            omega⟩⟩⟩
          · rw [ptDat]
            apply o206
            rw [dF hd, bT r1]
            simp only [stP, opA]
            rw [cond_false, neF e1, eF k7]
            refine (bT iE).trans ?_
            simp only [stP, opA]
            rw [bT (byteAt_E b { s3 with fo := s1.fo, li := s1.li, al := s1.al, wi := s1.wi } _ i1.k0)]
            simp only [stP, opA]
            rw [neF c41, bT (over_E b { s3 with fo := s1.fo, li := s1.li, al := s1.al, wi := s1.wi }), show overB b { s3 with fo := s1.fo, li := s1.li, al := s1.al, wi := s1.wi } = false by unfold overB; rw [show (s3.e != 0) = false by simp [e3], decide_eq_false k3]; rfl]
            simp only [stP, opA]
            rw [cond_false, eT k00, w64 (n := s3.k + 1) (by omega) (by omega)]
            rfl
          · have g1' : s1.k ≤ n.frm := g2
            have hst : s1.k ≤ s3.k := g5
            refine ⟨g1, Int.le_trans (Int.le_of_lt p1) g2, g3, ?_, ?_, g6, ?_⟩
            · show n.to ≤ s3.k + 1
              have : n.to ≤ s3.k := g4
              omega
            · show s.k ≤ s3.k + 1; omega
            · obtain ⟨ns, m1, m2, m3⟩ := g7
              exact ⟨ns, by show s3.nm = _; rw [m1, ← r4], by show s3.gr = _; rw [m2, ← r3], by rw [m3, ← r3]⟩
      · have hF := hs4.fail 30 s.k (by decide) (fun _ => ⟨k0, by omega⟩)
        refine ⟨.mk nd0P [], false, failS { s3 with fo := s1.fo, li := s1.li, al := s1.al, wi := s1.wi } 30 s.k, ?_, hF.1, fun q => absurd q hF.2⟩
        rw [ptDat]
        apply o206
        rw [dF hd, bT r1]
        simp only [stP, opA]
        rw [cond_false, neF e1, eF k7]
        refine (bT iE).trans ?_
        simp only [stP, opA]
        rw [bT (byteAt_E b { s3 with fo := s1.fo, li := s1.li, al := s1.al, wi := s1.wi } _ i1.k0)]
        simp only [stP, opA]
        rw [neT c41, bT (fail_E b { s3 with fo := s1.fo, li := s1.li, al := s1.al, wi := s1.wi } 30 s.k)]
        rfl
    · have hs4 : SOk b { s3 with fo := s1.fo, li := s1.li, al := s1.al, wi := s1.wi } := ⟨i1.k0, i1.k1, i1.kE, i1.g0, i1.g1, i1.nm, i1.nms, i1.wh⟩
      by_cases c41 : atB b s3.k = 41
      · cases ho : overB b { s3 with fo := s1.fo, li := s1.li, al := s1.al, wi := s1.wi } with
        | true =>
          have hF := hs4.fail 30 s.k (by decide) (fun _ => ⟨k0, by omega⟩)
          refine ⟨.mk nd0P [], false, failS { s3 with fo := s1.fo, li := s1.li, al := s1.al, wi := s1.wi } 30 s.k, ?_, hF.1, fun q => absurd q hF.2⟩
          rw [ptDat]
          apply o206
          rw [dF hd, bT r1]
          simp only [stP, opA]
          rw [cond_false, neF e1, eF k7]
          refine (bT iE).trans ?_
          simp only [stP, opA]
          rw [bT (byteAt_E b { s3 with fo := s1.fo, li := s1.li, al := s1.al, wi := s1.wi } _ i1.k0)]
          simp only [stP, opA]
          rw [neF c41, bT (over_E b { s3 with fo := s1.fo, li := s1.li, al := s1.al, wi := s1.wi }), ho]
          simp only [stP, opA]
          rw [cond_true, bT (fail_E b { s3 with fo := s1.fo, li := s1.li, al := s1.al, wi := s1.wi } 30 s.k)]
          rfl
        | false =>
          unfold overB at ho
          simp only [Bool.or_eq_false_iff, decide_eq_false_iff_not, bne_eq_false_iff_eq] at ho
          obtain ⟨e3, k3⟩ := ho
          obtain ⟨⟨g1, g2, g3, g4, g5, g6, g7⟩, gz⟩ := i2 e3
          have k30 := i1.k0
          refine ⟨.mk ⟨kind, s.k, s3.k + 1, num, 0, 0, 0, a, [], []⟩ [.mk n ks], true, { s3 with k := s3.k + 1, fo := s1.fo, li := s1.li, al := s1.al, wi := s1.wi }, ?_, ⟨by show 0 ≤ s3.k + 1; omega, by show s3.k + 1 ≤ _; omega, fun _ => by show s3.k + 1 ≤ _; omega, i1.g0, i1.g1, i1.nm, i1.nms, i1.wh⟩, fun _ => ⟨by show s.k < s3.k + 1; (have hst : s1.k ≤ s3.k := g5; omega), .inr ⟨?_, by
            have hst : s1.k ≤ s3.k := g5
            have gz' : ((szP (PT.mk n ks) : Nat) : Int) ≤ 8 * (s3.k - s1.k) + 1 := gz
            show ((szP (PT.mk _ [PT.mk n ks]) : Nat) : Int) ≤ 8 * (s3.k + 1 - s.k)
            rw [szP, szsP, szsP]
            omega⟩⟩⟩
          · rw [ptDat, ptsDat, ptsDat, ptDat]
            apply o206
            rw [dF hd, bT r1]
            simp only [stP, opA]
            rw [cond_false, neF e1, eF k7]
            refine (bT iE).trans ?_
            simp only [stP, opA]
            rw [bT (byteAt_E b { s3 with fo := s1.fo, li := s1.li, al := s1.al, wi := s1.wi } _ i1.k0)]
            simp only [stP, opA]
            rw [neF c41, bT (over_E b { s3 with fo := s1.fo, li := s1.li, al := s1.al, wi := s1.wi }), show overB b { s3 with fo := s1.fo, li := s1.li, al := s1.al, wi := s1.wi } = false by unfold overB; rw [show (s3.e != 0) = false by simp [e3], decide_eq_false k3]; rfl]
            simp only [stP, opA]
            rw [cond_false, eF k00, w64 (n := s3.k + 1) (by omega) (by omega)]
            rfl
          · have g1' : s1.k ≤ n.frm := g2
            have hst : s1.k ≤ s3.k := g5
            have hal : AloneN ⟨kind, s.k, s3.k + 1, num, 0, 0, 0, a, [], []⟩ 1 ∧ kind ≠ 7 ∧ 1 ≤ kind := by
              rcases p3 with q | q | ⟨q1, q2, q3⟩ | ⟨q1, q2, q3⟩
              · exact absurd q.1 k00
              · exact absurd q.1 k7
              · subst q1 q2 q3
                exact ⟨alone_atomic k0 (by omega) (by omega), by decide, by decide⟩
              · subst q1 q3
                exact ⟨alone_look k0 (by omega) (by omega) q2, by decide, by decide⟩
            refine ⟨?_, Int.le_refl _, ?_, Int.le_refl _, ?_, hal.2.2, ?_⟩
            · rw [AllP]
              exact ⟨AlF.one hal.1 (by show s.k ≤ n.frm; (have g1' : s1.k ≤ n.frm := g2; omega)) (by show n.to ≤ s3.k + 1; (have g4' : n.to ≤ s3.k := g4; omega)), by rw [AllsP, AllsP]; exact ⟨g1, trivial⟩⟩
            · show s.k ≤ s3.k + 1; omega
            · show s.k ≤ s3.k + 1; omega
            · obtain ⟨ns, m1, m2, m3⟩ := g7
              refine ⟨ns, by show s3.nm = _; rw [m1, ← r4], by show s3.gr = _; rw [m2, ← r3], ?_⟩
              rw [grpsP, grpsL, grpsL, if_neg hal.2.1, List.append_nil, m3, ← r3]
              rfl
      · have hF := hs4.fail 30 s.k (by decide) (fun _ => ⟨k0, by omega⟩)
        refine ⟨.mk nd0P [], false, failS { s3 with fo := s1.fo, li := s1.li, al := s1.al, wi := s1.wi } 30 s.k, ?_, hF.1, fun q => absurd q hF.2⟩
        rw [ptDat]
        apply o206
        rw [dF hd, bT r1]
        simp only [stP, opA]
        rw [cond_false, neF e1, eF k7]
        refine (bT iE).trans ?_
        simp only [stP, opA]
        rw [bT (byteAt_E b { s3 with fo := s1.fo, li := s1.li, al := s1.al, wi := s1.wi } _ i1.k0)]
        simp only [stP, opA]
        rw [neT c41, bT (fail_E b { s3 with fo := s1.fo, li := s1.li, al := s1.al, wi := s1.wi } 30 s.k)]
        rfl
end Go.Proofs.YtlofoifcdmeopaaGreatDoor.V
namespace Go.Proofs.YtlofoifcdmeopaaGreatDoor.V
open Go Go.Ev Go.RowKit
set_option linter.unusedVariables false
set_option linter.unusedSimpArgs false
theorem brQ_to {b : List Int} {i : Nat} {lo hi : Int} {to : Nat} (h : brQ b i = some (lo, hi, to)) : i < to := by
  unfold brQ at h
  split at h
  · cases h
  split at h
  · split at h
    · simp only [Option.some.injEq, Prod.mk.injEq] at h
      omega
    · cases h
  · split at h
    · simp only [Option.some.injEq, Prod.mk.injEq] at h
      omega
    · cases h
/-- What a quantifier may be. -/
def QOk (b : List Int) (k q0 q1 q2 q3 : Int) : Prop := (0 ≤ q0 ∧ q0 ≤ 1000) ∧ (q1 = -1 ∨ (q0 ≤ q1 ∧ 1 ≤ q1 ∧ q1 ≤ 1000)) ∧ 0 ≤ q2 ∧ k < q3 ∧ q3 ≤ (b.length : Int)
theorem fin_T {b : List Int} {k lo hi : Int} {to : Nat} (h0 : 0 ≤ lo) (h1 : -1 ≤ hi) (h2 : k < (to : Int)) (h3 : to ≤ b.length) : ∃ q0 q1 q2 q3 : Int, ∃ ok : Bool, ∃ e : Int, finC b lo hi to = [.agg [.int q0, .int q1, .int q2, .int q3], .bool ok, .int e] ∧ (ok = true → e = 0 ∧ QOk b k q0 q1 q2 q3) ∧ (ok = false → e = 34) := by
  unfold finC
  by_cases c : lo > 1000 ∨ hi > 1000 ∨ hi = 0 ∨ (hi > 0 ∧ hi < lo)
  · rw [if_pos c]; exact ⟨_, _, _, _, _, _, rfl, fun h => (by cases h), fun _ => rfl⟩
  rw [if_neg c]
  by_cases c1 : atB b (to : Int) = 63
  · rw [if_pos c1]
    have := atB_some (b := b) (i := (to : Int)) (by rw [c1]; decide)
    exact ⟨_, _, _, _, _, _, rfl, fun _ => ⟨rfl, ⟨by omega, by omega⟩, by omega, by decide, by omega, by omega⟩, fun h => (by cases h)⟩
  rw [if_neg c1]
  by_cases c2 : atB b (to : Int) = 43
  · rw [if_pos c2]
    have := atB_some (b := b) (i := (to : Int)) (by rw [c2]; decide)
    exact ⟨_, _, _, _, _, _, rfl, fun _ => ⟨rfl, ⟨by omega, by omega⟩, by omega, by decide, by omega, by omega⟩, fun h => (by cases h)⟩
  rw [if_neg c2]
  exact ⟨_, _, _, _, _, _, rfl, fun _ => ⟨rfl, ⟨by omega, by omega⟩, by omega, by decide, by omega, by omega⟩, fun h => (by cases h)⟩
theorem countR_T (b : List Int) {k : Int} (h0 : 0 ≤ k) : ∃ q0 q1 q2 q3 : Int, ∃ ok : Bool, ∃ e : Int, countR b k = [.agg [.int q0, .int q1, .int q2, .int q3], .bool ok, .int e] ∧ (ok = true → e = 0 ∧ QOk b k q0 q1 q2 q3) := by
  have one : ∀ {lo hi : Int} {to : Nat}, cntQ b k = some (lo, hi, to) → 0 ≤ lo → -1 ≤ hi → k < (to : Int) → to ≤ b.length → ∃ q0 q1 q2 q3 : Int, ∃ ok : Bool, ∃ e : Int, countR b k = [.agg [.int q0, .int q1, .int q2, .int q3], .bool ok, .int e] ∧ (ok = true → e = 0 ∧ QOk b k q0 q1 q2 q3) := fun h a1 a2 a3 a4 => by
    obtain ⟨q0, q1, q2, q3, ok, e, r1, r2, _⟩ := fin_T (b := b) (k := k) a1 a2 a3 a4
    refine ⟨q0, q1, q2, q3, ok, e, ?_, r2⟩
    unfold countR
    rw [h]
    exact r1
  have inb : atB b k ≠ 0 → k.toNat + 1 ≤ b.length := fun h => by have := atB_some h; omega
  by_cases c1 : atB b k = 42
  · exact one (by unfold cntQ; rw [if_pos c1]) (by decide) (by decide) (by omega) (inb (by omega))
  by_cases c2 : atB b k = 43
  · exact one (by unfold cntQ; rw [if_neg c1, if_pos c2]) (by decide) (by decide) (by omega) (inb (by omega))
  by_cases c3 : atB b k = 63
  · exact one (by unfold cntQ; rw [if_neg c1, if_neg c2, if_pos c3]) (by decide) (by decide) (by omega) (inb (by omega))
  by_cases c4 : atB b k = 123
  · cases h : brQ b k.toNat with
    | none =>
      refine ⟨0, 0, 0, 0, false, 0, ?_, fun h => by cases h⟩
      unfold countR cntQ
      rw [if_neg c1, if_neg c2, if_neg c3, if_pos c4, h]
      rfl
    | some q =>
      obtain ⟨lo, hi, to⟩ := q
      have i1 := brQ_in h
      have i2 := brQ_to h
      exact one (by unfold cntQ; rw [if_neg c1, if_neg c2, if_neg c3, if_pos c4, h]) i1.1 i1.2.2.1 (by omega) i1.2.2.2.2
  · refine ⟨0, 0, 0, 0, false, 0, ?_, fun h => by cases h⟩
    unfold countR cntQ
    rw [if_neg c1, if_neg c2, if_neg c3, if_neg c4]
    rfl
/-- A count: what is found, and the state behind: the same place. -/
theorem count_T {b : List Int} (hl : b.length ≤ 4096) {s : PS} (hs : SOk b s) : ∃ q0 q1 q2 q3 : Int, ∃ ok : Bool, ∃ s' : PS, E C 178 [pv b s] = some [.agg [.int q0, .int q1, .int q2, .int q3], .bool ok, pd b s'] ∧ SOk b s' ∧ s'.k = s.k ∧ s'.gr = s.gr ∧ s'.nm = s.nm ∧ (s'.e = 0 → s' = s) ∧ (ok = true → s'.e = 0 ∧ QOk b s.k q0 q1 q2 q3) := by
  obtain ⟨q0, q1, q2, q3, ok, e, hq, hT⟩ := countR_T b hs.k0
  have hE := count_E b (by omega) s
  rw [hq] at hE
  refine ⟨q0, q1, q2, q3, _, _, hE, ?_⟩
  have hcs : countS b s = if e = 0 then s else failS s e s.k := by unfold countS; rw [hq]; rfl
  rw [hcs]
  by_cases h : e = 0
  · rw [if_pos h]
    refine ⟨hs, rfl, rfl, rfl, fun _ => rfl, fun q => ?_⟩
    have q' : (ok && (s.e == 0)) = true := q
    rw [Bool.and_eq_true, beq_iff_eq] at q'
    exact ⟨q'.2, (hT q'.1).2⟩
  · rw [if_neg h]
    have hF := hs.fail e s.k h (fun q => ⟨hs.k0, hs.kE q⟩)
    refine ⟨hF.1, by unfold failS; split <;> rfl, by unfold failS; split <;> rfl, by unfold failS; split <;> rfl, fun q => absurd q hF.2, fun q => ?_⟩
    have q' : (ok && (s.e == 0)) = true := q
    rw [Bool.and_eq_true] at q'
    exact absurd (hT q'.1).1 h
end Go.Proofs.YtlofoifcdmeopaaGreatDoor.V
namespace Go.Proofs.YtlofoifcdmeopaaGreatDoor.V
open Go Go.Ev Go.RowKit
set_option linter.unusedVariables false
set_option linter.unusedSimpArgs false
theorem blank_in {b : List Int} {k : Int} (h0 : 0 ≤ k) (h1 : k ≤ (b.length : Int)) : k ≤ blankR b k ∧ blankR b k ≤ (b.length : Int) := by
  unfold blankR mx
  have := skipL_le (b.drop k.toNat) false
  rw [List.length_drop] at this
  (repeat' split) <;> omega
theorem blank_out {b : List Int} {k : Int} (h0 : 0 ≤ k) (h1 : (b.length : Int) ≤ k) : blankR b k = k := by
  unfold blankR mx
  have := skipL_le (b.drop k.toNat) false
  rw [List.length_drop] at this
  (repeat' split) <;> omega
theorem skip_T {b : List Int} {s : PS} (hs : SOk b s) : SOk b (skipS b s) ∧ s.k ≤ (skipS b s).k ∧ (skipS b s).e = s.e ∧ (skipS b s).gr = s.gr ∧ (skipS b s).nm = s.nm := by
  have k0 := hs.k0
  cases hw : s.wi with
  | false =>
    have e : skipS b s = s := by unfold skipS; rw [hw]; rfl
    rw [e]
    exact ⟨hs, Int.le_refl _, rfl, rfl, rfl⟩
  | true =>
    have e : skipS b s = { s with k := blankR b s.k } := by unfold skipS; rw [hw]; rfl
    rw [e]
    by_cases h : s.k ≤ (b.length : Int)
    · have hb := blank_in k0 h
      exact ⟨hs.to (by omega) hb.2, hb.1, rfl, rfl, rfl⟩
    · have hb := blank_out (b := b) k0 (by omega)
      rw [hb]
      exact ⟨⟨hs.k0, hs.k1, hs.kE, hs.g0, hs.g1, hs.nm, hs.nms, hs.wh⟩, Int.le_refl _, rfl, rfl, rfl⟩
theorem atomG_T {b : List Int} (hb : isBytes b = true) (hl : b.length ≤ 4096) {d : Int} (hd : 0 ≤ d ∧ d ≤ 1000) (IH : d + 1 ≤ 100 → AltSpec b (d + 1)) {s : PS} (hs : SOk b s) (he : s.e = 0) (hk : s.k < (b.length : Int)) : ∃ x may s', E C 179 [pv b s, .int .i64 d] = some [ptDat x, .bool may, pd b s'] ∧ SOk b s' ∧ (s'.e = 0 → s.k < s'.k ∧ ((x = .mk nd0P [] ∧ may = false ∧ Grp s s' []) ∨ (PartOk s x s' ∧ ((szP x : Nat) : Int) ≤ 8 * (s'.k - s.k)))) := by
  by_cases hc : atB b s.k = 40
  · obtain ⟨⟨n, ks⟩, may, s', r1, r2, r3⟩ := group_T hl IH hs he hk
    rw [ptDat] at r1
    exact ⟨.mk n ks, may, s', by rw [ptDat]; exact atom_par b s d hd hs.k0 hc r1, r2, r3⟩
  · obtain ⟨n, may, s', r1, r2, r3, r4, r5⟩ := atom_T hb hl hs he hk hc d
    refine ⟨.mk n [], may, s', by rw [ptDat, ptsDat]; exact r1, r2, fun q => ?_⟩
    obtain ⟨a1, a2, a3, a4, a5⟩ := r5 q
    refine ⟨a5, .inr ⟨⟨by rw [AllP, AllsP]; exact ⟨AlF.leaf a1, trivial⟩, ?_, ?_, ?_, ?_, ?_, ?_⟩, by rw [szP, szsP]; omega⟩⟩
    · show s.k ≤ n.frm; omega
    · show n.frm ≤ n.to; omega
    · show n.to ≤ s'.k; omega
    · omega
    · show 1 ≤ n.kind; omega
    · rw [grpsP, grpsL, if_neg (by omega)]
      exact Grp.none r4 r3
end Go.Proofs.YtlofoifcdmeopaaGreatDoor.V
namespace Go.Proofs.YtlofoifcdmeopaaGreatDoor.V
open Go Go.Ev Go.RowKit
set_option linter.unusedVariables false
set_option linter.unusedSimpArgs false
theorem repeated_T {b : List Int} (hl : b.length ≤ 4096) {n : Nd} {ks : List PT} {f q0 q1 q2 q3 : Int} (h0 : 0 ≤ f) (hq : QOk b f q0 q1 q2 q3) (hx : AllP AlF (.mk n ks)) (hf : f ≤ n.frm) (ht : n.to ≤ q3) : ∃ y : PT, E C 180 [ptV n (ptsDat ks), .int .i64 f, .agg [.int .i64 q0, .int .i64 q1, .int .i64 q2, .int .i64 q3]] = some [ptDat y] ∧ AllP AlF y ∧ y.nd.frm = f ∧ y.nd.to = q3 ∧ (y.nd.kind = 8 ∨ y.nd.kind = 9) ∧ grpsP y = grpsP (.mk n ks) ∧ szP y ≤ szP (.mk n ks) + 2 := by
  obtain ⟨⟨a1, a2⟩, a3, a4, a5, a6⟩ := hq
  have hm : 0 ≤ (bif q2 == 1 then (1 : Int) else 0) ∧ (bif q2 == 1 then (1 : Int) else 0) ≤ 1 := by cases (q2 == 1) <;> decide
  have hrep : AllP AlF (.mk ⟨8, f, q3, 0, q0, q1, bif q2 == 1 then 1 else 0, ByteArray.empty, [], []⟩ [.mk n ks]) := by
    rw [AllP, AllsP, AllsP]
    exact ⟨AlF.one (alone_repeat h0 (by omega) (by omega) hm ⟨a1, a2⟩ a3) hf ht, hx, trivial⟩
  have hg : grpsP (.mk ⟨8, f, q3, 0, q0, q1, bif q2 == 1 then 1 else 0, ByteArray.empty, [], []⟩ [.mk n ks]) = grpsP (.mk n ks) := by
    rw [grpsP, grpsL, grpsL, List.append_nil, if_neg (show (8 : Int) ≠ 7 by decide), List.nil_append]
  by_cases c : q2 ≤ 1
  · refine ⟨_, ?_, hrep, rfl, rfl, .inl rfl, hg, by rw [szP, szsP, szsP]; omega⟩
    apply o180
    rw [bT (either_E _ _ _), dT c, ptDat, ptsDat, ptsDat, ptDat]
    rfl
  · refine ⟨.mk ⟨9, f, q3, 0, 0, 0, 0, ByteArray.empty, [], []⟩ [.mk ⟨8, f, q3, 0, q0, q1, bif q2 == 1 then 1 else 0, ByteArray.empty, [], []⟩ [.mk n ks]], ?_, ?_, rfl, rfl, .inr rfl, ?_, by rw [szP, szsP, szsP, szP, szsP, szsP]; omega⟩
    · apply o180
      rw [bT (either_E _ _ _), dF c, ptDat, ptsDat, ptsDat, ptDat, ptsDat, ptsDat, ptDat]
      rfl
    · rw [AllP, AllsP, AllsP]
      exact ⟨AlF.one (alone_atomic h0 (by omega) (by omega)) (Int.le_refl _) (Int.le_refl _), hrep, trivial⟩
    · rw [grpsP, grpsL, grpsL, List.append_nil, if_neg (show (9 : Int) ≠ 7 by decide), List.nil_append, hg]
end Go.Proofs.YtlofoifcdmeopaaGreatDoor.V
namespace Go.Proofs.YtlofoifcdmeopaaGreatDoor.V
open Go Go.Ev Go.RowKit
set_option linter.unusedVariables false
set_option linter.unusedSimpArgs false
/-- What a piece gives: nothing, or one part; further on. -/
def PieceOk (s : PS) (l : List PT) (s' : PS) : Prop := s.k < s'.k ∧ ((l = [] ∧ Grp s s' []) ∨ ∃ x, l = [x] ∧ PartOk s x s' ∧ ((szP x : Nat) : Int) ≤ 8 * (s'.k - s.k))
theorem piece_T {b : List Int} (hb : isBytes b = true) (hl : b.length ≤ 4096) {d : Int} (hd : 0 ≤ d ∧ d ≤ 1000) (IH : d + 1 ≤ 100 → AltSpec b (d + 1)) {s : PS} (hs : SOk b s) (he : s.e = 0) (hk : s.k < (b.length : Int)) : ∃ l s', l.length ≤ 1 ∧ E C 148 [pv b s, .int .i64 d] = some [.list (ptsDat l), pd b s'] ∧ SOk b s' ∧ (s'.e = 0 → PieceOk s l s') := by
  obtain ⟨q0, q1, q2, q3, ok, sc, c1, t0, -, -, -, c5, c6⟩ := count_T hl hs
  cases ok with
  | true =>
    obtain ⟨ec, -⟩ := c6 rfl
    have := c5 ec
    subst this
    have hF := hs.fail 31 sc.k (by decide) (fun q => ⟨hs.k0, hs.kE q⟩)
    refine ⟨[], failS sc 31 sc.k, Nat.zero_le 1, ?_, hF.1, fun q => absurd q hF.2⟩
    rw [ptsDat]
    apply o148
    rw [bT c1]
    simp only [stP, agA]
    rw [cond_true, bT (fail_E b sc 31 sc.k)]
    simp only [stP, agA]
    rw [neT hF.2]
    rfl
  | false =>
  by_cases ec : sc.e ≠ 0
  · refine ⟨[], sc, Nat.zero_le 1, ?_, t0, fun q => absurd q ec⟩
    rw [ptsDat]
    apply o148
    rw [bT c1]
    simp only [stP, agA]
    rw [cond_false, neT ec]
    rfl
  have := c5 (by omega)
  subst this
  obtain ⟨⟨n, ks⟩, may, s1, aE, t1, a3⟩ := atomG_T hb hl hd IH hs he hk
  rw [ptDat] at aE
  by_cases e1n : s1.e ≠ 0
  · refine ⟨[], s1, Nat.zero_le 1, ?_, t1, fun q => absurd q e1n⟩
    rw [ptsDat]
    apply o148
    rw [bT c1]
    simp only [stP, agA]
    rw [cond_false, neF he, bT aE]
    simp only [stP, agA]
    rw [neT e1n]
    rfl
  have e1 : s1.e = 0 := by omega
  obtain ⟨a4, a5⟩ := a3 e1
  obtain ⟨k1, k2, k3, k4, k5⟩ := skip_T t1
  obtain ⟨r0, r1, r2, r3, ok2, s3, d1, d2, d3, d4, d5, d6, d7⟩ := count_T hl k1
  cases ok2 with
  | false =>
    by_cases n0 : n.kind = 0
    · refine ⟨[], s3, Nat.zero_le 1, ?_, d2, fun q => ⟨by rw [d3]; omega, .inl ⟨rfl, ?_⟩⟩⟩
      · rw [ptsDat]
        apply o148
        rw [bT c1]
        simp only [stP, agA]
        rw [cond_false, neF he, bT aE]
        simp only [stP, agA]
        rw [neF e1, bT (skip_E b (by omega) s1 (t1.i64 hl))]
        simp only [stP, agA]
        rw [bT d1]
        simp only [stP, agA]
        rw [cond_false, eT n0]
        rfl
      · rcases a5 with ⟨-, -, g⟩ | g
        · obtain ⟨ns, m1, m2, m3⟩ := g
          exact ⟨ns, by rw [d5, k5, m1], by rw [d4, k4, m2], m3⟩
        · have : 1 ≤ n.kind := g.1.2.2.2.2.2.1
          omega
    · refine ⟨[.mk n ks], s3, Nat.le_refl 1, ?_, d2, fun q => ⟨by rw [d3]; omega, .inr ⟨_, rfl, ?_⟩⟩⟩
      · rw [ptsDat, ptsDat, ptDat]
        apply o148
        rw [bT c1]
        simp only [stP, agA]
        rw [cond_false, neF he, bT aE]
        simp only [stP, agA]
        rw [neF e1, bT (skip_E b (by omega) s1 (t1.i64 hl))]
        simp only [stP, agA]
        rw [bT d1]
        simp only [stP, agA]
        rw [cond_false, eF n0]
        rfl
      · rcases a5 with ⟨h, -⟩ | ⟨⟨g1, g2, g3, g4, g5, g6, ns, m1, m2, m3⟩, gz⟩
        · obtain ⟨rfl, -⟩ := PT.mk.inj h
          exact absurd rfl n0
        · exact ⟨⟨g1, g2, g3, by rw [d3]; omega, by rw [d3]; omega, g6, ns, by rw [d5, k5, m1], by rw [d4, k4, m2], m3⟩, by rw [d3]; omega⟩
  | true =>
    obtain ⟨e3, hq⟩ := d7 rfl
    have := d6 e3
    subst this
    cases may with
    | false =>
      have hF := k1.fail 31 (skipS b s1).k (by decide) (fun q => ⟨k1.k0, k1.kE q⟩)
      refine ⟨[], failS (skipS b s1) 31 (skipS b s1).k, Nat.zero_le 1, ?_, hF.1, fun q => absurd q hF.2⟩
      rw [ptsDat]
      apply o148
      rw [bT c1]
      simp only [stP, agA]
      rw [cond_false, neF he, bT aE]
      simp only [stP, agA]
      rw [neF e1, bT (skip_E b (by omega) s1 (t1.i64 hl))]
      simp only [stP, agA]
      rw [bT d1]
      simp only [stP, agA]
      rw [cond_true, nT rfl, bT (fail_E b (skipS b s1) 31 _)]
      rfl
    | true =>
      obtain ⟨⟨g1, g2, g3, g4, g5, g6, ns, m1, m2, m3⟩, gz⟩ : PartOk sc (.mk n ks) s1 ∧ ((szP (PT.mk n ks) : Nat) : Int) ≤ 8 * (s1.k - sc.k) := by
        rcases a5 with ⟨-, h, -⟩ | g
        · cases h
        · exact g
      have hq' : QOk b sc.k r0 r1 r2 r3 := ⟨hq.1, hq.2.1, hq.2.2.1, by have := hq.2.2.2.1; omega, hq.2.2.2.2⟩
      have q4 := hq.2.2.2.1
      have q5 := hq.2.2.2.2
      obtain ⟨⟨yn, yks⟩, y1, y2, y3, y4, y5, y6, y7⟩ := repeated_T hl hs.k0 hq' g1 g2 (by have h1 : n.to ≤ s1.k := g4; omega)
      rw [ptDat] at y1
      have kk0 := hs.k0
      have t4 : SOk b { skipS b s1 with k := r3 } := k1.to (by omega) q5
      obtain ⟨v1, v2, v3, v4, v5⟩ := skip_T t4
      obtain ⟨z0, z1, z2, z3, ok3, z4, zq, -⟩ := countR_T b v1.k0
      have cR := Count_E b (by omega) (skipS b { skipS b s1 with k := r3 }).k
      rw [zq] at cR
      have ykn : yn.kind ≠ 0 := by
        have : yn.kind = 8 ∨ yn.kind = 9 := y5
        omega
      have hF := v1.fail 31 (skipS b { skipS b s1 with k := r3 }).k (by decide) (fun q => ⟨v1.k0, v1.kE q⟩)
      by_cases bad : ok3 = true ∨ z4 ≠ 0
      · refine ⟨[.mk yn yks], failS (skipS b { skipS b s1 with k := r3 }) 31 (skipS b { skipS b s1 with k := r3 }).k, Nat.le_refl 1, ?_, hF.1, fun q => absurd q hF.2⟩
        rw [ptsDat, ptsDat, ptDat]
        apply o148
        rw [bT c1]
        simp only [stP, agA]
        rw [cond_false, neF he, bT aE]
        simp only [stP, agA]
        rw [neF e1, bT (skip_E b (by omega) s1 (t1.i64 hl))]
        simp only [stP, agA]
        rw [bT d1]
        simp only [stP, agA]
        rw [cond_true, nF rfl, bT y1]
        simp only [stP, agA]
        refine (bT (skip_E b (by omega) { skipS b s1 with k := r3 } (t4.i64 hl))).trans ?_
        simp only [stP, agA]
        rw [bT cR]
        simp only [stP, agA]
        cases ok3 with
        | true =>
          rw [cond_true, bT (fail_E b (skipS b { skipS b s1 with k := r3 }) 31 _)]
          simp only [stP, agA]
          rw [eF ykn]
          rfl
        | false =>
          rw [cond_false, neT (by rcases bad with h | h; cases h; exact h), bT (fail_E b (skipS b { skipS b s1 with k := r3 }) 31 _)]
          simp only [stP, agA]
          rw [eF ykn]
          rfl
      · obtain ⟨o3, z40⟩ : ok3 = false ∧ z4 = 0 := by
          cases ok3 with
          | true => exact absurd (.inl rfl) bad
          | false => exact ⟨rfl, by omega⟩
        subst o3
        refine ⟨[.mk yn yks], skipS b { skipS b s1 with k := r3 }, Nat.le_refl 1, ?_, v1, fun q => ?_⟩
        · rw [ptsDat, ptsDat, ptDat]
          apply o148
          rw [bT c1]
          simp only [stP, agA]
          rw [cond_false, neF he, bT aE]
          simp only [stP, agA]
          rw [neF e1, bT (skip_E b (by omega) s1 (t1.i64 hl))]
          simp only [stP, agA]
          rw [bT d1]
          simp only [stP, agA]
          rw [cond_true, nF rfl, bT y1]
          simp only [stP, agA]
          refine (bT (skip_E b (by omega) { skipS b s1 with k := r3 } (t4.i64 hl))).trans ?_
          simp only [stP, agA]
          rw [bT cR]
          simp only [stP, agA]
          rw [cond_false, neF z40, eF ykn]
          rfl
        · have v2' : r3 ≤ (skipS b { skipS b s1 with k := r3 }).k := v2
          refine ⟨by omega, .inr ⟨_, rfl, ⟨y2, ?_, ?_, ?_, by omega, ?_, ns, by rw [v5]; show (skipS b s1).nm = _; rw [k5, m1], by rw [v4]; show (skipS b s1).gr = _; rw [k4, m2], by rw [y6, m3]⟩, by omega⟩⟩
          · show sc.k ≤ yn.frm; have : yn.frm = sc.k := y3; omega
          · show yn.frm ≤ yn.to; have h1 : yn.frm = sc.k := y3; have h2 : yn.to = r3 := y4; omega
          · show yn.to ≤ _; have h2 : yn.to = r3 := y4; omega
          · show 1 ≤ yn.kind; have : yn.kind = 8 ∨ yn.kind = 9 := y5; omega
end Go.Proofs.YtlofoifcdmeopaaGreatDoor.V
namespace Go.Proofs.YtlofoifcdmeopaaGreatDoor.V
open Go Go.Ev Go.RowKit
set_option linter.unusedVariables false
set_option linter.unusedSimpArgs false
theorem grpsL_app : ∀ (a c : List PT), grpsL (a ++ c) = grpsL a ++ grpsL c
  | [], c => by rw [List.nil_append, grpsL, List.nil_append]
  | x :: a, c => by rw [List.cons_append, grpsL, grpsL, grpsL_app a c, List.append_assoc]
theorem AllsP_app {p : Nd → List PT → Prop} : ∀ {a c : List PT}, AllsP p a → AllsP p c → AllsP p (a ++ c)
  | [], c, _, h => h
  | x :: a, c, h1, h2 => by
    rw [AllsP] at h1
    rw [List.cons_append, AllsP]
    exact ⟨h1.1, AllsP_app h1.2 h2⟩
theorem szsP_app : ∀ (a c : List PT), szsP (a ++ c) = szsP a + szsP c
  | [], c => by rw [List.nil_append, szsP]; omega
  | x :: a, c => by rw [List.cons_append, szsP, szsP, szsP_app a c]; omega
/-- Parts that were read one behind the other. -/
structure RowSt (s : PS) (l : List PT) (t : PS) : Prop where
  all : AllsP AlF l
  len : (l.length : Int) ≤ t.k - s.k
  grp : Grp s t (grpsL l)
  sz : ((szsP l : Nat) : Int) ≤ 8 * (t.k - s.k)
  ends : l = [] ∨ ∃ x m pre y, l = x :: m ∧ l = pre ++ [y] ∧ 1 ≤ x.nd.kind ∧ s.k ≤ x.nd.frm ∧ x.nd.frm ≤ x.nd.to ∧ x.nd.frm ≤ y.nd.to ∧ y.nd.to ≤ t.k ∧ x.nd.to ≤ t.k ∧ ∀ k, k ∈ l → x.nd.frm ≤ k.nd.frm ∧ k.nd.to ≤ y.nd.to
theorem RowSt.none (s : PS) : RowSt s [] s := ⟨trivial, by simp, Grp.none rfl rfl, by rw [szsP]; omega, .inl rfl⟩
theorem RowSt.on {s t u : PS} {l : List PT} (h : RowSt s l t) (hk : t.k ≤ u.k) (hg : u.gr = t.gr) (hn : u.nm = t.nm) : RowSt s l u := by
  obtain ⟨h1, h2, ⟨ns, g1, g2, g3⟩, hz, h4⟩ := h
  refine ⟨h1, by omega, ⟨ns, by rw [hn, g1], by rw [hg, g2], g3⟩, by omega, ?_⟩
  rcases h4 with h4 | ⟨x, m, pre, y, a1, a2, a3, a4, a5, a6, a7, a8, a9⟩
  · exact .inl h4
  · exact .inr ⟨x, m, pre, y, a1, a2, a3, a4, a5, a6, by omega, by omega, a9⟩
theorem RowSt.le {s t : PS} {l : List PT} (h : RowSt s l t) : s.k ≤ t.k := by have := h.len; omega
theorem RowSt.part {s t u : PS} {l : List PT} {x : PT} (h : RowSt s l t) (hk : t.k < u.k) (hp : PartOk t x u) (hx : ((szP x : Nat) : Int) ≤ 8 * (u.k - t.k)) : RowSt s (l ++ [x]) u := by
  have hle := h.le
  obtain ⟨h1, h2, h3, hz, h4⟩ := h
  obtain ⟨p1, p2, p3, p4, p5, p6, p7⟩ := hp
  refine ⟨AllsP_app h1 (by rw [AllsP, AllsP]; exact ⟨p1, trivial⟩), by rw [List.length_append, List.length_cons, List.length_nil]; omega, ?_, by rw [szsP_app, szsP, szsP]; omega, .inr ?_⟩
  · rw [grpsL_app, grpsL, grpsL, List.append_nil]
    exact h3.trans p7
  · rcases h4 with rfl | ⟨x', m, pre, y, a1, a2, a3, a4, a5, a6, a7, a8, a9⟩
    · exact ⟨x, [], [], x, rfl, rfl, p6, by omega, p3, p3, p4, p4, fun k hk => by rw [List.nil_append, List.mem_singleton] at hk; rw [hk]; exact ⟨Int.le_refl _, Int.le_refl _⟩⟩
    · exact ⟨x', m ++ [x], l, x, by rw [a1]; rfl, rfl, a3, a4, a5, by omega, p4, by omega, fun k hk => by
        rw [List.mem_append, List.mem_singleton] at hk
        rcases hk with hk | rfl
        · have := a9 k hk; exact ⟨this.1, by omega⟩
        · exact ⟨by omega, Int.le_refl _⟩⟩
theorem RowSt.piece {s t u : PS} {l m : List PT} (h : RowSt s l t) (hp : PieceOk t m u) : RowSt s (l ++ m) u := by
  obtain ⟨hk, hp⟩ := hp
  rcases hp with ⟨rfl, hg⟩ | ⟨x, rfl, hx, hxz⟩
  · rw [List.append_nil]
    obtain ⟨h1, h2, h3, hz, h4⟩ := h
    refine ⟨h1, by omega, ?_, by omega, ?_⟩
    · have := h3.trans hg
      rw [List.append_nil] at this
      exact this
    · rcases h4 with h4 | ⟨x, m, pre, y, a1, a2, a3, a4, a5, a6, a7, a8, a9⟩
      · exact .inl h4
      · exact .inr ⟨x, m, pre, y, a1, a2, a3, a4, a5, a6, by omega, by omega, a9⟩
  · exact h.part hk hx hxz
theorem RowSt.empty {b : List Int} (hl : b.length ≤ 4096) {s t : PS} (hs : SOk b s) (he : s.e = 0) (h : RowSt s [] t) : PartOk s (.mk ⟨1, s.k, s.k, 0, 0, 0, 0, ByteArray.empty, [], []⟩ []) t := by
  have hle := h.le
  have := hs.kE he
  refine ⟨?_, Int.le_refl _, Int.le_refl _, hle, hle, by show (1 : Int) ≤ 1; decide, ?_⟩
  · rw [AllP, AllsP]
    exact ⟨AlF.leaf (alone_empty hs.k0 (by omega)), trivial⟩
  · rw [grpsP, if_neg (show (1 : Int) ≠ 7 by decide), List.nil_append]
    exact h.grp
theorem RowSt.one {s t : PS} {x : PT} (h : RowSt s [x] t) : PartOk s x t := by
  have hle := h.le
  obtain ⟨h1, h2, h3, hz, h4⟩ := h
  rw [AllsP, AllsP] at h1
  rw [grpsL, grpsL, List.append_nil] at h3
  rcases h4 with h4 | ⟨x', m, pre, y, a1, a2, a3, a4, a5, a6, a7, a8, a9⟩
  · cases h4
  · obtain ⟨rfl, rfl⟩ := List.cons.inj a1
    exact ⟨h1.1, a4, a5, a8, hle, a3, h3⟩
theorem RowSt.cat {b : List Int} (hl : b.length ≤ 4096) {s t : PS} (hs : SOk b s) (hk : t.k ≤ (b.length : Int)) {x y : PT} {m pre : List PT} (h : RowSt s (x :: m) t) (hm : m ≠ []) (hy : x :: m = pre ++ [y]) : PartOk s (.mk ⟨5, x.nd.frm, y.nd.to, 0, 0, 0, 0, ByteArray.empty, [], []⟩ (x :: m)) t := by
  have hle := h.le
  have k0 := hs.k0
  obtain ⟨h1, h2, h3, hz, h4⟩ := h
  have hm1 : 1 ≤ m.length := by cases m with | nil => exact absurd rfl hm | cons a c => simp
  rw [List.length_cons] at h2
  rcases h4 with h4 | ⟨x', m', pre', y', a1, a2, a3, a4, a5, a6, a7, a8, a9⟩
  · cases h4
  · obtain ⟨rfl, rfl⟩ := List.cons.inj a1
    have e : pre ++ [y] = pre' ++ [y'] := hy.symm.trans a2
    obtain ⟨-, e2⟩ := List.append_inj' e rfl
    obtain rfl : y = y' := (List.cons.inj e2).1
    refine ⟨?_, a4, a6, a7, hle, by show (1 : Int) ≤ 5; decide, ?_⟩
    · rw [AllP]
      exact ⟨⟨alone_cat (by omega) a6 (by omega) (by rw [List.length_cons]; omega), a9⟩, h1⟩
    · rw [grpsP, if_neg (show (5 : Int) ≠ 7 by decide), List.nil_append]
      exact h3
/-- Ways, one or another. -/
structure AltSt (s : PS) (l : List PT) (t : PS) : Prop where
  all : AllsP AlF l
  len : (l.length : Int) ≤ t.k - s.k + 1
  grp : Grp s t (grpsL l)
  le : s.k ≤ t.k
  sz : ((szsP l : Nat) : Int) + 7 * (l.length : Int) ≤ 8 * (t.k - s.k) + 8
  fit : ∀ k, k ∈ l → s.k ≤ k.nd.frm ∧ k.nd.to ≤ t.k
  one : ∀ x, l = [x] → PartOk s x t
theorem AltSt.first {s t : PS} {x : PT} (hp : PartOk s x t) (hx : ((szP x : Nat) : Int) ≤ 8 * (t.k - s.k) + 1) : AltSt s [x] t := by
  have hp' := hp
  obtain ⟨p1, p2, p3, p4, p5, p6, p7⟩ := hp
  exact ⟨by rw [AllsP, AllsP]; exact ⟨p1, trivial⟩, by rw [List.length_cons, List.length_nil]; omega, by rw [grpsL, grpsL, List.append_nil]; exact p7, p5, by rw [szsP, szsP, List.length_cons, List.length_nil]; omega, fun k hk => by rw [List.mem_singleton] at hk; rw [hk]; exact ⟨p2, p4⟩, fun y e => by obtain ⟨rfl, -⟩ := List.cons.inj e; exact hp'⟩
theorem AltSt.next {s t t' u : PS} {l : List PT} {x : PT} (h : AltSt s l t) (h1l : 1 ≤ l.length) (hk : t'.k = t.k + 1) (hg : t'.gr = t.gr) (hn : t'.nm = t.nm) (hp : PartOk t' x u) (hx : ((szP x : Nat) : Int) ≤ 8 * (u.k - t'.k) + 1) : AltSt s (l ++ [x]) u := by
  obtain ⟨h1, h2, ⟨ns, g1, g2, g3⟩, h4, hz, h5, h6⟩ := h
  obtain ⟨p1, p2, p3, p4, p5, p6, p7⟩ := hp
  refine ⟨AllsP_app h1 (by rw [AllsP, AllsP]; exact ⟨p1, trivial⟩), by rw [List.length_append, List.length_cons, List.length_nil]; omega, ?_, by omega, by rw [szsP_app, szsP, szsP, List.length_append, List.length_cons, List.length_nil]; omega, fun k hk => by
    rw [List.mem_append, List.mem_singleton] at hk
    rcases hk with hk | rfl
    · have := h5 k hk; omega
    · omega, fun y e => by
    have := congrArg List.length e
    rw [List.length_append, List.length_cons, List.length_nil, List.length_cons, List.length_nil] at this
    omega⟩
  rw [grpsL_app, grpsL, grpsL, List.append_nil]
  exact Grp.trans (t := t') ⟨ns, by rw [hn, g1], by rw [hg, g2], g3⟩ p7
theorem AltSt.alt {b : List Int} (hl : b.length ≤ 4096) {s t : PS} (hs : SOk b s) (hk : t.k ≤ (b.length : Int)) {l : List PT} (h : AltSt s l t) (hm : 2 ≤ l.length) : PartOk s (.mk ⟨6, s.k, t.k, 0, 0, 0, 0, ByteArray.empty, [], []⟩ l) t := by
  have k0 := hs.k0
  obtain ⟨h1, h2, h3, h4, hz, h5, h6⟩ := h
  refine ⟨?_, Int.le_refl _, h4, Int.le_refl _, h4, by show (1 : Int) ≤ 6; decide, ?_⟩
  · rw [AllP]
    exact ⟨⟨alone_alt k0 h4 (by omega) (by omega), h5⟩, h1⟩
  · rw [grpsP, if_neg (show (6 : Int) ≠ 7 by decide), List.nil_append]
    exact h3
theorem RowSt.sizeCat {s t : PS} {l : List PT} {n : Nd} (h : RowSt s l t) : ((szP (.mk n l) : Nat) : Int) ≤ 8 * (t.k - s.k) + 1 := by
  have := h.sz
  rw [szP]; omega
theorem AltSt.sizeAlt {s t : PS} {l : List PT} {n : Nd} (h : AltSt s l t) (hm : 2 ≤ l.length) : ((szP (.mk n l) : Nat) : Int) ≤ 8 * (t.k - s.k) + 1 := by
  have := h.sz
  rw [szP]; omega
theorem RowSt.sizeOne {s t : PS} {x : PT} (h : RowSt s [x] t) : ((szP x : Nat) : Int) ≤ 8 * (t.k - s.k) + 1 := by
  have := h.sz
  rw [szsP, szsP] at this
  omega
theorem AltSt.sizeOne {s t : PS} {x : PT} (h : AltSt s [x] t) : ((szP x : Nat) : Int) ≤ 8 * (t.k - s.k) + 1 := by
  have := h.sz
  rw [szsP, szsP] at this
  simp only [List.length_cons, List.length_nil] at this
  omega
end Go.Proofs.YtlofoifcdmeopaaGreatDoor.V
namespace Go.Proofs.YtlofoifcdmeopaaGreatDoor.V
open Go Go.Ev Go.RowKit
set_option linter.unusedVariables false
set_option linter.unusedSimpArgs false
/-- A Back by a name gets its group's number; nothing else is changed. -/
def Fix (n m : Nd) : Prop := m = n ∨ (n.kind = 4 ∧ emptyS n.name = false ∧ ∃ v : Int, 0 ≤ v ∧ v ≤ 99 ∧ m = { n with num := v })
def FixL : List Nd → List Nd → Prop
  | [], [] => True
  | n :: l, m :: k => Fix n m ∧ FixL l k
  | [], _ :: _ => False
  | _ :: _, [] => False
theorem FixL.len : ∀ {l k : List Nd}, FixL l k → k.length = l.length
  | [], [], _ => rfl
  | n :: l, m :: k, h => by rw [List.length_cons, List.length_cons, FixL.len h.2]
  | [], _ :: _, h => absurd h id
  | _ :: _, [], h => absurd h id
theorem FixL.split : ∀ {a c k : List Nd}, FixL (a ++ c) k → ∃ k1 k2, k = k1 ++ k2 ∧ FixL a k1 ∧ FixL c k2
  | [], c, k, h => ⟨[], k, rfl, trivial, h⟩
  | n :: a, c, m :: k, h => by
    obtain ⟨k1, k2, h1, h2, h3⟩ := FixL.split (a := a) h.2
    exact ⟨m :: k1, k2, by rw [h1]; rfl, ⟨h.1, h2⟩, h3⟩
  | _ :: _, _, [], h => absurd h id
theorem Fix.same {n m : Nd} (h : Fix n m) : m.kind = n.kind ∧ m.frm = n.frm ∧ m.to = n.to ∧ m.kids = n.kids := by
  rcases h with rfl | ⟨-, -, v, -, -, rfl⟩ <;> exact ⟨rfl, rfl, rfl, rfl⟩
theorem Fix.alone {n m : Nd} (h : Fix n m) (ha : aloneB n = true) : aloneB m = true := by
  rcases h with rfl | ⟨h1, h2, v, h3, h4, rfl⟩
  · exact ha
  · unfold aloneB at ha ⊢
    simp only [Bool.and_eq_true] at ha ⊢
    refine ⟨ha.1, ha.2.1, ha.2.2.1, ?_⟩
    have h5 := ha.2.2.2
    unfold al3 at h5 ⊢
    have c8 : (n.kind == 8) = false := by rw [h1]; rfl
    rw [c8, cond_false] at h5 ⊢
    unfold al4 at h5 ⊢
    rw [Bool.and_eq_true] at h5 ⊢
    refine ⟨h5.1, ?_⟩
    unfold al5 al6
    rw [show (n.kind == 3) = false by rw [h1]; rfl, show (n.kind == 4) = true by rw [h1]; rfl, cond_false, cond_true, h2]
    by_cases c : v = 0
    · rw [c]; rfl
    · unfold wi; rw [decide_eq_true (show v ≥ 1 by omega), decide_eq_true (show v ≤ 99 from h4)]; rfl
theorem FixL.end_ {a c : List Nd} (h : FixL a c) : ∀ (f i : Nat), endK c f i = endK a f i := by
  have key : ∀ {a c : List Nd}, FixL a c → ∀ i : Nat, (c[i]?).map Nd.kids = (a[i]?).map Nd.kids := by
    intro a
    induction a with
    | nil =>
      intro c h i
      cases c with
      | nil => rfl
      | cons m k => exact absurd h id
    | cons n l ih =>
      intro c h i
      cases c with
      | nil => exact absurd h id
      | cons m k =>
        cases i with
        | zero => simp [h.1.same.2.2.2]
        | succ i => simpa using ih h.2 i
  intro f
  induction f with
  | zero => intro i; rfl
  | succ f ih =>
    intro i
    have hk := key h i
    have e : endK c f = endK a f := funext ih
    unfold endK
    rw [e]
    cases h1 : c[i]? with
    | none =>
      cases h2 : a[i]? with
      | none => rfl
      | some n => rw [h1, h2] at hk; cases hk
    | some m =>
      cases h2 : a[i]? with
      | none => rw [h1, h2] at hk; cases hk
      | some n =>
        rw [h1, h2] at hk
        have : m.kids = n.kids := Option.some.inj hk
        show walkK (endK a f) m.kids (i + 1) = walkK (endK a f) n.kids (i + 1)
        rw [this]
/-- Groups, from a number on, are the tree's. -/
def GI (t : Tr) : Nat → List (Int × ByteArray) → Prop
  | _, [] => True
  | g, p :: l => p.1 = ((g + 1 : Nat) : Int) ∧ ((g + 1 : Nat) : Int) ≤ t.groups ∧ t.names.getD (g + 1) ByteArray.empty = p.2 ∧ GI t (g + 1) l
theorem GI_app {t : Tr} : ∀ {g : Nat} {a c : List (Int × ByteArray)}, GI t g (a ++ c) → GI t g a ∧ GI t (g + a.length) c
  | g, [], c, h => ⟨trivial, h⟩
  | g, p :: a, c, h => by
    obtain ⟨h1, h2, h3, h4⟩ := h
    obtain ⟨h5, h6⟩ := GI_app h4
    exact ⟨⟨h1, h2, h3, h5⟩, by rw [List.length_cons, show g + (a.length + 1) = g + 1 + a.length by omega]; exact h6⟩
theorem kids_fit {t : Tr} {m : Nd} : ∀ (ks : List PT) (i : Nat) (l2 pre post : List Nd), t.ns = pre ++ (l2 ++ post) → pre.length = i → FixL (flats i ks) l2 → (∀ k, k ∈ ks → m.frm ≤ k.nd.frm ∧ k.nd.to ≤ m.to) → (kidsAt i ks).all (fitsB t.ns m) = true
  | [], i, l2, pre, post, h1, h2, h3, h4 => rfl
  | .mk n ks :: r, i, l2, pre, post, h1, h2, h3, h4 => by
    rw [flats] at h3
    obtain ⟨k1, k2, rfl, h5, h6⟩ := FixL.split h3
    have hlen := FixL.len h5
    rw [flat_len] at hlen
    have hr := kids_fit (t := t) (m := m) r (i + szP (.mk n ks)) k2 (pre ++ k1) post (by rw [h1]; simp only [List.append_assoc]) (by rw [List.length_append, h2, hlen]) h6 (fun k hk => h4 k (List.mem_cons_of_mem _ hk))
    rw [flat] at h5
    cases k1 with
    | nil => exact absurd h5 id
    | cons a k1 =>
      obtain ⟨q1, q2, q3, q4⟩ := h5.1.same
      have hfit := h4 (.mk n ks) List.mem_cons_self
      have hg : t.ns.getD i m = a := by
        rw [h1, ← h2]
        simp [List.getD_eq_getElem?_getD]
      rw [kidsAt, List.all_cons, hr, Bool.and_true]
      unfold fitsB
      rw [Int.toNat_natCast, hg, q2, q3]
      have f1 : m.frm ≤ n.frm := hfit.1
      have f2 : n.to ≤ m.to := hfit.2
      rw [decide_eq_false (show ¬ n.frm < m.frm by omega), decide_eq_false (show ¬ n.to > m.to by omega)]
      rfl
theorem rightL_cons (t : Tr) (n : Nd) (l : List Nd) (g : Nat) : rightL t (n :: l) g = (aloneB n && (n.kids.all (fitsB t.ns n) && (if n.kind = 7 then (n.num == ((g + 1 : Nat) : Int) && (!decide (((g + 1 : Nat) : Int) > t.groups) && ((t.names.getD (g + 1) ByteArray.empty).toList == n.name.toList && rightL t l (g + 1)))) else rightL t l g))) := (rfl)
mutual
theorem right_flat {t : Tr} : ∀ (x : PT) (i g : Nat) (l2 pre post : List Nd), t.ns = pre ++ (l2 ++ post) → pre.length = i → FixL (flat i x) l2 → AllP AlF x → GI t g (grpsP x) → ∀ rest, rightL t (l2 ++ rest) g = rightL t rest (g + (grpsP x).length)
  | .mk n ks, i, g, l2, pre, post, h1, h2, h3, h4, h5, rest => by
    rw [flat] at h3
    cases l2 with
    | nil => exact absurd h3 id
    | cons m l3 =>
      obtain ⟨f1, f2⟩ := h3
      obtain ⟨q1, q2, q3, q4⟩ := f1.same
      rw [AllP] at h4
      obtain ⟨⟨a1, a2⟩, a3⟩ := h4
      have hal : aloneB m = true := f1.alone (a1 _ (kidsAt_len _ _))
      have hfit : m.kids.all (fitsB t.ns m) = true := by
        rw [q4]
        exact kids_fit ks (i + 1) l3 (pre ++ [m]) post (by rw [h1]; simp) (by rw [List.length_append, h2]; rfl) f2 (fun k hk => by
          have := a2 k hk
          have e1 : m.frm = n.frm := q2
          have e2 : m.to = n.to := q3
          rw [e1, e2]; exact this)
      have hks := fun g' h => rights_flat ks (i + 1) g' l3 (pre ++ [m]) post (by rw [h1]; simp) (by rw [List.length_append, h2]; rfl) f2 a3 h rest
      have e1 : m.kind = n.kind := q1
      rw [List.cons_append]
      rw [rightL_cons, hal, hfit, Bool.true_and, Bool.true_and]
      by_cases c : n.kind = 7
      · rw [if_pos (e1.trans c)]
        rw [grpsP, if_pos c] at h5 ⊢
        obtain ⟨g1, g2, g3, g4⟩ := h5
        have hm : m = { n with kids := kidsAt (i + 1) ks } := by
          rcases f1 with h | ⟨h, -⟩
          · exact h
          · have h' : n.kind = 4 := h
            omega
        have hnum : m.num = ((g + 1 : Nat) : Int) := by rw [hm]; exact g1
        have hname : m.name = n.name := by rw [hm]
        have g3' : t.names.getD (g + 1) ByteArray.empty = n.name := g3
        rw [hnum, beq_self_eq_true, decide_eq_false (show ¬ ((g + 1 : Nat) : Int) > t.groups by omega), g3', hname, beq_self_eq_true, hks (g + 1) g4, List.length_append, List.length_cons, List.length_nil, show g + (0 + 1 + (grpsL ks).length) = g + 1 + (grpsL ks).length by omega]
        rfl
      · rw [if_neg (fun q => c (e1.symm.trans q))]
        rw [grpsP, if_neg c, List.nil_append] at h5 ⊢
        exact hks g h5
theorem rights_flat {t : Tr} : ∀ (ks : List PT) (i g : Nat) (l2 pre post : List Nd), t.ns = pre ++ (l2 ++ post) → pre.length = i → FixL (flats i ks) l2 → AllsP AlF ks → GI t g (grpsL ks) → ∀ rest, rightL t (l2 ++ rest) g = rightL t rest (g + (grpsL ks).length)
  | [], i, g, l2, pre, post, h1, h2, h3, h4, h5, rest => by
    cases l2 with
    | nil => rfl
    | cons m l3 => exact absurd h3 id
  | x :: r, i, g, l2, pre, post, h1, h2, h3, h4, h5, rest => by
    rw [flats] at h3
    obtain ⟨k1, k2, rfl, h6, h7⟩ := FixL.split h3
    have hlen := FixL.len h6
    rw [flat_len] at hlen
    rw [AllsP] at h4
    rw [grpsL] at h5 ⊢
    obtain ⟨h8, h9⟩ := GI_app h5
    rw [List.append_assoc, right_flat x i g k1 pre (k2 ++ post) (by rw [h1]; simp only [List.append_assoc]) h2 h6 h4.1 h8, rights_flat r (i + szP x) (g + (grpsP x).length) k2 (pre ++ k1) post (by rw [h1]; simp only [List.append_assoc]) (by rw [List.length_append, h2, hlen]) h7 h4.2 h9, List.length_append, Nat.add_assoc]
end
theorem GI_numb {t : Tr} : ∀ (l : List ByteArray) (g : Nat), (∀ j (h : j < l.length), ((g + 1 + j : Nat) : Int) ≤ t.groups ∧ t.names.getD (g + 1 + j) ByteArray.empty = l[j]) → GI t g (numb ((g + 1 : Nat) : Int) l)
  | [], g, h => trivial
  | a :: l, g, h => by
    have h0 := h 0 (by simp)
    rw [numb]
    refine ⟨rfl, h0.1, h0.2, ?_⟩
    have := GI_numb (t := t) l (g + 1) (fun j hj => by
      have := h (j + 1) (by rw [List.length_cons]; omega)
      rw [show g + 1 + 1 + j = g + 1 + (j + 1) by omega]
      exact this)
    exact this
theorem numb_len : ∀ (l : List ByteArray) (g : Int), (numb g l).length = l.length
  | [], g => rfl
  | a :: l, g => by rw [numb, List.length_cons, List.length_cons, numb_len l]
/-- The tree of a part that was read from the first place on. -/
theorem right_of {x : PT} {l2 : List Nd} {s : PS} {b : List Int} (hs : SOk b s) (hf : FixL (flat 0 x) l2) (ha : AllP AlF x) {s0 : PS} (h0 : s0.gr = 0) (h1 : s0.nm = [ByteArray.empty]) (hg : Grp s0 s (grpsP x)) : rightB ⟨l2, s.gr, s.nm⟩ = true := by
  obtain ⟨ns, g1, g2, g3⟩ := hg
  have hn := hs.nm
  have hlen := hf.len
  have e1 : endK l2 (l2.length + 1) 0 = some l2.length := by rw [hf.end_, hlen]; exact flat_all x
  rw [h1] at g1
  rw [h0] at g2 g3
  have hr := right_flat (t := ⟨l2, s.gr, s.nm⟩) x 0 0 l2 [] [] (by simp) rfl hf ha (by
    rw [g3]
    refine GI_numb ns 0 (fun j hj => ⟨?_, ?_⟩)
    · show _ ≤ s.gr; rw [g2]; omega
    · show s.nm.getD (0 + 1 + j) ByteArray.empty = ns[j]
      rw [g1, show 0 + 1 + j = j + 1 by omega]
      simp [List.getD_eq_getElem?_getD, hj]) []
  rw [List.append_nil] at hr
  unfold rightB
  rw [hr, e1, g3, numb_len]
  unfold rightL
  show (some l2.length == some l2.length && (decide (s.nm.length ≠ 0) && (((s.nm.length : Int) - 1 == s.gr) && (emptyS (s.nm.getD 0 ByteArray.empty) && (((0 + ns.length : Nat) : Int) == s.gr))))) = true
  rw [beq_self_eq_true, decide_eq_true (show s.nm.length ≠ 0 by omega), show ((s.nm.length : Int) - 1 == s.gr) = true by rw [beq_iff_eq]; omega, show (((0 + ns.length : Nat) : Int) == s.gr) = true by rw [beq_iff_eq]; omega, g1]
  have ee : emptyS ByteArray.empty = true := by unfold emptyS; exact beq_self_eq_true _
  show (true && (true && (true && (emptyS ByteArray.empty && true)))) = true
  rw [ee]
  rfl
end Go.Proofs.YtlofoifcdmeopaaGreatDoor.V
namespace Go.Proofs.YtlofoifcdmeopaaGreatDoor.V
open Go Go.Ev Go.RowKit
set_option linter.unusedVariables false
set_option linter.unusedSimpArgs false
/-! What is least is no more than what is most. -/
theorem fold_m1 (h : Int → Int) : ∀ ks : List Int, foldH addH h (-1) ks = -1
  | [] => rfl
  | k :: ks => by rw [foldH, show addH (-1) (h k) = -1 from if_pos (.inl rfl), fold_m1 h ks]
theorem add_fold {g h : Int → Int} : ∀ (ks : List Int) (w : Int), HB w → (∀ k, k ∈ ks → 0 ≤ g k ∧ HB (h k) ∧ (h k = -1 ∨ g k ≤ h k)) → foldH addH h w ks = -1 ∨ (w ≠ -1 ∧ w + sumK g ks ≤ foldH addH h w ks ∧ w ≤ foldH addH h w ks ∧ ∀ k, k ∈ ks → h k ≠ -1 ∧ h k ≤ foldH addH h w ks)
  | [], w, hw, _ => by
    by_cases c : w = -1
    · exact .inl c
    · exact .inr ⟨c, by rw [sumK, foldH]; omega, Int.le_refl _, fun k hk => by cases hk⟩
  | k :: ks, w, hw, hh => by
    obtain ⟨a1, a2, a3⟩ := hh k List.mem_cons_self
    rw [foldH, sumK]
    by_cases c : addH w (h k) = -1
    · rw [c, fold_m1]; exact .inl rfl
    have hb := addH_in hw a2
    unfold HB at hw a2
    have d : w ≠ -1 ∧ h k ≠ -1 ∧ addH w (h k) = w + h k := by
      unfold addH at c ⊢
      split at c
      · exact absurd rfl c
      · rename_i q
        split at c
        · exact absurd rfl c
        · rename_i q2
          exact ⟨fun e => q (.inl e), fun e => q (.inr e), by rw [if_neg q, if_neg q2]⟩
    rcases add_fold ks (addH w (h k)) hb (fun x hx => hh x (List.mem_cons_of_mem _ hx)) with r | ⟨r1, r2, r3, r4⟩
    · exact .inl r
    · refine .inr ⟨d.1, by omega, by omega, fun x hx => ?_⟩
      rw [List.mem_cons] at hx
      rcases hx with rfl | hx
      · exact ⟨d.2.1, by omega⟩
      · exact r4 x hx
theorem or_fold {g h : Int → Int} : ∀ (ks : List Int) (w v : Int), HB w → (w = -1 ∨ v ≤ w) → (∀ k, k ∈ ks → HB (h k) ∧ (h k = -1 ∨ g k ≤ h k)) → foldH orH h w ks = -1 ∨ minK g v ks ≤ foldH orH h w ks
  | [], w, v, hw, hv, _ => hv
  | k :: ks, w, v, hw, hv, hh => by
    obtain ⟨a2, a3⟩ := hh k List.mem_cons_self
    rw [foldH, minK]
    refine or_fold ks (orH w (h k)) _ (orH_in hw a2) ?_ (fun x hx => hh x (List.mem_cons_of_mem _ hx))
    unfold orH
    by_cases c : w = -1 ∨ h k = -1
    · rw [if_pos c]; exact .inl rfl
    · rw [if_neg c]
      refine .inr ?_
      split <;> split <;> omega
theorem sumK_ge {g : Int → Int} : ∀ {ks : List Int}, (∀ k, k ∈ ks → 0 ≤ g k) → 0 ≤ sumK g ks ∧ ∀ k, k ∈ ks → g k ≤ sumK g ks
  | [], _ => ⟨Int.le_refl _, fun k hk => by cases hk⟩
  | k :: ks, h => by
    obtain ⟨h1, h2⟩ := sumK_ge (g := g) (ks := ks) fun x hx => h x (List.mem_cons_of_mem _ hx)
    have h3 := h k List.mem_cons_self
    refine ⟨by rw [sumK]; omega, fun x hx => ?_⟩
    rw [sumK]
    rw [List.mem_cons] at hx
    rcases hx with rfl | hx
    · omega
    · have := h2 x hx; omega
theorem capM_le (x : Int) : capM x ≤ x := by unfold capM; split <;> omega
theorem capM_ge {x y : Int} (h : y ≤ x) (h2 : y ≤ 1048576) : y ≤ capM x := by unfold capM; split <;> omega
/-- The least and the most of a node, out of its kids'. -/
theorem lowhigh {n : Nd} (hn : NdOk n) (hm : n.kind = 8 → n.max = -1 ∨ n.min ≤ n.max) {g h : Int → Int} (hk : ∀ k, k ∈ n.kids → (0 ≤ g k ∧ g k ≤ 1048576) ∧ HB (h k) ∧ (h k = -1 ∨ g k ≤ h k)) : highN n h = -1 ∨ lowN n g ≤ highN n h := by
  have h0 : 5 ≤ n.kind → (0 ≤ g (k0 n) ∧ g (k0 n) ≤ 1048576) ∧ HB (h (k0 n)) ∧ (h (k0 n) = -1 ∨ g (k0 n) ≤ h (k0 n)) := fun c => hk _ (k0_in (kids_ne hn c))
  have ht : ∀ k, k ∈ n.kids.tail → (0 ≤ g k ∧ g k ≤ 1048576) ∧ HB (h k) ∧ (h k = -1 ∨ g k ≤ h k) := fun k q => hk k (List.mem_of_mem_tail q)
  unfold lowN highN
  by_cases c4 : n.kind = 4
  · rw [if_pos c4]; exact .inl rfl
  rw [if_neg c4]
  by_cases c2 : n.kind = 2
  · rw [if_pos c2, if_pos c2]; exact .inr (Int.le_refl _)
  rw [if_neg c2, if_neg c2]
  by_cases c5 : n.kind = 5
  · rw [if_pos c5, if_pos c5]
    obtain ⟨a1, a2, a3⟩ := h0 (by omega)
    rcases add_fold (g := g) n.kids.tail (h (k0 n)) a2 (fun k q => ⟨(ht k q).1.1, (ht k q).2⟩) with r | ⟨r1, r2, r3, r4⟩
    · exact .inl r
    · refine .inr (Int.le_trans (capM_le _) ?_)
      have : sumK g n.kids = g (k0 n) + sumK g n.kids.tail := by
        cases e : n.kids with
        | nil => exact absurd e (kids_ne hn (by omega))
        | cons k ks => unfold k0; rw [e]; rfl
      omega
  rw [if_neg c5, if_neg c5]
  by_cases c6 : n.kind = 6
  · rw [if_pos c6, if_pos c6]
    obtain ⟨a1, a2, a3⟩ := h0 (by omega)
    exact or_fold n.kids.tail _ _ a2 a3 fun k q => (ht k q).2
  rw [if_neg c6, if_neg c6]
  by_cases c8 : n.kind = 8
  · rw [if_pos c8, if_pos c8]
    obtain ⟨a1, a2, a3⟩ := h0 (by omega)
    obtain ⟨m1, m2⟩ := hn.cnt c8
    have m3 := hm c8
    unfold timesH
    unfold HB at a2
    by_cases e0 : h (k0 n) = 0
    · rw [if_pos e0]
      have : g (k0 n) = 0 := by omega
      rw [this, Int.zero_mul]
      exact .inr (by decide)
    rw [if_neg e0]
    by_cases e1 : h (k0 n) = -1 ∨ n.max = -1
    · rw [if_pos e1]; exact .inl rfl
    rw [if_neg e1]
    by_cases e2 : h (k0 n) * n.max > 1048576
    · rw [if_pos e2]; exact .inl rfl
    rw [if_neg e2]
    refine .inr (Int.le_trans (capM_le _) ?_)
    exact Int.mul_le_mul (by omega) (by omega) (by omega) (by omega)
  rw [if_neg c8, if_neg c8]
  by_cases c7 : n.kind = 7 ∨ n.kind = 9
  · rw [if_pos c7, if_pos c7]; exact (h0 (by omega)).2.2
  · rw [if_neg c7, if_neg c7]; exact .inr (Int.le_refl _)
/-- The kids of a row, or a group. -/
theorem kid_le {n : Nd} (hn : NdOk n) (hk5 : n.kind = 5 ∨ n.kind = 7) {g h : Int → Int} (hk : ∀ k, k ∈ n.kids → (0 ≤ g k ∧ g k ≤ 1048576) ∧ HB (h k) ∧ (h k = -1 ∨ g k ≤ h k)) {k : Int} (hm : k ∈ n.kids) : g k ≤ lowN n g ∧ (highN n h = -1 ∨ (h k ≠ -1 ∧ h k ≤ highN n h)) := by
  unfold lowN highN
  rcases hk5 with c | c
  · rw [if_neg (by omega), if_pos c, if_neg (by omega), if_neg (by omega), if_pos c]
    obtain ⟨e1, e2⟩ := sumK_ge (g := g) (ks := n.kids) fun x hx => (hk x hx).1.1
    refine ⟨capM_ge (e2 k hm) (hk k hm).1.2, ?_⟩
    cases e : n.kids with
    | nil => rw [e] at hm; cases hm
    | cons a ks =>
      have ea : k0 n = a := by unfold k0; rw [e]; rfl
      rw [ea]
      show foldH addH h (h a) ks = -1 ∨ _
      have hka := hk a (by rw [e]; exact List.mem_cons_self)
      rcases add_fold (g := g) ks (h a) hka.2.1 (fun x q => by
        have := hk x (by rw [e]; exact List.mem_cons_of_mem _ q)
        exact ⟨this.1.1, this.2⟩) with r | ⟨r1, r2, r3, r4⟩
      · exact .inl r
      · rw [e, List.mem_cons] at hm
        rcases hm with rfl | hm
        · exact .inr ⟨r1, r3⟩
        · exact .inr (r4 k hm)
  · rw [if_neg (by omega), if_neg (by omega), if_neg (by omega), if_neg (by omega), if_pos (.inl c), if_neg (by omega), if_neg (by omega), if_neg (by omega), if_neg (by omega), if_neg (by omega), if_pos (.inl c)]
    have h1 := hn.one (by omega)
    cases e : n.kids with
    | nil => rw [e] at hm; cases hm
    | cons a ks =>
      rw [e, List.length_cons] at h1
      have : ks = [] := List.eq_nil_of_length_eq_zero (by omega)
      rw [e, this, List.mem_singleton] at hm
      have ea : k0 n = k := by unfold k0; rw [e, hm]; rfl
      rw [ea]
      have := (hk k (by rw [e, hm]; exact List.mem_cons_self)).2.1
      unfold HB at this
      exact ⟨Int.le_refl _, by omega⟩
theorem wd_le {t : Tr} (h : RT t) (hm : ∀ n, n ∈ t.ns → n.kind = 8 → n.max = -1 ∨ n.min ≤ n.max) : ∀ (d i : Nat), t.ns.length - i ≤ d → i < t.ns.length → (wd t.ns (i : Int)).2 = -1 ∨ (wd t.ns (i : Int)).1 ≤ (wd t.ns (i : Int)).2
  | 0, i, h1, h2 => by omega
  | d + 1, i, h1, h2 => by
    rw [wd_eq h h2]
    exact lowhigh (h.nd _ (List.getElem_mem h2)) (hm _ (List.getElem_mem h2)) fun k hk => by
      obtain ⟨m, rfl, m1, m2⟩ := h.laid.kid h2 hk
      have := wd_in h _ m (Nat.le_refl _) m2
      exact ⟨this.1, this.2, wd_le h hm d m (by omega) m2⟩
theorem wd_kid {t : Tr} (h : RT t) (hm : ∀ n, n ∈ t.ns → n.kind = 8 → n.max = -1 ∨ n.min ≤ n.max) {i : Nat} (h2 : i < t.ns.length) (hk5 : t.ns[i].kind = 5 ∨ t.ns[i].kind = 7) {k : Int} (hk : k ∈ t.ns[i].kids) : (wd t.ns k).1 ≤ (wd t.ns (i : Int)).1 ∧ ((wd t.ns (i : Int)).2 = -1 ∨ ((wd t.ns k).2 ≠ -1 ∧ (wd t.ns k).2 ≤ (wd t.ns (i : Int)).2)) := by
  rw [wd_eq h h2]
  exact kid_le (h.nd _ (List.getElem_mem h2)) hk5 (fun k hk => by
    obtain ⟨m, rfl, m1, m2⟩ := h.laid.kid h2 hk
    have := wd_in h _ m (Nat.le_refl _) m2
    exact ⟨this.1, this.2, wd_le h hm _ m (Nat.le_refl _) m2⟩) hk
end Go.Proofs.YtlofoifcdmeopaaGreatDoor.V
namespace Go.Proofs.YtlofoifcdmeopaaGreatDoor.V
open Go Go.Ev Go.RowKit
set_option linter.unusedVariables false
set_option linter.unusedSimpArgs false
theorem ptsDat_app : ∀ (a c : List PT), ptsDat (a ++ c) = ptsDat a ++ ptsDat c
  | [], c => rfl
  | x :: a, c => by rw [List.cons_append, ptsDat, ptsDat, ptsDat_app a c]; rfl
theorem last_of {α : Type} (x : α) (m : List α) : ∃ pre y, x :: m = pre ++ [y] := ⟨(x :: m).dropLast, (x :: m).getLast (by simp), (List.dropLast_concat_getLast (by simp)).symm⟩
theorem rowT_loop {b : List Int} (hb : isBytes b = true) (hl : b.length ≤ 4096) {d : Int} (hd : 0 ≤ d ∧ d ≤ 1000) (IH : d + 1 ≤ 100 → AltSpec b (d + 1)) {s0 : PS} (h0 : SOk b s0) (he0 : s0.e = 0) : ∀ (m : Nat) (t : PS) (l : List PT), SOk b t → (t.e = 0 → RowSt s0 l t ∧ (b.length : Int) - t.k < m) → l.length + m ≤ 10000 →
    ∃ x s', M108_1 (b.map .int) t.k t.fo t.li t.al t.wi t.gr (t.nm.map .str) t.e t.wh d 0 0 0 0 0 0 0 ByteArray.empty [] [] [] s0.k (ptsDat l) = some [ptDat x, pd b s'] ∧ SOk b s' ∧ (s'.e = 0 → PartOk s0 x s' ∧ ((szP x : Nat) : Int) ≤ 8 * (s'.k - s0.k) + 1) := by
  intro m
  induction m with
  | zero =>
    intro t l ht hr hm
    exact fin t l ht (fun q => (hr q).1) (by omega) (fun q => by
      obtain ⟨q1, q2⟩ := hr q
      have := ht.kE q
      omega)
  | succ m ih =>
    intro t l ht hr hm
    obtain ⟨u0, u1, u2, u3, u4⟩ := skip_T ht
    cases hE : endsB b t with
    | true => exact fin t l ht (fun q => (hr q).1) (by omega) (fun q => hE)
    | false =>
      have hE' := hE
      unfold endsB at hE'
      simp only [Bool.or_eq_false_iff] at hE'
      have ho := hE'.1.1
      unfold overB at ho
      simp only [Bool.or_eq_false_iff, decide_eq_false_iff_not, bne_eq_false_iff_eq] at ho
      obtain ⟨e0, k0⟩ := ho
      have et : t.e = 0 := by rw [← u2]; exact e0
      obtain ⟨r1, r2⟩ := hr et
      obtain ⟨p, s', p1, pE, p2, p3⟩ := piece_T hb hl hd IH u0 e0 (by omega)
      obtain ⟨x, s'', i1, i2, i3⟩ := ih s' (l ++ p) p2 (fun q => by
        have := p3 q
        have hk := this.1
        exact ⟨(r1.on u1 u3 u4).piece this, by omega⟩) (by rw [List.length_append]; omega)
      refine ⟨x, s'', ?_, i2, i3⟩
      apply M108_1_of
      have e1 := ends_E b (by omega) t (ht.i64 hl) u0.k0
      rw [hE] at e1
      rw [bT e1]
      simp only [stP, agA]
      rw [row_one.nF' rfl]
      refine (bT pE).trans ?_
      simp only [stP, agA]
      rw [ptsDat_len, ptsDat_len, cap144, dT (by omega), ← ptsDat_app]
      exact i1
where
  fin (t : PS) (l : List PT) (ht : SOk b t) (hr : t.e = 0 → RowSt s0 l t) (hll : l.length ≤ 10000) (hE0 : t.e = 0 → endsB b t = true) : ∃ x s', M108_1 (b.map .int) t.k t.fo t.li t.al t.wi t.gr (t.nm.map .str) t.e t.wh d 0 0 0 0 0 0 0 ByteArray.empty [] [] [] s0.k (ptsDat l) = some [ptDat x, pd b s'] ∧ SOk b s' ∧ (s'.e = 0 → PartOk s0 x s' ∧ ((szP x : Nat) : Int) ≤ 8 * (s'.k - s0.k) + 1) := by
    obtain ⟨u0, u1, u2, u3, u4⟩ := skip_T ht
    have hE : endsB b t = true := by
      by_cases c : t.e = 0
      · exact hE0 c
      · unfold endsB overB
        rw [u2, show (t.e != 0) = true by simp [c]]
        rfl
    have e1 := ends_E b (by omega) t (ht.i64 hl) u0.k0
    rw [hE] at e1
    have hR : (skipS b t).e = 0 → RowSt s0 l (skipS b t) := fun q => (hr (by rw [← u2]; exact q)).on u1 u3 u4
    cases l with
    | nil =>
      refine ⟨.mk ⟨1, s0.k, s0.k, 0, 0, 0, 0, ByteArray.empty, [], []⟩ [], skipS b t, ?_, u0, fun q => ⟨(hR q).empty hl h0 he0, (hR q).sizeCat⟩⟩
      apply M108_1_of
      rw [bT e1]
      simp only [stP, agA]
      rw [nF rfl]
      rfl
    | cons x r =>
      cases r with
      | nil =>
        refine ⟨x, skipS b t, ?_, u0, fun q => ⟨(hR q).one, (hR q).sizeOne⟩⟩
        obtain ⟨n, ks⟩ := x
        apply M108_1_of
        rw [bT e1]
        simp only [stP, agA]
        rw [nF rfl, ptsDat, ptsDat, ptDat]
        rfl
      | cons y r =>
        obtain ⟨pre, z, hz⟩ := last_of x (y :: r)
        refine ⟨.mk ⟨5, x.nd.frm, z.nd.to, 0, 0, 0, 0, ByteArray.empty, [], []⟩ (x :: y :: r), skipS b t, ?_, u0, fun q => ⟨(hR q).cat hl h0 (u0.kE q) (by simp) hz, (hR q).sizeCat⟩⟩
        have hlen : (ptsDat (x :: y :: r)).length = r.length + 2 := by rw [ptsDat_len]; rfl
        have hpre : pre.length = r.length + 1 := by
          have := congrArg List.length hz
          simp at this
          omega
        have hlast : rd (ptsDat (x :: y :: r)) (r.length + 1) = ptDat z := by
          rw [hz, ← hpre]
          exact ptsDat_rd pre z []
        have hfirst : rd (ptsDat (x :: y :: r)) 0 = ptDat x := by rw [ptsDat]; rfl
        simp only [List.length_cons] at hll
        apply M108_1_of
        rw [bT e1]
        simp only [stP, agA]
        rw [nF rfl, hlen, eF (show ((r.length + 2 : Nat) : Int) ≠ 0 by omega), eF (show ((r.length + 2 : Nat) : Int) ≠ 1 by omega), dT (by omega), dT (by omega), w64 (n := ((r.length + 2 : Nat) : Int) - 1) (by omega) (by omega), dT (by omega), dT (by omega), dT (by omega), show (((r.length + 2 : Nat) : Int) - 1).toNat = r.length + 1 by omega, hlast, hfirst]
        obtain ⟨xn, xk⟩ := x
        obtain ⟨zn, zk⟩ := z
        rw [ptDat, ptDat, ptDat]
        rfl
theorem row_T {b : List Int} (hb : isBytes b = true) (hl : b.length ≤ 4096) {d : Int} (hd : 0 ≤ d ∧ d ≤ 1000) (IH : d + 1 ≤ 100 → AltSpec b (d + 1)) {s : PS} (hs : SOk b s) (he : s.e = 0) : ∃ x s', E C 108 [pv b s, .int .i64 d] = some [ptDat x, pd b s'] ∧ SOk b s' ∧ (s'.e = 0 → PartOk s x s' ∧ ((szP x : Nat) : Int) ≤ 8 * (s'.k - s.k) + 1) := by
  have k0 := hs.k0
  obtain ⟨x, s', r1, r2, r3⟩ := rowT_loop hb hl hd IH hs he (b.length + 1) s [] hs (fun _ => ⟨RowSt.none s, by omega⟩) (by simp; omega)
  refine ⟨x, s', ?_, r2, r3⟩
  apply o108
  exact r1
theorem altT_fin {b : List Int} (hl : b.length ≤ 4096) {d : Int} {s0 : PS} (h0 : SOk b s0) (t : PS) (l : List PT) (ht : SOk b t) (hr : t.e = 0 → AltSt s0 l t) (h1 : 1 ≤ l.length) : ∃ x, ((bif ((ptsDat l).length : Int) == 1 then (bif decide (0 < ((ptsDat l).length : Int)) then (bif decide (0 < (ptsDat l).length) then (some [.agg [.int (((rd (ptsDat l) 0).C 0).I), .int (((rd (ptsDat l) 0).C 1).I), .int (((rd (ptsDat l) 0).C 2).I), .int (((rd (ptsDat l) 0).C 3).I), .int (((rd (ptsDat l) 0).C 4).I), .int (((rd (ptsDat l) 0).C 5).I), .int (((rd (ptsDat l) 0).C 6).I), .str (((rd (ptsDat l) 0).C 7).S), .list (((rd (ptsDat l) 0).C 8).L), .list (((rd (ptsDat l) 0).C 9).L), .list (((rd (ptsDat l) 0).C 10).L)], pd b t]) else none) else none) else (some [.agg [.int 6, .int s0.k, .int t.k, .int 0, .int 0, .int 0, .int 0, .str ByteArray.empty, .list ([] : List Dat), .list ([] : List Dat), .list (ptsDat l)], pd b t])) : R) = some [ptDat x, pd b t] ∧ (t.e = 0 → PartOk s0 x t ∧ ((szP x : Nat) : Int) ≤ 8 * (t.k - s0.k) + 1) := by
  cases l with
  | nil => simp at h1
  | cons x r =>
    cases r with
    | nil =>
      refine ⟨x, ?_, fun q => ⟨?_, (hr q).sizeOne⟩⟩
      · obtain ⟨n, ks⟩ := x
        rw [ptsDat, ptsDat, ptDat]
        rfl
      · exact (hr q).one x rfl
    | cons y r =>
      refine ⟨.mk ⟨6, s0.k, t.k, 0, 0, 0, 0, ByteArray.empty, [], []⟩ (x :: y :: r), ?_, fun q => ⟨(hr q).alt hl h0 (ht.kE q) (by simp), (hr q).sizeAlt (by simp)⟩⟩
      rw [ptsDat_len, eF (by simp only [List.length_cons]; omega), ptDat]
      rfl
theorem altT_loop {b : List Int} (hb : isBytes b = true) (hl : b.length ≤ 4096) {d : Int} (hd : 0 ≤ d ∧ d ≤ 1000) (IH : d + 1 ≤ 100 → AltSpec b (d + 1)) {s0 : PS} (h0 : SOk b s0) (he0 : s0.e = 0) : ∀ (m : Nat) (t : PS) (l : List PT), SOk b t → (t.e = 0 → AltSt s0 l t ∧ (b.length : Int) - t.k < m) → 1 ≤ l.length → l.length + m ≤ 10000 →
    ∃ x s', M66_1 (b.map .int) t.k t.fo t.li t.al t.wi t.gr (t.nm.map .str) t.e t.wh d 0 0 0 0 0 0 0 ByteArray.empty [] [] [] s0.k (ptsDat l) = some [ptDat x, pd b s'] ∧ SOk b s' ∧ (s'.e = 0 → PartOk s0 x s' ∧ ((szP x : Nat) : Int) ≤ 8 * (s'.k - s0.k) + 1) := by
  intro m
  induction m with
  | zero =>
    intro t l ht hr h1 hm
    obtain ⟨x, x1, x2⟩ := altT_fin hl (d := d) h0 t l ht (fun q => (hr q).1) h1
    refine ⟨x, t, ?_, ht, x2⟩
    have ho : overB b t = true := by
      unfold overB
      by_cases c : t.e = 0
      · have := (hr c).2
        have := ht.kE c
        omega
      · rw [show (t.e != 0) = true by simp [c]]; rfl
    apply M66_1_of
    rw [bT (over_E b t), ho]
    simp only [stP, agA]
    rw [nF rfl]
    exact x1
  | succ m ih =>
    intro t l ht hr h1 hm
    obtain ⟨x, x1, x2⟩ := altT_fin hl (d := d) h0 t l ht (fun q => (hr q).1) h1
    cases ho : overB b t with
    | true =>
      refine ⟨x, t, ?_, ht, x2⟩
      apply M66_1_of
      rw [bT (over_E b t), ho]
      simp only [stP, agA]
      rw [nF rfl]
      exact x1
    | false =>
      have ho' := ho
      unfold overB at ho'
      simp only [Bool.or_eq_false_iff, decide_eq_false_iff_not, bne_eq_false_iff_eq] at ho'
      obtain ⟨e0, k0⟩ := ho'
      have k00 := ht.k0
      by_cases c : atB b t.k = 124
      · have ht2 : SOk b { t with k := t.k + 1 } := ht.to (by omega) (by omega)
        obtain ⟨y, s', yE, y1, y2⟩ := row_T hb hl hd IH ht2 e0
        obtain ⟨r1, r2⟩ := hr e0
        obtain ⟨z, s'', z1, z2, z3⟩ := ih s' (l ++ [y]) y1 (fun q => by
          obtain ⟨q1, q2⟩ := y2 q
          have hk : t.k + 1 ≤ s'.k := q1.2.2.2.2.1
          exact ⟨r1.next h1 (t' := { t with k := t.k + 1 }) rfl rfl rfl q1 q2, by omega⟩) (by rw [List.length_append]; omega) (by rw [List.length_append, List.length_cons, List.length_nil]; omega)
        refine ⟨z, s'', ?_, z2, z3⟩
        obtain ⟨yn, yk⟩ := y
        rw [ptDat] at yE
        rw [ptsDat_app, ptsDat, ptsDat, ptDat] at z1
        apply M66_1_of
        rw [bT (over_E b t), ho]
        simp only [stP, agA]
        rw [row_one.nF' rfl, bT (byteAt_E b t _ k00)]
        simp only [stP, agA]
        rw [eT c, w64 (n := t.k + 1) (by omega) (by omega)]
        refine (bT yE).trans ?_
        simp only [stP, agA]
        rw [cap144, dT (by rw [ptsDat_len]; show _ + 1 ≤ _; omega)]
        exact z1
      · refine ⟨x, t, ?_, ht, x2⟩
        apply M66_1_of
        rw [bT (over_E b t), ho]
        simp only [stP, agA]
        rw [row_one.nF' rfl, bT (byteAt_E b t _ k00)]
        simp only [stP, agA]
        rw [eF c]
        exact x1
theorem alt_T {b : List Int} (hb : isBytes b = true) (hl : b.length ≤ 4096) {d : Int} (hd : 0 ≤ d ∧ d ≤ 1000) (IH : d + 1 ≤ 100 → AltSpec b (d + 1)) : AltSpec b d := fun s hs he => by
  have k0 := hs.k0
  obtain ⟨x, s1, rE, r1, r2⟩ := row_T hb hl hd IH hs he
  obtain ⟨z, s', z1, z2, z3⟩ := altT_loop hb hl hd IH hs he (b.length + 1) s1 [x] r1 (fun q => ⟨AltSt.first (r2 q).1 (r2 q).2, by have := r1.k0; omega⟩) (by simp) (by simp; omega)
  refine ⟨z, s', ?_, z2, z3⟩
  obtain ⟨xn, xk⟩ := x
  rw [ptDat] at rE
  rw [ptsDat, ptsDat, ptDat] at z1
  apply o66
  refine (bT rE).trans ?_
  simp only [stP, agA]
  exact z1
theorem alt_all {b : List Int} (hb : isBytes b = true) (hl : b.length ≤ 4096) : ∀ (j : Nat) (d : Int), 0 ≤ d → d ≤ 100 → 100 - d < j → AltSpec b d
  | 0, d, h1, h2, h3 => by omega
  | j + 1, d, h1, h2, h3 => alt_T hb hl ⟨h1, by omega⟩ fun h => alt_all hb hl j (d + 1) (by omega) h (by omega)
end Go.Proofs.YtlofoifcdmeopaaGreatDoor.V
namespace Go.Proofs.YtlofoifcdmeopaaGreatDoor.V
open Go Go.Ev Go.RowKit
set_option linter.unusedVariables false
set_option linter.unusedSimpArgs false
theorem idxB_loop (l : List ByteArray) (hl : l.length ≤ 20000000000000) (a : ByteArray) (z : Int) : ∀ (d k : Nat), k + d = l.length → ∃ i : Int, M70_1 (l.map .str) a z (l.length : Int) (k : Int) = some [.int i] ∧ -1 ≤ i ∧ i ≤ (l.length : Int) - 1
  | 0, k, h => ⟨-1, by
      apply M70_1_of
      rw [dF (by omega)], by omega, by omega⟩
  | d + 1, k, h => by
    obtain ⟨i, r1, r2⟩ := idxB_loop l hl a z d (k + 1) (by omega)
    cases q : (a.toList == ((rd (l.map Dat.str) k).S).toList) with
    | true =>
      refine ⟨(k : Int), ?_, by omega, by omega⟩
      apply M70_1_of
      rw [dT (by omega), List.length_map, ixT ⟨by omega, by omega⟩, Int.toNat_natCast, q, cond_true]
    | false =>
      refine ⟨i, ?_, r2⟩
      apply M70_1_of
      rw [dT (by omega), List.length_map, ixT ⟨by omega, by omega⟩, Int.toNat_natCast, q, cond_false, upk' (n := l.length) (by omega) hl]
      exact r1
theorem idxB_E (l : List ByteArray) (hl : l.length ≤ 20000000000000) (a : ByteArray) : ∃ i : Int, E C 70 [.shr 9 (l.map .str), .str a] = some [.int i] ∧ -1 ≤ i ∧ i ≤ (l.length : Int) - 1 := by
  obtain ⟨i, r1, r2⟩ := idxB_loop l hl a 0 l.length 0 (by omega)
  refine ⟨i, ?_, r2⟩
  apply o70
  rw [List.length_map]
  exact r1
theorem fix_loop {nm : List ByteArray} (hnm : nm.length ≤ 100) (tot : Nat) (htot : tot ≤ 1000000) (v0 v2_0 : List Dat) (v2_1 : Int) (v2_2 : List Dat) (v3 v4 v6_0 v6_1 v6_2 v6_3 v6_4 v6_5 v6_6 : Int) (v6_7 : ByteArray) (v6_8 v6_9 v6_10 : List Dat) (v7_1 : Int) (v7_2 v17_0 : List Dat) (v17_1 : Int) (v17_2 v17_3 v17_4 v17_5 : Bool) (v17_6 v17_8 v17_9 : Int) : ∀ (rest pre : List Nd), tot = pre.length + rest.length → ∃ l', FixL rest l' ∧
    M26_1 v0 v2_0 v2_1 v2_2 v3 v4 v6_0 v6_1 v6_2 v6_3 v6_4 v6_5 v6_6 v6_7 v6_8 v6_9 v6_10 (nsD (pre ++ rest)) v7_1 v7_2 v17_0 v17_1 v17_2 v17_3 v17_4 v17_5 v17_6 (nm.map .str) v17_8 v17_9 (tot : Int) (pre.length : Int) = some [.agg [.list (nsD (pre ++ l')), .int v7_1, .list v7_2], .int 0, .int 0]
  | [], pre, h => ⟨[], trivial, by
      apply M26_1_of
      rw [dF (by rw [h]; simp)]⟩
  | n :: rest, pre, h => by
    rw [List.length_cons] at h
    have hlen : (pre ++ n :: rest).length = pre.length + (rest.length + 1) := by rw [List.length_append, List.length_cons]
    have hrd : rd (nsD (pre ++ n :: rest)) pre.length = nodeD n := by
      rw [nsD_rd (by omega)]
      congr 1
      simp
    have hw : IntKind.i64.wrap ((pre.length : Int) + 1) = ((pre.length + 1 : Nat) : Int) := by rw [w64 (by omega) (by omega)]; omega
    have fin : ∀ m : Nd, Fix n m → (∀ r, M26_1 v0 v2_0 v2_1 v2_2 v3 v4 v6_0 v6_1 v6_2 v6_3 v6_4 v6_5 v6_6 v6_7 v6_8 v6_9 v6_10 (nsD (pre ++ m :: rest)) v7_1 v7_2 v17_0 v17_1 v17_2 v17_3 v17_4 v17_5 v17_6 (nm.map .str) v17_8 v17_9 (tot : Int) ((pre.length + 1 : Nat) : Int) = some r → M26_1 v0 v2_0 v2_1 v2_2 v3 v4 v6_0 v6_1 v6_2 v6_3 v6_4 v6_5 v6_6 v6_7 v6_8 v6_9 v6_10 (nsD (pre ++ n :: rest)) v7_1 v7_2 v17_0 v17_1 v17_2 v17_3 v17_4 v17_5 v17_6 (nm.map .str) v17_8 v17_9 (tot : Int) (pre.length : Int) = some r) → ∃ l', FixL (n :: rest) l' ∧
        M26_1 v0 v2_0 v2_1 v2_2 v3 v4 v6_0 v6_1 v6_2 v6_3 v6_4 v6_5 v6_6 v6_7 v6_8 v6_9 v6_10 (nsD (pre ++ n :: rest)) v7_1 v7_2 v17_0 v17_1 v17_2 v17_3 v17_4 v17_5 v17_6 (nm.map .str) v17_8 v17_9 (tot : Int) (pre.length : Int) = some [.agg [.list (nsD (pre ++ l')), .int v7_1, .list v7_2], .int 0, .int 0] := fun m hm e => by
      obtain ⟨l', f1, f2⟩ := fix_loop hnm tot htot v0 v2_0 v2_1 v2_2 v3 v4 v6_0 v6_1 v6_2 v6_3 v6_4 v6_5 v6_6 v6_7 v6_8 v6_9 v6_10 v7_1 v7_2 v17_0 v17_1 v17_2 v17_3 v17_4 v17_5 v17_6 v17_8 v17_9 rest (pre ++ [m]) (by rw [List.length_append, List.length_cons, List.length_nil]; omega)
      rw [List.append_assoc, List.append_assoc, List.length_append, List.length_cons, List.length_nil] at f2
      exact ⟨m :: l', ⟨hm, f1⟩, e _ f2⟩
    by_cases c4 : n.kind = 4
    · cases hq : emptyS n.name with
      | true =>
        refine fin n (.inl rfl) fun r hr => ?_
        unfold emptyS at hq
        apply M26_1_of
        rw [dT (by omega), nsD_len, hlen, ixT ⟨by omega, by omega⟩, Int.toNat_natCast, hrd, hw]
        simp only [nd0, nd7, datI, datS]
        rw [eT c4, hq, nF rfl]
        exact hr
      | false =>
        obtain ⟨i, i1, i2, i3⟩ := idxB_E nm (by omega) n.name
        refine fin { n with num := if 0 > i then 0 else i } (.inr ⟨c4, hq, if 0 > i then 0 else i, by split <;> omega, by split <;> omega, rfl⟩) fun r hr => ?_
        unfold emptyS at hq
        have hset : (nsD (pre ++ n :: rest)).set pre.length (nodeD { n with num := if 0 > i then 0 else i }) = nsD (pre ++ { n with num := if 0 > i then 0 else i } :: rest) := by
          unfold nsD
          simp
        apply M26_1_of
        rw [dT (by omega), nsD_len, hlen, ixT ⟨by omega, by omega⟩, Int.toNat_natCast, hrd, hw]
        simp only [nd0, nd7, datI, datS]
        rw [eT c4, hq, row_one.nF' rfl, bT i1]
        simp only [rd0, datI]
        rw [dT (by omega), dT (by omega), dT (by omega)]
        have := hset ▸ hr
        exact this
    · refine fin n (.inl rfl) fun r hr => ?_
      apply M26_1_of
      rw [dT (by omega), nsD_len, hlen, ixT ⟨by omega, by omega⟩, Int.toNat_natCast, hrd, hw]
      simp only [nd0, datI]
      rw [eF c4]
      exact hr
/-! Nodes that may be are within bounds. -/
theorem al3_in {num mi ma mode k : Int} {name : ByteArray} (h : al3 num mi ma mode name k = true) : (0 ≤ num ∧ num ≤ 99) ∧ (0 ≤ mi ∧ mi ≤ 1000) ∧ (-1 ≤ ma ∧ ma ≤ 1000) ∧ (0 ≤ mode ∧ mode ≤ 1) ∧ (k = 8 → ma = -1 ∨ mi ≤ ma) := by
  unfold al3 at h
  cases h8 : (k == 8) with
  | true =>
    rw [h8, cond_true] at h
    simp only [Bool.and_eq_true, beq_iff_eq, Bool.or_eq_true, decide_eq_true_eq, wi_iff] at h
    omega
  | false =>
    rw [h8, cond_false] at h
    rw [beq_eq_false_iff_ne] at h8
    unfold al4 at h
    simp only [Bool.and_eq_true, beq_iff_eq, wi_iff] at h
    obtain ⟨⟨⟨⟨h1, h2⟩, h3⟩, h4⟩, h5⟩ := h
    have : 0 ≤ num ∧ num ≤ 99 := by
      unfold al5 al6 al7 al8 at h5
      revert h5
      cases k == 3 <;> cases k == 4 <;> cases k == 7 <;> cases k == 10 <;> intro h5 <;> simp only [cond_true, cond_false, Bool.and_eq_true, beq_iff_eq, Bool.or_eq_true, wi_iff] at h5 <;> omega
    omega
theorem least_len : ∀ (l : List (Int × Int)) (c : Int), c ≤ 1114369 → (∀ r ∈ l, okR r ∧ c ≤ r.1) → l.Pairwise (fun a b => a.2 + 1 < b.1) → (l.length : Int) ≤ 1114369 - c
  | [], c, h, _, _ => by simp; omega
  | r :: l, c, h, h1, h2 => by
    obtain ⟨h3, h4⟩ := List.pairwise_cons.1 h2
    have h5 := h1 r List.mem_cons_self
    unfold okR at h5
    have := least_len l (r.2 + 2) (by omega) (fun q hq => ⟨(h1 q (List.mem_cons_of_mem _ hq)).1, by have := h3 q hq; omega⟩) h4
    rw [List.length_cons]
    omega
theorem okN_of {n : Nd} (h : aloneB n = true) (hk : ∀ x, x ∈ n.kids → i64P x) : OkN n := by
  unfold aloneB at h
  simp only [Bool.and_eq_true, Bool.not_eq_true', decide_eq_false_iff_not, wi_iff] at h
  obtain ⟨⟨⟨⟨⟨h1, h2⟩, h3⟩, h4⟩, h5⟩, h6, h7, h8⟩ := h
  have ha := al3_in h8
  unfold namB at h6
  simp only [Bool.and_eq_true] at h6
  have hl := (leastB_iff _).1 h6.2
  have hlen := least_len n.set 0 (by omega) (fun r hr => ⟨hl.1 r hr, (hl.1 r hr).1⟩) hl.2
  have hkn : (n.kids.length : Int) ≤ 4097 := by
    unfold kidsB at h7
    simp only [Bool.and_eq_true, Bool.not_eq_true', Bool.and_eq_false_iff, decide_eq_false_iff_not, bne_eq_false_iff_eq, beq_eq_false_iff_ne, Bool.not_eq_false', wi_iff] at h7
    omega
  refine ⟨?_, ?_, ?_, ?_, ?_, ?_, ?_, by omega, by omega, fun p hp => ?_, by omega, hk⟩
  · unfold i64P; omega
  · unfold i64P; omega
  · unfold i64P; omega
  · unfold i64P; omega
  · unfold i64P; omega
  · unfold i64P; omega
  · unfold i64P; omega
  · have := hl.1 p hp
    unfold okR at this
    unfold i64P
    omega
theorem rightL_alone {t : Tr} : ∀ (l : List Nd) (g : Nat), rightL t l g = true → ∀ n, n ∈ l → aloneB n = true
  | [], g, _, n, h => by cases h
  | m :: l, g, h, n, hn => by
    rw [rightL_cons, Bool.and_eq_true, Bool.and_eq_true] at h
    rw [List.mem_cons] at hn
    rcases hn with rfl | hn
    · exact h.1
    · have h2 := h.2.2
      split at h2
      · simp only [Bool.and_eq_true] at h2
        exact rightL_alone l _ h2.2.2.2 n hn
      · exact rightL_alone l _ h2 n hn
theorem right_alone {t : Tr} (h : rightB t = true) : ∀ n, n ∈ t.ns → aloneB n = true := by
  unfold rightB at h
  simp only [Bool.and_eq_true] at h
  exact rightL_alone _ _ h.2.2.2.2
theorem right_okT {t : Tr} (h : rightB t = true) (hl : t.ns.length ≤ 1000000) (hg : i64P t.groups) (hn : t.names.length ≤ 1000) : OkT t := by
  have hL := (right_laid h).1
  refine ⟨by omega, fun n hm => okN_of (right_alone h n hm) fun x hx => ?_, hg, by omega⟩
  obtain ⟨i, hi, rfl⟩ := List.getElem_of_mem hm
  obtain ⟨m, rfl, m1, m2⟩ := hL.kid hi hx
  unfold i64P
  omega
theorem right_counts {t : Tr} (h : rightB t = true) : ∀ n, n ∈ t.ns → n.kind = 8 → n.max = -1 ∨ n.min ≤ n.max := fun n hn h8 => by
  have ha := right_alone h n hn
  unfold aloneB at ha
  simp only [Bool.and_eq_true] at ha
  exact (al3_in ha.2.2.2).2.2.2.2 h8
/-- What Parse answers. -/
def ParseOk (b : List Int) (t : Tr) (e w : Int) : Prop := (e ≠ 0 ∧ t = ⟨[], 0, []⟩ ∧ 0 ≤ w ∧ w ≤ (b.length : Int)) ∨ (e = 0 ∧ w = 0 ∧ OkT t ∧ t.ns.length ≤ 1000000 ∧ rightB t = true ∧ ∃ n l, t.ns = n :: l ∧ n.to ≤ (b.length : Int))
def ps0 : PS := ⟨0, false, false, false, false, 0, [ByteArray.empty], 0, 0⟩
theorem ps0_ok (b : List Int) : SOk b ps0 := ⟨Int.le_refl 0, by show (0 : Int) ≤ _; omega, fun _ => by show (0 : Int) ≤ _; omega, Int.le_refl 0, by decide, rfl, fun a ha => by
  have ha' : a ∈ [ByteArray.empty] := ha
  rw [List.mem_singleton] at ha'
  rw [ha']
  decide, Int.le_refl 0, by show (0 : Int) ≤ _; omega⟩
theorem Parse_T {b : List Int} (hb : isBytes b = true) : ∃ (t : Tr) (e w : Int), E C 26 [.shr 5 (b.map .int)] = some [treeD t, .int e, .int w] ∧ ParseOk b t e w := by
  by_cases hlong : (b.length : Int) > 4096
  · refine ⟨⟨[], 0, []⟩, 15, 0, ?_, .inl ⟨by decide, rfl, Int.le_refl 0, by omega⟩⟩
    apply o26
    rw [List.length_map, dT hlong]
    rfl
  have hl : b.length ≤ 4096 := by omega
  obtain ⟨x, s1, aE, a1, a2⟩ := alt_all hb hl 101 0 (by omega) (by omega) (by omega) ps0 (ps0_ok b) rfl
  have bad : s1.e ≠ 0 → ∃ (t : Tr) (e w : Int), (some [.agg [.list ([] : List Dat), .int 0, .list ([] : List Dat)], .int s1.e, .int s1.wh] : R) = some [treeD t, .int e, .int w] ∧ ParseOk b t e w := fun h => ⟨⟨[], 0, []⟩, s1.e, s1.wh, rfl, .inl ⟨h, rfl, a1.wh.1, a1.wh.2⟩⟩
  cases ho : overB b s1 with
  | false =>
    have hF := a1.fail 30 s1.k (by decide) (fun q => ⟨a1.k0, a1.kE q⟩)
    refine ⟨⟨[], 0, []⟩, (failS s1 30 s1.k).e, (failS s1 30 s1.k).wh, ?_, .inl ⟨hF.2, rfl, hF.1.wh.1, hF.1.wh.2⟩⟩
    apply o26
    rw [List.length_map, dF hlong]
    refine (bT aE).trans ?_
    simp only [stP, agA]
    rw [bT (over_E b s1), ho]
    simp only [stP, agA]
    rw [row_one.nF' rfl, bT (fail_E b s1 30 s1.k)]
    simp only [stP, agA]
    rw [neT hF.2]
    rfl
  | true =>
    by_cases he : s1.e ≠ 0
    · refine ⟨⟨[], 0, []⟩, s1.e, s1.wh, ?_, .inl ⟨he, rfl, a1.wh.1, a1.wh.2⟩⟩
      apply o26
      rw [List.length_map, dF hlong]
      refine (bT aE).trans ?_
      simp only [stP, agA]
      rw [bT (over_E b s1), ho]
      simp only [stP, agA]
      rw [nF rfl, neT he]
      rfl
    · have he0 : s1.e = 0 := by omega
      obtain ⟨p, psz⟩ := a2 he0
      have hk := a1.kE he0
      have hg0 := a1.g0
      have hg1 := a1.g1
      have hnm := a1.nm
      have hz : szP x ≤ 40000 := by
        have : ((szP x : Nat) : Int) ≤ 8 * (s1.k - 0) + 1 := psz
        omega
      have hN := number_T x [] (by simp; omega)
      rw [List.nil_append, List.length_nil] at hN
      have hfl := flat_len 0 x
      obtain ⟨xn, xk⟩ := x
      obtain ⟨l', f1, f2⟩ := fix_loop (nm := s1.nm) (by omega) (szP (.mk xn xk)) (by omega) (b.map .int) [] 0 [] 0 0 xn.kind xn.frm xn.to xn.num xn.min xn.max xn.mode xn.name (rs xn.set) (xn.kids.map .int) (ptsDat xk) s1.gr (s1.nm.map .str) (b.map .int) s1.k s1.fo s1.li s1.al s1.wi s1.gr s1.e s1.wh (flat 0 (.mk xn xk)) [] (by rw [hfl]; simp)
      have hR := right_of a1 f1 p.1 (s0 := ps0) rfl rfl p.2.2.2.2.2.2
      have hlen := f1.len
      rw [hfl] at hlen
      refine ⟨⟨l', s1.gr, s1.nm⟩, 0, 0, ?_, .inr ⟨rfl, rfl, right_okT hR (by show l'.length ≤ _; omega) (by show i64P s1.gr; unfold i64P; omega) (by show s1.nm.length ≤ _; omega), by show l'.length ≤ _; omega, hR, ?_⟩⟩
      · apply o26
        rw [List.length_map, dF hlong]
        refine (bT aE).trans ?_
        rw [ptDat]
        simp only [stP, agA]
        rw [bT (over_E b s1), ho]
        simp only [stP, agA]
        rw [nF rfl, neF he0]
        refine (bT hN).trans ?_
        simp only [stP, agA]
        rw [nsD_len, hfl]
        rw [List.nil_append, List.nil_append] at f2
        exact f2
      · have hto : xn.to ≤ s1.k := p.2.2.2.1
        rw [flat] at f1
        cases l' with
        | nil => exact absurd f1 id
        | cons m l' =>
          refine ⟨m, l', rfl, ?_⟩
          have : m.to = xn.to := f1.1.same.2.2.1
          omega
end Go.Proofs.YtlofoifcdmeopaaGreatDoor.V
namespace Go.Proofs.YtlofoifcdmeopaaGreatDoor.V
open Go Go.Ev
set_option maxRecDepth 100000
set_option linter.unusedVariables false
/-- clew/clewlaw09.WellOrdered -/
noncomputable def f11 : Func := Tryz.f11
def kp11 : List Nat := [0, 2, 3, 4, 6, 7, 8, 9, 11, 27, 28, 29, 68, 69, 70]
noncomputable def c11 (p : List Nat) : Code := pick f11 p
noncomputable def L11_2 (n : Nat) (m1 : Nat) (m2 : Nat) (v0 : List Dat) (v2 : Bool) (v3_0 : List Dat) (v3_1 : Int) (v3_2 : List Dat) (v4 : Int) (v6 : List Dat) (v7 v8_0 v8_1 v9_0 v9_1 v9_2 v9_3 v9_4 v9_5 v9_6 : Int) (v9_7 : ByteArray) (v9_8 v9_9 v27 : List Dat) (v28 v29 : Int) (v68 : List Dat) (v69 v70 : Int) : R := loopIter (fun E K => evCode C (ev C n) n kp11 (c11 [1, 1, 1, 1, 1, 1, 0, 1, 0, 0, 1, 1, 0, 0, 1, 1, 1, 1, 1, 0, 0]) E K) [0, 2, 3, 4, 6, 7, 8, 9, 27, 28, 29, 68, 69, 70] (Kblk 2 (Kblk 1 (Kseq C (ev C n) n kp11 (c11 [1, 1, 1, 1, 1, 1, 0, 1, 0, 0, 1, 1, 1]) (Klop (fun E K => evCode C (ev C n) n kp11 (c11 [1, 1, 1, 1, 1, 1, 0, 1, 0, 0]) E K) [0, 2, 3, 4, 6, 27, 28, 29] (Kblk 0 (Kseq C (ev C n) n kp11 (c11 [1, 1, 1, 1, 1, 1, 1]) (Ktop C 11 f11 [.und]))) m1)))) m2 [.shr 5 v0, .und, .bool v2, .box 25 [.shr 38 v3_0, .int .i64 v3_1, .shr 9 v3_2], .int .i64 v4, .und, .shr 62 v6, .int .i64 v7, .box 62 [.int .i64 v8_0, .int .i64 v8_1], .box 38 [.int .i64 v9_0, .int .i64 v9_1, .int .i64 v9_2, .int .i64 v9_3, .int .i64 v9_4, .int .i64 v9_5, .int .i64 v9_6, .str v9_7, .shr 82 v9_8, .shr 3 v9_9], .und, .und, .und, .und, .und, .und, .und, .und, .und, .und, .und, .und, .und, .und, .und, .und, .und, .shr 62 v27, .int .i64 v28, .int .i64 v29, .und, .und, .und, .und, .und, .und, .und, .und, .und, .und, .und, .und, .und, .und, .und, .und, .und, .und, .und, .und, .und, .und, .und, .und, .und, .und, .und, .und, .und, .und, .und, .und, .und, .und, .und, .und, .und, .und, .shr 3 v68, .int .i64 v69, .int .i64 v70, .und, .und, .und, .und, .und, .und, .und, .und, .und, .und, .und, .und, .und, .und, .und, .und, .und, .und, .und, .und, .und, .und, .und, .und, .und, .und, .und, .und, .und, .und, .und, .und, .und, .und, .und, .und]
noncomputable def M11_2 (v0 : List Dat) (v2 : Bool) (v3_0 : List Dat) (v3_1 : Int) (v3_2 : List Dat) (v4 : Int) (v6 : List Dat) (v7 v8_0 v8_1 v9_0 v9_1 v9_2 v9_3 v9_4 v9_5 v9_6 : Int) (v9_7 : ByteArray) (v9_8 v9_9 v27 : List Dat) (v28 v29 : Int) (v68 : List Dat) (v69 v70 : Int) : R := lim fun φ => L11_2 (φ 0) (φ 1) (φ 2) v0 v2 v3_0 v3_1 v3_2 v4 v6 v7 v8_0 v8_1 v9_0 v9_1 v9_2 v9_3 v9_4 v9_5 v9_6 v9_7 v9_8 v9_9 v27 v28 v29 v68 v69 v70
theorem M11_2_c (v0 : List Dat) (v2 : Bool) (v3_0 : List Dat) (v3_1 : Int) (v3_2 : List Dat) (v4 : Int) (v6 : List Dat) (v7 v8_0 v8_1 v9_0 v9_1 v9_2 v9_3 v9_4 v9_5 v9_6 : Int) (v9_7 : ByteArray) (v9_8 v9_9 v27 : List Dat) (v28 v29 : Int) (v68 : List Dat) (v69 v70 : Int) : Cont (fun φ => L11_2 (φ 0) (φ 1) (φ 2) v0 v2 v3_0 v3_1 v3_2 v4 v6 v7 v8_0 v8_1 v9_0 v9_1 v9_2 v9_3 v9_4 v9_5 v9_6 v9_7 v9_8 v9_9 v27 v28 v29 v68 v69 v70) (M11_2 v0 v2 v3_0 v3_1 v3_2 v4 v6 v7 v8_0 v8_1 v9_0 v9_1 v9_2 v9_3 v9_4 v9_5 v9_6 v9_7 v9_8 v9_9 v27 v28 v29 v68 v69 v70) := Cont.re id _
theorem M11_2_e (v0 : List Dat) (v2 : Bool) (v3_0 : List Dat) (v3_1 : Int) (v3_2 : List Dat) (v4 : Int) (v6 : List Dat) (v7 v8_0 v8_1 v9_0 v9_1 v9_2 v9_3 v9_4 v9_5 v9_6 : Int) (v9_7 : ByteArray) (v9_8 v9_9 v27 : List Dat) (v28 v29 : Int) (v68 : List Dat) (v69 v70 : Int) : Cont (fun φ => L11_2 (φ 0) (φ 1) (φ 0) v0 v2 v3_0 v3_1 v3_2 v4 v6 v7 v8_0 v8_1 v9_0 v9_1 v9_2 v9_3 v9_4 v9_5 v9_6 v9_7 v9_8 v9_9 v27 v28 v29 v68 v69 v70) (M11_2 v0 v2 v3_0 v3_1 v3_2 v4 v6 v7 v8_0 v8_1 v9_0 v9_1 v9_2 v9_3 v9_4 v9_5 v9_6 v9_7 v9_8 v9_9 v27 v28 v29 v68 v69 v70) := Cont.re (toZ 2) fun φ => L11_2 (φ 0) (φ 1) (φ 2) v0 v2 v3_0 v3_1 v3_2 v4 v6 v7 v8_0 v8_1 v9_0 v9_1 v9_2 v9_3 v9_4 v9_5 v9_6 v9_7 v9_8 v9_9 v27 v28 v29 v68 v69 v70
noncomputable def L11_1 (n : Nat) (m1 : Nat) (v0 : List Dat) (v2 : Bool) (v3_0 : List Dat) (v3_1 : Int) (v3_2 : List Dat) (v4 : Int) (v6 v27 : List Dat) (v28 v29 : Int) : R := loopIter (fun E K => evCode C (ev C n) n kp11 (c11 [1, 1, 1, 1, 1, 1, 0, 1, 0, 0]) E K) [0, 2, 3, 4, 6, 27, 28, 29] (Kblk 0 (Kseq C (ev C n) n kp11 (c11 [1, 1, 1, 1, 1, 1, 1]) (Ktop C 11 f11 [.und]))) m1 [.shr 5 v0, .und, .bool v2, .box 25 [.shr 38 v3_0, .int .i64 v3_1, .shr 9 v3_2], .int .i64 v4, .und, .shr 62 v6, .und, .und, .und, .und, .und, .und, .und, .und, .und, .und, .und, .und, .und, .und, .und, .und, .und, .und, .und, .und, .shr 62 v27, .int .i64 v28, .int .i64 v29, .und, .und, .und, .und, .und, .und, .und, .und, .und, .und, .und, .und, .und, .und, .und, .und, .und, .und, .und, .und, .und, .und, .und, .und, .und, .und, .und, .und, .und, .und, .und, .und, .und, .und, .und, .und, .und, .und, .und, .und, .und, .und, .und, .und, .und, .und, .und, .und, .und, .und, .und, .und, .und, .und, .und, .und, .und, .und, .und, .und, .und, .und, .und, .und, .und, .und, .und, .und, .und, .und, .und, .und, .und, .und, .und, .und, .und]
noncomputable def M11_1 (v0 : List Dat) (v2 : Bool) (v3_0 : List Dat) (v3_1 : Int) (v3_2 : List Dat) (v4 : Int) (v6 v27 : List Dat) (v28 v29 : Int) : R := lim fun φ => L11_1 (φ 0) (φ 1) v0 v2 v3_0 v3_1 v3_2 v4 v6 v27 v28 v29
theorem M11_1_c (v0 : List Dat) (v2 : Bool) (v3_0 : List Dat) (v3_1 : Int) (v3_2 : List Dat) (v4 : Int) (v6 v27 : List Dat) (v28 v29 : Int) : Cont (fun φ => L11_1 (φ 0) (φ 1) v0 v2 v3_0 v3_1 v3_2 v4 v6 v27 v28 v29) (M11_1 v0 v2 v3_0 v3_1 v3_2 v4 v6 v27 v28 v29) := Cont.re id _
theorem M11_1_e (v0 : List Dat) (v2 : Bool) (v3_0 : List Dat) (v3_1 : Int) (v3_2 : List Dat) (v4 : Int) (v6 v27 : List Dat) (v28 v29 : Int) : Cont (fun φ => L11_1 (φ 0) (φ 0) v0 v2 v3_0 v3_1 v3_2 v4 v6 v27 v28 v29) (M11_1 v0 v2 v3_0 v3_1 v3_2 v4 v6 v27 v28 v29) := Cont.re (toZ 1) fun φ => L11_1 (φ 0) (φ 1) v0 v2 v3_0 v3_1 v3_2 v4 v6 v27 v28 v29
theorem M11_2_of (v0 : List Dat) (v2 : Bool) (v3_0 : List Dat) (v3_1 : Int) (v3_2 : List Dat) (v4 : Int) (v6 : List Dat) (v7 v8_0 v8_1 v9_0 v9_1 v9_2 v9_3 v9_4 v9_5 v9_6 : Int) (v9_7 : ByteArray) (v9_8 v9_9 v27 : List Dat) (v28 v29 : Int) (v68 : List Dat) (v69 v70 : Int) {r : List Dat} (h : (bif decide (v70 < v69) then (bif decide (0 ≤ v70) then (bif decide (v70 < (v68.length : Int)) then (bif decide (v70.toNat < v68.length) then (bif decide (0 ≤ ((rd v68 v70.toNat).I)) then (bif decide (((rd v68 v70.toNat).I) < (v6.length : Int)) then (bif decide (((rd v68 v70.toNat).I).toNat < v6.length) then (bif decide ((((rd v6 (((rd v68 v70.toNat).I).toNat)).C 0).I) > v8_0) then (some [.bool false]) else (bif decide (v8_1 ≥ 0) then (bif decide (0 ≤ ((rd v68 v70.toNat).I)) then (bif decide (((rd v68 v70.toNat).I) < (v6.length : Int)) then (bif decide (((rd v68 v70.toNat).I).toNat < v6.length) then (bif decide ((((rd v6 (((rd v68 v70.toNat).I).toNat)).C 1).I) < 0) then (some [.bool false]) else (bif decide (0 ≤ ((rd v68 v70.toNat).I)) then (bif decide (((rd v68 v70.toNat).I) < (v6.length : Int)) then (bif decide (((rd v68 v70.toNat).I).toNat < v6.length) then (bif decide ((((rd v6 (((rd v68 v70.toNat).I).toNat)).C 1).I) > v8_1) then (some [.bool false]) else (M11_2 v0 v2 v3_0 v3_1 v3_2 v4 v6 v7 v8_0 v8_1 v9_0 v9_1 v9_2 v9_3 v9_4 v9_5 v9_6 v9_7 v9_8 v9_9 v27 v28 v29 v68 v69 (IntKind.i64.wrap (v70 + 1)))) else none) else none) else none)) else none) else none) else none) else (M11_2 v0 v2 v3_0 v3_1 v3_2 v4 v6 v7 v8_0 v8_1 v9_0 v9_1 v9_2 v9_3 v9_4 v9_5 v9_6 v9_7 v9_8 v9_9 v27 v28 v29 v68 v69 (IntKind.i64.wrap (v70 + 1))))) else none) else none) else none) else none) else none) else none) else (M11_1 v0 v2 v3_0 v3_1 v3_2 v4 v6 v27 v28 (IntKind.i64.wrap (v29 + 1))) : R) = some r) : M11_2 v0 v2 v3_0 v3_1 v3_2 v4 v6 v7 v8_0 v8_1 v9_0 v9_1 v9_2 v9_3 v9_4 v9_5 v9_6 v9_7 v9_8 v9_9 v27 v28 v29 v68 v69 v70 = some r := lim_st (g := fun φ => L11_2 (φ 0) (φ 1) (φ 2) v0 v2 v3_0 v3_1 v3_2 v4 v6 v7 v8_0 v8_1 v9_0 v9_1 v9_2 v9_3 v9_4 v9_5 v9_6 v9_7 v9_8 v9_9 v27 v28 v29 v68 v69 v70) 2 h (Cont.bif (Cont.bif (Cont.bif (Cont.bif (Cont.bif (Cont.bif (Cont.bif (Cont.bif (Cont.const _) (Cont.bif (Cont.bif (Cont.bif (Cont.bif (Cont.bif (Cont.const _) (Cont.bif (Cont.bif (Cont.bif (Cont.bif (Cont.const _) (M11_2_c _ _ _ _ _ _ _ _ _ _ _ _ _ _ _ _ _ _ _ _ _ _ _ _ _ _)) Cont.nn) Cont.nn) Cont.nn)) Cont.nn) Cont.nn) Cont.nn) (M11_2_c _ _ _ _ _ _ _ _ _ _ _ _ _ _ _ _ _ _ _ _ _ _ _ _ _ _))) Cont.nn) Cont.nn) Cont.nn) Cont.nn) Cont.nn) Cont.nn) (M11_1_c _ _ _ _ _ _ _ _ _ _)) fun φ m hm => (congrArg (fun q => L11_2 (φ 0) (φ 1) q v0 v2 v3_0 v3_1 v3_2 v4 v6 v7 v8_0 v8_1 v9_0 v9_1 v9_2 v9_3 v9_4 v9_5 v9_6 v9_7 v9_8 v9_9 v27 v28 v29 v68 v69 v70) hm).trans (by kernel_rfl)
theorem M11_1_of (v0 : List Dat) (v2 : Bool) (v3_0 : List Dat) (v3_1 : Int) (v3_2 : List Dat) (v4 : Int) (v6 v27 : List Dat) (v28 v29 : Int) {r : List Dat} (h : (bif decide (v29 < v28) then (bif decide (0 ≤ v29) then (bif decide (v29 < (v27.length : Int)) then (bif decide (v29.toNat < v27.length) then (bif decide ((((rd v27 v29.toNat).C 0).I) < 0) then (some [.bool false]) else (bif decide ((((rd v27 v29.toNat).C 1).I) < (-1)) then (some [.bool false]) else (bif decide ((((rd v27 v29.toNat).C 1).I) ≥ 0) then (bif decide ((((rd v27 v29.toNat).C 0).I) > (((rd v27 v29.toNat).C 1).I)) then (some [.bool false]) else (bif decide (0 ≤ v29) then (bif decide (v29 < (v3_0.length : Int)) then (bif decide (v29.toNat < v3_0.length) then (bif (((rd v3_0 v29.toNat).C 0).I) != 5 then (bif (((rd v3_0 v29.toNat).C 0).I) != 7 then (M11_1 v0 v2 v3_0 v3_1 v3_2 v4 v6 v27 v28 (IntKind.i64.wrap (v29 + 1))) else (M11_2 v0 v2 v3_0 v3_1 v3_2 v4 v6 v29 (((rd v27 v29.toNat).C 0).I) (((rd v27 v29.toNat).C 1).I) (((rd v3_0 v29.toNat).C 0).I) (((rd v3_0 v29.toNat).C 1).I) (((rd v3_0 v29.toNat).C 2).I) (((rd v3_0 v29.toNat).C 3).I) (((rd v3_0 v29.toNat).C 4).I) (((rd v3_0 v29.toNat).C 5).I) (((rd v3_0 v29.toNat).C 6).I) (((rd v3_0 v29.toNat).C 7).S) (((rd v3_0 v29.toNat).C 8).L) (((rd v3_0 v29.toNat).C 9).L) v27 v28 v29 (((rd v3_0 v29.toNat).C 9).L) ((((rd v3_0 v29.toNat).C 9).L).length : Int) 0)) else (M11_2 v0 v2 v3_0 v3_1 v3_2 v4 v6 v29 (((rd v27 v29.toNat).C 0).I) (((rd v27 v29.toNat).C 1).I) (((rd v3_0 v29.toNat).C 0).I) (((rd v3_0 v29.toNat).C 1).I) (((rd v3_0 v29.toNat).C 2).I) (((rd v3_0 v29.toNat).C 3).I) (((rd v3_0 v29.toNat).C 4).I) (((rd v3_0 v29.toNat).C 5).I) (((rd v3_0 v29.toNat).C 6).I) (((rd v3_0 v29.toNat).C 7).S) (((rd v3_0 v29.toNat).C 8).L) (((rd v3_0 v29.toNat).C 9).L) v27 v28 v29 (((rd v3_0 v29.toNat).C 9).L) ((((rd v3_0 v29.toNat).C 9).L).length : Int) 0)) else none) else none) else none)) else (bif decide (0 ≤ v29) then (bif decide (v29 < (v3_0.length : Int)) then (bif decide (v29.toNat < v3_0.length) then (bif (((rd v3_0 v29.toNat).C 0).I) != 5 then (bif (((rd v3_0 v29.toNat).C 0).I) != 7 then (M11_1 v0 v2 v3_0 v3_1 v3_2 v4 v6 v27 v28 (IntKind.i64.wrap (v29 + 1))) else (M11_2 v0 v2 v3_0 v3_1 v3_2 v4 v6 v29 (((rd v27 v29.toNat).C 0).I) (((rd v27 v29.toNat).C 1).I) (((rd v3_0 v29.toNat).C 0).I) (((rd v3_0 v29.toNat).C 1).I) (((rd v3_0 v29.toNat).C 2).I) (((rd v3_0 v29.toNat).C 3).I) (((rd v3_0 v29.toNat).C 4).I) (((rd v3_0 v29.toNat).C 5).I) (((rd v3_0 v29.toNat).C 6).I) (((rd v3_0 v29.toNat).C 7).S) (((rd v3_0 v29.toNat).C 8).L) (((rd v3_0 v29.toNat).C 9).L) v27 v28 v29 (((rd v3_0 v29.toNat).C 9).L) ((((rd v3_0 v29.toNat).C 9).L).length : Int) 0)) else (M11_2 v0 v2 v3_0 v3_1 v3_2 v4 v6 v29 (((rd v27 v29.toNat).C 0).I) (((rd v27 v29.toNat).C 1).I) (((rd v3_0 v29.toNat).C 0).I) (((rd v3_0 v29.toNat).C 1).I) (((rd v3_0 v29.toNat).C 2).I) (((rd v3_0 v29.toNat).C 3).I) (((rd v3_0 v29.toNat).C 4).I) (((rd v3_0 v29.toNat).C 5).I) (((rd v3_0 v29.toNat).C 6).I) (((rd v3_0 v29.toNat).C 7).S) (((rd v3_0 v29.toNat).C 8).L) (((rd v3_0 v29.toNat).C 9).L) v27 v28 v29 (((rd v3_0 v29.toNat).C 9).L) ((((rd v3_0 v29.toNat).C 9).L).length : Int) 0)) else none) else none) else none)))) else none) else none) else none) else (some [.bool true]) : R) = some r) : M11_1 v0 v2 v3_0 v3_1 v3_2 v4 v6 v27 v28 v29 = some r := lim_st (g := fun φ => L11_1 (φ 0) (φ 1) v0 v2 v3_0 v3_1 v3_2 v4 v6 v27 v28 v29) 1 h (Cont.bif (Cont.bif (Cont.bif (Cont.bif (Cont.bif (Cont.const _) (Cont.bif (Cont.const _) (Cont.bif (Cont.bif (Cont.const _) (Cont.bif (Cont.bif (Cont.bif (Cont.bif (Cont.bif (M11_1_c _ _ _ _ _ _ _ _ _ _) (M11_2_e _ _ _ _ _ _ _ _ _ _ _ _ _ _ _ _ _ _ _ _ _ _ _ _ _ _)) (M11_2_e _ _ _ _ _ _ _ _ _ _ _ _ _ _ _ _ _ _ _ _ _ _ _ _ _ _)) Cont.nn) Cont.nn) Cont.nn)) (Cont.bif (Cont.bif (Cont.bif (Cont.bif (Cont.bif (M11_1_c _ _ _ _ _ _ _ _ _ _) (M11_2_e _ _ _ _ _ _ _ _ _ _ _ _ _ _ _ _ _ _ _ _ _ _ _ _ _ _)) (M11_2_e _ _ _ _ _ _ _ _ _ _ _ _ _ _ _ _ _ _ _ _ _ _ _ _ _ _)) Cont.nn) Cont.nn) Cont.nn)))) Cont.nn) Cont.nn) Cont.nn) (Cont.const _)) fun φ m hm => (congrArg (fun q => L11_1 (φ 0) q v0 v2 v3_0 v3_1 v3_2 v4 v6 v27 v28 v29) hm).trans (by kernel_rfl)
theorem o11 (a0 : List Dat) {r : List Dat} (h : ((E C 36 []).bind fun d1 => (bif !((rd d1 0).B) then (some [.bool false]) else (bif decide ((a0.length : Int) > 1000) then (some [.bool true]) else ((E C 42 [.shr 5 a0]).bind fun d2 => (bif ((rd d2 1).I) != 0 then (some [.bool true]) else ((E C 38 [.agg [.shr 38 (((rd d2 0).C 0).L), .int .i64 (((rd d2 0).C 1).I), .shr 9 (((rd d2 0).C 2).L)]]).bind fun d3 => (M11_1 a0 false (((rd d2 0).C 0).L) (((rd d2 0).C 1).I) (((rd d2 0).C 2).L) ((rd d2 1).I) ((rd d3 0).L) ((rd d3 0).L) (((rd d3 0).L).length : Int) 0)))))) : R) = some r) : E C 11 [.shr 5 a0] = some r := E_st h (Cont.bind (Cont.call C 36 _) fun _ => (Cont.bif (Cont.const _) (Cont.bif (Cont.const _) (Cont.bind (Cont.call C 42 _) fun _ => (Cont.bif (Cont.const _) (Cont.bind (Cont.call C 38 _) fun _ => (M11_1_e _ _ _ _ _ _ _ _ _ _))))))) fun φ => by kernel_rfl
end Go.Proofs.YtlofoifcdmeopaaGreatDoor.V
namespace Go.Proofs.YtlofoifcdmeopaaGreatDoor.V
open Go Go.Ev Go.RowKit
theorem anchor09_E : E C 36 [] = some [.bool true] := E_from 60 fun n => by kernel_rfl
end Go.Proofs.YtlofoifcdmeopaaGreatDoor.V
namespace Go.Proofs.YtlofoifcdmeopaaGreatDoor.V
open Go Go.Ev Go.RowKit
set_option linter.unusedVariables false
set_option linter.unusedSimpArgs false
theorem Of_T {b : List Int} (hb : isBytes b = true) : ∃ (t : Tr) (e w : Int), E C 42 [.shr 5 (b.map .int)] = some [treeD t, .int e, .int w] ∧ (e = 0 → OkT t ∧ t.ns.length ≤ 1000000 ∧ rightB t = true) := by
  obtain ⟨t, e, w, pE, p⟩ := Parse_T hb
  rcases p with ⟨h1, h2, h3, h4⟩ | ⟨h1, h2, h3, h4, h5, h6⟩
  · refine ⟨⟨[], 0, []⟩, e, w, ?_, fun q => absurd q h1⟩
    apply o42
    rw [bT pE]
    simp only [treeD, rd0, rd1, rd2, aggC0, aggC1, aggC2, datI, datL]
    rw [neT h1]
    rfl
  · obtain ⟨q1, q2⟩ := right_laid h5
    have hC := Check_E h3 ⟨q1, q2⟩
    by_cases hc : (chk t.groups t.ns t.ns).1 = 0
    · refine ⟨t, 0, 0, ?_, fun _ => ⟨h3, h4, h5⟩⟩
      apply o42
      rw [bT pE]
      simp only [treeD, rd0, rd1, rd2, aggC0, aggC1, aggC2, datI, datL]
      rw [neF h1, bT hC]
      simp only [rd0, rd1, datI]
      rw [neF hc]
    · refine ⟨⟨[], 0, []⟩, (chk t.groups t.ns t.ns).1, (chk t.groups t.ns t.ns).2, ?_, fun q => absurd q hc⟩
      apply o42
      rw [bT pE]
      simp only [treeD, rd0, rd1, rd2, aggC0, aggC1, aggC2, datI, datL]
      rw [neF h1, bT hC]
      simp only [rd0, rd1, datI]
      rw [neT hc]
      rfl
theorem wRd {t : Tr} {m : Nat} (h : m < t.ns.length) : rd (wTail t.ns 0) m = wD (wd t.ns (m : Int)) := by
  have := wTail_rd t.ns (Nat.zero_le m) h
  rwa [Nat.sub_zero] at this
theorem ord_kids {t : Tr} (ht : OkT t) (h : RT t) (hm : ∀ n, n ∈ t.ns → n.kind = 8 → n.max = -1 ∨ n.min ≤ n.max) {i : Nat} (h2 : i < t.ns.length) (hk5 : t.ns[i].kind = 5 ∨ t.ns[i].kind = 7) (v0 : List Dat) (v2 : Bool) (v4 : Int) (hr : M11_1 v0 v2 (nsD t.ns) t.groups (t.names.map .str) v4 (wTail t.ns 0) (wTail t.ns 0) (t.ns.length : Int) ((i + 1 : Nat) : Int) = some [.bool true]) : ∀ (rest pre : List Int), t.ns[i].kids = pre ++ rest →
    M11_2 v0 v2 (nsD t.ns) t.groups (t.names.map .str) v4 (wTail t.ns 0) (i : Int) (wd t.ns (i : Int)).1 (wd t.ns (i : Int)).2 t.ns[i].kind t.ns[i].frm t.ns[i].to t.ns[i].num t.ns[i].min t.ns[i].max t.ns[i].mode t.ns[i].name (rs t.ns[i].set) (t.ns[i].kids.map .int) (wTail t.ns 0) (t.ns.length : Int) (i : Int) (t.ns[i].kids.map .int) (t.ns[i].kids.length : Int) (pre.length : Int) = some [.bool true]
  | [], pre, e => by
    have hns := ht.ns
    rw [List.append_nil] at e
    apply M11_2_of
    rw [e, dF (by omega), upk (n := t.ns.length) (by omega) (by omega)]
    exact hr
  | k :: rest, pre, e => by
    have hkk := (ht.nd _ (List.getElem_mem h2)).kids
    have hns := ht.ns
    have hlen : t.ns[i].kids.length = pre.length + (rest.length + 1) := by rw [e, List.length_append, List.length_cons]
    have hmem : k ∈ t.ns[i].kids := by rw [e]; simp
    have hrd : (rd (t.ns[i].kids.map Dat.int) pre.length).I = k := by rw [e]; exact kid_at
    obtain ⟨a1, a2⟩ := wd_kid h hm h2 hk5 hmem
    have hrec := ord_kids ht h hm h2 hk5 v0 v2 v4 hr rest (pre ++ [k]) (by rw [e, List.append_assoc]; rfl)
    obtain ⟨m, rfl, m1, m2⟩ := h.laid.kid h2 hmem
    have hb := (wd_in h _ m (Nat.le_refl _) m2).2
    unfold HB at hb
    rw [List.length_append, List.length_cons, List.length_nil] at hrec
    apply M11_2_of
    rw [dT (by omega), List.length_map, ixT ⟨by omega, by omega⟩, Int.toNat_natCast, hrd, wTail_len, ixT ⟨by omega, by omega⟩, Int.toNat_natCast, wRd m2, upk (n := t.ns[i].kids.length) (by omega) (by omega)]
    simp only [wD, aggC0, aggC1, datI]
    rw [dF (by omega)]
    by_cases c : (wd t.ns (i : Int)).2 ≥ 0
    · rw [dT c, dT (by omega), dT (by omega), dT (by omega), dF (by omega), dT (by omega), dT (by omega), dT (by omega), dF (by omega)]
      exact hrec
    · rw [dF c]
      exact hrec
theorem ord_loop {t : Tr} (ht : OkT t) (h : RT t) (hm : ∀ n, n ∈ t.ns → n.kind = 8 → n.max = -1 ∨ n.min ≤ n.max) (v0 : List Dat) (v2 : Bool) (v4 : Int) : ∀ (d i : Nat), i + d = t.ns.length →
    M11_1 v0 v2 (nsD t.ns) t.groups (t.names.map .str) v4 (wTail t.ns 0) (wTail t.ns 0) (t.ns.length : Int) (i : Int) = some [.bool true]
  | 0, i, e => by
    apply M11_1_of
    rw [dF (by omega)]
  | d + 1, i, e => by
    have hns := ht.ns
    have h2 : i < t.ns.length := by omega
    have hw := wd_in h _ i (Nat.le_refl _) h2
    have hb := hw.2
    unfold HB at hb
    have hle := wd_le h hm _ i (Nat.le_refl _) h2
    have hrec := ord_loop ht h hm v0 v2 v4 d (i + 1) (by omega)
    have hkids := fun hk5 => ord_kids ht h hm h2 hk5 v0 v2 v4 hrec t.ns[i].kids [] rfl
    have fin : ((bif t.ns[i].kind != 5 then (bif t.ns[i].kind != 7 then (M11_1 v0 v2 (nsD t.ns) t.groups (t.names.map .str) v4 (wTail t.ns 0) (wTail t.ns 0) (t.ns.length : Int) ((i + 1 : Nat) : Int)) else (M11_2 v0 v2 (nsD t.ns) t.groups (t.names.map .str) v4 (wTail t.ns 0) (i : Int) (wd t.ns (i : Int)).1 (wd t.ns (i : Int)).2 t.ns[i].kind t.ns[i].frm t.ns[i].to t.ns[i].num t.ns[i].min t.ns[i].max t.ns[i].mode t.ns[i].name (rs t.ns[i].set) (t.ns[i].kids.map .int) (wTail t.ns 0) (t.ns.length : Int) (i : Int) (t.ns[i].kids.map .int) (t.ns[i].kids.length : Int) 0)) else (M11_2 v0 v2 (nsD t.ns) t.groups (t.names.map .str) v4 (wTail t.ns 0) (i : Int) (wd t.ns (i : Int)).1 (wd t.ns (i : Int)).2 t.ns[i].kind t.ns[i].frm t.ns[i].to t.ns[i].num t.ns[i].min t.ns[i].max t.ns[i].mode t.ns[i].name (rs t.ns[i].set) (t.ns[i].kids.map .int) (wTail t.ns 0) (t.ns.length : Int) (i : Int) (t.ns[i].kids.map .int) (t.ns[i].kids.length : Int) 0)) : R) = some [.bool true] := by
      by_cases c5 : t.ns[i].kind = 5
      · rw [neF c5]; exact hkids (.inl c5)
      rw [neT c5]
      by_cases c7 : t.ns[i].kind = 7
      · rw [neF c7]; exact hkids (.inr c7)
      · rw [neT c7]; exact hrec
    apply M11_1_of
    rw [dT (by omega), wTail_len, ixT ⟨by omega, by omega⟩, Int.toNat_natCast, wRd h2, nsD_len, nsD_rd h2, upk (n := t.ns.length) (by omega) (by omega)]
    simp only [wD, aggC0, aggC1, datI, datS, datL, nd0, nd1, nd2, nd3, nd4, nd5, nd6, nd7, nd8, nd9]
    rw [dF (by omega), dF (by omega), List.length_map]
    by_cases c : (wd t.ns (i : Int)).2 ≥ 0
    · rw [dT c, dF (by omega), dT (by omega), dT (by omega), dT h2]
      exact fin
    · rw [dF c, dT (by omega), dT (by omega), dT h2]
      exact fin
theorem WellOrdered_pure (e0 : Dat) (h0 : fitT C.T 9 44 e0) : E C 11 [.shr 5 e0.L] = some [.bool true] := by
  obtain ⟨b, rfl, hb, hbl⟩ := fit_bytes h0
  apply o11
  rw [bT anchor09_E]
  simp only [rd0, datB, datL]
  rw [nF rfl, List.length_map]
  by_cases g1 : (b.length : Int) > 1000
  · rw [dT g1]
  obtain ⟨t, e, w, oE, o1⟩ := Of_T hb
  rw [dF g1, bT oE]
  simp only [treeD, rd0, rd1, aggC0, aggC1, aggC2, datI, datL]
  by_cases he : e = 0
  · obtain ⟨h1, h2, h3⟩ := o1 he
    obtain ⟨q1, q2⟩ := right_laid h3
    rw [neF he, bT (Widths_E h1 ⟨q1, q2⟩)]
    simp only [rd0, datL]
    rw [wTail_len, Nat.sub_zero]
    exact ord_loop h1 ⟨q1, q2⟩ (right_counts h3) _ _ _ t.ns.length 0 (by omega)
  · rw [neT he]
end Go.Proofs.YtlofoifcdmeopaaGreatDoor.V
namespace Go.Proofs
open Go.Shelf
def Tryz.laySortI_ren : Go.Shelf.Ren := ⟨fun | 189 => 273 | 125 => 151 | 257 => 283 | 128 => 190 | 129 => 191 | 294 => 293 | 295 => 294 | 296 => 295 | 297 => 296 | 298 => 297 | 299 => 298 | 216 => 299 | 300 => 300 | 301 => 301 | 328 => 304 | 329 => 219 | 330 => 220 | 331 => 305 | 332 => 306 | 215 => 152 | 343 => 311 | n => n, fun | 28 => 36 | 3 => 3 | 46 => 188 | 0 => 0 | 51 => 206 | 53 => 209 | 4 => 4 | 183 => 229 | 182 => 228 | 131 => 233 | 5 => 5 | 9 => 9 | 218 => 260 | 222 => 264 | 228 => 278 | 229 => 63 | n => n, fun | n => n⟩
theorem Tryz.laySortI : Go.Proofs.Lays.n189 Tryz.prog Tryz.laySortI_ren := {
  mixed := by kernel_rfl
  f125 := Tryz.func151.trans (congrArg some (by kernel_rfl))
  f128 := Tryz.func190.trans (congrArg some (by kernel_rfl))
  f129 := Tryz.func191.trans (congrArg some (by kernel_rfl))
  f189 := Tryz.func273.trans (congrArg some (by kernel_rfl))
  f215 := Tryz.func152.trans (congrArg some (by kernel_rfl))
  f216 := Tryz.func299.trans (congrArg some (by kernel_rfl))
  f257 := Tryz.func283.trans (congrArg some (by kernel_rfl))
  f294 := Tryz.func293.trans (congrArg some (by kernel_rfl))
  f295 := Tryz.func294.trans (congrArg some (by kernel_rfl))
  f296 := Tryz.func295.trans (congrArg some (by kernel_rfl))
  f297 := Tryz.func296.trans (congrArg some (by kernel_rfl))
  f298 := Tryz.func297.trans (congrArg some (by kernel_rfl))
  f299 := Tryz.func298.trans (congrArg some (by kernel_rfl))
  f300 := Tryz.func300.trans (congrArg some (by kernel_rfl))
  f301 := Tryz.func301.trans (congrArg some (by kernel_rfl))
  f328 := Tryz.func304.trans (congrArg some (by kernel_rfl))
  f329 := Tryz.func219.trans (congrArg some (by kernel_rfl))
  f330 := Tryz.func220.trans (congrArg some (by kernel_rfl))
  f331 := Tryz.func305.trans (congrArg some (by kernel_rfl))
  f332 := Tryz.func306.trans (congrArg some (by kernel_rfl))
  f343 := Tryz.func311.trans (congrArg some (by kernel_rfl))
  t0 := Tryz.underlying0
  a0 := Tryz.isAgg0
  z0 := Tryz.sizeOf0
  v0 := Tryz.zeroValue0
  t3 := Tryz.underlying3
  a3 := Tryz.isAgg3
  z3 := Tryz.sizeOf3
  v3 := Tryz.zeroValue3
  t4 := Tryz.underlying4
  a4 := Tryz.isAgg4
  z4 := Tryz.sizeOf4
  v4 := Tryz.zeroValue4
  t5 := Tryz.underlying5
  a5 := Tryz.isAgg5
  z5 := Tryz.sizeOf5
  v5 := Tryz.zeroValue5
  t9 := Tryz.underlying9
  a9 := Tryz.isAgg9
  z9 := Tryz.sizeOf9
  v9 := Tryz.zeroValue9
  t28 := Tryz.underlying36
  a28 := Tryz.isAgg36
  z28 := Tryz.sizeOf36
  v28 := Tryz.zeroValue36
  t46 := Tryz.underlying188
  a46 := Tryz.isAgg188
  z46 := Tryz.sizeOf188
  v46 := Tryz.zeroValue188
  t51 := Tryz.underlying206
  a51 := Tryz.isAgg206
  z51 := Tryz.sizeOf206
  v51 := Tryz.zeroValue206
  t53 := Tryz.underlying209
  a53 := Tryz.isAgg209
  z53 := Tryz.sizeOf209
  v53 := Tryz.zeroValue209
  t131 := Tryz.underlying233
  a131 := Tryz.isAgg233
  z131 := Tryz.sizeOf233
  v131 := Tryz.zeroValue233
  t182 := Tryz.underlying228
  a182 := Tryz.isAgg228
  z182 := Tryz.sizeOf228
  v182 := Tryz.zeroValue228
  t183 := Tryz.underlying229
  a183 := Tryz.isAgg229
  z183 := Tryz.sizeOf229
  v183 := Tryz.zeroValue229
  t218 := Tryz.underlying260
  a218 := Tryz.isAgg260
  z218 := Tryz.sizeOf260
  v218 := Tryz.zeroValue260
  t222 := Tryz.underlying264
  a222 := Tryz.isAgg264
  z222 := Tryz.sizeOf264
  v222 := Tryz.zeroValue264
  t228 := Tryz.underlying278
  a228 := Tryz.isAgg278
  z228 := Tryz.sizeOf278
  v228 := Tryz.zeroValue278
  t229 := Tryz.underlying63
  a229 := Tryz.isAgg63
  z229 := Tryz.sizeOf63
  v229 := Tryz.zeroValue63 }
end Go.Proofs
namespace Go.Proofs.YtlofoifcdmeopaaGreatDoor.V
open Go Go.Ev Go.RowKit Go.Shelf
set_option linter.unusedVariables false
set_option linter.unusedSimpArgs false
set_option maxRecDepth 100000
theorem ty_i64 : C.T 3 = some ⟨1, 8, [.int .i64], false, .scal⟩ := rfl
theorem sort_ok {args : List AV} {ds : List Dat} (h : gSortI 3 args = some ds) : FnR Tryz.prog C 273 args ds := by
  have hio : C.io 273 = true := by kernel_rfl
  unfold FnR
  rw [hio]
  unfold gSortI at h
  split at h
  case h_2 => cases h
  rename_i e' l
  cases hb : Nat.beq e' 3 && decide (l.length < 4611686018427387904) with
  | false => rw [hb] at h; cases h
  | true =>
    rw [hb] at h
    obtain rfl := Option.some.inj h
    simp only [Bool.and_eq_true, decide_eq_true_eq] at hb
    obtain ⟨he, hbig⟩ := hb
    obtain rfl := Nat.eq_of_beq_eq_true he
    have hil : (ints l).length = l.length := by simp [ints]
    intro e l2 cl hargs
    simp only [List.cons.injEq, AV.shr.injEq] at hargs
    obtain ⟨⟨rfl, rfl⟩, rfl⟩ := hargs
    refine ⟨_, rfl, by rw [List.length_map, sortI_length, hil], fun te w St ad cap hte hcap hmem => ?_⟩
    rcases Nat.eq_zero_or_pos l.length with h0 | hpos
    · obtain rfl : l = [] := List.eq_nil_of_length_eq_zero h0
      refine Calls.mono (Any.slices_Sort_int_none Tryz.laySortI ad cap w) ?_
      rintro x w' ⟨rfl, rfl⟩
      refine ⟨rfl, rfl, rfl, rfl, Nat.le_refl _, fun _ _ _ => rfl, fun _ b o arr et fz _ hh => ⟨arr, hh, rfl, fun i j hi => ?_⟩⟩
      simp [ints, sortI] at hi
    · have hc0 : cap ≠ 0 := by omega
      have ht := hte hc0
      rw [ty_i64, Option.some.injEq] at ht
      subst ht
      rcases hmem with h | ⟨b, o, arr, et, fz, rfl, hh, hnf, hsz, hrow⟩
      · exact absurd h hc0
      have hcell : ∀ j, j < l.length → arr[o + j]? = some (.int .i64 ((ints l).getD j 0)) := fun j hj => by
        obtain ⟨u, k1, k2⟩ := hrow j 0 hj (by simp)
        have k3 := k2 (.int .i64) rfl
        cases k3 with
        | int k3 =>
          simp only [Nat.mul_one, Nat.add_zero, List.getElem?_drop, Array.getElem?_toList] at k1
          rw [k1, k3]
          have : (cellOf ⟨1, 8, [.int .i64], false, .scal⟩ (rd l j) 0).I = (ints l).getD j 0 := by simp [cellOf, ints, rd, List.getD_eq_getElem?_getD, hj]
          rw [this]
      have hblk := (Array.getElem?_eq_some_iff.1 hh).1
      have hsz' : o + cap ≤ arr.size := by simpa using hsz
      have hH : Go.Sort.Holds (Value.int .i64) w b o (ints l).toArray := by
        intro j hj
        have hj : j < l.length := by simpa [hil] using hj
        refine ⟨?_, ?_⟩
        · simp only [World.cell?, hh, Option.isSome_none, Bool.false_eq_true, if_false]
          rw [hcell j hj, getElem!_pos (ints l).toArray j (by simpa [hil] using hj)]
          simp [List.getD_eq_getElem?_getD, hil, hj]
        · simp only [World.frozen?, hh]
          have := hnf.2 (o + j) (by omega)
          simpa using this
      have hcon := Any.slices_Sort_int Tryz.laySortI b o cap (ints l) w hH hblk (by rw [hil]; exact hbig)
      rw [hil] at hcon
      refine Calls.mono hcon ?_
      rintro x w' ⟨rfl, n, os, hw⟩
      rw [← sortI_merge] at hw
      have hheap : ∀ i, i < w.heap.size → w'.heap[i]? = (w.heap.modify b (Go.Sort.onCells (Go.Sort.putCells (Value.int .i64) o (sortI (ints l)).toArray)))[i]? := fun i hi => by
        rw [hw]
        show ((w.heap.modify b _) ++ os)[i]? = _
        rw [Array.getElem?_append_left (by simpa using hi)]
      have hgg : w'.heap[b]? = some (.cells (Go.Sort.putCells (Value.int .i64) o (sortI (ints l)).toArray arr) et fz) := by
        rw [hheap b hblk, Array.getElem?_modify, if_pos rfl, hh]
        rfl
      refine ⟨rfl, by rw [hw]; rfl, by rw [hw]; rfl, by rw [hw]; rfl, ?_, fun k hk hne => ?_, fun _ b2 o2 arr2 et2 fz2 hb2 hh2 => ?_⟩
      · rw [hw]
        show w.heap.size ≤ ((w.heap.modify b _) ++ os).size
        simp
      · rw [hheap k hk, Array.getElem?_modify, if_neg (fun e => hne b o rfl hc0 e.symm)]
      · simp only [Option.some.injEq, Addr.mk.injEq, and_true] at hb2
        obtain ⟨rfl, rfl⟩ := hb2
        rw [hh] at hh2
        simp only [Option.some.injEq, Obj.cells.injEq] at hh2
        obtain ⟨rfl, rfl, rfl⟩ := hh2
        refine ⟨_, hgg, by simp [Go.Sort.putCells], fun i j hi hj => ?_⟩
        have hj0 : j = 0 := by simp at hj; omega
        subst hj0
        have hi : i < (sortI (ints l)).length := by simpa using hi
        have hil2 : (sortI (ints l)).length = l.length := by rw [sortI_length, hil]
        refine ⟨.int .i64 (sortI (ints l))[i], ?_, fun ct hct => ?_⟩
        · simp only [Nat.mul_one, Nat.add_zero, List.getElem?_drop, Array.getElem?_toList]
          unfold Go.Sort.putCells
          rw [Array.getElem?_mapIdx, Array.getElem?_eq_getElem (by omega)]
          simp only [Option.map_some]
          rw [if_pos ⟨by omega, by simp; omega⟩, Nat.add_sub_cancel_left, getElem!_pos (sortI (ints l)).toArray i (by simpa using hi)]
          simp
        · simp only [List.getElem?_cons_zero, Option.some.injEq] at hct
          subst hct
          refine .int ?_
          have : (cellOf ⟨1, 8, [.int .i64], false, .scal⟩ (rd ((sortI (ints l)).map Dat.int) i) 0).I = (sortI (ints l))[i] := by simp [cellOf, rdI, List.getD_eq_getElem?_getD, hi]
          rw [this]
end Go.Proofs.YtlofoifcdmeopaaGreatDoor.V
namespace Go.Proofs
open Go.Shelf
def Tryz.laySortR_ren : Go.Shelf.Ren := ⟨fun | 6 => 114 | 15 => 151 | 14 => 150 | 28 => 190 | 29 => 191 | 20 => 182 | 21 => 183 | 22 => 184 | 23 => 185 | 24 => 186 | 25 => 187 | 26 => 188 | 27 => 189 | 46 => 218 | 47 => 219 | 48 => 220 | 49 => 221 | 50 => 222 | 57 => 235 | n => n, fun | 22 => 35 | 24 => 82 | 25 => 169 | 3 => 3 | 39 => 188 | 0 => 0 | 53 => 206 | 55 => 209 | 4 => 4 | 46 => 229 | 45 => 228 | 50 => 233 | 5 => 5 | 9 => 9 | 66 => 260 | 70 => 264 | 76 => 278 | 77 => 63 | n => n, fun | n => n⟩
theorem Tryz.laySortR : Go.Proofs.SlLaysF0.n6 Tryz.prog Tryz.laySortR_ren := {
  mixed := by kernel_rfl
  f6 := ⟨Tryz.f114.name, by decide, Tryz.func114.trans (congrArg some (by kernel_rfl))⟩
  f14 := ⟨Tryz.f150.name, by decide, Tryz.func150.trans (congrArg some (by kernel_rfl))⟩
  f15 := Tryz.func151.trans (congrArg some (by kernel_rfl))
  f20 := ⟨Tryz.f182.name, by decide, Tryz.func182.trans (congrArg some (by kernel_rfl))⟩
  f21 := ⟨Tryz.f183.name, by decide, Tryz.func183.trans (congrArg some (by kernel_rfl))⟩
  f22 := ⟨Tryz.f184.name, by decide, Tryz.func184.trans (congrArg some (by kernel_rfl))⟩
  f23 := ⟨Tryz.f185.name, by decide, Tryz.func185.trans (congrArg some (by kernel_rfl))⟩
  f24 := ⟨Tryz.f186.name, by decide, Tryz.func186.trans (congrArg some (by kernel_rfl))⟩
  f25 := ⟨Tryz.f187.name, by decide, Tryz.func187.trans (congrArg some (by kernel_rfl))⟩
  f26 := ⟨Tryz.f188.name, by decide, Tryz.func188.trans (congrArg some (by kernel_rfl))⟩
  f27 := ⟨Tryz.f189.name, by decide, Tryz.func189.trans (congrArg some (by kernel_rfl))⟩
  f28 := Tryz.func190.trans (congrArg some (by kernel_rfl))
  f29 := Tryz.func191.trans (congrArg some (by kernel_rfl))
  f46 := ⟨Tryz.f218.name, by decide, Tryz.func218.trans (congrArg some (by kernel_rfl))⟩
  f47 := Tryz.func219.trans (congrArg some (by kernel_rfl))
  f48 := Tryz.func220.trans (congrArg some (by kernel_rfl))
  f49 := ⟨Tryz.f221.name, by decide, Tryz.func221.trans (congrArg some (by kernel_rfl))⟩
  f50 := ⟨Tryz.f222.name, by decide, Tryz.func222.trans (congrArg some (by kernel_rfl))⟩
  f57 := ⟨Tryz.f235.name, by decide, Tryz.func235.trans (congrArg some (by kernel_rfl))⟩
  t0 := Tryz.underlying0
  a0 := Tryz.isAgg0
  z0 := Tryz.sizeOf0
  v0 := Tryz.zeroValue0
  t3 := Tryz.underlying3
  a3 := Tryz.isAgg3
  z3 := Tryz.sizeOf3
  v3 := Tryz.zeroValue3
  t4 := Tryz.underlying4
  a4 := Tryz.isAgg4
  z4 := Tryz.sizeOf4
  v4 := Tryz.zeroValue4
  t5 := Tryz.underlying5
  a5 := Tryz.isAgg5
  z5 := Tryz.sizeOf5
  v5 := Tryz.zeroValue5
  t9 := Tryz.underlying9
  a9 := Tryz.isAgg9
  z9 := Tryz.sizeOf9
  v9 := Tryz.zeroValue9
  t22 := Tryz.underlying35
  a22 := Tryz.isAgg35
  z22 := Tryz.sizeOf35
  v22 := Tryz.zeroValue35
  t25 := Tryz.underlying169
  a25 := Tryz.isAgg169
  z25 := Tryz.sizeOf169
  v25 := Tryz.zeroValue169
  t39 := Tryz.underlying188
  a39 := Tryz.isAgg188
  z39 := Tryz.sizeOf188
  v39 := Tryz.zeroValue188
  t45 := Tryz.underlying228
  a45 := Tryz.isAgg228
  z45 := Tryz.sizeOf228
  v45 := Tryz.zeroValue228
  t46 := Tryz.underlying229
  a46 := Tryz.isAgg229
  z46 := Tryz.sizeOf229
  v46 := Tryz.zeroValue229
  t50 := Tryz.underlying233
  a50 := Tryz.isAgg233
  z50 := Tryz.sizeOf233
  v50 := Tryz.zeroValue233
  t53 := Tryz.underlying206
  a53 := Tryz.isAgg206
  z53 := Tryz.sizeOf206
  v53 := Tryz.zeroValue206
  t55 := Tryz.underlying209
  a55 := Tryz.isAgg209
  z55 := Tryz.sizeOf209
  v55 := Tryz.zeroValue209
  t66 := Tryz.underlying260
  a66 := Tryz.isAgg260
  z66 := Tryz.sizeOf260
  v66 := Tryz.zeroValue260
  t70 := Tryz.underlying264
  a70 := Tryz.isAgg264
  z70 := Tryz.sizeOf264
  v70 := Tryz.zeroValue264
  t76 := Tryz.underlying278
  a76 := Tryz.isAgg278
  z76 := Tryz.sizeOf278
  v76 := Tryz.zeroValue278
  t77 := Tryz.underlying63
  a77 := Tryz.isAgg63
  z77 := Tryz.sizeOf63
  v77 := Tryz.zeroValue63 }
end Go.Proofs
namespace Go.Proofs.YtlofoifcdmeopaaGreatDoor.V
open Go Go.Ev Go.RowKit Go.Shelf Go.Sort
set_option linter.unusedVariables false
set_option linter.unusedSimpArgs false
set_option maxRecDepth 100000
def cmpI (x y : Int) : Int := if x < y then -1 else if y < x then 1 else 0
theorem compareInt_calls (x y : Int) (w : World) : Calls Tryz.prog 117 #[.int .i64 x, .int .i64 y] w fun e w' => e = .returned (.int .i64 (cmpI x y)) ∧ w' = w := by
  unfold cmpI
  by_cases h1 : x < y
  · rw [if_pos h1]
    go_enter Tryz.func117, Tryz.ntmps117
    go_wp2
    go_ret
    exact ⟨rfl, rfl⟩
  · rw [if_neg h1]
    by_cases h2 : y < x
    · rw [if_pos h2]
      go_enter Tryz.func117, Tryz.ntmps117
      go_wp2
      go_ret
      exact ⟨rfl, rfl⟩
    · rw [if_neg h2]
      go_enter Tryz.func117, Tryz.ntmps117
      go_wp2
      go_ret
      exact ⟨rfl, rfl⟩
/-- cmp.Or of two numbers that lie in a new block. -/
theorem or_calls (x y : Int) (w : World) (b : Nat) (h0 : w.cell? ⟨b, 0, none⟩ = some (.int .i64 x)) (h1 : w.cell? ⟨b, 1, none⟩ = some (.int .i64 y)) :
    Calls Tryz.prog 116 #[.slice (some ⟨b, 0, none⟩) 2 2] w fun e w' => e = .returned (.int .i64 (if x = 0 then y else x)) ∧ w' = w := by
  by_cases hx : x = 0
  · rw [if_pos hx]
    subst hx
    by_cases hy : y = 0
    · subst hy
      go_enter Tryz.func116, Tryz.ntmps116
      go_wp2
      refine wp_loop_rounds 3 ?_
      rw [rounds_succ]
      go_wp2
      rw [rounds_succ]
      go_wp2
      rw [rounds_succ]
      go_wp2
      go_ret
      exact ⟨rfl, rfl⟩
    · have hyb : (y != 0) = true := by simpa using hy
      go_enter Tryz.func116, Tryz.ntmps116
      go_wp2
      refine wp_loop_rounds 2 ?_
      rw [rounds_succ]
      go_wp2
      rw [rounds_succ]
      go_wp2
      go_ret
      exact ⟨rfl, rfl⟩
  · rw [if_neg hx]
    have hxb : (x != 0) = true := by simpa using hx
    go_enter Tryz.func116, Tryz.ntmps116
    go_wp2
    refine wp_loop_rounds 1 ?_
    rw [rounds_succ]
    go_wp2
    go_ret
    exact ⟨rfl, rfl⟩
def cmpR (x y : (Int × Int)) : Int := if cmpI x.1 y.1 = 0 then cmpI x.2 y.2 else cmpI x.1 y.1
def encR (x : (Int × Int)) : List Value := [.int .i64 x.1, .int .i64 x.2]
set_option maxHeartbeats 1000000 in
set_option maxRecDepth 100000 in
theorem closureMake (x y : (Int × Int)) (W : World) : Calls Tryz.prog 115 #[.agg #[.int .i64 x.1, .int .i64 x.2], .agg #[.int .i64 y.1, .int .i64 y.2]] W fun e w' => e = .returned (.int .i64 (cmpR x y)) ∧ ∃ q os', w' = grow (W.drewN q) os' := by
  obtain ⟨a, b⟩ := x
  obtain ⟨c, d⟩ := y
  unfold cmpR
  dsimp only
  have h1 := fun W' => compareInt_calls a c W'
  have h2 := fun W' => compareInt_calls b d W'
  generalize cmpI a c = p at h1 ⊢
  generalize cmpI b d = q at h2 ⊢
  have ho := fun W' b => or_calls p q W' b
  generalize (if p = 0 then q else p) = m at ho ⊢
  have HO := Aside0.mk ho
  clear ho
  have hm : Tryz.prog.follows .mixedOrders = true := by kernel_rfl
  go_enter Tryz.func115, Tryz.ntmps115
  go_wp2_with fail
  have c0 : ((W.alloc (Obj.cells #[Value.int IntKind.i64 a, Value.int IntKind.i64 b] 82)).alloc (Obj.cells #[Value.int IntKind.i64 c, Value.int IntKind.i64 d] 82)).cell? ⟨W.heap.size, 0, none⟩ = some (.int .i64 a) := by go_simp
  have c1 : ((W.alloc (Obj.cells #[Value.int IntKind.i64 a, Value.int IntKind.i64 b] 82)).alloc (Obj.cells #[Value.int IntKind.i64 c, Value.int IntKind.i64 d] 82)).cell? ⟨W.heap.size, 1, none⟩ = some (.int .i64 b) := by go_simp
  have c2 : ((W.alloc (Obj.cells #[Value.int IntKind.i64 a, Value.int IntKind.i64 b] 82)).alloc (Obj.cells #[Value.int IntKind.i64 c, Value.int IntKind.i64 d] 82)).cell? ⟨W.heap.size + 1, 0, none⟩ = some (.int .i64 c) := by go_simp
  have c3 : ((W.alloc (Obj.cells #[Value.int IntKind.i64 a, Value.int IntKind.i64 b] 82)).alloc (Obj.cells #[Value.int IntKind.i64 c, Value.int IntKind.i64 d] 82)).cell? ⟨W.heap.size + 1, 1, none⟩ = some (.int .i64 d) := by go_simp
  obtain ⟨V, hV⟩ : ∃ V, ((W.alloc (Obj.cells #[Value.int IntKind.i64 a, Value.int IntKind.i64 b] 82)).alloc (Obj.cells #[Value.int IntKind.i64 c, Value.int IntKind.i64 d] 82)) = V := ⟨_, rfl⟩
  rw [hV] at c0 c1 c2 c3 ⊢
  have HV := Aside0.mk hV
  clear hV
  refine wp_region_still_tail 10 hm (by kernel_rfl) ?_
  simp only [List.take_succ_cons, List.take_zero, List.drop_succ_cons, List.drop_zero]
  change wpStill _ _ V.drew _ _ _
  have d0 : V.drew.cell? ⟨W.heap.size, 0, none⟩ = some (.int .i64 a) := c0
  have d1 : V.drew.cell? ⟨W.heap.size, 1, none⟩ = some (.int .i64 b) := c1
  have d2 : V.drew.cell? ⟨W.heap.size + 1, 0, none⟩ = some (.int .i64 c) := c2
  have d3 : V.drew.cell? ⟨W.heap.size + 1, 1, none⟩ = some (.int .i64 d) := c3
  have HD : Aside0 (∃ q, V.drew = V.drewN q) := ⟨1, rfl⟩
  clear c0 c1 c2 c3
  generalize V.drew = V2 at d0 d1 d2 d3 HD ⊢
  repeat still_step
  still_call (h1 V2)
  repeat still_step
  still_call (h2 V2)
  refine wpStill_nil ?_
  clear h1 h2 d0 d1 d2 d3
  go_wp2_with (go_at_call 116; refine (HO.out _ _ (by go_simp) (by go_simp)).mono ?_; rintro e w' ⟨rfl, rfl⟩)
  go_ret
  exact ⟨rfl, 1, #[_, _, _], by rw [← HV.out, alloc_eq_grow, alloc_eq_grow, alloc_eq_grow, grow_grow, grow_grow]; rfl⟩
/-! ### the order -/
theorem ltOf_cmpR (x y : (Int × Int)) : ltOf cmpR x y = keyLt x y := by
  unfold ltOf cmpR keyLt cmpI
  by_cases h1 : x.1 < y.1
  · simp [h1]
  · by_cases h2 : y.1 < x.1
    · have h3 : ¬ x.1 = y.1 := by omega
      simp [h1, h2, h3]
    · have h3 : x.1 = y.1 := by omega
      by_cases h4 : x.2 < y.2
      · simp [h3, h4]
      · by_cases h5 : y.2 < x.2 <;> simp [h3, h4, h5]
theorem swoR : SWO (ltOf cmpR) where
  irrefl x := by rw [ltOf_cmpR]; simp [keyLt]
  trans x y z h1 h2 := by rw [ltOf_cmpR] at *; simp [keyLt] at *; omega
  ntrans x y z h1 h2 := by rw [ltOf_cmpR] at *; simp [keyLt] at *; omega
theorem totR (x y : (Int × Int)) (h1 : ltOf cmpR x y = false) (h2 : ltOf cmpR y x = false) : x = y := by
  rw [ltOf_cmpR] at *
  obtain ⟨a, b⟩ := x
  obtain ⟨c, d⟩ := y
  simp [keyLt] at h1 h2
  have e1 : a = c := by omega
  have e2 : b = d := by omega
  subst e1 e2
  rfl
theorem ty_rng : C.T 82 = some ⟨2, 16, [.int .i64, .int .i64], true, .struct [(0, 3), (1, 3)]⟩ := rfl
theorem sortM (l : List (Int × Int)) : (l.mergeSort fun x y => !(ltOf cmpR) y x) = sortP l := by
  rw [sortP_merge]
  congr 1
  funext x y
  rw [ltOf_cmpR]
theorem sortr_ok {args : List AV} {ds : List Dat} (h : gSortR 82 115 args = some ds) : FnR Tryz.prog C 114 args ds := by
  have hio : C.io 114 = true := rfl
  unfold FnR
  rw [hio]
  unfold gSortR at h
  split at h
  case h_2 => cases h
  rename_i e' l g'
  cases hb : Nat.beq e' 82 && (Nat.beq g' 115 && decide (l.length < 4611686018427387904)) with
  | false => rw [hb] at h; cases h
  | true =>
    rw [hb] at h
    obtain rfl := Option.some.inj h
    simp only [Bool.and_eq_true, decide_eq_true_eq] at hb
    obtain ⟨he, hg, hbig⟩ := hb
    obtain rfl := Nat.eq_of_beq_eq_true he
    obtain rfl := Nat.eq_of_beq_eq_true hg
    have hil : (unprs l).length = l.length := by simp [unprs]
    intro e l2 cl hargs
    simp only [List.cons.injEq, AV.shr.injEq] at hargs
    obtain ⟨⟨rfl, rfl⟩, rfl⟩ := hargs
    refine ⟨_, rfl, by simp [prs, sortP_length, hil], fun te w St ad cap hte hcap hmem => ?_⟩
    rcases Nat.eq_zero_or_pos l.length with h0 | hpos
    · obtain rfl : l = [] := List.eq_nil_of_length_eq_zero h0
      refine Calls.mono (AnyF.slices_SortFunc_none Tryz.laySortR ad cap _ w) ?_
      rintro x w' ⟨rfl, rfl⟩
      refine ⟨rfl, rfl, rfl, rfl, Nat.le_refl _, fun _ _ _ => rfl, fun _ b o arr et fz _ hh => ⟨arr, hh, rfl, fun i j hi => ?_⟩⟩
      simp [unprs, sortP, prs] at hi
    · have hc0 : cap ≠ 0 := by omega
      have ht := hte hc0
      rw [ty_rng, Option.some.injEq] at ht
      subst ht
      rcases hmem with h | ⟨b, o, arr, et, fz, rfl, hh, hnf, hsz, hrow⟩
      · exact absurd h hc0
      have hblk := (Array.getElem?_eq_some_iff.1 hh).1
      have hsz' : o + cap * 2 ≤ arr.size := hsz
      have hcell : ∀ t, t < l.length * 2 → arr[o + t]? = some (flatK encR 2 (unprs l).toArray)[t]! := fun t ht => by
        have hi : t / 2 < l.length := by omega
        have hiu : t / 2 < (unprs l).length := by omega
        rw [get_flatK encR 2 (unprs l).toArray t (by simp only [List.size_toArray]; omega)]
        have h2 : (unprs l).toArray[t / 2]! = (unprs l)[t / 2] := by
          rw [getElem!_pos (unprs l).toArray (t / 2) (by simpa using hiu)]
          simp
        have h4 : (unprs l)[t / 2] = (((rd l (t / 2)).C 0).I, ((rd l (t / 2)).C 1).I) := by simp [unprs, Go.Ev.rd, hi]
        rw [h2, h4]
        obtain ⟨u, k1, k2⟩ := hrow (t / 2) (t % 2) hi (by show t % 2 < 2; omega)
        simp only [List.getElem?_drop, Array.getElem?_toList] at k1
        have ei : o + (t / 2 * 2 + t % 2) = o + t := by omega
        rw [ei] at k1
        rw [k1]
        have h3 : t % 2 = 0 ∨ t % 2 = 1 := by omega
        rcases h3 with h3 | h3
        · have k3 := k2 (.int .i64) (by rw [h3]; rfl)
          rw [h3] at k3 ⊢
          cases k3 with
          | int k3 => rw [k3]; rfl
        · have k3 := k2 (.int .i64) (by rw [h3]; rfl)
          rw [h3] at k3 ⊢
          cases k3 with
          | int k3 => rw [k3]; rfl
      have hH : HoldsK encR 2 w b o (unprs l).toArray := by
        intro t ht
        have ht : t < l.length * 2 := by simpa [hil] using ht
        refine ⟨?_, ?_⟩
        · simp only [World.cell?, hh, Option.isSome_none, Bool.false_eq_true, if_false]
          exact hcell t ht
        · simp only [World.frozen?, hh]
          have := hnf.2 (o + t) (by omega)
          simpa using this
      have eg : ∀ args w, (callFunc 115 args).run Tryz.prog w = .ok (.enter 115 args) w := enters_of Tryz.func115 (by kernel_rfl) rfl
      have hcon := AnyQ.slices_SortFunc_total Tryz.laySortR 2 Tryz.isAgg82 Tryz.sizeOf82 encR (fun _ => rfl) (fun x v hv => by simp [encR] at hv; rcases hv with rfl | rfl <;> rfl) cmpR swoR 115 #[] b o cap (unprs l).toArray w eg
        (fun _ _ _ _ x y => closureMake x y _) hH hblk (by simpa [hil] using hbig) totR
      change Calls Tryz.prog 114 _ _ _ at hcon
      rw [List.size_toArray, hil] at hcon
      refine Calls.mono hcon ?_
      rintro x w' ⟨rfl, n, os, hw⟩
      have hw : w' = sortWorldK encR 2 w b o n (sortP (unprs l)).toArray os := by
        rw [← sortM]
        exact hw
      have hheap : ∀ i, i < w.heap.size → w'.heap[i]? = (w.heap.modify b (onCells (putCells id o (flatK encR 2 (sortP (unprs l)).toArray))))[i]? := fun i hi => by
        rw [hw]
        show ((w.heap.modify b _) ++ os)[i]? = _
        rw [Array.getElem?_append_left (by simpa using hi)]
      have hgg : w'.heap[b]? = some (.cells (putCells id o (flatK encR 2 (sortP (unprs l)).toArray) arr) et fz) := by
        rw [hheap b hblk, Array.getElem?_modify, if_pos rfl, hh]
        rfl
      refine ⟨rfl, by rw [hw]; rfl, by rw [hw]; rfl, by rw [hw]; rfl, ?_, fun k hk hne => ?_, fun _ b2 o2 arr2 et2 fz2 hb2 hh2 => ?_⟩
      · rw [hw]
        show w.heap.size ≤ ((w.heap.modify b _) ++ os).size
        simp
      · rw [hheap k hk, Array.getElem?_modify, if_neg (fun e => hne b o rfl hc0 e.symm)]
      · simp only [Option.some.injEq, Addr.mk.injEq, and_true] at hb2
        obtain ⟨rfl, rfl⟩ := hb2
        rw [hh] at hh2
        simp only [Option.some.injEq, Obj.cells.injEq] at hh2
        obtain ⟨rfl, rfl, rfl⟩ := hh2
        refine ⟨_, hgg, by simp [putCells], fun i j hi hj => ?_⟩
        have hil2 : (sortP (unprs l)).length = l.length := by rw [sortP_length, hil]
        have hi : i < (sortP (unprs l)).length := by simpa [prs] using hi
        have hj : j < 2 := hj
        have hcell2 : ((putCells id o (flatK encR 2 (sortP (unprs l)).toArray) arr).toList.drop o)[i * 2 + j]? = some (encR (sortP (unprs l))[i])[j]! := by
          rw [List.getElem?_drop, Array.getElem?_toList]
          unfold putCells
          rw [Array.getElem?_mapIdx, Array.getElem?_eq_getElem (by omega)]
          simp only [Option.map_some]
          rw [if_pos ⟨by omega, by simp; omega⟩, Nat.add_sub_cancel_left]
          rw [get_flatK encR 2 (sortP (unprs l)).toArray (i * 2 + j) (by simp only [List.size_toArray]; omega)]
          have d1 : (i * 2 + j) / 2 = i := by omega
          have d2 : (i * 2 + j) % 2 = j := by omega
          rw [d1, d2, getElem!_pos (sortP (unprs l)).toArray i (by simpa using hi)]
          simp
        refine ⟨_, hcell2, fun ct hct => ?_⟩
        have hrd : rd (prs (sortP (unprs l))) i = .agg [.int (sortP (unprs l))[i].1, .int (sortP (unprs l))[i].2] := by simp [Go.Ev.rd, prs, hi]
        rw [hrd]
        have hj2 : j = 0 ∨ j = 1 := by omega
        rcases hj2 with rfl | rfl
        · simp only [List.getElem?_cons_zero, Option.some.injEq] at hct
          subst hct
          exact .int rfl
        · simp only [List.getElem?_cons_succ, List.getElem?_cons_zero, Option.some.injEq] at hct
          subst hct
          exact .int rfl
end Go.Proofs.YtlofoifcdmeopaaGreatDoor.V
namespace Go.Proofs.YtlofoifcdmeopaaGreatDoor.V
open Go Go.Ev Go.RowKit Go.Shelf
set_option linter.unusedVariables false
set_option linter.unusedSimpArgs false
set_option maxRecDepth 100000
theorem infoClone : (Tryz.prog.info? 82).map (fun i => (i.zero, i.size, i.bytes)) = some (some (.agg #[.int .i64 0, .int .i64 0]), 2, 16) := by kernel_rfl
theorem infoC : ∃ i, Tryz.prog.info? 82 = some i ∧ i.zero = some (.agg #[.int .i64 0, .int .i64 0]) ∧ i.size = 2 ∧ i.bytes = 16 := by
  have h := infoClone
  cases hi : Tryz.prog.info? 82 with
  | none => rw [hi] at h; cases h
  | some i =>
    rw [hi] at h
    simp only [Option.map_some, Option.some.injEq, Prod.mk.injEq] at h
    exact ⟨i, rfl, h.1, h.2.1, h.2.2⟩
theorem clone_ok {args : List AV} {ds : List Dat} (h : gClone 82 args = some ds) : FnR Tryz.prog C 250 args ds := by
  refine FnOk.r ?_ (by kernel_rfl)
  have tyR : C.T 82 = some ⟨2, 16, [.int .i64, .int .i64], true, .struct [(0, 3), (1, 3)]⟩ := by kernel_rfl
  unfold gClone at h
  split at h
  case h_2 => cases h
  rename_i e' l
  cases hb : Nat.beq e' 82 && decide (l.length < 8796093022208) with
  | false => rw [hb] at h; cases h
  | true =>
    rw [hb] at h
    obtain rfl := Option.some.inj h
    simp only [Bool.and_eq_true, decide_eq_true_eq] at hb
    obtain ⟨he, hlim⟩ := hb
    obtain rfl := Nat.eq_of_beq_eq_true he
    refine fnOk_of pok (by kernel_rfl) (fun j cs => by cases j <;> simp [geti]) fun S us H F hS hi => ?_
    have hlen : us.size = 1 := by have := hi.len; simpa using this.symm
    obtain ⟨u, rfl⟩ : ∃ u, us = #[u] := by
      obtain ⟨us⟩ := us
      match us, hlen with
      | [u], _ => exact ⟨u, rfl⟩
    have hr := hi.rel 0 (by simp)
    obtain ⟨ti, a, cap, b, o, h1, h2, h3, h4, h5⟩ := (show RelD C.T S.w0 S.St0 (.slice 82) u (.list l) from hr.2).row
    have h2 : u = .slice a l.length cap := h2
    have h3 : l.length ≤ cap := h3
    subst h2
    have hkr : C.rk 250 = [.own 82] := by kernel_rfl
    rw [hkr]
    have hun := Tryz.underlying35
    have fin : ∀ v w', w'.ownsRow S.w0.heap.size 82 2 v l.length (flat2 l) → Below S.w0.heap.size S.w0 w' → ∃ v', Ending.returned v = Ending.returned v' ∧ Below S.w0.heap.size S.w0 w' ∧
        ∃ (fR : List Nat) (G : Nat → Option Addr × Nat × Nat), fR.Nodup ∧ (∀ b, b ∈ fR → S.w0.heap.size ≤ b ∧ b < w'.heap.size) ∧ ∀ (Hc : Gh) (d : Nat), (∀ i, Hc.hd0 d i = G i) → RelS C.T w' S.St0 Hc v' fR (resV d [.own 82] [.list l]) := fun v w' hown hbel => by
      obtain ⟨fR, G, k1, k2, k3⟩ := own_row2 tyR rfl rfl rfl hown
      exact ⟨v, rfl, hbel, fR, G, k1, k2, fun Hc d hG => k3 _ Hc d hG⟩
    cases a with
    | none =>
      have h0 : l = [] := Classical.byContradiction fun hn => by
        have := (h4 hn).1
        cases this
      subst h0
      have heq := fun (W : World) => Lib.run_eql_slice_nil (P := Tryz.prog) W 35 82 none 0 cap 0 0 hun
      generalize S.w0 = w at *
      clear hr h1 h3 h4 h5 hS hi
      go_enter Tryz.func250, Tryz.ntmps250
      go_wp2
      go_ret
      exact fin _ _ ⟨rfl, .inl ⟨rfl, rfl⟩⟩ (Below.refl _ _)
    | some ad =>
      have heq := fun (W : World) => Lib.run_eql_slice_nil (P := Tryz.prog) W 35 82 (some ad) l.length cap 0 0 hun
      have hcell : ∀ j u, (flat2 l)[j]? = some u → S.w0.cell? (ad.add j) = some u := fun j u hj => by
        obtain ⟨hj1, rfl⟩ := flat2_cell hj
        have hn : l ≠ [] := fun e => by rw [e] at hj1; simp at hj1
        have hh := (h4 hn).1
        have ht := (h1 hn).1
        rw [tyR, Option.some.injEq] at ht
        subst ht
        obtain rfl : ad = ⟨b, o, none⟩ := Option.some.inj hh
        obtain ⟨v, k1, k2⟩ := h5 (j / 2) (j % 2) (by show j / 2 < l.length; omega) (by show j % 2 < 2; omega)
        have k3 : v = .int .i64 ((rd l (j / 2)).C (j % 2)).I := by
          have h3 : j % 2 = 0 ∨ j % 2 = 1 := by omega
          rcases h3 with h3 | h3
          · have k3 := k2 (.int .i64) (by rw [h3]; rfl)
            rw [h3] at k3 ⊢
            cases k3 with
            | int k3 => rw [k3]; rfl
          · have k3 := k2 (.int .i64) (by rw [h3]; rfl)
            rw [h3] at k3 ⊢
            cases k3 with
            | int k3 => rw [k3]; rfl
        rw [k3] at k1
        have e : o + j / 2 * 2 + j % 2 = o + j := by omega
        have e2 : (⟨b, o, none⟩ : Addr).add j = ⟨b, o + j, none⟩ := by simp [Addr.add]
        rw [e2, ← e]
        exact k1
      have one : ∀ u ∈ flat2 l, u.oneCell' = true := fun u hu => by
        obtain ⟨j, hj⟩ := List.getElem?_of_mem hu
        obtain ⟨_, rfl⟩ := flat2_cell hj
        rfl
      have HF := Aside0.mk fin
      have HC := Aside0.mk hcell
      have HO := Aside0.mk one
      have HL := Aside0.mk hlim
      have HU := Aside0.mk hun
      generalize S.w0 = w at *
      clear hr h1 h3 h4 h5 hS hi fin hcell one hlim hun
      have HCA : Aside0 (∀ j u, (flat2 l)[j]? = some u → (w.alloc (Obj.cells #[] 82)).cell? (ad.add j) = some u) := ⟨fun j u hj => by
        have h0 := HC.out j u hj
        rw [((Below.refl w.heap.size w).alloc (Nat.le_refl _) _).cell (World.block_lt_of_cell? w _ h0)]
        exact h0⟩
      have HB := Aside0.mk ((Below.refl w.heap.size w).alloc (Nat.le_refl _) (Obj.cells #[] 82))
      have HN : Aside0 ((w.alloc (.cells #[] 82)).ownsRow w.heap.size 82 2 (.slice (some ⟨w.heap.size, 0, none⟩) 0 0) 0 []) := ⟨World.ownsRow_lit (base := w.heap.size) (e := 82) (size := 2) w #[] 0 (Nat.le_refl _) (by simp [maxLen]) (by simp)⟩
      go_enter Tryz.func250, Tryz.ntmps250
      obtain ⟨ti, i1, i2, i3, i4⟩ := infoC
      have HI := Aside0.mk i1
      clear i1
      go_wp2_with (at_builtin; refine wpList_append_own _ rfl _ _ 35 rfl w.heap.size 82 ti (.agg #[.int .i64 0, .int .i64 0]) 2 16 HU.out HI.out i2 i3 i4 rfl (by decide) _ 0 [] rfl ?hown ad l.length cap (flat2 l) rfl (flat2_len l) ?hnews HO.out ?h63 ?hbytes ?hbase ?_; (case hown => exact HN.out); (case hnews => exact HCA.out); (case h63 => have := HL.out; simp only [maxLen]; omega); (case hbytes => have := HL.out; omega); (case hbase => simp); intro v1 w1 ho hg hat; have HO1 := Aside0.mk ho; have HG1 := Aside0.mk hg; clear ho hg hat)
      go_ret
      exact HF.out _ _ (by have := HO1.out; rwa [Nat.zero_add, List.nil_append] at this) (HB.out.grown HG1.out (by simp) (fun k hk => by
        have hk2 : some w.heap.size = some k := hk
        have := Option.some.inj hk2
        omega))
end Go.Proofs.YtlofoifcdmeopaaGreatDoor.V
namespace Go.Proofs
open Go.Shelf
def Tryz.laysCut_ren : Go.Shelf.Ren := ⟨fun | 145 => 280 | 220 => 288 | 219 => 303 | 217 => 307 | 225 => 308 | 224 => 309 | 267 => 310 | 266 => 312 | 314 => 313 | n => n, fun | 9 => 9 | 4 => 4 | 59 => 327 | 3 => 3 | 5 => 5 | 46 => 188 | 146 => 207 | 51 => 206 | n => n, fun | 1 => 4 | n => n⟩
theorem Tryz.laysCut : Go.Proofs.Lays.n145 Tryz.prog Tryz.laysCut_ren := {
  mixed := by kernel_rfl
  f145 := Tryz.func280.trans (congrArg some (by kernel_rfl))
  f217 := Tryz.func307.trans (congrArg some (by kernel_rfl))
  f219 := Tryz.func303.trans (congrArg some (by kernel_rfl))
  f220 := Tryz.func288.trans (congrArg some (by kernel_rfl))
  f224 := Tryz.func309.trans (congrArg some (by kernel_rfl))
  f225 := Tryz.func308.trans (congrArg some (by kernel_rfl))
  f266 := Tryz.func312.trans (congrArg some (by kernel_rfl))
  f267 := Tryz.func310.trans (congrArg some (by kernel_rfl))
  f314 := Tryz.func313.trans (congrArg some (by kernel_rfl))
  t3 := Tryz.underlying3
  a3 := Tryz.isAgg3
  z3 := Tryz.sizeOf3
  v3 := Tryz.zeroValue3
  t4 := Tryz.underlying4
  a4 := Tryz.isAgg4
  z4 := Tryz.sizeOf4
  v4 := Tryz.zeroValue4
  t5 := Tryz.underlying5
  a5 := Tryz.isAgg5
  z5 := Tryz.sizeOf5
  v5 := Tryz.zeroValue5
  t9 := Tryz.underlying9
  a9 := Tryz.isAgg9
  z9 := Tryz.sizeOf9
  v9 := Tryz.zeroValue9
  t46 := Tryz.underlying188
  a46 := Tryz.isAgg188
  z46 := Tryz.sizeOf188
  v46 := Tryz.zeroValue188
  t51 := Tryz.underlying206
  a51 := Tryz.isAgg206
  z51 := Tryz.sizeOf206
  v51 := Tryz.zeroValue206
  t59 := Tryz.underlying327
  a59 := Tryz.isAgg327
  z59 := Tryz.sizeOf327
  v59 := Tryz.zeroValue327
  t146 := Tryz.underlying207
  a146 := Tryz.isAgg207
  z146 := Tryz.sizeOf207
  v146 := Tryz.zeroValue207
  g1 := by kernel_rfl }
end Go.Proofs
namespace Go.Proofs.YtlofoifcdmeopaaGreatDoor.V
open Go Go.Ev Go.RowKit Go.Shelf
set_option linter.unusedVariables false
set_option linter.unusedSimpArgs false
set_option maxRecDepth 100000
theorem cut_ok {args : List AV} {ds : List Dat} (h : gCut args = some ds) : FnR Tryz.prog C 280 args ds := by
  refine FnOk.r ?_ (by kernel_rfl)
  unfold gCut at h
  split at h
  case h_2 => cases h
  rename_i s p
  cases hb : decide (s.size < 4294967281) with
  | false => rw [hb] at h; cases h
  | true =>
    rw [hb] at h
    obtain rfl := Option.some.inj h
    have hsz := of_decide_eq_true hb
    refine fnOk_of pok (by kernel_rfl) (fun j cs => by match j with | 0 => simp [geti] | 1 => simp [geti] | j + 2 => simp [geti]) fun S us H F hS hi => ?_
    obtain ⟨_, o, ho, cs, et, fz, m, rfl, hc⟩ := hS.gi (4, intO .i64) (by exact List.mem_cons_self)
    have hm : S.w0.cell? ⟨4, 0, none⟩ = some (.int .i64 m) := by simp [World.cell?, ho, hc]
    have hlen : us.size = 2 := by have := hi.len; simpa using this.symm
    obtain ⟨u0, u1, rfl⟩ : ∃ u0 u1, us = #[u0, u1] := by
      obtain ⟨us⟩ := us
      match us, hlen with
      | [a, b], _ => exact ⟨a, b, rfl⟩
    have e0 : u0 = .string s := rel_str (hi.rel 0 (by simp))
    have e1 : u1 = .string p := rel_str (hi.rel 1 (by simp))
    subst e0 e1
    refine Calls.mono (Any.strings_Cut Tryz.laysCut s p m S.w0 hsz hm) ?_
    rintro e w' ⟨rfl, n, rfl⟩
    exact ⟨_, rfl, (⟨rfl, rfl, rfl, Nat.le_refl _, fun _ _ => rfl⟩ : Below S.w0.heap.size S.w0 (S.w0.drewN n)), [], fun _ => (none, 0, 0), List.nodup_nil, fun b hb => by (cases hb), fun Hc d _ => ⟨_, rfl, [], [], rfl, ⟨rfl, rfl⟩, [], [], rfl, ⟨rfl, rfl⟩, [], [], rfl, ⟨rfl, rfl⟩, rfl⟩⟩
end Go.Proofs.YtlofoifcdmeopaaGreatDoor.V
namespace Go.Proofs.YtlofoifcdmeopaaGreatDoor.V
open Go Go.Ev Go.RowKit
set_option linter.unusedVariables false
set_option maxRecDepth 100000
theorem givenC : ∀ g h args ds, C.given g = some h → h args = some ds → FnR Tryz.prog C g args ds := by
  intro g h args ds hg hd
  have hg' : pickUp g givens = some h := hg
  unfold givens at hg'
  rcases pickUp_cases hg' with ⟨rfl, rfl⟩ | hg'
  · exact dec_ok hd
  rcases pickUp_cases hg' with ⟨rfl, rfl⟩ | hg'
  · exact sort_ok hd
  rcases pickUp_cases hg' with ⟨rfl, rfl⟩ | hg'
  · exact sortr_ok hd
  rcases pickUp_cases hg' with ⟨rfl, rfl⟩ | hg'
  · exact clone_ok hd
  rcases pickUp_cases hg' with ⟨rfl, rfl⟩ | hg'
  · exact cut_ok hd
  cases hg'
theorem intsOk {W : World} (h : W.ShapedOpen Tryz.prog) : IntsOk C W := by
  intro p hp
  obtain rfl : p = (4, intO .i64) := List.mem_singleton.1 (show p ∈ [(4, intO IntKind.i64)] from hp)
  obtain ⟨m, hm⟩ := Go.Proofs.cell_of_shapedOpen_int (t := 3) (zero := #[.int .i64 0]) h (of_decide_eq_true (by kernel_rfl)) (by kernel_rfl) rfl (by kernel_rfl) (by kernel_rfl) Tryz.underlying3
  unfold World.cell? at hm
  split at hm
  · rename_i c e f ho
    exact ⟨_, ho, c, e, f, m, rfl, by simpa using hm⟩
  · cases hm
end Go.Proofs.YtlofoifcdmeopaaGreatDoor.V
