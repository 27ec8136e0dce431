/- Instructions as lines; the law's own examples. -/
import Derived.Test.YtbhffcogeeeidaaDoorUDig
import Derived.Test.YtbhffcogeeeidaaDoorUTre
import Derived.Test.YtbhffcogeeeidaaDoorVRC2
import Derived.Test.YtbhffcogeeeidaaDoorVRLanchor
import Derived.Test.YtbhffcogeeeidaaDoorVRLCodeLines
import Derived.KernelRfl
namespace Go.Proofs.YtbhffcogeeeidaaDoor.V
open Go Go.Ev Go.RowKit
set_option linter.unusedVariables false
set_option linter.unusedSimpArgs false
theorem Itoa_E (n : Int) (h : i64P n) : E C 22 [.int .i64 n] = some [.str (bs (Go.Lib.itoa n))] := by
  refine E_given (h := gItoa) (by kernel_rfl) ?_
  show (bif decide (-9223372036854775808 ≤ n) && decide (n ≤ 9223372036854775807) then some [Dat.str (bs (Go.Lib.itoa n))] else none) = _
  rw [decide_eq_true h.1, decide_eq_true h.2]
  rfl
def joinS (l : List (List UInt8)) (sep : List UInt8) : List UInt8 := Go.Lib.join l sep
theorem Join_E (l : List (List UInt8)) (sep : List UInt8) (h1 : l.length ≤ 1000) (h2 : (joinS l sep).length ≤ 4294967296) : E C 23 [.shr 9 (l.map fun s => .str (bs s)), .str (bs sep)] = some [.str (bs (joinS l sep))] := by
  refine E_given (h := gJoin 9) (by kernel_rfl) ?_
  have e : (l.map fun s => Dat.str (bs s)).map (fun d => d.S.data.toList) = l := by
    rw [List.map_map]
    conv => rhs; rw [← List.map_id l]
    refine List.map_congr_left fun s _ => ?_
    show s.toArray.toList = s
    simp
  show (bif Nat.beq 9 9 && (decide ((l.map fun s => Dat.str (bs s)).length ≤ 1000) && decide ((Go.Lib.join ((l.map fun s => Dat.str (bs s)).map fun d => d.S.data.toList) (bs sep).data.toList).length ≤ 4294967296)) then some [Dat.str ⟨(Go.Lib.join ((l.map fun s => Dat.str (bs s)).map fun d => d.S.data.toList) (bs sep).data.toList).toArray⟩] else none) = _
  rw [e, show (bs sep).data.toList = sep by show sep.toArray.toList = sep; simp, List.length_map, decide_eq_true h1, decide_eq_true (show (Go.Lib.join l sep).length ≤ 4294967296 from h2), show Nat.beq 9 9 = true from rfl]
  rfl
def instsL : List (List UInt8) := [[], [115, 101, 116], [104, 111, 108, 100], [98, 97, 99, 107], [102, 111, 114, 107], [119, 97, 121], [106, 117, 109, 112], [105, 110, 105, 116], [108, 111, 111, 112], [109, 97, 114, 107], [110, 101, 120, 116], [111, 112, 101, 110], [99, 108, 111, 115, 101], [105, 110, 116, 111], [114, 101, 116, 114, 101, 97, 116], [109, 101, 101, 116], [99, 117, 116], [112, 101, 101, 107], [114, 101, 102, 117, 116, 101], [109, 97, 116, 99, 104]]
theorem insts_eq : tabfa47b4 = instsL.map fun s => .str (bs s) := rfl
theorem insts_len : tabfa47b4.length = 20 := rfl
theorem str_rdC (l : List (List UInt8)) (k : Nat) (h : k < l.length) : (rd (l.map fun s => Dat.str (bs s)) k).S = bs (l.getD k []) := by simp [rd, h, List.getD_eq_getElem?_getD]
def nameS (w : Int) : List UInt8 := if 1 ≤ w ∧ w ≤ 19 then instsL.getD w.toNat [] else []
theorem name_rdC {w : Int} (h : 1 ≤ w ∧ w ≤ 19) : (rd tabfa47b4 w.toNat).S = bs (nameS w) := by
  rw [insts_eq, str_rdC instsL _ (show w.toNat < 20 by omega)]
  unfold nameS
  rw [if_pos h]
theorem nameS_len (w : Int) : (nameS w).length ≤ 10 := by
  unfold nameS
  split
  · have : ∀ k : Nat, (instsL.getD k []).length ≤ 10 := fun k => by
      by_cases hk : k < 20
      · exact (by decide : ∀ k : Fin 20, (instsL.getD k.val []).length ≤ 10) ⟨k, hk⟩
      · rw [List.getD_eq_getElem?_getD, List.getElem?_eq_none (show instsL.length ≤ k by show 20 ≤ k; omega)]; simp
    exact this _
  · simp
theorem Name_E (w : Int) : E C 11 [.int .i64 w] = some [.str (bs (nameS w))] := by
  apply o11
  by_cases h1 : w < 1
  · rw [dT h1]; unfold nameS; rw [if_neg (by omega)]; rfl
  rw [dF h1]
  by_cases h2 : w > 19
  · rw [dT h2]; unfold nameS; rw [if_neg (by omega)]; rfl
  · rw [dF h2, dT (by omega), dT (by omega), dT (by rw [insts_len]; omega), name_rdC ⟨by omega, by omega⟩]
def lineS (o x y z n p : Int) : List UInt8 := nameS o ++ 32 :: (Go.Lib.itoa x ++ 32 :: (Go.Lib.itoa y ++ 32 :: (Go.Lib.itoa z ++ 32 :: (Go.Lib.itoa n ++ 32 :: Go.Lib.itoa p))))
theorem join6 (a b c d e f : List UInt8) : joinS [a, b, c, d, e, f] [32] = a ++ 32 :: (b ++ 32 :: (c ++ 32 :: (d ++ 32 :: (e ++ 32 :: f)))) := by simp [joinS, Go.Lib.join, List.intercalate]
theorem Line_E (o x y z n p : Int) (hx : i64P x) (hy : i64P y) (hz : i64P z) (hn : i64P n) (hp : i64P p) : E C 12 [.agg [.int .i64 o, .int .i64 x, .int .i64 y, .int .i64 z, .int .i64 n, .int .i64 p]] = some [.str (bs (lineS o x y z n p))] := by
  have l1 := itoa_len x hx
  have l2 := itoa_len y hy
  have l3 := itoa_len z hz
  have l4 := itoa_len n hn
  have l5 := itoa_len p hp
  have l0 := nameS_len o
  apply o12
  rw [bT (Name_E o), bT (Itoa_E x hx), bT (Itoa_E y hy), bT (Itoa_E z hz), bT (Itoa_E n hn), bT (Itoa_E p hp)]
  simp only [rd0, datS]
  have hj := Join_E [nameS o, Go.Lib.itoa x, Go.Lib.itoa y, Go.Lib.itoa z, Go.Lib.itoa n, Go.Lib.itoa p] [32] (show 6 ≤ 1000 by decide) (by rw [join6]; simp only [List.length_append, List.length_cons]; omega)
  rw [join6] at hj
  refine (bT hj).trans ?_
  rfl
theorem right111 : E C 7 [.agg [.shr 37 ([.agg [.int 19, .int 0, .int 0, .int 0, .int 0, .int 0]] : List Dat), .shr 44 ([] : List Dat), .shr 47 ([] : List Dat), .int .i64 0]] = some [.bool true] := E_from 60 fun n => by kernel_rfl
theorem right112 : E C 7 [.agg [.shr 37 ([.agg [.int 16, .int 0, .int 0, .int 0, .int 0, .int 0], .agg [.int 19, .int 0, .int 0, .int 0, .int 0, .int 0]] : List Dat), .shr 44 ([] : List Dat), .shr 47 ([] : List Dat), .int .i64 0]] = some [.bool false] := E_from 60 fun n => by kernel_rfl
theorem anchor11_E : E C 6 [] = some [.bool true] := by
  apply o6
  rw [bT right111]
  simp only [rd0, datB]
  rw [cond_true, bT right112]
  simp only [rd0, datB]
  rw [nT rfl, bT (Line_E 6 7 0 0 3 0 (by unfold i64P; omega) (by unfold i64P; omega) (by unfold i64P; omega) (by unfold i64P; omega) (by unfold i64P; omega))]
  simp only [rd0, datS]
  have e7 : Go.Lib.itoa 7 = [55] := by rw [show (7 : Int) = ((7 : Nat) : Int) from rfl]; exact dec_small (by omega)
  have e3 : Go.Lib.itoa 3 = [51] := by rw [show (3 : Int) = ((3 : Nat) : Int) from rfl]; exact dec_small (by omega)
  have e0 : Go.Lib.itoa 0 = [48] := by rw [show (0 : Int) = ((0 : Nat) : Int) from rfl]; exact dec_small (by omega)
  have e : lineS 6 7 0 0 3 0 = [106, 117, 109, 112, 32, 55, 32, 48, 32, 48, 32, 51, 32, 48] := by
    unfold lineS
    rw [e7, e3, e0]
    rfl
  rw [e, beq_self_eq_true]
theorem lines_1 (v0_0 v0_1 v0_2 v0_3 v0_4 v0_5 o x y z n p : Int) (hx : i64P x) (hy : i64P y) (hz : i64P z) (hn : i64P n) (hp : i64P p) (v2 : Bool) : M5_1 v0_0 v0_1 v0_2 v0_3 v0_4 v0_5 o x y z n p v2 (bs (nameS o)) (bs (nameS o)) x y z n p 0 = some [.bool true] := by
  have l1 := itoa_len x hx
  have l2 := itoa_len y hy
  have l3 := itoa_len z hz
  have l4 := itoa_len n hn
  have l5 := itoa_len p hp
  have l0 := nameS_len o
  apply M5_1_of
  rw [dT (show (0 : Int) < 5 by decide), dT (show (0 : Int) ≤ 0 by decide), dT (show (0 : Int) < 5 by decide), show (rd ([.int x, .int y, .int z, .int n, .int p] : List Dat) (0 : Int).toNat).I = x from rfl, bT (digits_E x hx)]
  simp only [rd0, datS]
  rw [bsZ, bsZ, dT (by simp only [List.length_cons, List.length_nil]; omega), bsA, bsZ, bsZ, dT (by simp only [List.length_cons, List.length_nil, List.length_append]; omega), bsA, show IntKind.i64.wrap ((0 : Int) + 1) = 1 from rfl]
  apply M5_1_of
  rw [dT (show (1 : Int) < 5 by decide), dT (show (0 : Int) ≤ 1 by decide), dT (show (1 : Int) < 5 by decide), show (rd ([.int x, .int y, .int z, .int n, .int p] : List Dat) (1 : Int).toNat).I = y from rfl, bT (digits_E y hy)]
  simp only [rd0, datS]
  rw [bsZ, bsZ, dT (by simp only [List.length_cons, List.length_nil]; omega), bsA, bsZ, bsZ, dT (by simp only [List.length_cons, List.length_nil, List.length_append]; omega), bsA, show IntKind.i64.wrap ((1 : Int) + 1) = 2 from rfl]
  apply M5_1_of
  rw [dT (show (2 : Int) < 5 by decide), dT (show (0 : Int) ≤ 2 by decide), dT (show (2 : Int) < 5 by decide), show (rd ([.int x, .int y, .int z, .int n, .int p] : List Dat) (2 : Int).toNat).I = z from rfl, bT (digits_E z hz)]
  simp only [rd0, datS]
  rw [bsZ, bsZ, dT (by simp only [List.length_cons, List.length_nil]; omega), bsA, bsZ, bsZ, dT (by simp only [List.length_cons, List.length_nil, List.length_append]; omega), bsA, show IntKind.i64.wrap ((2 : Int) + 1) = 3 from rfl]
  apply M5_1_of
  rw [dT (show (3 : Int) < 5 by decide), dT (show (0 : Int) ≤ 3 by decide), dT (show (3 : Int) < 5 by decide), show (rd ([.int x, .int y, .int z, .int n, .int p] : List Dat) (3 : Int).toNat).I = n from rfl, bT (digits_E n hn)]
  simp only [rd0, datS]
  rw [bsZ, bsZ, dT (by simp only [List.length_cons, List.length_nil]; omega), bsA, bsZ, bsZ, dT (by simp only [List.length_cons, List.length_nil, List.length_append]; omega), bsA, show IntKind.i64.wrap ((3 : Int) + 1) = 4 from rfl]
  apply M5_1_of
  rw [dT (show (4 : Int) < 5 by decide), dT (show (0 : Int) ≤ 4 by decide), dT (show (4 : Int) < 5 by decide), show (rd ([.int x, .int y, .int z, .int n, .int p] : List Dat) (4 : Int).toNat).I = p from rfl, bT (digits_E p hp)]
  simp only [rd0, datS]
  rw [bsZ, bsZ, dT (by simp only [List.length_cons, List.length_nil]; omega), bsA, bsZ, bsZ, dT (by simp only [List.length_cons, List.length_nil, List.length_append]; omega), bsA, show IntKind.i64.wrap ((4 : Int) + 1) = 5 from rfl]
  apply M5_1_of
  rw [dF (by decide), bT (Name_E o)]
  simp only [rd0, datS]
  rw [beq_self_eq_true, cond_true, bT (Line_E o x y z n p hx hy hz hn hp)]
  simp only [rd0, datS]
  have e : lineS o x y z n p = (((((nameS o ++ ([32] ++ Go.Lib.itoa x)) ++ ([32] ++ Go.Lib.itoa y)) ++ ([32] ++ Go.Lib.itoa z)) ++ ([32] ++ Go.Lib.itoa n)) ++ ([32] ++ Go.Lib.itoa p)) := by
    unfold lineS
    simp
  rw [e, beq_self_eq_true]
theorem lines_2 (v0_0 v0_1 v0_2 v0_3 v0_4 v0_5 o x y z n p : Int) (hx : i64P x) (hy : i64P y) (hz : i64P z) (hn : i64P n) (hp : i64P p) (v2 : Bool) : M5_2 v0_0 v0_1 v0_2 v0_3 v0_4 v0_5 o x y z n p v2 (bs (nameS o)) (bs (nameS o)) x y z n p 0 = some [.bool true] := by
  have l1 := itoa_len x hx
  have l2 := itoa_len y hy
  have l3 := itoa_len z hz
  have l4 := itoa_len n hn
  have l5 := itoa_len p hp
  have l0 := nameS_len o
  apply M5_2_of
  rw [dT (show (0 : Int) < 5 by decide), dT (show (0 : Int) ≤ 0 by decide), dT (show (0 : Int) < 5 by decide), show (rd ([.int x, .int y, .int z, .int n, .int p] : List Dat) (0 : Int).toNat).I = x from rfl, bT (digits_E x hx)]
  simp only [rd0, datS]
  rw [bsZ, bsZ, dT (by simp only [List.length_cons, List.length_nil]; omega), bsA, bsZ, bsZ, dT (by simp only [List.length_cons, List.length_nil, List.length_append]; omega), bsA, show IntKind.i64.wrap ((0 : Int) + 1) = 1 from rfl]
  apply M5_2_of
  rw [dT (show (1 : Int) < 5 by decide), dT (show (0 : Int) ≤ 1 by decide), dT (show (1 : Int) < 5 by decide), show (rd ([.int x, .int y, .int z, .int n, .int p] : List Dat) (1 : Int).toNat).I = y from rfl, bT (digits_E y hy)]
  simp only [rd0, datS]
  rw [bsZ, bsZ, dT (by simp only [List.length_cons, List.length_nil]; omega), bsA, bsZ, bsZ, dT (by simp only [List.length_cons, List.length_nil, List.length_append]; omega), bsA, show IntKind.i64.wrap ((1 : Int) + 1) = 2 from rfl]
  apply M5_2_of
  rw [dT (show (2 : Int) < 5 by decide), dT (show (0 : Int) ≤ 2 by decide), dT (show (2 : Int) < 5 by decide), show (rd ([.int x, .int y, .int z, .int n, .int p] : List Dat) (2 : Int).toNat).I = z from rfl, bT (digits_E z hz)]
  simp only [rd0, datS]
  rw [bsZ, bsZ, dT (by simp only [List.length_cons, List.length_nil]; omega), bsA, bsZ, bsZ, dT (by simp only [List.length_cons, List.length_nil, List.length_append]; omega), bsA, show IntKind.i64.wrap ((2 : Int) + 1) = 3 from rfl]
  apply M5_2_of
  rw [dT (show (3 : Int) < 5 by decide), dT (show (0 : Int) ≤ 3 by decide), dT (show (3 : Int) < 5 by decide), show (rd ([.int x, .int y, .int z, .int n, .int p] : List Dat) (3 : Int).toNat).I = n from rfl, bT (digits_E n hn)]
  simp only [rd0, datS]
  rw [bsZ, bsZ, dT (by simp only [List.length_cons, List.length_nil]; omega), bsA, bsZ, bsZ, dT (by simp only [List.length_cons, List.length_nil, List.length_append]; omega), bsA, show IntKind.i64.wrap ((3 : Int) + 1) = 4 from rfl]
  apply M5_2_of
  rw [dT (show (4 : Int) < 5 by decide), dT (show (0 : Int) ≤ 4 by decide), dT (show (4 : Int) < 5 by decide), show (rd ([.int x, .int y, .int z, .int n, .int p] : List Dat) (4 : Int).toNat).I = p from rfl, bT (digits_E p hp)]
  simp only [rd0, datS]
  rw [bsZ, bsZ, dT (by simp only [List.length_cons, List.length_nil]; omega), bsA, bsZ, bsZ, dT (by simp only [List.length_cons, List.length_nil, List.length_append]; omega), bsA, show IntKind.i64.wrap ((4 : Int) + 1) = 5 from rfl]
  apply M5_2_of
  rw [dF (by decide), bT (Name_E o)]
  simp only [rd0, datS]
  rw [beq_self_eq_true, cond_true, bT (Line_E o x y z n p hx hy hz hn hp)]
  simp only [rd0, datS]
  have e : lineS o x y z n p = (((((nameS o ++ ([32] ++ Go.Lib.itoa x)) ++ ([32] ++ Go.Lib.itoa y)) ++ ([32] ++ Go.Lib.itoa z)) ++ ([32] ++ Go.Lib.itoa n)) ++ ([32] ++ Go.Lib.itoa p)) := by
    unfold lineS
    simp
  rw [e, beq_self_eq_true]
theorem CodeLines_pure (e0 : Dat) (h0 : fitT C.T 9 37 e0) : E C 5 [.agg [.int .i64 (e0.C 0).I, .int .i64 (e0.C 1).I, .int .i64 (e0.C 2).I, .int .i64 (e0.C 3).I, .int .i64 (e0.C 4).I, .int .i64 (e0.C 5).I]] = some [.bool true] := by
  obtain ⟨l, rfl, h1⟩ := fit_struct (t := 37) (ti := ⟨6, 48, [.int .i64, .int .i64, .int .i64, .int .i64, .int .i64, .int .i64], true, .struct [(0, 3), (1, 3), (2, 3), (3, 3), (4, 3), (5, 3)]⟩) rfl rfl h0
  obtain ⟨d0, l, rfl, g0, h1⟩ := fitF_one h1 tyi rfl
  obtain ⟨d1, l, rfl, g1, h1⟩ := fitF_one h1 tyi rfl
  obtain ⟨d2, l, rfl, g2, h1⟩ := fitF_one h1 tyi rfl
  obtain ⟨d3, l, rfl, g3, h1⟩ := fitF_one h1 tyi rfl
  obtain ⟨d4, l, rfl, g4, h1⟩ := fitF_one h1 tyi rfl
  obtain ⟨d5, l, rfl, g5, h1⟩ := fitF_one h1 tyi rfl
  obtain rfl : l = [] := h1
  obtain ⟨o, rfl, ho⟩ := fit_i64 g0
  obtain ⟨x, rfl, hx⟩ := fit_i64 g1
  obtain ⟨y, rfl, hy⟩ := fit_i64 g2
  obtain ⟨z, rfl, hz⟩ := fit_i64 g3
  obtain ⟨n, rfl, hn⟩ := fit_i64 g4
  obtain ⟨p, rfl, hp⟩ := fit_i64 g5
  simp only [aggC0, aggC1, aggC2, aggC3, aggC4, aggC5, datI]
  apply o5
  rw [bT anchor11_E]
  simp only [rd0, datB]
  rw [nF rfl]
  by_cases c1 : o ≥ 1
  · rw [dT c1]
    by_cases c2 : o ≤ 19
    · rw [dT c2, dT (by omega), dT (by omega), dT (by rw [insts_len]; omega), name_rdC ⟨c1, c2⟩]
      exact lines_1 _ _ _ _ _ _ o x y z n p hx hy hz hn hp _
    · have e : nameS o = [] := if_neg (by omega)
      have := lines_2 o x y z n p o x y z n p hx hy hz hn hp false
      rw [e] at this
      rw [dF c2]
      exact this
  · have e : nameS o = [] := if_neg (by omega)
    have := lines_2 o x y z n p o x y z n p hx hy hz hn hp false
    rw [e] at this
    rw [dF c1]
    exact this
end Go.Proofs.YtbhffcogeeeidaaDoor.V
