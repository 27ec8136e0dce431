/- CodeForward. -/
import Derived.Test.YtbhffcogeeeidaaDoorUCoR
import Derived.Test.YtbhffcogeeeidaaDoorUCoL
import Derived.Test.YtbhffcogeeeidaaDoorVRLCodeForward
namespace Go.Proofs.YtbhffcogeeeidaaDoor.V
open Go Go.Ev Go.RowKit
set_option linter.unusedVariables false
set_option linter.unusedSimpArgs false
theorem fit_inst {k : Nat} {d : Dat} (h : fitT C.T (k + 2) 37 d) : ∃ i : Ins, d = insD i := by
  obtain ⟨l, rfl, h1⟩ := fit_struct (t := 37) (ti := ⟨6, 48, [.int .i64, .int .i64, .int .i64, .int .i64, .int .i64, .int .i64], true, .struct [(0, 3), (1, 3), (2, 3), (3, 3), (4, 3), (5, 3)]⟩) rfl rfl h
  obtain ⟨d0, l, rfl, g0, h1⟩ := fitF_one h1 tyi rfl
  obtain ⟨d1, l, rfl, g1, h1⟩ := fitF_one h1 tyi rfl
  obtain ⟨d2, l, rfl, g2, h1⟩ := fitF_one h1 tyi rfl
  obtain ⟨d3, l, rfl, g3, h1⟩ := fitF_one h1 tyi rfl
  obtain ⟨d4, l, rfl, g4, h1⟩ := fitF_one h1 tyi rfl
  obtain ⟨d5, l, rfl, g5, h1⟩ := fitF_one h1 tyi rfl
  obtain rfl : l = [] := h1
  obtain ⟨o, rfl, ho⟩ := fit_i64 g0
  obtain ⟨x, rfl, hx⟩ := fit_i64 g1
  obtain ⟨y, rfl, hy⟩ := fit_i64 g2
  obtain ⟨z, rfl, hz⟩ := fit_i64 g3
  obtain ⟨n, rfl, hn⟩ := fit_i64 g4
  obtain ⟨p, rfl, hp⟩ := fit_i64 g5
  exact ⟨⟨o, x, y, z, n, p⟩, rfl⟩
theorem fit_cnt {k : Nat} {d : Dat} (h : fitT C.T (k + 2) 47 d) : ∃ c : Int × Int × Int, d = cntD c := by
  obtain ⟨l, rfl, h1⟩ := fit_struct (t := 47) (ti := ⟨3, 24, [.int .i64, .int .i64, .int .i64], true, .struct [(0, 3), (1, 3), (2, 3)]⟩) rfl rfl h
  obtain ⟨d0, l, rfl, g0, h1⟩ := fitF_one h1 tyi rfl
  obtain ⟨d1, l, rfl, g1, h1⟩ := fitF_one h1 tyi rfl
  obtain ⟨d2, l, rfl, g2, h1⟩ := fitF_one h1 tyi rfl
  obtain rfl : l = [] := h1
  obtain ⟨o, rfl, ho⟩ := fit_i64 g0
  obtain ⟨x, rfl, hx⟩ := fit_i64 g1
  obtain ⟨y, rfl, hy⟩ := fit_i64 g2
  exact ⟨(o, x, y), rfl⟩
theorem fit_prog {d : Dat} (h : fitT C.T 9 26 d) : ∃ p : Pg, d = .agg [.list (p.is.map insD), .list (p.sets.map fun l => .list (rs l)), .list (p.loops.map cntD), .int p.g] ∧ (p.sets.length ≤ 6000000000000) ∧ (∀ l, l ∈ p.sets → l.length ≤ 8796093021952) ∧ p.loops.length ≤ 6000000000000 ∧ p.is.length ≤ 6000000000000 := by
  obtain ⟨l, rfl, h1⟩ := fit_struct (t := 26) (ti := ⟨4, 80, [.slice 37, .slice 44, .slice 47, .int .i64], true, .struct [(0, 22), (1, 23), (2, 24), (3, 3)]⟩) rfl rfl h
  obtain ⟨d0, l, rfl, g0, h1⟩ := fitF_one (fti := ⟨1, 24, [.slice 37], false, .slice 37⟩) h1 rfl rfl
  obtain ⟨d1, l, rfl, g1, h1⟩ := fitF_one (fti := ⟨1, 24, [.slice 44], false, .slice 44⟩) h1 rfl rfl
  obtain ⟨d2, l, rfl, g2, h1⟩ := fitF_one (fti := ⟨1, 24, [.slice 47], false, .slice 47⟩) h1 rfl rfl
  obtain ⟨d3, l, rfl, g3, h1⟩ := fitF_one h1 tyi rfl
  obtain rfl : l = [] := h1
  obtain ⟨m0, rfl, e0, f0⟩ := fit_slice (t := 22) (te := ⟨6, 48, [.int .i64, .int .i64, .int .i64, .int .i64, .int .i64, .int .i64], true, .struct [(0, 3), (1, 3), (2, 3), (3, 3), (4, 3), (5, 3)]⟩) rfl rfl rfl g0
  obtain ⟨is, rfl, -⟩ := list_of insD (fun _ => True) m0 (fun x hx => by obtain ⟨i, hi⟩ := fit_inst (f0 x hx); exact ⟨i, hi, trivial⟩)
  obtain ⟨m1, rfl, e1, f1⟩ := fit_slice (t := 23) (te := ⟨1, 24, [.slice 55], false, .slice 55⟩) rfl rfl rfl g1
  obtain ⟨sets, rfl, o1⟩ := list_of (fun l : List (Int × Int) => Dat.list (rs l)) (fun l => l.length ≤ 8796093021952) m1 (fun x hx => by obtain ⟨l, hl, h2, -⟩ := fit_rs (f1 x hx); exact ⟨l, hl, h2⟩)
  obtain ⟨m2, rfl, e2, f2⟩ := fit_slice (t := 24) (te := ⟨3, 24, [.int .i64, .int .i64, .int .i64], true, .struct [(0, 3), (1, 3), (2, 3)]⟩) rfl rfl rfl g2
  obtain ⟨loops, rfl, -⟩ := list_of cntD (fun _ => True) m2 (fun x hx => by obtain ⟨i, hi⟩ := fit_cnt (f2 x hx); exact ⟨i, hi, trivial⟩)
  obtain ⟨g, rfl, -⟩ := fit_i64 g3
  rw [List.length_map] at e0 e1 e2
  simp only at e0 e1 e2
  exact ⟨⟨is, sets, loops, g⟩, rfl, by show sets.length ≤ _; omega, o1, by show loops.length ≤ _; omega, by show is.length ≤ _; omega⟩
theorem fwd_loop {p : Pg} (hn : p.is.length ≤ 1000) (h : insAll p p.is 0 = true) (h0 : p.is.length ≠ 0) (v0_0 v0_1 v0_2 v1_1 v1_2 : List Dat) (v0_3 v1_3 : Int) (v2 : Bool) : ∀ (d k : Nat), k + d = p.is.length →
    M4_1 v0_0 v0_1 v0_2 v0_3 (p.is.map insD) v1_1 v1_2 v1_3 v2 (p.is.map insD) (p.is.length : Int) (k : Int) = some [.bool true]
  | 0, k, e => by
    have hb := insAll_get p.is 0 h (p.is.length - 1) (by omega)
    rw [Nat.zero_add] at hb
    unfold insB at hb
    simp only [Bool.and_eq_true, beq_iff_eq] at hb
    have e1 : (((p.is.length - 1 : Nat) : Int) == (p.is.length : Int) - 1) = true := by rw [beq_iff_eq]; omega
    have b2 := hb.2.1
    rw [e1] at b2
    apply M4_1_of
    rw [dF (by omega), List.length_map, dT (by omega), lenW (by omega), dT (by omega), dT (by omega), dT (by omega), at_rd (by omega) (by omega)]
    have e2 : atI p ((p.is.length : Int) - 1) = p.is[p.is.length - 1] := by
      unfold atI
      rw [show ((p.is.length : Int) - 1).toNat = p.is.length - 1 by omega]
      simp [List.getD_eq_getElem?_getD, show p.is.length - 1 < p.is.length by omega]
    rw [e2]
    show some [Dat.bool (p.is[p.is.length - 1].op == 19)] = _
    rw [b2]
  | d + 1, k, e => by
    have hk : k < p.is.length := by omega
    have hb := insAll_get p.is 0 h k hk
    rw [Nat.zero_add] at hb
    have hrec := fwd_loop hn h h0 v0_0 v0_1 v0_2 v1_1 v1_2 v0_3 v1_3 v2 d (k + 1) (by omega)
    have hrd : rd (p.is.map insD) k = insD p.is[k] := by simp [rd, hk]
    unfold insB at hb
    simp only [Bool.and_eq_true, inB_iff, beq_iff_eq] at hb
    have b5 := hb.2.2.2.2
    unfold namesB goesB aheadB nextB isB at b5
    apply M4_1_of
    rw [dT (by omega), List.length_map, ixT ⟨by omega, by omega⟩, Int.toNat_natCast, hrd, upC (n := p.is.length) hk (by omega)]
    generalize p.is[k] = i at *
    simp only [insD, aggC0, aggC1, aggC2, aggC3, aggC4, aggC5, datI]
    by_cases c4 : i.op = 4
    · rw [if_neg (by omega), if_neg (by omega), if_neg (by omega), if_neg (by omega), if_neg (by omega), if_neg (by omega), if_pos c4] at b5
      simp only [Bool.and_eq_true, decide_eq_true_eq] at b5
      rw [eT c4, eT c4, dF (by omega), dF (by omega)]
      exact hrec
    rw [eF c4]
    by_cases c6 : i.op = 6
    · rw [if_neg (by omega), if_neg (by omega), if_neg (by omega), if_neg (by omega), if_neg (by omega), if_neg (by omega), if_neg (by omega), if_neg (by omega), if_pos c6] at b5
      simp only [Bool.and_eq_true, decide_eq_true_eq] at b5
      rw [eT c6, dF (by omega), dF (by omega)]
      exact hrec
    rw [eF c6]
    by_cases c8 : i.op = 8
    · rw [if_neg (by omega), if_neg (by omega), if_neg (by omega), if_neg (by omega), if_neg (by omega), if_neg (by omega), if_neg (by omega), if_neg (by omega), if_neg (by omega), if_neg (by omega), if_pos c8] at b5
      simp only [Bool.and_eq_true, decide_eq_true_eq, inB_iff] at b5
      rw [eT c8, dF (by omega), dF (by omega), dF (by omega)]
      exact hrec
    rw [eF c8]
    by_cases c10 : i.op = 10
    · rw [if_neg (by omega), if_neg (by omega), if_neg (by omega), if_neg (by omega), if_neg (by omega), if_neg (by omega), if_neg (by omega), if_neg (by omega), if_neg (by omega), if_neg (by omega), if_neg (by omega), if_pos c10] at b5
      simp only [Bool.and_eq_true, decide_eq_true_eq, inB_iff, beq_iff_eq] at b5
      rw [eT c10, dF (by omega), dF (by omega), dT (by omega), dT (by omega), dT (by omega), at_rd (by omega) (by omega)]
      simp only [insD, aggC0, aggC1, aggC2, aggC3, aggC4, aggC5, datI]
      rw [neF (by omega), dT (by omega), dT (by omega), dT (by omega), dF (by omega)]
      exact hrec
    rw [eF c10]
    exact hrec
theorem CodeForward_pure (e0 : Dat) (h0 : fitT C.T 9 26 e0) : E C 4 [.agg [.shr 37 (e0.C 0).L, .shr 44 (e0.C 1).L, .shr 47 (e0.C 2).L, .int .i64 (e0.C 3).I]] = some [.bool true] := by
  obtain ⟨p, rfl, h1, h2, h3, h4⟩ := fit_prog h0
  simp only [aggC0, aggC1, aggC2, aggC3, datL, datI]
  apply o4
  rw [bT anchor11_E]
  simp only [rd0, datB]
  rw [nF rfl, List.length_map]
  by_cases g1 : (p.is.length : Int) > 1000
  · rw [dT g1]
  rw [dF g1]
  have hp : OkPg p := ⟨by omega, by omega, h2, by omega⟩
  rw [bT (RightP_E hp)]
  simp only [rd0, datB]
  cases hr : rightPB p with
  | false => rfl
  | true =>
    unfold rightPB at hr
    simp only [Bool.and_eq_true, decide_eq_true_eq] at hr
    rw [nF rfl]
    exact fwd_loop (by omega) hr.2.2.2.2.2.1 hr.1 _ _ _ _ _ _ _ _ p.is.length 0 (by omega)
end Go.Proofs.YtbhffcogeeeidaaDoor.V
