/- CodeRight: the law's copy of a program; the law. -/
import Derived.Test.YtbhffcogeeeidaaDoorUCoU
namespace Go.Proofs.YtbhffcogeeeidaaDoor.V
open Go Go.Ev Go.RowKit
set_option linter.unusedVariables false
set_option linter.unusedSimpArgs false
theorem cap48 : capB 48 = 2932031007402 := by decide
theorem cap24 : capB 24 = 5864062014805 := by decide
theorem cap16c : capB 16 = 8796093022208 := by decide
def outD (p : Pg) : List Dat := [.agg [.list (p.is.map insD), .list (p.sets.map fun l => .list (rs l)), .list (p.loops.map cntD), .int p.g]]
theorem of_4 {p : Pg} (hp : OkPg p) (hn : p.loops.length ≤ 1000) (v17 : List Dat) (v18 v19 : Int) (v31 : List Dat) (v32 v33 : Int) : ∀ (rest pre : List (Int × Int × Int)), p.loops = pre ++ rest →
    M9_4 (p.is.map insD) (p.sets.map fun l => .list (rs l)) (p.loops.map cntD) p.g (p.is.map insD) (p.sets.map fun l => .list (rs l)) (p.loops.map cntD) p.g [] [] [] 0 (p.is.map insD) (p.sets.map fun l => .list (rs l)) (pre.map cntD) p.g v17 v18 v19 v31 v32 v33 (p.loops.map cntD) (p.loops.length : Int) (pre.length : Int) = some (outD p)
  | [], pre, e => by
    rw [List.append_nil] at e
    apply M9_4_of
    rw [← e, dF (by omega)]
    rfl
  | c :: rest, pre, e => by
    have hlen : p.loops.length = pre.length + (rest.length + 1) := by rw [e, List.length_append, List.length_cons]
    have hrd : rd (p.loops.map cntD) pre.length = cntD c := by simp [rd, e]
    have hrec := of_4 hp hn v17 v18 v19 v31 v32 v33 rest (pre ++ [c]) (by rw [e, List.append_assoc]; rfl)
    rw [List.length_append, List.length_cons, List.length_nil, List.map_append] at hrec
    apply M9_4_of
    rw [dT (by omega), List.length_map, ixT ⟨by omega, by omega⟩, Int.toNat_natCast, hrd, upC (n := p.loops.length) (by omega) (by omega), List.length_map, cap24]
    simp only [cntD, aggC0, aggC1, aggC2, datI]
    rw [dT (by simp; omega)]
    exact hrec
theorem of_3 {p : Pg} (hp : OkPg p) (v3_1 : List Dat) (hv : v3_1.length ≤ 1000) (v17 : List Dat) (v18 v19 : Int) (v32 : Int) {k : Nat} (hk : k < p.sets.length) (hn : p.sets.length ≤ 1000) (l : List (Int × Int)) (hl : l.length ≤ 8796093021952) {r : List Dat}
    (hnext : M9_2 (p.is.map insD) (p.sets.map fun l => .list (rs l)) (p.loops.map cntD) p.g (p.is.map insD) (p.sets.map fun l => .list (rs l)) (p.loops.map cntD) p.g [] [] [] 0 (p.is.map insD) (v3_1 ++ [.list (rs l)]) [] p.g v17 v18 v19 (p.sets.map fun l => .list (rs l)) v32 ((k + 1 : Nat) : Int) = some r) : ∀ (rest pre : List (Int × Int)), l = pre ++ rest →
    M9_3 (p.is.map insD) (p.sets.map fun l => .list (rs l)) (p.loops.map cntD) p.g (p.is.map insD) (p.sets.map fun l => .list (rs l)) (p.loops.map cntD) p.g [] [] [] 0 (p.is.map insD) v3_1 [] p.g (rs l) (rs pre) v17 v18 v19 (p.sets.map fun l => .list (rs l)) v32 (k : Int) (rs l) (l.length : Int) (pre.length : Int) = some r
  | [], pre, e => by
    rw [List.append_nil] at e
    apply M9_3_of
    rw [← e, dF (by omega), cap24, dT (by simp; omega), upC (n := p.sets.length) hk (by omega)]
    exact hnext
  | c :: rest, pre, e => by
    have hlen : l.length = pre.length + (rest.length + 1) := by rw [e, List.length_append, List.length_cons]
    have hrd : rd (rs l) pre.length = .agg [.int c.1, .int c.2] := by rw [e]; exact Least_loop.rs_atL pre c rest
    have hrec := of_3 hp v3_1 hv v17 v18 v19 v32 hk hn l hl hnext rest (pre ++ [c]) (by rw [e, List.append_assoc]; rfl)
    rw [List.length_append, List.length_cons, List.length_nil] at hrec
    have hrs : rs (pre ++ [c]) = rs pre ++ [.agg [.int c.1, .int c.2]] := by unfold rs prs; rw [List.map_append]; rfl
    rw [hrs] at hrec
    apply M9_3_of
    rw [dT (by omega), rs_len, rs_len, ixT ⟨by omega, by omega⟩, Int.toNat_natCast, hrd, upC (n := l.length) (by omega) (by omega), cap16c]
    simp only [aggC0, aggC1, datI]
    rw [dT (by simp; omega)]
    exact hrec
theorem of_2 {p : Pg} (hp : OkPg p) (hn : p.sets.length ≤ 1000) (hn2 : p.loops.length ≤ 1000) (v17 : List Dat) (v18 v19 : Int) : ∀ (rest pre : List (List (Int × Int))), p.sets = pre ++ rest →
    M9_2 (p.is.map insD) (p.sets.map fun l => .list (rs l)) (p.loops.map cntD) p.g (p.is.map insD) (p.sets.map fun l => .list (rs l)) (p.loops.map cntD) p.g [] [] [] 0 (p.is.map insD) (pre.map fun l => .list (rs l)) [] p.g v17 v18 v19 (p.sets.map fun l => .list (rs l)) (p.sets.length : Int) (pre.length : Int) = some (outD p)
  | [], pre, e => by
    rw [List.append_nil] at e
    apply M9_2_of
    rw [← e, dF (by omega), List.length_map]
    exact of_4 hp hn2 _ _ _ _ _ _ p.loops [] rfl
  | c :: rest, pre, e => by
    have hlen : p.sets.length = pre.length + (rest.length + 1) := by rw [e, List.length_append, List.length_cons]
    have hrd : rd (p.sets.map fun l => Dat.list (rs l)) pre.length = .list (rs c) := by simp [rd, e]
    have hrec := of_2 hp hn hn2 v17 v18 v19 rest (pre ++ [c]) (by rw [e, List.append_assoc]; rfl)
    rw [List.length_append, List.length_cons, List.length_nil, List.map_append] at hrec
    apply M9_2_of
    rw [dT (by omega), List.length_map, ixT ⟨by omega, by omega⟩, Int.toNat_natCast, hrd]
    simp only [datL, rs_len]
    exact of_3 hp _ (by rw [List.length_map]; omega) _ _ _ _ (by omega) hn c (hp.set c (by rw [e]; simp)) hrec c [] rfl
theorem of_1 {p : Pg} (hp : OkPg p) (h0 : p.is.length ≤ 1000) (hn : p.sets.length ≤ 1000) (hn2 : p.loops.length ≤ 1000) : ∀ (rest pre : List Ins), p.is = pre ++ rest →
    M9_1 (p.is.map insD) (p.sets.map fun l => .list (rs l)) (p.loops.map cntD) p.g (p.is.map insD) (p.sets.map fun l => .list (rs l)) (p.loops.map cntD) p.g [] [] [] 0 (pre.map insD) [] [] p.g (p.is.map insD) (p.is.length : Int) (pre.length : Int) = some (outD p)
  | [], pre, e => by
    rw [List.append_nil] at e
    apply M9_1_of
    rw [← e, dF (by omega), List.length_map]
    exact of_2 hp hn hn2 _ _ _ p.sets [] rfl
  | c :: rest, pre, e => by
    have hlen : p.is.length = pre.length + (rest.length + 1) := by rw [e, List.length_append, List.length_cons]
    have hrd : rd (p.is.map insD) pre.length = insD c := by simp [rd, e]
    have hrec := of_1 hp h0 hn hn2 rest (pre ++ [c]) (by rw [e, List.append_assoc]; rfl)
    rw [List.length_append, List.length_cons, List.length_nil, List.map_append] at hrec
    apply M9_1_of
    rw [dT (by omega), List.length_map, ixT ⟨by omega, by omega⟩, Int.toNat_natCast, hrd, upC (n := p.is.length) (by omega) (by omega), List.length_map, cap48]
    simp only [insD, aggC0, aggC1, aggC2, aggC3, aggC4, aggC5, datI]
    rw [dT (by simp; omega)]
    exact hrec
theorem of_E {p : Pg} (hp : OkPg p) (h0 : p.is.length ≤ 1000) (hn : p.sets.length ≤ 1000) (hn2 : p.loops.length ≤ 1000) : E C 9 [.agg [.shr 37 (p.is.map insD), .shr 44 (p.sets.map fun l => .list (rs l)), .shr 47 (p.loops.map cntD), .int .i64 p.g]] = some (outD p) := by
  apply o9
  rw [List.length_map]
  exact of_1 hp h0 hn hn2 p.is [] rfl
theorem fit_prog2 {d : Dat} (h : fitT C.T 9 26 d) : ∃ p : Pg, d = .agg [.list (p.is.map insD), .list (p.sets.map fun l => .list (rs l)), .list (p.loops.map cntD), .int p.g] ∧ (p.sets.length ≤ 6000000000000) ∧ (∀ l, l ∈ p.sets → l.length ≤ 8796093021952 ∧ ∀ q, q ∈ l → i64P q.1 ∧ i64P q.2) ∧ p.loops.length ≤ 6000000000000 ∧ p.is.length ≤ 6000000000000 := by
  obtain ⟨l, rfl, h1⟩ := fit_struct (t := 26) (ti := ⟨4, 80, [.slice 37, .slice 44, .slice 47, .int .i64], true, .struct [(0, 22), (1, 23), (2, 24), (3, 3)]⟩) rfl rfl h
  obtain ⟨d0, l, rfl, g0, h1⟩ := fitF_one (fti := ⟨1, 24, [.slice 37], false, .slice 37⟩) h1 rfl rfl
  obtain ⟨d1, l, rfl, g1, h1⟩ := fitF_one (fti := ⟨1, 24, [.slice 44], false, .slice 44⟩) h1 rfl rfl
  obtain ⟨d2, l, rfl, g2, h1⟩ := fitF_one (fti := ⟨1, 24, [.slice 47], false, .slice 47⟩) h1 rfl rfl
  obtain ⟨d3, l, rfl, g3, h1⟩ := fitF_one h1 tyi rfl
  obtain rfl : l = [] := h1
  obtain ⟨m0, rfl, e0, f0⟩ := fit_slice (t := 22) (te := ⟨6, 48, [.int .i64, .int .i64, .int .i64, .int .i64, .int .i64, .int .i64], true, .struct [(0, 3), (1, 3), (2, 3), (3, 3), (4, 3), (5, 3)]⟩) rfl rfl rfl g0
  obtain ⟨is, rfl, -⟩ := list_of insD (fun _ => True) m0 (fun x hx => by obtain ⟨i, hi⟩ := fit_inst (f0 x hx); exact ⟨i, hi, trivial⟩)
  obtain ⟨m1, rfl, e1, f1⟩ := fit_slice (t := 23) (te := ⟨1, 24, [.slice 55], false, .slice 55⟩) rfl rfl rfl g1
  obtain ⟨sets, rfl, o1⟩ := list_of (fun l : List (Int × Int) => Dat.list (rs l)) (fun l => l.length ≤ 8796093021952 ∧ ∀ q, q ∈ l → i64P q.1 ∧ i64P q.2) m1 (fun x hx => by obtain ⟨l, hl, h2, h3⟩ := fit_rs (f1 x hx); exact ⟨l, hl, h2, h3⟩)
  obtain ⟨m2, rfl, e2, f2⟩ := fit_slice (t := 24) (te := ⟨3, 24, [.int .i64, .int .i64, .int .i64], true, .struct [(0, 3), (1, 3), (2, 3)]⟩) rfl rfl rfl g2
  obtain ⟨loops, rfl, -⟩ := list_of cntD (fun _ => True) m2 (fun x hx => by obtain ⟨i, hi⟩ := fit_cnt (f2 x hx); exact ⟨i, hi, trivial⟩)
  obtain ⟨g, rfl, -⟩ := fit_i64 g3
  rw [List.length_map] at e0 e1 e2
  simp only at e0 e1 e2
  exact ⟨⟨is, sets, loops, g⟩, rfl, by show sets.length ≤ _; omega, o1, by show loops.length ≤ _; omega, by show is.length ≤ _; omega⟩
theorem CodeRight_pure (e0 : Dat) (h0 : fitT C.T 9 26 e0) : E C 3 [.agg [.shr 37 (e0.C 0).L, .shr 44 (e0.C 1).L, .shr 47 (e0.C 2).L, .int .i64 (e0.C 3).I]] = some [.bool true] := by
  obtain ⟨p, rfl, h1, h2, h3, h4⟩ := fit_prog2 h0
  simp only [aggC0, aggC1, aggC2, aggC3, datL, datI]
  apply o3
  rw [bT anchor11_E]
  simp only [rd0, datB]
  rw [nF rfl, List.length_map, List.length_map, List.length_map]
  by_cases g1 : (p.is.length : Int) > 300
  · rw [dT g1]
  rw [dF g1]
  by_cases g2 : (p.sets.length : Int) > 50
  · rw [dT g2]
  rw [dF g2]
  by_cases g3 : (p.loops.length : Int) > 50
  · rw [dT g3]
  rw [dF g3]
  have hp : OkPg p := ⟨by omega, by omega, fun l hl => (h2 l hl).1, by omega⟩
  rw [bT (RightP_E hp)]
  simp only [rd0, datB]
  rw [bT (of_E hp (by omega) (by omega) (by omega))]
  unfold outD
  simp only [rd0, aggC0, aggC1, aggC2, aggC3, datL, datI]
  rw [bT (RightR_E hp (fun l hl => (h2 l hl).2))]
  simp only [rd0, datB]
  cases rightPB p <;> rfl
end Go.Proofs.YtbhffcogeeeidaaDoor.V
