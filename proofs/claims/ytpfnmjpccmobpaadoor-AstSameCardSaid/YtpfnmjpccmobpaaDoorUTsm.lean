/- Rows compared place by place; nodes and trees that are the same but for where they stand. -/
import Derived.Test.YtpfnmjpccmobpaaDoorUTre
import Derived.Test.YtpfnmjpccmobpaaDoorVUSm
import Derived.Test.YtpfnmjpccmobpaaDoorVURs
import Derived.Test.YtpfnmjpccmobpaaDoorVULalike
namespace Go.Proofs.YtpfnmjpccmobpaaDoor.V
open Go Go.Ev Go.RowKit
set_option linter.unusedVariables false
set_option linter.unusedSimpArgs false
/-- Two rows, as far as both go. -/
def cmpL {α : Type} (eq : α → α → Bool) : List α → List α → Bool
  | a :: l, b :: m => eq a b && cmpL eq l m
  | _, _ => true
theorem cmpL_refl {α : Type} {eq : α → α → Bool} (f : α → α) (h : ∀ a, eq a (f a) = true) : ∀ l : List α, cmpL eq l (l.map f) = true
  | [] => rfl
  | a :: l => by rw [List.map_cons, cmpL, h, cmpL_refl f h l]; rfl
def strE (a b : ByteArray) : Bool := a.toList == b.toList
def rgE (a b : Int × Int) : Bool := (a.1 == b.1) && ((a.2 == b.2) && true)
def intE (a b : Int) : Bool := a == b
theorem str_at (pre : List ByteArray) (s : ByteArray) (rest : List ByteArray) : (rd ((pre ++ s :: rest).map Dat.str) pre.length).S = s := by simp [rd]
theorem int_at (pre : List Int) (s : Int) (rest : List Int) : (rd ((pre ++ s :: rest).map Dat.int) pre.length).I = s := by simp [rd]
theorem rg_at (pre : List (Int × Int)) (s : Int × Int) (rest : List (Int × Int)) : rd (rs (pre ++ s :: rest)) pre.length = .agg [.int s.1, .int s.2] := by
  rw [rs_rd _ _ (by simp)]
  simp
theorem nd_at (pre : List Nd) (s : Nd) (rest : List Nd) : rd (nsD (pre ++ s :: rest)) pre.length = nodeD s := by
  rw [nsD_rd (by simp)]
  simp
theorem up {k n : Nat} (h : k < n) (hn : n ≤ 20000000000000) : IntKind.i64.wrap ((k : Int) + 1) = ((k + 1 : Nat) : Int) := by rw [w64 (by omega) (by omega)]; omega

theorem eqs_loop (v4 : Bool) (l m : List ByteArray) (hl : l.length ≤ 20000000000000) (hlen : l.length = m.length) : ∀ (r1 p1 r2 p2 : List ByteArray), l = p1 ++ r1 → m = p2 ++ r2 → p1.length = p2.length →
    M77_1 (l.map Dat.str) (m.map Dat.str) v4 (l.length : Int) (p1.length : Int) = some [.bool (cmpL strE r1 r2)] := by
  intro r1
  induction r1 with
  | nil =>
    intro p1 r2 p2 h1 h2 h3
    rw [List.append_nil] at h1
    apply M77_1_of
    rw [show l.length = p1.length by rw [h1], dF (by omega)]
    rfl
  | cons a r1 ih =>
    intro p1 r2 p2 h1 h2 h3
    have k1 : l.length = p1.length + (r1.length + 1) := by rw [h1, List.length_append, List.length_cons]
    have k2 : m.length = p2.length + r2.length := by rw [h2, List.length_append]
    cases r2 with
    | nil => simp only [List.length_nil] at k2; omega
    | cons b r2 =>
      have ih2 := ih (p1 ++ [a]) r2 (p2 ++ [b]) (by rw [h1, List.append_assoc]; rfl) (by rw [h2, List.append_assoc]; rfl) (by simp [h3])
      rw [List.length_append, List.length_cons, List.length_nil] at ih2
      have ra := str_at p1 a r1
      have rb := str_at p2 b r2
      rw [← h1] at ra
      rw [← h2, ← h3] at rb
      apply M77_1_of
      rw [dT (by omega), List.length_map, dT (by omega), dT (by omega), dT (by omega), dT (by omega), List.length_map, dT (by omega), dT (by omega), Int.toNat_natCast, ra, rb, up (n := l.length) (by omega) hl, ih2]
      rw [cmpL, strE]
      cases a.toList == b.toList <;> rfl

theorem eqi_loop (v4 : Bool) (l m : List Int) (hl : l.length ≤ 20000000000000) (hlen : l.length = m.length) : ∀ (r1 p1 r2 p2 : List Int), l = p1 ++ r1 → m = p2 ++ r2 → p1.length = p2.length →
    M116_1 (l.map Dat.int) (m.map Dat.int) v4 (l.length : Int) (p1.length : Int) = some [.bool (cmpL intE r1 r2)] := by
  intro r1
  induction r1 with
  | nil =>
    intro p1 r2 p2 h1 h2 h3
    rw [List.append_nil] at h1
    apply M116_1_of
    rw [show l.length = p1.length by rw [h1], dF (by omega)]
    rfl
  | cons a r1 ih =>
    intro p1 r2 p2 h1 h2 h3
    have k1 : l.length = p1.length + (r1.length + 1) := by rw [h1, List.length_append, List.length_cons]
    have k2 : m.length = p2.length + r2.length := by rw [h2, List.length_append]
    cases r2 with
    | nil => simp only [List.length_nil] at k2; omega
    | cons b r2 =>
      have ih2 := ih (p1 ++ [a]) r2 (p2 ++ [b]) (by rw [h1, List.append_assoc]; rfl) (by rw [h2, List.append_assoc]; rfl) (by simp [h3])
      rw [List.length_append, List.length_cons, List.length_nil] at ih2
      have ra := int_at p1 a r1
      have rb := int_at p2 b r2
      rw [← h1] at ra
      rw [← h2, ← h3] at rb
      apply M116_1_of
      rw [dT (by omega), List.length_map, dT (by omega), dT (by omega), dT (by omega), dT (by omega), List.length_map, dT (by omega), dT (by omega), Int.toNat_natCast, ra, rb, up (n := l.length) (by omega) hl, ih2]
      rw [cmpL, intE, show (a != b) = !(a == b) from rfl]
      cases a == b <;> rfl

theorem eqr_loop (v4 : Bool) (l m : List (Int × Int)) (hl : l.length ≤ 20000000000000) (hlen : l.length = m.length) : ∀ (r1 p1 r2 p2 : List (Int × Int)), l = p1 ++ r1 → m = p2 ++ r2 → p1.length = p2.length →
    M115_1 (rs l) (rs m) v4 (l.length : Int) (p1.length : Int) = some [.bool (cmpL rgE r1 r2)] := by
  intro r1
  induction r1 with
  | nil =>
    intro p1 r2 p2 h1 h2 h3
    rw [List.append_nil] at h1
    apply M115_1_of
    rw [show l.length = p1.length by rw [h1], dF (by omega)]
    rfl
  | cons a r1 ih =>
    intro p1 r2 p2 h1 h2 h3
    have k1 : l.length = p1.length + (r1.length + 1) := by rw [h1, List.length_append, List.length_cons]
    have k2 : m.length = p2.length + r2.length := by rw [h2, List.length_append]
    cases r2 with
    | nil => simp only [List.length_nil] at k2; omega
    | cons b r2 =>
      have ih2 := ih (p1 ++ [a]) r2 (p2 ++ [b]) (by rw [h1, List.append_assoc]; rfl) (by rw [h2, List.append_assoc]; rfl) (by simp [h3])
      rw [List.length_append, List.length_cons, List.length_nil] at ih2
      have ra := rg_at p1 a r1
      have rb := rg_at p2 b r2
      rw [← h1] at ra
      rw [← h2, ← h3] at rb
      apply M115_1_of
      rw [dT (by omega), rs_len, dT (by omega), dT (by omega), dT (by omega), dT (by omega), rs_len, dT (by omega), dT (by omega), Int.toNat_natCast, ra, rb, up (n := l.length) (by omega) hl, ih2]
      simp only [aggC0, aggC1, datI]
      rw [cmpL, rgE]
      cases ((a.1 == b.1) && ((a.2 == b.2) && true)) <;> rfl

def eqL {α : Type} (eq : α → α → Bool) (l m : List α) : Bool := decide (l.length = m.length) && cmpL eq l m
theorem Eqs_E (l m : List ByteArray) (hl : l.length ≤ 20000000000000) : E C 77 [.shr 9 (l.map .str), .shr 9 (m.map .str)] = some [.bool (eqL strE l m)] := by
  apply o77
  unfold eqL
  rw [List.length_map, List.length_map]
  by_cases h : l.length = m.length
  · rw [neF (by omega), decide_eq_true h, Bool.true_and]; exact eqs_loop false l m hl h l [] m [] rfl rfl rfl
  · rw [neT (by omega), decide_eq_false h]; rfl
theorem Eqi_E (l m : List Int) (hl : l.length ≤ 20000000000000) : E C 116 [.shr 3 (l.map .int), .shr 3 (m.map .int)] = some [.bool (eqL intE l m)] := by
  apply o116
  unfold eqL
  rw [List.length_map, List.length_map]
  by_cases h : l.length = m.length
  · rw [neF (by omega), decide_eq_true h, Bool.true_and]; exact eqi_loop false l m hl h l [] m [] rfl rfl rfl
  · rw [neT (by omega), decide_eq_false h]; rfl
theorem Eqr_E (l m : List (Int × Int)) (hl : l.length ≤ 20000000000000) : E C 115 [.shr 122 (rs l), .shr 122 (rs m)] = some [.bool (eqL rgE l m)] := by
  apply o115
  unfold eqL
  rw [rs_len, rs_len]
  by_cases h : l.length = m.length
  · rw [neF (by omega), decide_eq_true h, Bool.true_and]; exact eqr_loop false l m hl h l [] m [] rfl rfl rfl
  · rw [neT (by omega), decide_eq_false h]; rfl
def numE (a b : Nd) : Bool := (a.kind == b.kind) && ((a.num == b.num) && ((a.min == b.min) && ((a.max == b.max) && ((a.mode == b.mode) && true))))
def sameN (a b : Nd) : Bool := numE a b && (strE a.name b.name && (eqL rgE a.set b.set && eqL intE a.kids b.kids))
abbrev avN (n : Nd) : AV := .agg [.int .i64 n.kind, .int .i64 n.frm, .int .i64 n.to, .int .i64 n.num, .int .i64 n.min, .int .i64 n.max, .int .i64 n.mode, .str n.name, .shr 122 (rs n.set), .shr 3 (n.kids.map .int)]
theorem same_E (a b : Nd) (ha : OkN a) : E C 79 [avN a, avN b] = some [.bool (sameN a b)] := by
  have h1 := ha.set
  have h2 := ha.kids
  apply o79
  simp only [Eqr_E a.set b.set (by omega), Eqi_E a.kids b.kids (by omega), Option.bind_some, rd0, datB]
  unfold sameN numE strE
  cases ((a.kind == b.kind) && ((a.num == b.num) && ((a.min == b.min) && ((a.max == b.max) && ((a.mode == b.mode) && true))))) <;> cases (a.name.toList == b.name.toList) <;> cases eqL rgE a.set b.set <;> rfl

theorem eqn_loop (v6 : Bool) (l m : List Nd) (hl : l.length ≤ 20000000000000) (hlen : l.length = m.length) (hok : ∀ n, n ∈ l → OkN n) : ∀ (r1 p1 r2 p2 : List Nd), l = p1 ++ r1 → m = p2 ++ r2 → p1.length = p2.length →
    M78_a_1 (nsD l) (nsD m) v6 (nsD l) (l.length : Int) (p1.length : Int) = some [.bool (cmpL sameN r1 r2)] := by
  intro r1
  induction r1 with
  | nil =>
    intro p1 r2 p2 h1 h2 h3
    rw [List.append_nil] at h1
    apply M78_a_1_of
    rw [show l.length = p1.length by rw [h1], dF (by omega)]
    rfl
  | cons a r1 ih =>
    intro p1 r2 p2 h1 h2 h3
    have k1 : l.length = p1.length + (r1.length + 1) := by rw [h1, List.length_append, List.length_cons]
    have k2 : m.length = p2.length + r2.length := by rw [h2, List.length_append]
    cases r2 with
    | nil => simp only [List.length_nil] at k2; omega
    | cons b r2 =>
      have ih2 := ih (p1 ++ [a]) r2 (p2 ++ [b]) (by rw [h1, List.append_assoc]; rfl) (by rw [h2, List.append_assoc]; rfl) (by simp [h3])
      rw [List.length_append, List.length_cons, List.length_nil] at ih2
      have ra := nd_at p1 a r1
      have rb := nd_at p2 b r2
      rw [← h1] at ra
      rw [← h2, ← h3] at rb
      apply M78_a_1_of
      rw [dT (by omega), nsD_len, dT (by omega), dT (by omega), dT (by omega), dT (by omega), nsD_len, dT (by omega), dT (by omega), Int.toNat_natCast, ra, rb, up (n := l.length) (by omega) hl, ih2]
      simp only [nd0, nd1, nd2, nd3, nd4, nd5, nd6, nd7, nd8, nd9, datI, datS, datL]
      rw [bT (same_E a b (hok a (by rw [h1]; simp)))]
      simp only [rd0, datB]
      rw [cmpL]
      cases sameN a b <;> rfl

theorem Eqn_E (l m : List Nd) (hl : l.length ≤ 20000000000000) (hok : ∀ n, n ∈ l → OkN n) : E C 78 [.shr 57 (nsD l), .shr 57 (nsD m), .clo 79 [] []] = some [.bool (eqL sameN l m)] := by
  apply o78_a
  unfold eqL
  rw [nsD_len, nsD_len]
  by_cases h : l.length = m.length
  · rw [neF (by omega), decide_eq_true h, Bool.true_and]; exact eqn_loop false l m hl h hok l [] m [] rfl rfl rfl
  · rw [neT (by omega), decide_eq_false h]; rfl
def sameT (a b : Tr) : Bool := (a.groups == b.groups) && (eqL strE a.names b.names && eqL sameN a.ns b.ns)
abbrev avT (t : Tr) : AV := .agg [.shr 57 (nsD t.ns), .int .i64 t.groups, .shr 9 (t.names.map .str)]
theorem Same_E (a b : Tr) (ha : OkT a) : E C 37 [avT a, avT b] = some [.bool (sameT a b)] := by
  have h1 := ha.ns
  have h2 := ha.names
  apply o37
  simp only [Eqs_E a.names b.names (by omega), Eqn_E a.ns b.ns (by omega) ha.nd, Option.bind_some, rd0, datB]
  unfold sameT
  cases a.groups == b.groups <;> cases eqL strE a.names b.names <;> rfl

theorem kids_loop (x0 x1 x2 x3 x4 x5 x6 : Int) (x7 : ByteArray) (x8 x9 : List Dat) (y0 y1 y2 y3 y4 y5 y6 : Int) (y7 : ByteArray) (y8 y9 : List Dat) (a0 b0 : Nd) (v4 : Bool) (v67 v68 : Int) (l m : List Int) (hl : l.length ≤ 20000000000000) (hlen : l.length = m.length) (ea : a0.kids = l) (eb : b0.kids = m) : ∀ (r1 p1 r2 p2 : List Int), l = p1 ++ r1 → m = p2 ++ r2 → p1.length = p2.length →
    M36_9 x0 x1 x2 x3 x4 x5 x6 x7 x8 x9 y0 y1 y2 y3 y4 y5 y6 y7 y8 y9 a0.kind a0.frm a0.to a0.num a0.min a0.max a0.mode a0.name (rs a0.set) (a0.kids.map .int) b0.kind b0.frm b0.to b0.num b0.min b0.max b0.mode b0.name (rs b0.set) (b0.kids.map .int) v4 v67 v68 (l.length : Int) (p1.length : Int) = some [.bool (cmpL intE r1 r2)] := by
  intro r1
  induction r1 with
  | nil =>
    intro p1 r2 p2 h1 h2 h3
    rw [List.append_nil] at h1
    apply M36_9_of
    rw [show l.length = p1.length by rw [h1], dF (by omega)]
    rfl
  | cons a r1 ih =>
    intro p1 r2 p2 h1 h2 h3
    have k1 : l.length = p1.length + (r1.length + 1) := by rw [h1, List.length_append, List.length_cons]
    have k2 : m.length = p2.length + r2.length := by rw [h2, List.length_append]
    cases r2 with
    | nil => simp only [List.length_nil] at k2; omega
    | cons b r2 =>
      have ih2 := ih (p1 ++ [a]) r2 (p2 ++ [b]) (by rw [h1, List.append_assoc]; rfl) (by rw [h2, List.append_assoc]; rfl) (by simp [h3])
      rw [List.length_append, List.length_cons, List.length_nil] at ih2
      have ra := int_at p1 a r1
      have rb := int_at p2 b r2
      rw [← h1] at ra
      rw [← h2, ← h3] at rb
      rw [ea, eb] at ih2 ⊢
      apply M36_9_of
      rw [ dT (by omega), List.length_map, dT (by omega), dT (by omega), dT (by omega), dT (by omega), List.length_map, dT (by omega), dT (by omega), Int.toNat_natCast, ra, rb, up (n := l.length) (by omega) hl, ih2]
      rw [cmpL, intE, show (a != b) = !(a == b) from rfl]
      cases a == b <;> rfl

theorem set_loop (x0 x1 x2 x3 x4 x5 x6 : Int) (x7 : ByteArray) (x8 x9 : List Dat) (y0 y1 y2 y3 y4 y5 y6 : Int) (y7 : ByteArray) (y8 y9 : List Dat) (a0 b0 : Nd) (v4 : Bool) (z : Bool) (l m : List (Int × Int)) (hl : l.length ≤ 20000000000000) (hlen : l.length = m.length) (ea : a0.set = l) (eb : b0.set = m) (hk : ∀ q1 q2 : Int, M36_9 x0 x1 x2 x3 x4 x5 x6 x7 x8 x9 y0 y1 y2 y3 y4 y5 y6 y7 y8 y9 a0.kind a0.frm a0.to a0.num a0.min a0.max a0.mode a0.name (rs a0.set) (a0.kids.map .int) b0.kind b0.frm b0.to b0.num b0.min b0.max b0.mode b0.name (rs b0.set) (b0.kids.map .int) v4 q1 q2 ((a0.kids.map Dat.int).length : Int) 0 = some [.bool z]) : ∀ (r1 p1 r2 p2 : List (Int × Int)), l = p1 ++ r1 → m = p2 ++ r2 → p1.length = p2.length →
    M36_8 x0 x1 x2 x3 x4 x5 x6 x7 x8 x9 y0 y1 y2 y3 y4 y5 y6 y7 y8 y9 a0.kind a0.frm a0.to a0.num a0.min a0.max a0.mode a0.name (rs a0.set) (a0.kids.map .int) b0.kind b0.frm b0.to b0.num b0.min b0.max b0.mode b0.name (rs b0.set) (b0.kids.map .int) v4 (l.length : Int) (p1.length : Int) = some [.bool (cmpL rgE r1 r2 && z)] := by
  intro r1
  induction r1 with
  | nil =>
    intro p1 r2 p2 h1 h2 h3
    rw [List.append_nil] at h1
    apply M36_8_of
    rw [show l.length = p1.length by rw [h1], dF (by omega)]
    exact hk _ _
  | cons a r1 ih =>
    intro p1 r2 p2 h1 h2 h3
    have k1 : l.length = p1.length + (r1.length + 1) := by rw [h1, List.length_append, List.length_cons]
    have k2 : m.length = p2.length + r2.length := by rw [h2, List.length_append]
    cases r2 with
    | nil => simp only [List.length_nil] at k2; omega
    | cons b r2 =>
      have ih2 := ih (p1 ++ [a]) r2 (p2 ++ [b]) (by rw [h1, List.append_assoc]; rfl) (by rw [h2, List.append_assoc]; rfl) (by simp [h3])
      rw [List.length_append, List.length_cons, List.length_nil] at ih2
      have ra := rg_at p1 a r1
      have rb := rg_at p2 b r2
      rw [← h1] at ra
      rw [← h2, ← h3] at rb
      rw [ea, eb] at ih2 ⊢
      apply M36_8_of
      rw [dT (by omega), rs_len, dT (by omega), dT (by omega), dT (by omega), dT (by omega), rs_len, dT (by omega), dT (by omega), Int.toNat_natCast, ra, rb, up (n := l.length) (by omega) hl, ih2]
      simp only [aggC0, aggC1, datI]
      rw [cmpL, rgE]
      cases ((a.1 == b.1) && ((a.2 == b.2) && true)) <;> rfl

end Go.Proofs.YtpfnmjpccmobpaaDoor.V
