/- What a node may be, but for its kids' numbers: the document's Alone. -/
import Derived.Test.YtlofoifcdmeopaaGreatDoorUTre
import Derived.Test.YtlofoifcdmeopaaGreatDoorVTR2
import Derived.Test.YtlofoifcdmeopaaGreatDoorVTAl
namespace Go.Proofs.YtlofoifcdmeopaaGreatDoor.V
open Go Go.Ev Go.RowKit
set_option linter.unusedVariables false
set_option linter.unusedSimpArgs false
theorem Least_loop (l : List (Int × Int)) (hl : l.length < 8796093022208) (hr : ∀ p, p ∈ l → i64P p.1 ∧ i64P p.2) (v2 : Bool) : ∀ (rest pre : List (Int × Int)), l = pre ++ rest →
    M102_1 (rs l) v2 (pre.length : Int) = some [.bool (leastF (pre.getLast?.map (·.2)) rest)] := by
  intro rest
  induction rest with
  | nil =>
    intro pre hx
    rw [List.append_nil] at hx
    subst hx
    apply M102_1_of
    rw [rs_len, dF (by omega)]
    rfl
  | cons p rest ih =>
    intro pre hx
    have hlen : l.length = pre.length + (rest.length + 1) := by rw [hx, List.length_append, List.length_cons]
    have hp : rd (rs l) pre.length = .agg [.int p.1, .int p.2] := by rw [hx]; exact rs_atL pre p rest
    have hpp := hr p (by rw [hx]; simp)
    have e1 : IntKind.i64.wrap ((pre.length : Int) + 1) = (((pre ++ [p]).length : Nat) : Int) := by rw [w64 (by omega) (by omega), List.length_append]; simp
    have hrec := ih (pre ++ [p]) (by rw [hx, List.append_assoc]; rfl)
    rw [List.getLast?_append] at hrec
    apply M102_1_of
    have c1 : ((pre.length : Int)) < (l.length : Int) := by omega
    have c0 : (0 : Int) ≤ (pre.length : Int) := by omega
    have c2 : pre.length < l.length := by omega
    rw [e1, hrec, rs_len, Int.toNat_natCast, hp]
    simp only [aggC0, aggC1, datI, decide_eq_true c0, decide_eq_true c1, decide_eq_true c2, cond_true]
    rw [leastF_cons]
    by_cases h1 : p.1 < 0
    · rw [dT h1, decide_eq_false (show ¬ 0 ≤ p.1 by omega)]; rfl
    rw [dF h1, decide_eq_true (show 0 ≤ p.1 by omega)]
    by_cases h2 : p.2 > 1114367
    · rw [dT h2, decide_eq_false (show ¬ p.2 ≤ 1114367 by omega)]; rfl
    rw [dF h2, decide_eq_true (show p.2 ≤ 1114367 by omega)]
    by_cases h3 : p.1 > p.2
    · rw [dT h3, decide_eq_false (show ¬ p.1 ≤ p.2 by omega)]; rfl
    rw [dF h3, decide_eq_true (show p.1 ≤ p.2 by omega)]
    rcases List.eq_nil_or_concat pre with rfl | ⟨pre, q, rfl⟩
    · rw [dF (by simp)]
      rfl
    · rw [List.concat_eq_append] at *
      have hq : rd (rs l) pre.length = .agg [.int q.1, .int q.2] := by
        rw [hx, List.append_assoc]
        exact rs_atL pre q (p :: rest)
      have e2 : IntKind.i64.wrap (((pre ++ [q]).length : Int) - 1) = (pre.length : Int) := by rw [w64 (by omega) (by omega), List.length_append]; simp
      have l2 : (pre ++ [q]).length = pre.length + 1 := by simp
      rw [dT (by omega), e2, Int.toNat_natCast, hq, dT (by omega), dT (by omega), dT (by omega)]
      simp only [aggC0, aggC1, datI]
      rw [w64 (n := p.1 - 1) (by have := hpp.1.1; omega) (by omega)]
      have e3 : (pre ++ [q]).getLast? = some q := by simp
      rw [e3]
      show _ = some [Dat.bool ((true && true && true && decide (q.2 < p.1 - 1)) && leastF (some p.2) rest)]
      by_cases h4 : p.1 - 1 ≤ q.2
      · rw [dT h4, decide_eq_false (show ¬ q.2 < p.1 - 1 by omega)]; rfl
      · rw [dF h4, decide_eq_true (show q.2 < p.1 - 1 by omega)]
        rfl
where
  rs_atL (pre : List (Int × Int)) (r : Int × Int) (rest : List (Int × Int)) : rd (rs (pre ++ r :: rest)) pre.length = .agg [.int r.1, .int r.2] := by
    rw [rs_rd _ _ (by simp)]
    simp
theorem Least_E (l : List (Int × Int)) (hl : l.length < 8796093022208) (hr : ∀ p, p ∈ l → i64P p.1 ∧ i64P p.2) : E C 102 [.shr 88 (rs l)] = some [.bool (leastB l)] := by
  apply o102
  exact Least_loop l hl hr false l [] rfl
def wi (x a b : Int) : Bool := decide (x ≥ a) && decide (x ≤ b)
theorem within6_E (x a b : Int) : E C 101 [.int .i64 x, .int .i64 a, .int .i64 b] = some [.bool (wi x a b)] := by
  apply o101
  unfold wi
  cases decide (x ≥ a) <;> rfl
def emptyS (s : ByteArray) : Bool := s.toList == ByteArray.empty.toList
def al8 (num k : Int) : Bool := bif k == 10 then wi num 1 4 else num == 0
def al7 (num k : Int) : Bool := bif k == 7 then wi num 1 99 else al8 num k
def al6 (num : Int) (name : ByteArray) (k : Int) : Bool := bif k == 4 then (wi num 1 99 || (num == 0 && !emptyS name)) else al7 num k
def al5 (num : Int) (name : ByteArray) (k : Int) : Bool := bif k == 3 then wi num 1 7 else al6 num name k
def al4 (num mi ma mode : Int) (name : ByteArray) (k : Int) : Bool := (mi == 0 && ma == 0 && !(mode != 0 && k != 4) && wi mode 0 1) && al5 num name k
def al3 (num mi ma mode : Int) (name : ByteArray) (k : Int) : Bool := bif k == 8 then (num == 0 && wi mode 0 1 && wi mi 0 1000 && (ma == -1 || (decide (ma ≥ mi) && wi ma 1 1000))) else al4 num mi ma mode name k
def kidsB (k kids : Int) : Bool := !(decide (k ≤ 4) && kids != 0) && !(k == 5 && !wi kids 2 4096) && !(k == 6 && !wi kids 2 4097) && !(decide (k ≥ 7) && kids != 1)
def namB (name : ByteArray) (set : List (Int × Int)) (k : Int) : Bool := !(!emptyS name && k != 7 && k != 4) && !(decide ((set.length : Int) > 0) && k != 2) && leastB set
def aloneB (n : Nd) : Bool := (wi n.kind 1 10 && !decide (n.frm < 0) && !decide (n.to < n.frm) && !decide (n.to > 4096) && !decide ((n.name.size : Int) > 32)) && (namB n.name n.set n.kind && (kidsB n.kind (n.kids.length : Int) && al3 n.num n.min n.max n.mode n.name n.kind))
theorem n8 (num k : Int) : N58_8 num k = some [.bool (al8 num k)] := by
  unfold N58_8 N58_9 al8
  simp only [within6_E, Option.bind_some, rd0, datB]
  cases k == 10 <;> rfl
theorem n7 (num k : Int) : N58_7 num k = some [.bool (al7 num k)] := by
  unfold N58_7 al7
  simp only [within6_E, Option.bind_some, rd0, datB, n8]
  cases k == 7 <;> rfl
theorem n6 (num : Int) (name : ByteArray) (k : Int) : N58_6 num name k = some [.bool (al6 num name k)] := by
  unfold N58_6 al6 emptyS
  simp only [within6_E, Option.bind_some, rd0, datB, n7]
  cases k == 4 <;> cases wi num 1 99 <;> cases num == 0 <;> rfl
theorem n5 (num : Int) (name : ByteArray) (k : Int) : N58_5 num name k = some [.bool (al5 num name k)] := by
  unfold N58_5 al5
  simp only [within6_E, Option.bind_some, rd0, datB, n6]
  cases k == 3 <;> rfl
theorem neq_not (a b : Int) : (a != b) = !(a == b) := rfl
theorem n4 (num mi ma mode : Int) (name : ByteArray) (k : Int) : N58_4 num mi ma mode name k = some [.bool (al4 num mi ma mode name k)] := by
  unfold N58_4 al4
  simp only [within6_E, Option.bind_some, rd0, datB, n5, neq_not]
  cases mi == 0 <;> cases ma == 0 <;> cases mode == 0 <;> cases k == 4 <;> cases wi mode 0 1 <;> rfl
theorem n3 (num mi ma mode : Int) (name : ByteArray) (k : Int) : N58_3 num mi ma mode name k = some [.bool (al3 num mi ma mode name k)] := by
  unfold N58_3 al3
  simp only [within6_E, Option.bind_some, rd0, datB, n4]
  cases k == 8 <;> cases num == 0 <;> cases wi mode 0 1 <;> cases wi mi 0 1000 <;> cases ma == -1 <;> cases decide (ma ≥ mi) <;> rfl
theorem n2 (num mi ma mode : Int) (name : ByteArray) (k kids : Int) : N58_2 num mi ma mode name k kids = some [.bool (kidsB k kids && al3 num mi ma mode name k)] := by
  unfold N58_2 kidsB
  simp only [within6_E, Option.bind_some, rd0, datB, n3, neq_not]
  cases decide (k ≤ 4) <;> cases kids == 0 <;> cases k == 5 <;> cases wi kids 2 4096 <;> cases k == 6 <;> cases wi kids 2 4097 <;> cases decide (k ≥ 7) <;> cases kids == 1 <;> rfl
theorem Alone_E (n : Nd) (hn : OkN n) : E C 58 [.agg [.int .i64 n.kind, .int .i64 n.frm, .int .i64 n.to, .int .i64 n.num, .int .i64 n.min, .int .i64 n.max, .int .i64 n.mode, .str n.name, .shr 88 (rs n.set), .shr 3 (n.kids.map .int)]] = some [.bool (aloneB n)] := by
  have hs := hn.set
  apply o58
  unfold N58_1 aloneB namB emptyS
  simp only [within6_E, Option.bind_some, rd0, datB, n2, neq_not, Least_E n.set (by omega) hn.rng, rs_len, List.length_map]
  generalize (kidsB n.kind (n.kids.length : Int) && al3 n.num n.min n.max n.mode n.name n.kind) = z
  cases wi n.kind 1 10 with
  | false => rfl
  | true =>
  cases decide (n.frm < 0) with
  | true => rfl
  | false =>
  cases decide (n.to < n.frm) with
  | true => rfl
  | false =>
  cases decide (n.to > 4096) with
  | true => rfl
  | false =>
  cases decide ((n.name.size : Int) > 32) with
  | true => rfl
  | false =>
  cases (n.name.toList == ByteArray.empty.toList) <;> cases n.kind == 7 <;> cases n.kind == 4 <;> cases decide ((n.set.length : Int) > 0) <;> cases n.kind == 2 <;> cases leastB n.set <;> rfl
end Go.Proofs.YtlofoifcdmeopaaGreatDoor.V
