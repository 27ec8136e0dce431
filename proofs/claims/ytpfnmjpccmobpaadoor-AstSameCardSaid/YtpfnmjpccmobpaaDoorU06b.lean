/- AstSame: two trees are the same just if all of both is, but for where the nodes stand; moved along its pattern a tree stays the same. -/
import Derived.Test.YtpfnmjpccmobpaaDoorUTsm
import Derived.Test.YtpfnmjpccmobpaaDoorVULAstSame
import Derived.Test.YtpfnmjpccmobpaaDoorUA06
namespace Go.Proofs.YtpfnmjpccmobpaaDoor.V
open Go Go.Ev Go.RowKit
set_option linter.unusedVariables false
set_option linter.unusedSimpArgs false
theorem alike_E (a b : Nd) (ha : OkN a) : E C 36 [avN a, avN b] = some [.bool (sameN a b)] := by
  have h1 := ha.set
  have h2 := ha.kids
  apply o36
  unfold N36_1 N36_2 N36_3 N36_4 N36_5 N36_6 N36_7
  by_cases c1 : a.kind ≠ b.kind
  · rw [neT c1]; simp [sameN, numE, c1]
  replace c1 : a.kind = b.kind := Classical.byContradiction c1
  rw [neF c1]
  by_cases c2 : a.num ≠ b.num
  · rw [neT c2]; simp [sameN, numE, c2]
  replace c2 : a.num = b.num := Classical.byContradiction c2
  rw [neF c2]
  by_cases c3 : a.min ≠ b.min
  · rw [neT c3]; simp [sameN, numE, c3]
  replace c3 : a.min = b.min := Classical.byContradiction c3
  rw [neF c3]
  by_cases c4 : a.max ≠ b.max
  · rw [neT c4]; simp [sameN, numE, c4]
  replace c4 : a.max = b.max := Classical.byContradiction c4
  rw [neF c4]
  by_cases c5 : a.mode ≠ b.mode
  · rw [neT c5]; simp [sameN, numE, c5]
  replace c5 : a.mode = b.mode := Classical.byContradiction c5
  rw [neF c5]
  cases c6 : (a.name.toList == b.name.toList) with
  | false =>
    show some [Dat.bool false] = some [Dat.bool (sameN a b)]
    have : sameN a b = false := by unfold sameN strE; rw [c6, Bool.false_and, Bool.and_false]
    rw [this]
  | true =>
    rw [show (!true) = false from rfl, cF rfl, rs_len, rs_len, List.length_map, List.length_map]
    have hn : numE a b = true := by unfold numE; rw [c1, c2, c3, c4, c5]; simp
    by_cases c7 : a.set.length = b.set.length
    · rw [neF (by omega)]
      by_cases c8 : a.kids.length = b.kids.length
      · rw [neF (by omega)]
        have hs : sameN a b = (cmpL rgE a.set b.set && cmpL intE a.kids b.kids) := by
          unfold sameN strE eqL
          rw [c6, hn, decide_eq_true c7, decide_eq_true c8]
          rfl
        rw [hs]
        refine set_loop _ _ _ _ _ _ _ _ _ _ _ _ _ _ _ _ _ _ _ _ a b false _ a.set b.set (by omega) c7 rfl rfl ?_ a.set [] b.set [] rfl rfl rfl
        intro q1 q2
        rw [List.length_map]
        exact kids_loop _ _ _ _ _ _ _ _ _ _ _ _ _ _ _ _ _ _ _ _ a b false q1 q2 a.kids b.kids (by omega) c8 rfl rfl a.kids [] b.kids [] rfl rfl rfl
      · rw [neT (by omega)]
        have : sameN a b = false := by unfold sameN eqL; rw [decide_eq_false c8]; simp
        rw [this]
    · rw [neT (by omega)]
      have : sameN a b = false := by unfold sameN eqL; rw [decide_eq_false c7]; simp
      rw [this]
def mv (by_ : Int) (n : Nd) : Nd := { n with frm := by_, to := by_ }
theorem mv_same (by_ : Int) (n : Nd) : sameN n (mv by_ n) = true := by
  have h1 : ∀ l : List (Int × Int), cmpL rgE l l = true := fun l => by
    have := cmpL_refl (eq := rgE) (fun x => x) (fun x => by simp [rgE]) l
    rwa [List.map_id'] at this
  have h2 : ∀ l : List Int, cmpL intE l l = true := fun l => by
    have := cmpL_refl (eq := intE) (fun x => x) (fun x => by simp [intE]) l
    rwa [List.map_id'] at this
  simp [sameN, numE, strE, eqL, mv, h1, h2]
theorem moved_same {a : Tr} (by_ : Int) : sameT a ⟨a.ns.map (mv by_), a.groups, a.names⟩ = true := by
  have h1 : cmpL strE a.names a.names = true := by
    have := cmpL_refl (eq := strE) (fun x => x) (fun x => by simp [strE]) a.names
    rwa [List.map_id'] at this
  have h2 : cmpL sameN a.ns (a.ns.map (mv by_)) = true := cmpL_refl (mv by_) (mv_same by_) a.ns
  simp [sameT, eqL, h1, h2]
theorem cap120d : capB 120 = 1172812402961 := by decide
theorem loop3 {a b : Tr} (ha : OkT a) (hl : a.ns.length ≤ 100) (by_ : Int) (same : Bool) (hs : sameT a b = same) (x0 x2 y0 y2 : List Dat) (x1 y1 : Int) (v6 : Bool) (q1 q2 q3 q4 : Int) : ∀ (r p : List Nd), a.ns = p ++ r →
    M7_3 x0 x1 x2 y0 y1 y2 by_ (nsD a.ns) a.groups (a.names.map .str) (nsD b.ns) b.groups (b.names.map .str) v6 same (nsD (p.map (mv by_))) a.groups (a.names.map .str) q1 q2 q3 q4 (nsD a.ns) (a.ns.length : Int) (p.length : Int) = some [.bool true] := by
  intro r
  induction r with
  | nil =>
    intro p h1
    rw [List.append_nil] at h1
    apply M7_3_of
    have hm := Same_E a ⟨a.ns.map (mv by_), a.groups, a.names⟩ ha
    rw [show a.ns.length = p.length by rw [h1], dF (by omega), bT (Same_E a b ha), ← h1, show _ = _ from hm, moved_same by_, hs]
    simp
  | cons n r ih =>
    intro p h1
    have k1 : a.ns.length = p.length + (r.length + 1) := by rw [h1, List.length_append, List.length_cons]
    have ra := nd_at p n r
    rw [← h1] at ra
    have ih2 := ih (p ++ [n]) (by rw [h1, List.append_assoc]; rfl)
    have e : nsD (p.map (mv by_)) ++ [nodeD (mv by_ n)] = nsD ((p ++ [n]).map (mv by_)) := by simp [nsD]
    rw [List.length_append, List.length_cons, List.length_nil, ← e] at ih2
    apply M7_3_of
    rw [dT (by omega), nsD_len, ixT ⟨by omega, by omega⟩, Int.toNat_natCast, ra, nsD_len, List.length_map, cap120d, dT (by simp only [List.length_cons, List.length_nil]; omega), up (n := a.ns.length) (by omega) (by omega)]
    exact ih2
theorem loop2 {a b : Tr} (ha : OkT a) (hl : a.ns.length ≤ 100) (by_ : Int) (x0 x2 y0 y2 : List Dat) (x1 y1 : Int) (v6 : Bool) (q1 q2 : Int) : ∀ (d : Nat) (r1 p1 r2 p2 : List Nd) (v7 : Bool), r1.length ≤ d → a.ns = p1 ++ r1 → b.ns = p2 ++ r2 → p1.length = p2.length → sameT a b = (v7 && cmpL sameN r1 r2) →
    M7_2 x0 x1 x2 y0 y1 y2 by_ (nsD a.ns) a.groups (a.names.map .str) (nsD b.ns) b.groups (b.names.map .str) v6 v7 q1 q2 ((min b.ns.length a.ns.length : Nat) : Int) (p1.length : Int) = some [.bool true] := by
  intro d r1
  induction r1 generalizing d with
  | nil =>
    intro p1 r2 p2 v7 hd h1 h2 h3 hs
    rw [List.append_nil] at h1
    apply M7_2_of
    have hv : v7 = sameT a b := by rw [hs]; cases v7 <;> rfl
    rw [dF (by rw [h1]; omega), nsD_len]
    exact loop3 ha hl by_ v7 hv.symm x0 x2 y0 y2 x1 y1 v6 q1 q2 _ _ a.ns [] rfl
  | cons n1 r1 ih =>
    intro p1 r2 p2 v7 hd h1 h2 h3 hs
    have k1 : a.ns.length = p1.length + (r1.length + 1) := by rw [h1, List.length_append, List.length_cons]
    have k2 : b.ns.length = p2.length + r2.length := by rw [h2, List.length_append]
    cases r2 with
    | nil =>
      apply M7_2_of
      have hv : v7 = sameT a b := by rw [hs]; cases v7 <;> rfl
      simp only [List.length_nil] at k2
      rw [dF (by omega), nsD_len]
      exact loop3 ha hl by_ v7 hv.symm x0 x2 y0 y2 x1 y1 v6 q1 q2 _ _ a.ns [] rfl
    | cons n2 r2 =>
      rw [List.length_cons] at k2
      have ra := nd_at p1 n1 r1
      have rb := nd_at p2 n2 r2
      rw [← h1] at ra
      rw [← h2, ← h3] at rb
      have hrec := fun v hv => ih r1.length (p1 ++ [n1]) r2 (p2 ++ [n2]) v (Nat.le_refl _) (by rw [h1, List.append_assoc]; rfl) (by rw [h2, List.append_assoc]; rfl) (by simp [h3]) hv
      simp only [List.length_append, List.length_cons, List.length_nil] at hrec
      apply M7_2_of
      rw [dT (by omega), up (n := a.ns.length) (by omega) (by omega)]
      cases v7 with
      | false =>
        rw [cF rfl]
        exact hrec false (by rw [hs]; rfl)
      | true =>
        rw [cT rfl, nsD_len, nsD_len, dT (by omega), dT (by omega), dT (by omega), dT (by omega), dT (by omega), dT (by omega), Int.toNat_natCast, ra, rb]
        simp only [nd0, nd1, nd2, nd3, nd4, nd5, nd6, nd7, nd8, nd9, datI, datS, datL]
        rw [bT (alike_E n1 n2 (ha.nd n1 (by rw [h1]; simp)))]
        simp only [rd0, datB]
        exact hrec (sameN n1 n2) (by rw [hs, cmpL]; rfl)
theorem loop1 {a b : Tr} (ha : OkT a) (hl : a.ns.length ≤ 100) (by_ : Int) (x0 x2 y0 y2 : List Dat) (x1 y1 : Int) (v6 : Bool) : ∀ (r1 p1 r2 p2 : List ByteArray) (v7 : Bool), a.names = p1 ++ r1 → b.names = p2 ++ r2 → p1.length = p2.length → sameT a b = (v7 && cmpL strE r1 r2 && cmpL sameN a.ns b.ns) →
    M7_1 x0 x1 x2 y0 y1 y2 by_ (nsD a.ns) a.groups (a.names.map .str) (nsD b.ns) b.groups (b.names.map .str) v6 v7 ((min b.names.length a.names.length : Nat) : Int) (p1.length : Int) = some [.bool true] := by
  have hnm := ha.names
  have em : (if (b.ns.length : Int) < (a.ns.length : Int) then (b.ns.length : Int) else (a.ns.length : Int)) = ((min b.ns.length a.ns.length : Nat) : Int) := by split <;> omega
  intro r1
  induction r1 with
  | nil =>
    intro p1 r2 p2 v7 h1 h2 h3 hs
    rw [List.append_nil] at h1
    apply M7_1_of
    rw [dF (by rw [h1]; omega), nsD_len, nsD_len, em]
    exact loop2 ha hl by_ x0 x2 y0 y2 x1 y1 v6 _ _ a.ns.length a.ns [] b.ns [] v7 (Nat.le_refl _) rfl rfl rfl (by rw [hs]; cases v7 <;> rfl)
  | cons n1 r1 ih =>
    intro p1 r2 p2 v7 h1 h2 h3 hs
    have k1 : a.names.length = p1.length + (r1.length + 1) := by rw [h1, List.length_append, List.length_cons]
    have k2 : b.names.length = p2.length + r2.length := by rw [h2, List.length_append]
    cases r2 with
    | nil =>
      apply M7_1_of
      simp only [List.length_nil] at k2
      rw [dF (by omega), nsD_len, nsD_len, em]
      exact loop2 ha hl by_ x0 x2 y0 y2 x1 y1 v6 _ _ a.ns.length a.ns [] b.ns [] v7 (Nat.le_refl _) rfl rfl rfl (by rw [hs]; cases v7 <;> rfl)
    | cons n2 r2 =>
      rw [List.length_cons] at k2
      have ra := str_at p1 n1 r1
      have rb := str_at p2 n2 r2
      rw [← h1] at ra
      rw [← h2, ← h3] at rb
      have hrec := fun v hv => ih (p1 ++ [n1]) r2 (p2 ++ [n2]) v (by rw [h1, List.append_assoc]; rfl) (by rw [h2, List.append_assoc]; rfl) (by simp [h3]) hv
      simp only [List.length_append, List.length_cons, List.length_nil] at hrec
      apply M7_1_of
      rw [dT (by omega), up (n := a.names.length) (by omega) (by omega)]
      cases v7 with
      | false =>
        rw [cF rfl]
        exact hrec false (by rw [hs]; rfl)
      | true =>
        rw [cT rfl, List.length_map, List.length_map, dT (by omega), dT (by omega), dT (by omega), dT (by omega), dT (by omega), dT (by omega), Int.toNat_natCast, ra, rb]
        exact hrec (strE n1 n2) (by rw [hs, cmpL]; simp [Bool.and_assoc])
theorem AstSame_pure (e0 e1 e2 : Dat) (h0 : fitT C.T 9 33 e0) (h1 : fitT C.T 9 33 e1) (h2 : fitT C.T 9 3 e2) : E C 7 [.agg [.shr 57 (e0.C 0).L, .int .i64 (e0.C 1).I, .shr 9 (e0.C 2).L], .agg [.shr 57 (e1.C 0).L, .int .i64 (e1.C 1).I, .shr 9 (e1.C 2).L], .int .i64 e2.I] = some [.bool true] := by
  obtain ⟨a, rfl, ha⟩ := fit_tree h0
  obtain ⟨b, rfl, hb⟩ := fit_tree h1
  obtain ⟨by_, rfl, _⟩ := fit_i64 h2
  have em : (if (b.names.length : Int) < (a.names.length : Int) then (b.names.length : Int) else (a.names.length : Int)) = ((min b.names.length a.names.length : Nat) : Int) := by split <;> omega
  apply o7
  rw [bT anchor06_E]
  simp only [treeD, aggC0, aggC1, aggC2, rd0, datB, datI, datL]
  rw [nF rfl, nsD_len, nsD_len, List.length_map, List.length_map, em]
  by_cases g1 : (a.ns.length : Int) > 100
  · rw [dT g1]
  rw [dF g1]
  by_cases g2 : (b.ns.length : Int) > 100
  · rw [dT g2]
  rw [dF g2]
  have go := fun v hv => loop1 (a := a) (b := b) ha (by omega) by_ (nsD a.ns) (a.names.map .str) (nsD b.ns) (b.names.map .str) a.groups b.groups false a.names [] b.names [] v rfl rfl rfl hv
  by_cases c1 : a.groups = b.groups
  · rw [eT c1]
    by_cases c2 : a.names.length = b.names.length
    · rw [eT (by omega)]
      refine go _ ?_
      unfold sameT eqL
      rw [c1, decide_eq_true c2]
      by_cases c3 : a.ns.length = b.ns.length
      · rw [decide_eq_true c3, beq_iff_eq.2 (show (a.ns.length : Int) = (b.ns.length : Int) by omega)]; simp
      · rw [decide_eq_false c3, beq_eq_false_iff_ne.2 (show (a.ns.length : Int) ≠ (b.ns.length : Int) by omega)]; simp
    · rw [eF (by omega)]
      refine go false ?_
      unfold sameT eqL
      rw [decide_eq_false c2]
      simp
  · rw [eF c1]
    refine go false ?_
    unfold sameT
    rw [beq_eq_false_iff_ne.2 c1]
    rfl
end Go.Proofs.YtpfnmjpccmobpaaDoor.V
