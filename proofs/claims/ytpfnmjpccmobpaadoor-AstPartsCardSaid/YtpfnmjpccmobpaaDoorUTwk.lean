/- The program's own walk along a tree: it ends, and a tree that it takes is laid as it must be. -/
import Derived.Test.YtpfnmjpccmobpaaDoorUTen
import Derived.Test.YtpfnmjpccmobpaaDoorURsA
import Derived.Test.YtpfnmjpccmobpaaDoorVUAw
namespace Go.Proofs.YtpfnmjpccmobpaaDoor.V
open Go Go.Ev Go.RowKit
set_option linter.unusedVariables false
set_option linter.unusedSimpArgs false
def isB (r : R) : Prop := ∃ b : Bool, r = some [.bool b]
theorem isB_s (b : Bool) : isB (some [.bool b]) := ⟨b, rfl⟩
theorem isB_c {c : Bool} {x y : R} (hx : isB x) (hy : isB y) : isB (bif c then x else y) := by cases c; exact hy; exact hx
theorem isB_of {x y : R} (h : ∀ {r}, x = some r → y = some r) (hx : isB x) : isB y := by
  obtain ⟨b, hb⟩ := hx
  exact ⟨b, h hb⟩
theorem counted_E (n : Nd) : isB (E C 137 [.agg [.int .i64 n.kind, .int .i64 n.frm, .int .i64 n.to, .int .i64 n.num, .int .i64 n.min, .int .i64 n.max, .int .i64 n.mode, .str n.name, .shr 122 (rs n.set), .shr 3 (n.kids.map .int)]]) := by
  refine isB_of (fun h => o137 _ _ _ _ _ _ _ _ _ _ h) ?_
  repeat' first | exact isB_s _ | refine isB_c ?_ ?_
theorem alone_4 (n : Nd) (a b c d e : Int) (x y : Bool) : isB (N113_4 n.kind n.frm n.to n.num n.min n.max n.mode n.name (rs n.set) (n.kids.map .int) a b c d e x y) := by
  unfold N113_4
  obtain ⟨q, hq⟩ := counted_E n
  simp only [hq, Option.bind_some, rd0, datB]
  repeat' first | exact isB_s _ | refine isB_c ?_ ?_
theorem alone_3 (n : Nd) (hn : OkN n) (a b c d e : Int) (x : Bool) : isB (N113_3 n.kind n.frm n.to n.num n.min n.max n.mode n.name (rs n.set) (n.kids.map .int) a b c d e x) := by
  have hs := hn.set
  unfold N113_3
  simp only [Right_E n.set (by omega), Option.bind_some, rd0, datB]
  repeat' first | exact alone_4 n _ _ _ _ _ _ _ | refine isB_c ?_ ?_
theorem alone_2 (n : Nd) (hn : OkN n) (a b c d e : Int) : isB (N113_2 n.kind n.frm n.to n.num n.min n.max n.mode n.name (rs n.set) (n.kids.map .int) a b c d e) := by
  unfold N113_2
  repeat' first | exact alone_3 n hn _ _ _ _ _ _ | refine isB_c ?_ ?_
theorem rules_len : rulesL.length = 11 := rfl
theorem alone_E (n : Nd) (hn : OkN n) : isB (E C 113 [.agg [.int .i64 n.kind, .int .i64 n.frm, .int .i64 n.to, .int .i64 n.num, .int .i64 n.min, .int .i64 n.max, .int .i64 n.mode, .str n.name, .shr 122 (rs n.set), .shr 3 (n.kids.map .int)]]) := by
  have hs := hn.set
  refine isB_of (fun h => o113 _ _ _ _ _ _ _ _ _ _ h) ?_
  by_cases h1 : n.kind < 1
  · rw [dT h1]; exact isB_s _
  rw [dF h1]
  by_cases h2 : n.kind > 10
  · rw [dT h2]; exact isB_s _
  rw [dF h2]
  refine isB_c (isB_s _) (isB_c (isB_s _) (isB_c (isB_s _) ?_))
  unfold N113_1
  rw [dT (by omega), dT (by omega), dT (by rw [rules_len]; omega)]
  repeat' first | exact alone_2 n hn _ _ _ _ _ | refine isB_c ?_ ?_
abbrev avW (t : Tr) (a g : Int) (ok : Bool) : AV := .pbox [.shr 57 (nsD t.ns), .int .i64 t.groups, .shr 9 (t.names.map .str), .int .i64 a, .int .i64 g, .bool ok]
def wkD (t : Tr) (a g : Nat) (ok : Bool) : List Dat := [.agg [.list (nsD t.ns), .int t.groups, .list (t.names.map .str), .int (a : Int), .int (g : Int), .bool ok]]
def WkOk (t : Tr) (r : R) (a g : Nat) (ok : Bool) (want : Nat → Prop) : Prop := ∃ (a' g' : Nat) (ok' : Bool), r = some (wkD t a' g' ok') ∧ a ≤ a' ∧ a' ≤ t.ns.length ∧ g' ≤ a' ∧ (ok' = true → ok = true ∧ want a')
theorem WkOk.of {t : Tr} {x y : R} {a g : Nat} {ok : Bool} {want : Nat → Prop} (h : ∀ {r}, x = some r → y = some r) (hx : WkOk t x a g ok want) : WkOk t y a g ok want := by
  obtain ⟨a', g', ok', h1, h2⟩ := hx
  exact ⟨a', g', ok', h h1, h2⟩
theorem node_W {t : Tr} (ht : OkT t) : ∀ (d a g : Nat) (i frm to depth : Int) (ok : Bool), t.ns.length - a ≤ d → a ≤ t.ns.length → g ≤ a → 0 ≤ depth ∧ depth ≤ (t.ns.length : Int) + 1 →
    WkOk t (E C 75 [avW t (a : Int) (g : Int) ok, .int .i64 i, .int .i64 frm, .int .i64 to, .int .i64 depth]) a g ok (fun a' => i = (a : Int) ∧ a < t.ns.length ∧ ∀ f, t.ns.length < f + a → endK t.ns f a = some a') := by
  intro d
  have hns := ht.ns
  have hnm := ht.names
  induction d with
  | zero =>
    intro a g i frm to depth ok h1 h2 h3 h4
    refine WkOk.of (fun h => o75 _ _ _ _ _ _ _ _ _ _ h) ?_
    rw [nsD_len]
    have out : ∀ b : Bool, b = false → WkOk t (some (wkD t a g b)) a g ok (fun a' => i = (a : Int) ∧ a < t.ns.length ∧ ∀ f, t.ns.length < f + a → endK t.ns f a = some a') := fun b hb => ⟨a, g, b, rfl, Nat.le_refl _, h2, h3, fun e => by rw [hb] at e; cases e⟩
    cases ok with
    | false => exact out false rfl
    | true =>
      rw [cT rfl]
      by_cases c1 : i = (a : Int)
      · rw [eT c1, dT (by omega), dF (by omega)]; exact out false rfl
      · rw [eF c1]; exact out false rfl
  | succ d ih =>
    intro a g i frm to depth ok h1 h2 h3 h4
    refine WkOk.of (fun h => o75 _ _ _ _ _ _ _ _ _ _ h) ?_
    rw [nsD_len]
    have out : ∀ b : Bool, b = false → WkOk t (some (wkD t a g b)) a g ok (fun a' => i = (a : Int) ∧ a < t.ns.length ∧ ∀ f, t.ns.length < f + a → endK t.ns f a = some a') := fun b hb => ⟨a, g, b, rfl, Nat.le_refl _, h2, h3, fun e => by rw [hb] at e; cases e⟩
    cases ok with
    | false => exact out false rfl
    | true =>
      rw [cT rfl]
      by_cases c1 : i = (a : Int)
      · by_cases c2 : a < t.ns.length
        · rw [eT c1, dT (by omega), dT (by omega)]
          by_cases c3 : depth ≤ (t.ns.length : Int)
          · rw [decide_eq_true c3, nF rfl]
            subst c1
            have hn : OkN t.ns[a] := ht.nd _ (List.getElem_mem c2)
            have hkl := hn.kids
            rw [dT (by omega), dT (by omega), dT (by omega), Int.toNat_natCast, nsD_rd c2]
            simp only [nd0, nd1, nd2, nd3, nd4, nd5, nd6, nd7, nd8, nd9, datI, datS, datL, List.length_map]
            obtain ⟨q, hq⟩ := alone_E t.ns[a] hn
            rw [hq]
            simp only [Option.bind_some, rd0, datB]
            have e1 : IntKind.i64.wrap ((a : Int) + 1) = ((a + 1 : Nat) : Int) := by rw [w64 (by omega) (by omega)]; omega
            have e2 : IntKind.i64.wrap ((g : Int) + 1) = ((g + 1 : Nat) : Int) := by rw [w64 (by omega) (by omega)]; omega
            rw [e1, e2]
            have loop : ∀ (rest pre : List Int) (a1 g1 : Nat) (ok1 : Bool), t.ns[a].kids = pre ++ rest → a + 1 ≤ a1 → a1 ≤ t.ns.length → g1 ≤ a1 →
                WkOk t (M75_1 (nsD t.ns) t.groups (t.names.map .str) (a1 : Int) (g1 : Int) ok1 (a : Int) frm to depth t.ns[a].kind t.ns[a].frm t.ns[a].to t.ns[a].num t.ns[a].min t.ns[a].max t.ns[a].mode t.ns[a].name (rs t.ns[a].set) (t.ns[a].kids.map .int) (t.ns[a].kids.map .int) (t.ns[a].kids.length : Int) (pre.length : Int)) a1 g1 ok1 (fun a' => ∀ f, t.ns.length < f + (a + 1) → walkK (endK t.ns f) rest a1 = some a') := by
              intro rest
              induction rest with
              | nil =>
                intro pre a1 g1 ok1 hx k1 k2 k3
                rw [List.append_nil] at hx
                refine WkOk.of (fun h => M75_1_of _ _ _ _ _ _ _ _ _ _ _ _ _ _ _ _ _ _ _ _ _ _ _ h) ?_
                rw [hx, dF (by omega)]
                exact ⟨a1, g1, ok1, rfl, Nat.le_refl _, k2, k3, fun e => ⟨e, fun f _ => rfl⟩⟩
              | cons k rest ihr =>
                intro pre a1 g1 ok1 hx k1 k2 k3
                have hlen : t.ns[a].kids.length = pre.length + (rest.length + 1) := by rw [hx, List.length_append, List.length_cons]
                have hk : (rd (t.ns[a].kids.map Dat.int) pre.length).I = k := by rw [hx, rdI]; simp
                have e3 : IntKind.i64.wrap ((pre.length : Int) + 1) = (((pre ++ [k]).length : Nat) : Int) := by rw [w64 (by omega) (by omega), List.length_append]; simp
                have e4 : IntKind.i64.wrap (depth + 1) = depth + 1 := w64 (by omega) (by omega)
                refine WkOk.of (fun h => M75_1_of _ _ _ _ _ _ _ _ _ _ _ _ _ _ _ _ _ _ _ _ _ _ _ h) ?_
                rw [dT (by omega), List.length_map, ixT ⟨by omega, by omega⟩, Int.toNat_natCast, hk, e3, e4]
                obtain ⟨a2, g2, ok2, j1, j2, j3, j4, j5⟩ := ih a1 g1 k t.ns[a].frm t.ns[a].to (depth + 1) ok1 (by omega) k2 k3 ⟨by omega, by omega⟩
                rw [j1]
                simp only [Option.bind_some, wkD, rd0, aggC0, aggC1, aggC2, aggC3, aggC4, aggC5, datL, datI, datB]
                obtain ⟨a3, g3, ok3, m1, m2, m3, m4, m5⟩ := ihr (pre ++ [k]) a2 g2 ok2 (by rw [hx, List.append_assoc]; rfl) (by omega) j3 j4
                refine ⟨a3, g3, ok3, m1, by omega, m3, m4, fun e => ?_⟩
                obtain ⟨n1, n2⟩ := m5 e
                obtain ⟨n3, n4, n5, n6⟩ := j5 n1
                refine ⟨n3, fun f hf => ?_⟩
                unfold walkK
                rw [if_neg (by simpa using n4), n6 f (by omega)]
                exact n2 f hf
            have fin : ∀ (g1 : Nat) (ok1 : Bool), g1 ≤ a + 1 → WkOk t (M75_1 (nsD t.ns) t.groups (t.names.map .str) ((a + 1 : Nat) : Int) (g1 : Int) ok1 (a : Int) frm to depth t.ns[a].kind t.ns[a].frm t.ns[a].to t.ns[a].num t.ns[a].min t.ns[a].max t.ns[a].mode t.ns[a].name (rs t.ns[a].set) (t.ns[a].kids.map .int) (t.ns[a].kids.map .int) (t.ns[a].kids.length : Int) 0) a g true (fun a' => True ∧ a < t.ns.length ∧ ∀ f, t.ns.length < f + a → endK t.ns f a = some a') := by
              intro g1 ok1 hg1
              obtain ⟨a3, g3, ok3, m1, m2, m3, m4, m5⟩ := loop t.ns[a].kids [] (a + 1) g1 ok1 rfl (Nat.le_refl _) c2 hg1
              refine ⟨a3, g3, ok3, m1, by omega, m3, m4, fun e => ⟨rfl, trivial, c2, fun f hf => ?_⟩⟩
              cases f with
              | zero => omega
              | succ f =>
                unfold endK
                rw [List.getElem?_eq_getElem c2]
                exact (m5 e).2 f (by omega)
            have pick : ∀ {c : Bool} {x y : R}, WkOk t x a g true (fun a' => True ∧ a < t.ns.length ∧ ∀ f, t.ns.length < f + a → endK t.ns f a = some a') → WkOk t y a g true (fun a' => True ∧ a < t.ns.length ∧ ∀ f, t.ns.length < f + a → endK t.ns f a = some a') → WkOk t (bif c then x else y) a g true (fun a' => True ∧ a < t.ns.length ∧ ∀ f, t.ns.length < f + a → endK t.ns f a = some a') := by
              intro c x y hx hy
              cases c
              · exact hy
              · exact hx
            by_cases hgn : ((g + 1 : Nat) : Int) < (t.names.length : Int)
            · rw [dT hgn, dT (show (0 : Int) ≤ ((g + 1 : Nat) : Int) by omega), dT hgn, dT (show ((g + 1 : Nat) : Int).toNat < t.names.length by omega)]
              repeat' first | exact fin _ _ (by omega) | refine pick ?_ ?_
            · rw [dF hgn]
              repeat' first | exact fin _ _ (by omega) | refine pick ?_ ?_
          · rw [decide_eq_false c3, nT rfl]; exact out false rfl
        · rw [eT c1, dT (by omega), dF (by omega)]; exact out false rfl
      · rw [eF c1]; exact out false rfl
theorem Right6_E {t : Tr} (ht : OkT t) : ∃ b : Bool, E C 29 [.agg [.shr 57 (nsD t.ns), .int .i64 t.groups, .shr 9 (t.names.map .str)]] = some [.bool b] ∧ (b = true → Laid t) := by
  have hns := ht.ns
  have hnm := ht.names
  have hg := ht.groups
  obtain ⟨a', g', ok', h1, h2, h3, h4, h5⟩ := node_W ht t.ns.length 0 0 0 0 4096 0 true (by omega) (by omega) (by omega) ⟨by omega, by omega⟩
  have e0 : E C 75 [avW t 0 0 true, .int .i64 0, .int .i64 0, .int .i64 4096, .int .i64 0] = some (wkD t a' g' ok') := h1
  have key : ∀ b : Bool, (b = true → ok' = true ∧ (a' : Int) = (t.ns.length : Int)) → (b = true → Laid t) := fun b hb e => by
    obtain ⟨k1, k2⟩ := hb e
    obtain ⟨_, _, _, k3⟩ := h5 k1
    refine ⟨?_⟩
    rw [k3 (t.ns.length + 1) (by omega), show a' = t.ns.length by omega]
  cases ok' with
  | false =>
    refine ⟨false, ?_, fun e => by cases e⟩
    apply o29
    rw [e0]
    rfl
  | true =>
    by_cases c1 : (a' : Int) = (t.ns.length : Int)
    · by_cases c2 : (g' : Int) = t.groups
      · by_cases c3 : (t.names.length : Int) = IntKind.i64.wrap (t.groups + 1)
        · have hpos : 0 < t.names.length := by
            rw [← c2, w64 (by omega) (by omega)] at c3
            omega
          refine ⟨((rd (t.names.map Dat.str) 0).S.toList == ByteArray.empty.toList), ?_, key _ (fun _ => ⟨rfl, c1⟩)⟩
          apply o29
          rw [e0]
          simp only [Option.bind_some, wkD, rd0, aggC3, aggC4, aggC5, datI, datB, nsD_len, List.length_map]
          rw [cT rfl, eT c1, eT c2, eT c3, dT (by omega), dT hpos]
        · refine ⟨false, ?_, fun e => by cases e⟩
          apply o29
          rw [e0]
          simp only [Option.bind_some, wkD, rd0, aggC3, aggC4, aggC5, datI, datB, nsD_len, List.length_map]
          rw [cT rfl, eT c1, eT c2, eF c3]
      · refine ⟨false, ?_, fun e => by cases e⟩
        apply o29
        rw [e0]
        simp only [Option.bind_some, wkD, rd0, aggC3, aggC4, aggC5, datI, datB, nsD_len, List.length_map]
        rw [cT rfl, eT c1, eF c2]
    · refine ⟨false, ?_, fun e => by cases e⟩
      apply o29
      rw [e0]
      simp only [Option.bind_some, wkD, rd0, aggC3, aggC4, aggC5, datI, datB, nsD_len, List.length_map]
      rw [cT rfl, eF c1]
end Go.Proofs.YtpfnmjpccmobpaaDoor.V
