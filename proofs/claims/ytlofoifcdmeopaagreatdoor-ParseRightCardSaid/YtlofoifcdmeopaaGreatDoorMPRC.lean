/- A reader of loaded functions over plain data, and its soundness: part 3.  DERIVED: THE SHELF's CONTRACTS AT THIS DUMP, IN PLAIN WORDS (tools/lay-plain.mjs out of 'YtlofoifcdmeopaaGreatDoorLayDecScr.lean', which tools/lay-shelf.mjs wrote): THE SAME DECLARATIONS UNDER THE SAME NAMES: 'import', 'namespace', 'open', 'def', 'theorem' AND NOTHING ELSE: no command of the shelf's: FOR A HAND-IN. Each laying: the table of numbers ('.._ren') and one theorem, a field a fact of the dump's own or the kernel's comparison; each contract: ONE APPLICATION. utf8.DecodeRune as a function that is given; what the tables hold. What the listed tables say of the world. Words for chapters that read patterns: arguments as plain data, bytes at places. Told functions: what each answers, as plain trees; written by a program of this session (tell.py). Told functions: what each answers, as plain trees; written by a program of this session (tell.py). Package scan's small readers, and the document's: bytes at places, blanks, names. Told functions: what each answers, as plain trees; written by a program of this session (tell.py). -/
import Derived.Test.YtlofoifcdmeopaaGreatDoorMPRB
import Derived.Scope
import Derived.Laws.Externs
import Derived.ChangeSlices
import Derived.SizedLaws
import Derived.DataElems
import Derived.DataReads
import Derived.Below
import Derived.Stop.Joined
import Derived.Shelf.Spec.DecodeRune
import Derived.IntWalk
import Derived.Lib.LaidU8
import Derived.Lib.IndexMore
import Derived.Lib.ItoaNum
import Derived.HandedShaped
import Derived.Shelf.Vars
import Derived.Test.YtlofoifcdmeopaaGreatDoorProg
import Derived.KernelRfl
import Derived.Ground.Names7Prog
import Derived.Shelf.Unicode.DecodeSlow
import Derived.Test.YtlofoifcdmeopaaGreatDoorTie
import Derived.PinnedBridge
import Derived.Lib.LaidU8T
import Derived.Lib.LaidTab
import Derived.ProofKit
import Derived.Lay
import Derived.LaidOnce
import Derived.SevenTiedAt
/- Regions that draw their order. -/
namespace Go.Ev
open Go
set_option linter.unusedVariables false
set_option linter.unusedSimpArgs false
variable {cf : CF} {P : Program} {C : Ctx} {S : Frm} {w w' : World} {St St' : Nat → Prop} {H H' : Gh} {F : Nat → List Nat} {E E' E1 E2 : Env} {A f fd : List Nat} {o : Oper} {a : Act}
theorem set_same {g : Nat} {v : AV} (hg : geti E g = v) (hv : v ≠ .und) : E.set g v = E := by
  have hl : g < E.length := slot_lt (by rw [hg]; exact hv)
  apply List.ext_getElem?
  intro i
  rw [List.getElem?_set]
  by_cases h : g = i
  · subst h
    rw [if_pos rfl, if_pos hl]
    have : E[g]? = some (geti E g) := by simp only [geti, List.getD_eq_getElem?_getD, List.getElem?_eq_getElem hl, Option.getD_some]
    rw [this, hg]
  · rw [if_neg h]
theorem env_ext (hl : E1.length = E2.length) (h : ∀ s, geti E1 s = geti E2 s) : E1 = E2 := by
  apply List.ext_getElem?
  intro i
  by_cases hi : i < E1.length
  · have h1 := h i
    simp only [geti, List.getD_eq_getElem?_getD, List.getElem?_eq_getElem hi, List.getElem?_eq_getElem (hl ▸ hi), Option.getD_some] at h1
    rw [List.getElem?_eq_getElem hi, List.getElem?_eq_getElem (hl ▸ hi), h1]
  · rw [List.getElem?_eq_none (by omega), List.getElem?_eq_none (by omega)]
def guardL (ops : List Oper) (o : Oper) : List Nat :=
  match o.guard with
  | none => []
  | some (j, _) => (gslot ops j).toList
/-- One operation of a region, with what it looks at, what it puts, and what it looks at for being a box. -/
def stepX (C : Ctx) (cf : CF) (ops : List Oper) (o : Oper) (E : Env) : Option (Env × List Nat × List Nat × List Nat) :=
  (guardE ops o E).bind fun q => bif q.2 then (match kindMv o E with
    | some (s, d) => some (E.set d (.ref s 0), guardL ops o, [d], [s])
    | none => ((evOp C o).execL cf E (guardL ops o) []).map fun p => (p.2.1, p.2.2.1, p.2.2.2, [])) else (skipD o E).map fun E1 => (E1, guardL ops o, o.dst.toList, [])
theorem stepL_eq (ops : List Oper) (o : Oper) (E : Env) (K : Env → List Nat → List Nat → List Nat → R) : stepL C cf ops o E K = (stepX C cf ops o E).bind fun p => K p.1 p.2.1 p.2.2.1 p.2.2.2 := by
  have hr : ∀ (E : Env) (r : List Nat), runX C cf o E r K = (match kindMv o E with
    | some (s, d) => some (E.set d (.ref s 0), r, [d], [s])
    | none => (((evOp C o).execL cf E r []).map fun p => (p.2.1, p.2.2.1, p.2.2.2, [])) : Option (Env × List Nat × List Nat × List Nat)).bind fun p => K p.1 p.2.1 p.2.2.1 p.2.2.2 := fun E r => by
    unfold runX
    cases kindMv o E with
    | some sd => rfl
    | none =>
      simp only
      rw [Prg.runL_eq]
      cases (evOp C o).execL cf E r [] <;> rfl
  have hs : ∀ (E : Env) (g : List Nat), ((skipD o E).bind fun E => K E g o.dst.toList []) = (((skipD o E).map fun E1 => (E1, g, o.dst.toList, [])) : Option (Env × List Nat × List Nat × List Nat)).bind fun p => K p.1 p.2.1 p.2.2.1 p.2.2.2 := fun E g => by
    cases skipD o E <;> rfl
  unfold stepL stepX guardE guardL
  cases ho : o.guard with
  | none => simp only [Option.bind_some, cond_true]; exact hr E []
  | some jw =>
    obtain ⟨j, want⟩ := jw
    simp only
    cases hg : gslot ops j with
    | none => rfl
    | some g =>
      simp only
      cases hv : geti E g <;> simp only [Option.bind_none, Option.bind_some, Option.toList_some]
      case bool c =>
        have hset := set_same hv (by simp)
        cases c <;> cases want <;> simp only [cond_true, cond_false, hset] <;> first | exact hr E [g] | exact hs E [g]
      case skp => exact hs E [g]
theorem kindMv_spec {s d : Nat} (h : kindMv o E = some (s, d)) : isBox (geti E s) = true ∧ (o.op = .move (.tmp s) ∨ o.op = .assign (.tmp s)) ∧ o.dst = some d := by
  unfold kindMv at h
  split at h
  · rename_i s' d' h1 h2
    cases hb : isBox (geti E s') with
    | false => rw [hb] at h; cases h
    | true =>
      rw [hb] at h
      simp only [cond_true, Option.some.injEq, Prod.mk.injEq] at h
      obtain ⟨rfl, rfl⟩ := h
      exact ⟨hb, .inl h1, h2⟩
  · rename_i s' d' h1 h2
    cases hb : isBox (geti E s') with
    | false => rw [hb] at h; cases h
    | true =>
      rw [hb] at h
      simp only [cond_true, Option.some.injEq, Prod.mk.injEq] at h
      obtain ⟨rfl, rfl⟩ := h
      exact ⟨hb, .inr h1, h2⟩
  · cases h
theorem kindMv_exec {s d : Nat} (h : kindMv o E = some (s, d)) : (evOp C o).exec cf E = some ((), E.set d (.ref s 0)) := by
  obtain ⟨h1, h2, h3⟩ := kindMv_spec h
  have hop : (opS s).exec cf E = some (.ref s 0, E) := by
    simp only [opS, Prg.exec]
    cases hv : geti E s <;> rw [hv] at h1 <;> first | (simp [isBox] at h1; done) | rfl
  rcases h2 with h2 | h2
  · simp only [evOp, h2, evMove, h3, Prg.exec]
    cases hv : geti E s <;> rw [hv] at h1 <;> first | (simp [isBox] at h1; done) | skip
    all_goals
      simp only []
      rw [Prg.exec_bind, hop]
      rfl
  · simp only [evOp, h2, evAssign, h3, opd]
    rw [Prg.exec_bind, hop]
    rfl
/-- A move that looks at its slot looks at it. -/
theorem kindMv_reads {s d : Nat} {g r wr : List Nat} {u : Unit} (h2 : o.op = .move (.tmp s) ∨ o.op = .assign (.tmp s)) (h3 : o.dst = some d) (hx : (evOp C o).execL cf E g [] = some (u, E1, r, wr)) : s ∈ r := by
  have key : ∀ (k : AV → Prg Unit), (Prg.get s k).execL cf E g [] = some (u, E1, r, wr) → s ∈ r := fun k hk => by
    simp only [Prg.execL] at hk
    obtain ⟨_, _, _, _, _, _, _, k7⟩ := Prg.execL_local (k (geti E s)) E E (s :: g) [] u E1 r wr hk rfl (fun _ _ _ => rfl) (fun _ hs => by cases hs)
    exact k7 s List.mem_cons_self
  rcases h2 with h2 | h2
  · simp only [evOp, h2, evMove, h3] at hx
    exact key _ hx
  · simp only [evOp, h2, evAssign, h3, opd, opS, Prg.bind] at hx
    exact key _ hx
theorem stepX_spec {ops : List Oper} {l : List Nat × List Nat × List Nat} (h : stepX C cf ops o E = some (E1, l)) : (∃ q, guardE ops o E = some q ∧ if q.2 = true then ∃ u, (evOp C o).exec cf E = some (u, E1) else skipD o E = some E1) ∧ ∀ s, s ∈ l.2.2 → isBox (geti E s) = true := by
  unfold stepX at h
  cases hg : guardE ops o E with
  | none => simp [hg] at h
  | some q =>
    simp only [hg, Option.bind_some] at h
    cases hq : q.2 with
    | true =>
      simp only [hq, cond_true] at h
      cases hk : kindMv o E with
      | some sd =>
        obtain ⟨s, d⟩ := sd
        simp only [hk, Option.some.injEq, Prod.mk.injEq] at h
        obtain ⟨rfl, rfl⟩ := h
        refine ⟨⟨q, rfl, ?_⟩, fun x hx => ?_⟩
        · rw [hq, if_pos rfl]
          exact ⟨_, kindMv_exec hk⟩
        · have : x = s := by simpa using hx
          rw [this]
          exact (kindMv_spec hk).1
      | none =>
        simp only [hk] at h
        cases hx : (evOp C o).execL cf E (guardL ops o) [] with
        | none => simp [hx] at h
        | some p =>
          simp only [hx, Option.map_some, Option.some.injEq, Prod.mk.injEq] at h
          obtain ⟨h1, rfl⟩ := h
          refine ⟨⟨q, rfl, ?_⟩, fun x hx => by cases hx⟩
          rw [hq, if_pos rfl]
          refine ⟨p.1, ?_⟩
          rw [Prg.exec_of_execL _ _ (guardL ops o) [], hx, Option.map_some, h1]
    | false =>
      simp only [hq, cond_false] at h
      cases hx : skipD o E with
      | none => simp [hx] at h
      | some p =>
        simp only [hx, Option.map_some, Option.some.injEq, Prod.mk.injEq] at h
        obtain ⟨h1, rfl⟩ := h
        refine ⟨⟨q, rfl, ?_⟩, fun x hx => by cases hx⟩
        rw [hq]
        simp only [Bool.false_eq_true, if_false]
        rw [h1]
/-- Slots that it looks at being alike, it does alike. -/
theorem stepX_local {ops : List Oper} {r wr rk : List Nat} (h : stepX C cf ops o E = some (E1, r, wr, rk)) (hl : E2.length = E.length) (hr : ∀ s, s ∈ r → geti E2 s = geti E s) (hk2 : ∀ s, s ∈ rk → isBox (geti E2 s) = true) :
    ∃ E3, stepX C cf ops o E2 = some (E3, r, wr, rk) ∧ E3.length = E2.length ∧ E1.length = E.length ∧ (∀ s, s ∈ wr → geti E3 s = geti E1 s) ∧ (∀ s, s ∉ wr → geti E3 s = geti E2 s ∧ geti E1 s = geti E s) := by
  unfold stepX at h ⊢
  cases hg : guardE ops o E with
  | none => simp [hg] at h
  | some q =>
    simp only [hg, Option.bind_some] at h
    have hgl : (∀ s, s ∈ guardL ops o → s ∈ r) → guardE ops o E2 = some q := fun hsub => by
      rw [← hg]
      unfold guardE
      unfold guardL at hsub
      cases ho : o.guard with
      | none => rfl
      | some jw =>
        obtain ⟨j, want⟩ := jw
        simp only [ho] at hsub ⊢
        cases hgs : gslot ops j with
        | none => rfl
        | some g =>
          simp only [hgs, Option.toList_some] at hsub ⊢
          rw [hr g (hsub g (List.mem_singleton_self g))]
    have setd : ∀ (d : Nat) (v : AV), (E2.set d v).length = E2.length ∧ (E.set d v).length = E.length ∧ (∀ s, s ∈ [d] → geti (E2.set d v) s = geti (E.set d v) s) ∧ (∀ s, s ∉ [d] → geti (E2.set d v) s = geti E2 s ∧ geti (E.set d v) s = geti E s) := fun d v => by
      refine ⟨by simp, by simp, fun s hs => ?_, fun s hs => ?_⟩
      · have : s = d := by simpa using hs
        subst this
        rw [geti_set, geti_set, hl]
        by_cases hlt : s < E.length
        · rw [if_pos ⟨rfl, hlt⟩, if_pos ⟨rfl, hlt⟩]
        · rw [if_neg (fun q => hlt q.2), if_neg (fun q => hlt q.2), geti_ge (by omega), geti_ge (by omega)]
      · have : s ≠ d := by simpa using hs
        rw [geti_set, geti_set, if_neg (fun q => this q.1), if_neg (fun q => this q.1)]
        exact ⟨rfl, rfl⟩
    cases hq : q.2 with
    | true =>
      simp only [hq, cond_true] at h
      cases hk : kindMv o E with
      | some sd =>
        obtain ⟨s, d⟩ := sd
        simp only [hk, Option.some.injEq, Prod.mk.injEq] at h
        obtain ⟨rfl, rfl, rfl, rfl⟩ := h
        have hk' : kindMv o E2 = some (s, d) := by
          obtain ⟨_, h2, h3⟩ := kindMv_spec hk
          have hb := hk2 s (List.mem_singleton_self s)
          unfold kindMv
          rcases h2 with h2 | h2 <;> rw [h2, h3] <;> simp only [hb, cond_true]
        rw [hgl (fun _ h => h)]
        simp only [Option.bind_some, hq, cond_true, hk']
        obtain ⟨e1, e2, e3, e4⟩ := setd d (.ref s 0)
        exact ⟨_, rfl, e1, e2, e3, e4⟩
      | none =>
        simp only [hk] at h
        cases hx : (evOp C o).execL cf E (guardL ops o) [] with
        | none => simp [hx] at h
        | some p =>
          simp only [hx, Option.map_some, Option.some.injEq, Prod.mk.injEq] at h
          obtain ⟨u, E1', r', w'⟩ := p
          simp only at h
          obtain ⟨rfl, rfl, rfl, rfl⟩ := h
          obtain ⟨E3, k1, k2, k3, k4, k5, k6, k7⟩ := Prg.execL_local (evOp C o) E E2 (guardL ops o) [] u E1' r' w' hx hl (fun s hs _ => hr s hs) (fun s hs => by cases hs)
          have hk' : kindMv o E2 = none := by
            cases hk' : kindMv o E2 with
            | none => rfl
            | some sd =>
              obtain ⟨s, d⟩ := sd
              obtain ⟨h1, h2, h3⟩ := kindMv_spec hk'
              have hs := hr s (kindMv_reads h2 h3 hx)
              exfalso
              rw [hs] at h1
              have : kindMv o E = some (s, d) := by
                unfold kindMv
                rcases h2 with h2 | h2 <;> rw [h2, h3] <;> simp only [h1, cond_true]
              rw [hk] at this
              cases this
          refine ⟨E3, ?_, k2, k3, k4, k5⟩
          rw [hgl k7]
          simp only [Option.bind_some, hq, cond_true, hk', k1, Option.map_some]
    | false =>
      simp only [hq, cond_false] at h
      cases hx : skipD o E with
      | none => simp [hx] at h
      | some p =>
        simp only [hx, Option.map_some, Option.some.injEq, Prod.mk.injEq] at h
        obtain ⟨rfl, rfl, rfl, rfl⟩ := h
        rw [hgl (fun _ h => h)]
        simp only [Option.bind_some, hq, cond_false]
        unfold skipD at hx ⊢
        cases hd : o.dst with
        | none =>
          simp only [hd, Option.some.injEq] at hx ⊢
          subst hx
          exact ⟨E2, rfl, rfl, rfl, fun s hs => by simp at hs, fun s _ => ⟨rfl, rfl⟩⟩
        | some d =>
          simp only [hd, Option.some.injEq] at hx ⊢
          subst hx
          obtain ⟨e1, e2, e3, e4⟩ := setd d .skp
          exact ⟨_, rfl, e1, e2, e3, e4⟩
abbrev Lg := Nat × Oper × Log
inductive Run (C : Ctx) (cf : CF) (ops : List Oper) : List Lg → Env → Env → Prop
  | nil (E : Env) : Run C cf ops [] E E
  | cons {i : Nat} {o : Oper} {r wr rk wb : List Nat} {l : List Lg} {E E1 E2 : Env} (h : stepX C cf ops o E = some (E1, r, wr, rk)) (hb : ∀ s, s ∈ wb → s ∈ wr ∧ isBox (geti E s) = true ∧ isBox (geti E1 s) = true) (t : Run C cf ops l E1 E2) : Run C cf ops ((i, o, r, wr, rk, wb) :: l) E E2
structure Apart (x y : Lg) : Prop where
  wr : ∀ s, s ∈ x.2.2.2.1 → s ∉ y.2.2.1
  ww : ∀ s, s ∈ x.2.2.2.1 → s ∉ y.2.2.2.1
  rw' : ∀ s, s ∈ x.2.2.1 → s ∉ y.2.2.2.1
  kx : ∀ s, s ∈ y.2.2.2.2.1 → s ∈ x.2.2.2.1 → s ∈ x.2.2.2.2.2
  ky : ∀ s, s ∈ x.2.2.2.2.1 → s ∈ y.2.2.2.1 → s ∈ y.2.2.2.2.2
theorem apartL_ok {r wr r' wr' : List Nat} (h : apartL r wr r' wr' = true) : (∀ s, s ∈ wr → s ∉ r') ∧ (∀ s, s ∈ wr → s ∉ wr') ∧ (∀ s, s ∈ r → s ∉ wr') := by
  have hi : ∀ {a b : List Nat}, inter a b = false → ∀ s, s ∈ a → s ∉ b := fun {a b} hi s hs hb => by
    unfold inter at hi
    rw [List.any_eq_false] at hi
    exact hi s hs (by simpa using hb)
  unfold apartL at h
  simp only [Bool.and_eq_true, Bool.not_eq_true'] at h
  exact ⟨hi h.1.1, hi h.1.2, hi h.2⟩
theorem kindB_ok {rk w wb : List Nat} (h : kindB rk w wb = true) : ∀ s, s ∈ rk → s ∈ w → s ∈ wb := fun s h1 h2 => by
  unfold kindB at h
  rw [List.all_eq_true] at h
  have := h s h1
  simp only [Bool.or_eq_true, Bool.not_eq_true', List.contains_iff_mem] at this
  rcases this with this | this
  · rw [← Bool.not_eq_true, List.contains_iff_mem] at this
    exact absurd h2 this
  · exact this
theorem apartK_ok {i j : Nat} {o o' : Oper} {x y : Log} (h : apartK x y = true) : Apart (i, o, x) (j, o', y) := by
  unfold apartK at h
  rw [Bool.and_eq_true, Bool.and_eq_true] at h
  obtain ⟨h1, h2, h3⟩ := apartL_ok h.1.1
  exact ⟨h1, h2, h3, kindB_ok h.1.2, kindB_ok h.2⟩
theorem Run.swap {ops : List Oper} {x y : Lg} {l : List Lg} (hap : Apart x y) (h : Run C cf ops (x :: y :: l) E E2) : Run C cf ops (y :: x :: l) E E2 := by
  cases h with
  | @cons i o r wr rk wb l' _ E1 _ h1 hb1 t =>
    cases t with
    | @cons i' o' r' wr' rk' wb' _ _ E3 _ h2 hb2 t =>
      obtain ⟨k1, k2, k3, k4, k5⟩ := hap
      simp only at k1 k2 k3 k4 k5
      obtain ⟨_, hkx⟩ := stepX_spec h1
      obtain ⟨_, hky⟩ := stepX_spec h2
      -- the first, as it stands
      obtain ⟨_, _, _, hlen1, _, hout1⟩ := stepX_local h1 rfl (fun _ _ => rfl) hkx
      obtain ⟨E3', m1, m2, m3, m4, m5⟩ := stepX_local (E2 := E) h2 hlen1.symm (fun s hs => by
        by_cases hw : s ∈ wr
        · exact absurd hs (k1 s hw)
        · exact ((hout1 s hw).2).symm) (fun s hs => by
        by_cases hw : s ∈ wr
        · exact (hb1 s (k4 s hs hw)).2.1
        · rw [← (hout1 s hw).2]
          exact hky s hs)
      have hin : ∀ s, s ∈ wr → s ∉ wr' := k2
      obtain ⟨E3'', n1, n2, n3, n4, n5⟩ := stepX_local (E2 := E3') h1 m2 (fun s hs => (m5 s (fun hw => k3 s hs hw)).1) (fun s hs => by
        by_cases hw : s ∈ wr'
        · rw [m4 s hw]
          exact (hb2 s (k5 s hs hw)).2.2
        · rw [(m5 s hw).1]
          exact hkx s hs)
      have he : E3'' = E3 := env_ext (by rw [n2, m2, m3, hlen1]) (fun s => by
        by_cases hw : s ∈ wr
        · rw [n4 s hw, (m5 s (k2 s hw)).2]
        · rw [(n5 s hw).1]
          by_cases hw' : s ∈ wr'
          · exact m4 s hw'
          · rw [(m5 s hw').1, (m5 s hw').2, (hout1 s hw).2])
      rw [he] at n1 n4
      refine .cons m1 (fun s hs => ?_) (.cons n1 (fun s hs => ?_) t)
      · obtain ⟨q1, q2, q3⟩ := hb2 s hs
        have hnw : s ∉ wr := fun hw => k2 s hw q1
        exact ⟨q1, by rw [← (hout1 s hnw).2]; exact q2, by rw [m4 s q1]; exact q3⟩
      · obtain ⟨q1, q2, q3⟩ := hb1 s hs
        exact ⟨q1, by rw [(m5 s (k2 s q1)).1]; exact q2, by rw [n4 s q1]; exact q3⟩
theorem Run.front {ops : List Oper} {x : Lg} {l2 : List Lg} : ∀ {l1 : List Lg} {E : Env}, (∀ y, y ∈ l1 → Apart y x) → Run C cf ops (l1 ++ x :: l2) E E2 → Run C cf ops (x :: (l1 ++ l2)) E E2
  | [], E, _, h => h
  | y :: l1, E, hap, h => by
    cases h with
    | cons h1 hb t =>
      have := Run.front (l1 := l1) (fun z hz => hap z (List.mem_cons_of_mem _ hz)) t
      exact Run.swap (hap _ List.mem_cons_self) (.cons h1 hb this)
def Pw (wt : List (List Nat)) (l : List Lg) : Prop := l.Pairwise fun x y => x.1 ∈ wt.getD y.1 [] ∨ Apart x y
theorem boxy_ok {wr : List Nat} : ∀ s, s ∈ boxy E E1 wr → s ∈ wr ∧ isBox (geti E s) = true ∧ isBox (geti E1 s) = true := fun s hs => by
  unfold boxy at hs
  rw [List.mem_filter, Bool.and_eq_true] at hs
  exact hs
theorem evDraw_run {ops : List Oper} {wt : List (List Nat)} {K : Env → R} {res : List Dat} : ∀ (l : List (Nat × Oper)) (logs : List (Nat × Log)) (E : Env), evDraw C cf ops wt l logs E K = some res →
    ∃ (l' : List Lg) (En : Env), l'.map (fun x => (x.1, x.2.1)) = l ∧ Run C cf ops l' E En ∧ K En = some res ∧ Pw wt l' ∧ (∀ x, x ∈ l' → ∀ q, q ∈ logs → q.1 ∈ wt.getD x.1 [] ∨ Apart (q.1, x.2.1, q.2) x) ∧ (∀ x, x ∈ l' → ∀ e, e ∈ x.2.1.after → Region.binds .any e = true → e.on < x.1)
  | [], logs, E, h => ⟨[], E, rfl, .nil E, h, List.Pairwise.nil, (fun x hx => by cases hx), (fun x hx => by cases hx)⟩
  | (i, o) :: l, logs, E, h => by
    simp only [evDraw] at h
    rw [stepL_eq] at h
    cases hx : stepX C cf ops o E with
    | none => simp [hx] at h
    | some p =>
      obtain ⟨E1, r, wr, rk⟩ := p
      simp only [hx, Option.bind_some] at h
      split at h
      · rename_i hchk
        rw [Bool.and_eq_true, List.all_eq_true, List.all_eq_true] at hchk
        obtain ⟨l', En, k1, k2, k3, k4, k5, k6⟩ := evDraw_run l ((i, r, wr, rk, boxy E E1 wr) :: logs) E1 h
        have hown : ∀ q, q ∈ logs → q.1 ∈ wt.getD i [] ∨ Apart (q.1, o, q.2) (i, o, r, wr, rk, boxy E E1 wr) := fun q hq => by
          have := hchk.2 q hq
          rw [Bool.or_eq_true] at this
          exact this.imp (fun h => by simpa using h) apartK_ok
        refine ⟨(i, o, r, wr, rk, boxy E E1 wr) :: l', En, by simp [k1], .cons hx boxy_ok k2, k3, List.Pairwise.cons (fun y hy => ?_) k4, fun x hx' q hq => ?_, fun x hx' e he hbe => ?_⟩
        · have := k5 y hy (i, r, wr, rk, boxy E E1 wr) List.mem_cons_self
          exact this.imp id (fun h => ⟨h.wr, h.ww, h.rw', h.kx, h.ky⟩)
        · rcases List.mem_cons.1 hx' with rfl | hx'
          · exact hown q hq
          · exact k5 x hx' q (List.mem_cons_of_mem _ hq)
        · rcases List.mem_cons.1 hx' with rfl | hx'
          · have := hchk.1 e (by simpa using he)
            rw [hbe, Bool.not_true, Bool.false_or, Nat.blt_eq] at this
            exact this
          · exact k6 x hx' e he hbe
      · cases h
/-- What is waited for. -/
theorem once_mem : ∀ {l : List Nat} {x : Nat}, x ∈ once l → x ∈ l
  | [], _, h => h
  | y :: l, x, h => by
    unfold once at h
    cases hb : (once l).any (Nat.beq y) with
    | true =>
      rw [hb] at h
      exact List.mem_cons_of_mem _ (once_mem h)
    | false =>
      rw [hb] at h
      rcases List.mem_cons.1 h with rfl | h
      · exact List.mem_cons_self
      · exact List.mem_cons_of_mem _ (once_mem h)
theorem waits_ok : ∀ (l : List Oper) (acc : List (List Nat)) (ops : List Oper), ops.length = acc.length → (∀ j o, ops[j]? = some o → ∀ x, x ∈ acc.getD j [] → ∃ e, e ∈ o.after ∧ Region.binds .any e = true ∧ (x = e.on ∨ x ∈ acc.getD e.on [])) →
    ∃ more, waits l acc = acc ++ more ∧ ∀ j o, (ops ++ l)[j]? = some o → ∀ x, x ∈ (waits l acc).getD j [] → ∃ e, e ∈ o.after ∧ Region.binds .any e = true ∧ (x = e.on ∨ x ∈ (waits l acc).getD e.on [])
  | [], acc, ops, hl, h => ⟨[], by simp [waits], by simpa [waits] using h⟩
  | o :: l, acc, ops, hl, h => by
    let row := once ((o.after.toList.filter fun e => Region.binds .any e).flatMap fun e => e.on :: acc.getD e.on [])
    have hgd : ∀ k x, x ∈ acc.getD k [] → x ∈ (acc ++ [row]).getD k [] := fun k x hx => by
      rw [List.getD_eq_getElem?_getD] at hx ⊢
      by_cases hk : k < acc.length
      · rw [List.getElem?_append_left hk]; exact hx
      · rw [List.getElem?_eq_none (by omega)] at hx; simp at hx
    obtain ⟨more, k1, k2⟩ := waits_ok l (acc ++ [row]) (ops ++ [o]) (by simp [hl]) (fun j o' hj x hx => by
      by_cases hjl : j < ops.length
      · rw [List.getElem?_append_left hjl] at hj
        have hx' : x ∈ acc.getD j [] := by
          rw [List.getD_eq_getElem?_getD, List.getElem?_append_left (by omega)] at hx
          rw [List.getD_eq_getElem?_getD]
          exact hx
        obtain ⟨e, e1, e2, e3⟩ := h j o' hj x hx'
        exact ⟨e, e1, e2, e3.imp id (hgd _ _)⟩
      · have hj0 : j = ops.length := by
          have := getElem_lt hj
          simp at this
          omega
        subst hj0
        rw [List.getElem?_append_right (Nat.le_refl _), Nat.sub_self] at hj
        simp only [List.getElem?_cons_zero, Option.some.injEq] at hj
        subst hj
        rw [hl, List.getD_eq_getElem?_getD, List.getElem?_append_right (Nat.le_refl _), Nat.sub_self] at hx
        simp only [List.getElem?_cons_zero, Option.getD_some, row] at hx
        replace hx := once_mem hx
        simp only [List.mem_flatMap, List.mem_filter] at hx
        obtain ⟨e, ⟨e1, e2⟩, e3⟩ := hx
        exact ⟨e, by simpa using e1, e2, (List.mem_cons.1 e3).imp id (hgd _ _)⟩)
    refine ⟨row :: more, ?_, ?_⟩
    · show waits l (acc ++ [row]) = _
      rw [k1]
      simp
    · intro j o' hj x hx
      exact k2 j o' (by simpa using hj) x hx
theorem draw_any (hP : POk P C) (hS : FOk C S) (hcf : CfOk P C cf) {ops : Array Oper} {Q : Exit → Act → World → Prop} {wt : List (List Nat)} {En : Env} (hend : ∀ a w, Hold C S a w En → Q .normal a w)
    (hwt : ∀ j o, ops[j]? = some o → ∀ x, x ∈ wt.getD j [] → ∃ e, e ∈ o.after ∧ Region.binds .any e = true ∧ (x = e.on ∨ x ∈ wt.getD e.on [])) :
    ∀ (fuel : Nat) (l : List Lg) (listed : Array Bool) (a : Act) (w : World) (E : Env), listed.size = ops.size → Hold C S a w E → Run C cf ops.toList l E En → Pw wt l → (∀ i, (listed.getD i true = false ↔ ∃ x, x ∈ l ∧ x.1 = i)) → (∀ x, x ∈ l → ops[x.1]? = some x.2.1) → (l.Pairwise fun x y => x.1 < y.1) →
      (∀ j, listed.getD j false = true → ∀ x, x ∈ wt.getD j [] → listed.getD x false = true) → (∀ x, x ∈ l → ∀ e, e ∈ x.2.1.after → Region.binds .any e = true → e.on < x.1) → l.length ≤ fuel → wpAny P .any ops Q fuel listed a w := by
  have ready_in : ∀ {l : List Lg} {listed : Array Bool} {i : Nat}, (∀ i, (listed.getD i true = false ↔ ∃ x, x ∈ l ∧ x.1 = i)) → i ∈ Region.ready .any ops listed → ∃ x, x ∈ l ∧ x.1 = i := fun hun hi => (hun _).1 (mem_ready.1 hi).1
  intro fuel
  induction fuel with
  | zero =>
    intro l listed a w E hsz h hrun hpw hun hops hsort hdown hlow hle
    have hl : l = [] := List.length_eq_zero_iff.1 (by omega)
    subst hl
    cases hrun
    refine ⟨?_, hend a w h⟩
    cases hr : Region.ready .any ops listed with
    | nil => rfl
    | cons i is =>
      obtain ⟨x, hx, _⟩ := ready_in hun (by rw [hr]; exact List.mem_cons_self)
      cases hx
  | succ fuel ih =>
    intro l listed a w E hsz h hrun hpw hun hops hsort hdown hlow hle
    refine ⟨fun hr => ?_, fun i hi => ?_⟩
    · cases l with
      | nil =>
        cases hrun
        exact hend a w h
      | cons x l =>
        exfalso
        have hx := hops x List.mem_cons_self
        have hun0 := (hun x.1).2 ⟨x, List.mem_cons_self, rfl⟩
        have : x.1 ∈ Region.ready .any ops listed := by
          refine mem_ready.2 ⟨hun0, x.2.1, hx, fun e he hbe => ?_⟩
          have hlt := hlow x List.mem_cons_self e he hbe
          have hsz1 : x.1 < ops.size := (Array.getElem?_eq_some_iff.1 hx).1
          have hel : e.on < listed.size := by omega
          cases hq : listed.getD e.on true with
          | false =>
            obtain ⟨y, hy, hye⟩ := (hun e.on).1 hq
            rcases List.mem_cons.1 hy with rfl | hy
            · omega
            · have := (List.pairwise_cons.1 hsort).1 y hy
              omega
          | true =>
            rw [Array.getD_eq_getD_getElem?, Array.getElem?_eq_getElem hel] at hq ⊢
            exact hq
        rw [hr] at this
        cases this
    · obtain ⟨hlist, o, ho, hall⟩ := mem_ready.1 hi
      obtain ⟨x, hx, hxi⟩ := ready_in hun hi
      obtain ⟨l1, l2, rfl⟩ := List.append_of_mem hx
      have hox : x.2.1 = o := by
        have := hops x hx
        rw [hxi, ho] at this
        exact (Option.some.inj this).symm
      have hwl : ∀ y, y ∈ wt.getD i [] → listed.getD y false = true := fun y hy => by
        obtain ⟨e, e1, e2, e3⟩ := hwt i o ho y hy
        have := hall e e1 e2
        rcases e3 with rfl | e3
        · exact this
        · exact hdown _ this y e3
      have hap : ∀ y, y ∈ l1 → Apart y x := fun y hy => by
        rcases (List.pairwise_append.1 hpw).2.2 y hy x List.mem_cons_self with h1 | h1
        · exfalso
          rw [hxi] at h1
          have h2 := hwl _ h1
          have h3 := (hun y.1).2 ⟨y, List.mem_append_left _ hy, rfl⟩
          have hyo := hops y (List.mem_append_left _ hy)
          have hsz1 : y.1 < listed.size := by rw [hsz]; exact (Array.getElem?_eq_some_iff.1 hyo).1
          rw [Array.getD_eq_getD_getElem?, Array.getElem?_eq_getElem hsz1] at h2 h3
          simp only [Option.getD_some] at h2 h3
          rw [h2] at h3
          cases h3
        · exact h1
      have hfr := Run.front hap hrun
      obtain ⟨xi, xo, xr, xw, xk, xb⟩ := x
      simp only at hxi hox
      subst hxi hox
      cases hfr with
      | cons hstep hbx ht =>
        obtain ⟨⟨q, hg, he⟩, _⟩ := stepX_spec hstep
        have hsub : (l1 ++ l2).Sublist (l1 ++ (xi, xo, xr, xw, xk, xb) :: l2) := List.Sublist.append_left (List.sublist_cons_self _ _) _
        have hxl : xi < listed.size := by rw [hsz]; exact (Array.getElem?_eq_some_iff.1 ho).1
        refine step_ok hP hS hcf ho h hg he (fun a' w' h' => ih (l1 ++ l2) (listed.setIfInBounds xi true) a' w' _ (by simp [hsz]) h' ht (List.Pairwise.sublist hsub hpw) (fun j => ?_) (fun y hy => hops y (hsub.subset hy)) (List.Pairwise.sublist hsub hsort) (fun j hj y hy => ?_) (fun y hy => hlow y (hsub.subset hy)) ?_)
        · by_cases hji : xi = j
          · subst hji
            constructor
            · intro hh
              rw [Array.getD_eq_getD_getElem?, Array.getElem?_setIfInBounds_self_of_lt hxl] at hh
              cases hh
            · rintro ⟨y, hy, hyx⟩
              exfalso
              rcases List.mem_append.1 hy with hy | hy
              · have := (List.pairwise_append.1 hsort).2.2 y hy _ List.mem_cons_self
                simp only at this
                omega
              · have := (List.pairwise_cons.1 (List.pairwise_append.1 hsort).2.1).1 y hy
                simp only at this
                omega
          · rw [getD_set_ne true hji, hun]
            constructor
            · rintro ⟨y, hy, hyj⟩
              rcases List.mem_append.1 hy with hy | hy
              · exact ⟨y, List.mem_append_left _ hy, hyj⟩
              · rcases List.mem_cons.1 hy with rfl | hy
                · exact absurd hyj hji
                · exact ⟨y, List.mem_append_right _ hy, hyj⟩
            · rintro ⟨y, hy, hyj⟩
              exact ⟨y, hsub.subset hy, hyj⟩
        · by_cases hji : xi = j
          · subst hji
            exact getD_set_true (hwl y hy)
          · rw [getD_set_ne false hji] at hj
            exact getD_set_true (hdown j hj y hy)
        · simp only [List.length_append, List.length_cons] at hle ⊢
          omega
theorem draw_ok (hP : POk P C) (hS : FOk C S) (hcf : CfOk P C cf) {id : Nat} {ops : Array Oper} {Q : Exit → Act → World → Prop} {K : Env → R} {r : List Dat} (hend : ∀ a w E, Hold C S a w E → K E = some r → Q .normal a w) (h : Hold C S a w E)
    (he : evDraw C cf ops.toList (waits ops.toList []) (ops.toList.zipIdx.map fun p => (p.2, p.1)) [] E K = some r) : (Code.region id ops true).wp P Q a w := by
  obtain ⟨l, En, k1, k2, k3, k4, _, k6⟩ := evDraw_run _ _ _ he
  obtain ⟨_, _, hwt⟩ := waits_ok ops.toList [] [] rfl (fun j o hj => by simp at hj)
  have hmem : ∀ x : Lg, x ∈ l → ops[x.1]? = some x.2.1 := fun x hx => by
    have : (x.1, x.2.1) ∈ ops.toList.zipIdx.map fun p => (p.2, p.1) := by rw [← k1]; exact List.mem_map.2 ⟨x, hx, rfl⟩
    obtain ⟨p, hp, hpe⟩ := List.mem_map.1 this
    obtain ⟨o, i⟩ := p
    have hz := List.mem_zipIdx_iff_getElem?.1 hp
    simp only [Prod.mk.injEq] at hpe
    rw [← hpe.1, ← hpe.2, ← Array.getElem?_toList]
    exact hz
  refine wp_region_any hP.mixed (draw_any hP hS hcf (wt := waits ops.toList []) (fun a w h => hend a w En h k3) (fun j o hj x hx => hwt j o (by simpa using hj) x hx) ops.size l _ a _ E (by simp) ?_ k2 k4 (fun i => ?_) hmem ?_ (fun j hj => ?_) k6 ?_)
  · obtain ⟨hd, St, H, F, hi⟩ := h
    exact ⟨hd, St, H, F, hi.world (w' := { w with drawn := w.drawn + 1 }) (hi.keep.ext rfl rfl rfl (Nat.le_refl _) (fun _ _ => rfl)) (Nat.le_refl _) (fun _ _ _ => rfl)⟩
  · constructor
    · intro hi
      have hlt : i < ops.size := by
        rcases Nat.lt_or_ge i ops.size with hlt | hge
        · exact hlt
        · rw [Array.getD_eq_getD_getElem?, Array.getElem?_eq_none (by simpa using hge)] at hi
          cases hi
      have : (i, ops[i]) ∈ ops.toList.zipIdx.map fun p => (p.2, p.1) := List.mem_map.2 ⟨(ops[i], i), List.mem_zipIdx_iff_getElem?.2 (by simp [hlt]), rfl⟩
      rw [← k1] at this
      obtain ⟨x, hx, hxe⟩ := List.mem_map.1 this
      simp only [Prod.mk.injEq] at hxe
      exact ⟨x, hx, hxe.1⟩
    · rintro ⟨x, hx, rfl⟩
      have := (Array.getElem?_eq_some_iff.1 (hmem x hx)).1
      rw [Array.getD_eq_getD_getElem?, Array.getElem?_replicate, if_pos this]
      rfl
  · have hp : (l.map fun x => (x.1, x.2.1)).Pairwise fun x y => x.1 < y.1 := by
      rw [k1, List.pairwise_map, List.pairwise_iff_getElem]
      intro i j hi hj hij
      simpa using hij
    rw [List.pairwise_map] at hp
    exact hp
  · rw [Array.getD_eq_getD_getElem?, Array.getElem?_replicate] at hj
    split at hj <;> cases hj
  · have : l.length = ops.size := by
      rw [← List.length_map (f := fun x : Lg => (x.1, x.2.1)), k1]
      simp
    omega
end Go.Ev
/- Code. -/
namespace Go.Ev
open Go
set_option linter.unusedVariables false
set_option linter.unusedSimpArgs false
variable {cf : CF} {P : Program} {C : Ctx} {S : Frm} {w w' : World} {St St' : Nat → Prop} {H H' : Gh} {F : Nat → List Nat} {E E' E1 E2 : Env} {A f fd : List Nat} {o : Oper} {a : Act}
def okX : Exit → Bool
  | .normal => true
  | .exit _ => true
  | .ret => true
  | _ => false
theorem wp_loop_n {c : Code} {Q : Exit → Act → World → Prop} (G : Nat → Act → World → Prop) (round : ∀ n a w, G n a w → c.wp P (Exit.then (fun a' w' => ∃ m, m < n ∧ G m a' w') Q) a w) {n : Nat} (h₀ : G n a w) : (Code.loop c).wp P Q a w := by
  intro b k cs
  have key : ∀ n a w, G n a w → ∃ e a' w', Q e a' w' ∧ Arrives P (lone (b.at a (.code c :: .inLoop c :: k)) cs w) b k cs e a' w' := by
    intro n
    induction n using Nat.strongRecOn with
    | _ n ih =>
      intro a w hI
      obtain ⟨e, a₁, w₁, hq, harr⟩ := round n a w hI b (.inLoop c :: k) cs
      cases e with
      | normal =>
        obtain ⟨m, hlt, hI₁⟩ := hq
        obtain ⟨e₂, a₂, w₂, hq₂, harr₂⟩ := ih m hlt a₁ w₁ hI₁
        exact ⟨e₂, a₂, w₂, hq₂, .of_steps (Steps.trans harr (.one step_inLoop)) harr₂⟩
      | exit id => exact ⟨_, a₁, w₁, hq, .pass (x := .inLoop c) rfl (fun _ _ => .inl (by simp)) harr⟩
      | goto l => exact ⟨_, a₁, w₁, hq, .pass (x := .inLoop c) rfl (fun _ _ => .inl (by simp)) harr⟩
      | ret => exact ⟨_, a₁, w₁, hq, .pass (x := .inLoop c) rfl (fun _ _ => .inl (by simp)) harr⟩
      | panic ch => exact ⟨_, a₁, w₁, hq, .pass (x := .inLoop c) rfl (fun _ _ => .inl (by simp)) harr⟩
      | outgrown => exact ⟨_, a₁, w₁, hq, .pass (x := .inLoop c) rfl (fun _ _ => .inl (by simp)) harr⟩
  obtain ⟨e, a', w', hq, harr⟩ := key n a w h₀
  exact ⟨e, a', w', hq, .of_steps (.one step_loop) harr⟩
theorem hold_canon (h : Hold C S a w E) (keep : List Nat) : Hold C S a w (canon keep E) := by
  obtain ⟨hd, St, H, F, hi⟩ := h
  obtain ⟨F', hi'⟩ := canon_ok hi keep
  exact ⟨hd, St, _, F', hi'⟩
theorem code_ok (hP : POk P C) (hS : FOk C S) (hcf : CfOk P C cf) {N : Nat} {keep : List Nat} : ∀ (c : Code) (a : Act) (w : World) (E : Env) (K : Exit → Env → R) (r : List Dat) (Q : Exit → Act → World → Prop), (∀ x a w E, okX x = true → Hold C S a w E → K x E = some r → Q x a w) → Hold C S a w E → evCode C cf N keep c E K = some r → c.wp P Q a w := by
  intro c
  induction c with
  | skip =>
    intro a w E K r Q hend h he
    exact wp_skip (hend _ _ _ _ rfl h he)
  | region id ops draw =>
    intro a w E K r Q hend h he
    cases draw with
    | false => exact region_ok hP hS hcf (fun a w E h' he' => hend _ _ _ _ rfl h' he') h he
    | true => exact draw_ok hP hS hcf (fun a w E h' he' => hend _ _ _ _ rfl h' he') h he
  | seq x y ihx ihy =>
    intro a w E K r Q hend h he
    simp only [evCode] at he
    refine wp_seq (ihx a w E _ r _ (fun x a w E hx h' he' => ?_) h he)
    cases x with
    | normal => exact ihy a w E K r Q hend h' he'
    | exit id => exact hend _ _ _ _ rfl h' he'
    | ret => exact hend _ _ _ _ rfl h' he'
    | goto l => cases hx
    | panic ch => cases hx
    | outgrown => cases hx
  | cond x y z ihx ihy =>
    intro a w E K r Q hend h he
    have fin : ∀ (c : Bool), a.eval x = .bool c → (bif c then evCode C cf N keep y E K else evCode C cf N keep z E K) = some r → (Code.cond x y z).wp P Q a w := fun c hc he => by
      refine wp_cond hc ?_
      cases c with
      | true => exact ihx a w E K r Q hend h he
      | false => exact ihy a w E K r Q hend h he
    cases x with
    | tmp s =>
      simp only [evCode] at he
      split at he
      · rename_i c hc
        have := (hold_bool h hc).1
        refine fin c ?_ he
        show a.tmps.getD s undef = _
        rw [Array.getD_eq_getD_getElem?, this]
        rfl
      · cases he
    | const v =>
      cases v with
      | bool c => exact fin c rfl he
      | _ => cases he
    | global g => cases he
    | func g => cases he
  | block id c ih =>
    intro a w E K r Q hend h he
    simp only [evCode] at he
    refine wp_block (ih a w E _ r _ (fun x a w E hx h' he' => ?_) h he)
    cases x with
    | normal => exact hend _ _ _ _ rfl h' he'
    | exit id' =>
      simp only at he'
      simp only [Exit.inBlock]
      split at he'
      · rename_i hid
        rw [if_pos hid]
        exact hend _ _ _ _ rfl h' he'
      · rename_i hid
        rw [if_neg hid]
        exact hend _ _ _ _ rfl h' he'
    | ret => exact hend _ _ _ _ rfl h' he'
    | goto l => cases hx
    | panic ch => cases hx
    | outgrown => cases hx
  | loop c ih =>
    intro a w E K r Q hend h he
    simp only [evCode] at he
    generalize hkp : keep.filter (fun s => !isUnd (geti E s)) = kp at he
    refine wp_loop_n (fun n a w => ∃ E, Hold C S a w E ∧ loopIter (fun E K => evCode C cf N keep c E K) kp K n E = some r) (fun n a w hG => ?_) (n := N) ⟨_, hold_canon h kp, he⟩
    obtain ⟨E1, h1, he1⟩ := hG
    cases n with
    | zero => simp [loopIter] at he1
    | succ n =>
      simp only [loopIter] at he1
      refine ih a w E1 _ r _ (fun x a w E hx h' he' => ?_) h1 he1
      cases x with
      | normal => exact ⟨n, Nat.lt_succ_self n, _, hold_canon h' kp, he'⟩
      | exit id => exact hend _ _ _ _ rfl h' he'
      | ret => exact hend _ _ _ _ rfl h' he'
      | goto l => cases hx
      | panic ch => cases hx
      | outgrown => cases hx
  | exit id =>
    intro a w E K r Q hend h he
    exact wp_exit (hend _ _ _ _ rfl h he)
  | scope c ih =>
    intro a w E K r Q hend h he
    simp only [evCode] at he
    refine wp_scope_straight (ih a w E _ r _ (fun x a w E hx h' he' => ?_) h he)
    cases x with
    | normal => exact hend _ _ _ _ rfl h' he'
    | exit id => exact hend _ _ _ _ rfl h' he'
    | ret => exact hend _ _ _ _ rfl h' he'
    | goto l => cases hx
    | panic ch => cases hx
    | outgrown => cases hx
  | label l =>
    intro a w E K r Q hend h he
    exact wp_label (hend _ _ _ _ rfl h he)
  | ret =>
    intro a w E K r Q hend h he
    exact wp_ret (hend _ _ _ _ rfl h he)
  | _ =>
    intro a w E K r Q hend h he
    cases he
end Go.Ev
/- A function's body, and what it answers. -/
namespace Go.Ev
open Go
set_option linter.unusedVariables false
set_option linter.unusedSimpArgs false
variable {cf : CF} {P : Program} {C : Ctx} {S : Frm} {w w' : World} {St St' : Nat → Prop} {H H' : Gh} {F : Nat → List Nat} {E E' E1 E2 : Env} {A f fd : List Nat} {o : Oper} {a : Act}
abbrev Hdr := Option Addr × Nat × Nat
def hdr0 : Hdr := (none, 0, 0)
theorem cellUn_ok (hT : ∀ t ti, C.T t = some ti → ti.cts.length = ti.size) {sb ob : Nat} {k : RK} {u : Value} {c : AV} {dd : Dat} (hk : k ≠ .self) (h : RelC C.T w St H u f c) (hu : k.cellUn sb ob c = some dd) :
    ∃ f1 f2 g, f = f2 ++ f1 ∧ ∀ (Hc : Gh) (d i : Nat), Hc.hd0 d i = g → RelC C.T w (fun b => St b ∨ b ∈ f2) Hc u f1 (k.cellAV d i dd) := by
  have pl : ∀ {c' : AV}, RelC C.T w St H u f c' → (∀ x, mentC x c' = false) → ∃ f1 f2 g, f = f2 ++ f1 ∧ ∀ (Hc : Gh) (d i : Nat), Hc.hd0 d i = g → RelC C.T w (fun b => St b ∨ b ∈ f2) Hc u f1 c' := fun hr hm =>
    ⟨f, [], hdr0, rfl, fun Hc d i _ => hr.mono (fun _ hb => .inl hb) (fun _ _ => rfl) (fun _ _ => rfl) (fun x hx => by rw [hm x] at hx; cases hx)⟩
  cases k <;> cases c <;> simp only [RK.cellUn, reduceCtorEq] at hu
  case int.int k k' n =>
    split at hu
    · rename_i hkk
      subst hkk
      simp only [Option.some.injEq] at hu
      subst hu
      exact pl h (fun _ => rfl)
    · cases hu
  case bool.bool b =>
    simp only [Option.some.injEq] at hu
    subst hu
    exact pl h (fun _ => rfl)
  case str.str s =>
    simp only [Option.some.injEq] at hu
    subst hu
    exact pl h (fun _ => rfl)
  case shr.nilS e e' =>
    split at hu
    · rename_i he
      simp only [Option.some.injEq] at hu
      subst hu
      obtain ⟨h1, h2⟩ := (show f = [] ∧ u = .slice none 0 0 from h)
      refine ⟨f, [], hdr0, rfl, fun Hc d i _ => ⟨h1, ?_⟩⟩
      rw [h2]
      exact RelD.of_row (l := []) (ti := ⟨0, 0, [], false, .oth⟩) (b := 0) (o := 0) (fun hn => absurd rfl hn) (Nat.le_refl _) (fun hn => absurd rfl hn) RowD.nil (fun hn => absurd rfl hn)
    · cases hu
  case shr.shr e e' l =>
    split at hu
    · rename_i he
      subst he
      simp only [Option.some.injEq] at hu
      subst hu
      exact pl h (fun _ => rfl)
    · cases hu
  case shr.own e t i' e' l =>
    split at hu
    · rename_i he
      subst he
      simp only [Option.some.injEq] at hu
      subst hu
      obtain ⟨h1, h2⟩ := (show u = H.hd t i' ∧ Own C.T w St e l u f from h)
      exact ⟨[], f, hdr0, by simp, fun Hc d i _ => ⟨rfl, h2.toShr hT⟩⟩
    · cases hu
  case own.nilS e e' =>
    split at hu
    · rename_i he
      simp only [Option.some.injEq] at hu
      subst hu
      obtain ⟨h1, h2⟩ := (show f = [] ∧ u = .slice none 0 0 from h)
      refine ⟨f, [], hdr0, rfl, fun Hc d i hg => ⟨?_, ⟨0, 0, [], false, .oth⟩, none, 0, fun hh => absurd rfl hh, h2, Nat.le_refl _, .inl ⟨rfl, h1⟩⟩⟩
      rw [h2]
      simp only [Gh.hd, hg, hdr0]
    · cases hu
  case own.own e t i' e' l =>
    split at hu
    · rename_i he
      subst he
      simp only [Option.some.injEq] at hu
      subst hu
      obtain ⟨h1, h2⟩ := (show u = H.hd t i' ∧ Own C.T w St e l u f from h)
      refine ⟨f, [], H.hd0 t i', rfl, fun Hc d i hg => ⟨?_, h2.mono (fun _ hb => .inl hb) (fun _ _ => rfl) (fun _ _ => rfl)⟩⟩
      rw [h1]
      simp only [Gh.hd, hg]
    · cases hu
  all_goals exact absurd rfl hk
theorem cellsUn_ok (hT : ∀ t ti, C.T t = some ti → ti.cts.length = ti.size) {j : Nat} : ∀ (ks : List RK) (cs : List AV) (us : List Value) (f : List Nat) (dds : List Dat), Cells C.T w St H us f cs → RK.cellsUn j 0 ks cs = some dds →
    cs.length = ks.length ∧ dds.length = ks.length ∧ ∃ (f1 f2 : List Nat) (gs : List Hdr), gs.length = ks.length ∧ f.Perm (f2 ++ f1) ∧ ∀ (Hc : Gh) (d sb ob i j0 : Nat) (dat : Dat), (∀ x, x < ks.length → Hc.hd0 d (i + x) = gs.getD x hdr0) → (∀ x, x < ks.length → dat.C (j0 + x) = dds.getD x .nil) →
      (ks.all RK.plain = true ∨ ((Hc.bx sb).1 = (H.bx j).1 ∧ (Hc.bx sb).2 + ob = (H.bx j).2)) → Cells C.T w (fun b => St b ∨ b ∈ f2) Hc us f1 (RK.cellsAV d sb ob dat i j0 ks)
  | [], [], us, f, dds, h, hu => by
    simp only [RK.cellsUn, Option.some.injEq] at hu
    subst hu
    cases us with
    | nil => exact ⟨rfl, rfl, [], [], [], rfl, by rw [show f = [] from h]; exact List.Perm.refl _, fun _ _ _ _ _ _ _ _ _ _ => rfl⟩
    | cons u us => exact h.elim
  | [], _ :: _, _, _, _, _, hu => by simp [RK.cellsUn] at hu
  | _ :: _, [], _, _, _, _, hu => by simp [RK.cellsUn] at hu
  | k :: ks, c :: cs, us, f, dds, h, hu => by
    cases us with
    | nil => exact h.elim
    | cons u us =>
      obtain ⟨f1, f2, rfl, h1, h2⟩ := h
      simp only [RK.cellsUn] at hu
      cases hd : k.cellUn j 0 c with
      | none => simp [hd] at hu
      | some dd =>
        cases hds : RK.cellsUn j 0 ks cs with
        | none => simp [hd, hds] at hu
        | some ds =>
          simp only [hd, hds, Option.bind_some, Option.map_some, Option.some.injEq] at hu
          subst hu
          obtain ⟨m1, m2, q1, q2, gs, m3, m4, m5⟩ := cellsUn_ok hT ks cs us f2 ds h2 hds
          -- the first cell
          have first : ∃ p1 p2 g, f1 = p2 ++ p1 ∧ ∀ (Hc : Gh) (d sb ob i j0 : Nat) (dat : Dat), Hc.hd0 d i = g → dat.C j0 = dd → (k.plain = true ∨ ((Hc.bx sb).1 = (H.bx j).1 ∧ (Hc.bx sb).2 + ob = (H.bx j).2)) → ∃ c', RK.cellsAV d sb ob dat i j0 (k :: ks) = c' :: RK.cellsAV d sb ob dat (i + 1) (j0 + 1) ks ∧ RelC C.T w (fun b => St b ∨ b ∈ p2) Hc u p1 c' := by
            by_cases hk : k = .self
            · subst hk
              cases c <;> simp only [RK.cellUn, reduceCtorEq] at hd
              case ref s o' =>
                split at hd
                · rename_i hc
                  obtain ⟨rfl, rfl⟩ := hc
                  obtain ⟨n1, n2⟩ := (show f1 = [] ∧ u = .pointer (some ⟨(H.bx s).1, (H.bx s).2 + 0, none⟩) from h1)
                  refine ⟨f1, [], hdr0, rfl, fun Hc d sb ob i j0 dat _ _ hcnd => ⟨_, rfl, n1, ?_⟩⟩
                  rcases hcnd with hcnd | ⟨e1, e2⟩
                  · cases hcnd
                  · rw [n2, e1, e2, Nat.add_zero]
                · cases hd
            · obtain ⟨p1, p2, g, n1, n2⟩ := cellUn_ok hT hk h1 hd
              refine ⟨p1, p2, g, n1, fun Hc d sb ob i j0 dat hg hdat _ => ⟨k.cellAV d i (dat.C j0), ?_, by rw [hdat]; exact n2 Hc d i hg⟩⟩
              cases k <;> first | rfl | exact absurd rfl hk
          obtain ⟨p1, p2, g, n1, n2⟩ := first
          refine ⟨by simp [m1], by simp [m2], p1 ++ q1, p2 ++ q2, g :: gs, by simp [m3], ?_, fun Hc d sb ob i j0 dat hg hdat hself => ?_⟩
          · rw [n1]
            refine List.perm_iff_count.2 fun x => ?_
            have := List.perm_iff_count.1 m4 x
            simp only [List.count_append] at this ⊢
            omega
          · have hs1 : k.plain = true ∨ ((Hc.bx sb).1 = (H.bx j).1 ∧ (Hc.bx sb).2 + ob = (H.bx j).2) := by
              rcases hself with h | h
              · rw [List.all_cons, Bool.and_eq_true] at h
                exact .inl h.1
              · exact .inr h
            have hs2 : ks.all RK.plain = true ∨ ((Hc.bx sb).1 = (H.bx j).1 ∧ (Hc.bx sb).2 + ob = (H.bx j).2) := by
              rcases hself with h | h
              · rw [List.all_cons, Bool.and_eq_true] at h
                exact .inl h.2
              · exact .inr h
            obtain ⟨c', k1, k2⟩ := n2 Hc d sb ob i j0 dat (by have := hg 0 (by simp); simpa using this) (by have := hdat 0 (by simp); simpa using this) hs1
            rw [k1]
            refine ⟨p1, q1, rfl, k2.mono (fun b hb => ?_) (fun _ _ => rfl) (fun _ _ => rfl) (fun x _ => HAg.refl Hc x), ?_⟩
            · exact hb.imp id (fun h => List.mem_append_left _ h)
            · refine (m5 Hc d sb ob (i + 1) (j0 + 1) dat (fun x hx => ?_) (fun x hx => ?_) hs2).mono (fun b hb => hb.imp id (fun h => List.mem_append_right _ h)) (fun _ _ => rfl) (fun _ _ => rfl) (fun x _ => HAg.refl Hc x)
              · have := hg (x + 1) (by simp; omega)
                rw [show i + 1 + x = i + (x + 1) by omega]
                simpa using this
              · have := hdat (x + 1) (by simp; omega)
                rw [show j0 + 1 + x = j0 + (x + 1) by omega]
                simpa using this
/-- One result. -/
theorem un_ok (hT : ∀ t ti, C.T t = some ti → ti.cts.length = ti.size) {k : RK} {u : Value} {v : AV} {dd : Dat} (h : RelS C.T w St H u f v) (hu : k.un v = some dd) :
    ∃ (f1 f2 : List Nat) (gs : List Hdr), gs.length = k.width ∧ f.Perm (f2 ++ f1) ∧ ∀ (Hc : Gh) (d i : Nat), (∀ x, x < k.width → Hc.hd0 d (i + x) = gs.getD x hdr0) → RelG C.T w (fun b => St b ∨ b ∈ f2) Hc u f1 (k.av d i dd) := by
  have cell : ∀ {k : RK}, k ≠ .self → (∀ ks, k ≠ .agg ks) → k.cellUn 0 0 v = some dd → k.width = 1 → (∀ d i, k.av d i dd = k.cellAV d i dd) → ∃ (f1 f2 : List Nat) (gs : List Hdr), gs.length = k.width ∧ f.Perm (f2 ++ f1) ∧ ∀ (Hc : Gh) (d i : Nat), (∀ x, x < k.width → Hc.hd0 d (i + x) = gs.getD x hdr0) → RelG C.T w (fun b => St b ∨ b ∈ f2) Hc u f1 (k.av d i dd) := by
    intro k h1 h2 hu hw hav
    have hr : RelC C.T w St H u f v := by
      cases v <;> first
        | exact h
        | (exfalso; cases k <;> simp [RK.cellUn] at hu)
    obtain ⟨p1, p2, g, n1, n2⟩ := cellUn_ok hT h1 hr hu
    refine ⟨p1, p2, [g], by rw [hw]; rfl, by rw [n1], fun Hc d i hg => ?_⟩
    rw [hav]
    exact RelG_of_RelC (n2 Hc d i (by have := hg 0 (by rw [hw]; exact Nat.one_pos); simpa using this))
  cases k
  case self => simp [RK.un] at hu
  case agg ks =>
    cases v <;> simp only [RK.un, reduceCtorEq] at hu
    case agg cs =>
      split at hu
      · rename_i hpl
        cases hds : RK.cellsUn 0 0 ks cs with
        | none => simp [hds] at hu
        | some ds =>
          simp only [hds, Option.map_some, Option.some.injEq] at hu
          subst hu
          obtain ⟨us, h1, h2⟩ := h
          obtain ⟨_, m2, f1, f2, gs, m3, m4, m5⟩ := cellsUn_ok hT ks cs us.toList f ds h2 hds
          exact ⟨f1, f2, gs, m3, m4, fun Hc d i hg => ⟨us, h1, m5 Hc d d 0 i 0 (.agg ds) hg (fun x hx => by simp [Dat.C]) (.inl hpl)⟩⟩
      · cases hu
  all_goals exact cell (by simp) (by simp) (by simpa [RK.un] using hu) rfl (fun _ _ => rfl)
def resRun (tmps : Array Value) : ResultVar → Sem Value
  | .tmp t => pure (tmps.getD t undef)
  | .cell a t => do loadVar t (← asAddr (tmps.getD a undef))
theorem resDs_congr : ∀ (rs : List ResultVar) (ks : List RK), (∀ s, s ∈ resSlots rs → geti E1 s = geti E2 s) → resDs C E1 rs ks = resDs C E2 rs ks
  | [], [], _ => rfl
  | [], _ :: _, _ => rfl
  | .tmp t :: rs, [], _ => rfl
  | .cell a t :: rs, [], _ => rfl
  | .tmp t :: rs, k :: ks, h => by
    simp only [resDs]
    rw [h t (by simp [resSlots]), resDs_congr rs ks (fun s hs => h s (by simp [resSlots, hs]))]
  | .cell a t :: rs, k :: ks, h => by
    simp only [resDs]
    rw [h a (by simp [resSlots]), resDs_congr rs ks (fun s hs => h s (by simp [resSlots, hs]))]
theorem resDs_ok (hP : POk P C) {tmps : Array Value} : ∀ (rs : List ResultVar) (ks : List RK) (asx : List Dat) (St : Nat → Prop) (F : Nat → List Nat) (E : Env) (A : List Nat), Inv C.T S tmps w St H F E A → resDs C E rs ks = some asx → nodupB (resSlots rs) = true →
    asx.length = ks.length ∧ ∃ (St' : Nat → Prop) (F' : Nat → List Nat) (E' : Env) (fR : List Nat) (vs : List Value) (gs : List Hdr), (rs.mapM (resRun tmps)).run P w = .ok vs w ∧ (∀ b, St b → St' b) ∧ Inv C.T S tmps w St' H F' E' (fR ++ A) ∧ (∀ s cs, geti E s = .pbox cs → geti E' s = .pbox cs) ∧ gs.length = widths ks ∧
      ∀ (Hc : Gh) (d i j : Nat) (ds : List Dat), (∀ x, x < widths ks → Hc.hd0 d (i + x) = gs.getD x hdr0) → (∀ x, x < ks.length → rd ds (j + x) = rd asx x) → Gs C.T w St' Hc vs fR (RK.avs d ds i j ks)
  | [], [], asx, St, F, E, A, h, hr, _ => by
    simp only [resDs, Option.some.injEq] at hr
    subst hr
    exact ⟨rfl, St, F, E, [], [], [], rfl, fun _ h => h, h, fun _ _ h => h, rfl, fun _ _ _ _ _ _ _ => rfl⟩
  | [], _ :: _, _, _, _, _, _, _, hr, _ => by simp [resDs] at hr
  | .tmp _ :: _, [], _, _, _, _, _, _, hr, _ => by simp [resDs] at hr
  | .cell _ _ :: _, [], _, _, _, _, _, _, hr, _ => by simp [resDs] at hr
  | r :: rs, k :: ks, asx, St, F, E, A, h, hr, hnd => by
    -- one slot's value, and its blocks in hand
    have one : ∃ (s : Nat) (dd : Dat) (as' : List Dat) (u : Value) (f0 fx : List Nat) (v : AV), resSlots (r :: rs) = s :: resSlots rs ∧ asx = dd :: as' ∧ resDs C E rs ks = some as' ∧ (resRun tmps r).run P w = .ok u w ∧ F s = fx ++ f0 ∧ RelS C.T w St H u f0 v ∧ k.un v = some dd ∧ (∀ cs, geti E s ≠ .pbox cs) := by
      cases r with
      | tmp t =>
        simp only [resDs] at hr
        cases hd : k.un (geti E t) with
        | none => simp [hd] at hr
        | some dd =>
          cases hds : resDs C E rs ks with
          | none => simp [hd, hds] at hr
          | some as' =>
            simp only [hd, hds, Option.bind_some, Option.map_some, Option.some.injEq] at hr
            have hne : geti E t ≠ .und := fun e => by
              rw [e] at hd
              cases k <;> simp [RK.un, RK.cellUn] at hd
            have hl := slot_lt hne
            exact ⟨t, dd, as', tmps.getD t undef, F t, [], geti E t, rfl, hr.symm, rfl, rfl, rfl, h.rel t hl, hd, fun cs e => by
              rw [e] at hd
              cases k <;> simp [RK.un, RK.cellUn] at hd⟩
      | cell b t =>
        simp only [resDs] at hr
        split at hr
        · rename_i bt cs ti hb ht
          cases hv : ofCells ti cs with
          | none => simp [hv] at hr
          | some v =>
            cases hd : k.un v with
            | none => simp [hv, hd] at hr
            | some dd =>
              cases hds : resDs C E rs ks with
              | none => simp [hv, hd, hds] at hr
              | some as' =>
                simp only [hv, hd, hds, Option.bind_some, Option.map_some, Option.some.injEq] at hr
                have hl := slot_lt (E := E) (s := b) (by rw [hb]; simp)
                have hrs := h.rel b hl
                rw [hb] at hrs
                obtain ⟨bl, arr, et, fz, f2, k1, k2, k3, k4, k5, k6⟩ := hrs
                have hok := hP.ti t ti ht
                have hsz : arr.toList.length = ti.size := by
                  rw [Array.length_toList, k5]
                  unfold ofCells at hv
                  split at hv
                  · split at hv
                    · assumption
                    · cases hv
                  · rename_i hag
                    split at hv
                    · rw [hok.one (by simpa using hag)]; rfl
                    · cases hv
                have hload := run_loadAt (P := P) (w := w) (b := bl) (p := 0) hP ht hsz hok.one (fun j hj => by
                  simp only [World.cell?, k3, Option.isSome_none, Bool.false_eq_true, if_false, Nat.zero_add, Array.getElem?_toList])
                have hgr := ofCells_ok k6 hv
                have hrun : (resRun tmps (.cell b t)).run P w = .ok (valOf ti arr.toList) w := by
                  simp only [Instr.loadAt, Instr.sureAddr, Sem.run_bind, Sem.run_pure, Result.andThen_ok] at hload
                  simp only [resRun, k1, asAddr, Sem.run_bind, Sem.run_pure, Result.andThen_ok, hload]
                have hgs : RelS C.T w St H (valOf ti arr.toList) f2 v := by
                  cases v <;> first | exact hgr | (exact RelS_of_RelC hgr)
                exact ⟨b, dd, as', _, f2, [bl], v, rfl, hr.symm, rfl, hrun, k2, hgs, hd, fun cs e => by rw [hb] at e; cases e⟩
        · cases hr
    obtain ⟨s, dd, as', u, f0, fx, v, e1, rfl, e3, e4, e5, e6, e7, e8⟩ := one
    rw [e1] at hnd
    simp only [nodupB, Bool.and_eq_true, Bool.not_eq_true'] at hnd
    have hns : s ∉ resSlots rs := fun hm => by
      have := hnd.1
      rw [List.any_eq_false] at this
      exact this s hm (by simp)
    obtain ⟨f1, f2, gs1, m1, m2, m3⟩ := un_ok (hT_of hP) e6 e7
    have hl := h.lift s
    have hpe : (F s ++ A).Perm (fx ++ (f2 ++ (f1 ++ A))) := by
      rw [e5, List.append_assoc, ← List.append_assoc f2 f1 A]
      exact List.Perm.append_left _ (List.Perm.append_right _ m2)
    have hi := (hl.perm hpe).drop.share
    have hcg : resDs C (E.set s .dead) rs ks = some as' := by
      rw [← e3]
      exact resDs_congr rs ks (fun x hx => by rw [geti_set, if_neg (fun q : x = s ∧ s < E.length => hns (q.1 ▸ hx))])
    obtain ⟨n0, St', F', E', fR, vs, gs, n1, n2, n3, n4, n5, n6⟩ := resDs_ok hP rs ks as' _ _ _ _ hi hcg hnd.2
    refine ⟨by simp [n0], St', F', E', f1 ++ fR, u :: vs, gs1 ++ gs, ?_, fun b hb => n2 b (.inl hb), n3.perm ?_, fun x cs hx => n4 x cs ?_, by simp [m1, n5, widths], fun Hc d i j ds hg hds => ?_⟩
    · simp only [List.mapM_cons, Sem.run_bind, e4, Result.andThen_ok, n1, Sem.run_pure]
    · rw [← List.append_assoc]
      exact List.Perm.append_right _ List.perm_append_comm
    · rw [geti_set, if_neg (fun q : x = s ∧ s < E.length => e8 cs (q.1 ▸ hx))]
      exact hx
    · have hd0 : rd ds j = dd := by have := hds 0 (by simp); simpa [rd] using this
      refine ⟨f1, fR, rfl, ?_, ?_⟩
      · have := m3 Hc d i (fun x hx => by
          rw [hg x (by simp only [widths]; omega), List.getD_eq_getElem?_getD, List.getD_eq_getElem?_getD, List.getElem?_append_left (by omega)])
        rw [hd0]
        exact this.mono n2 (fun _ _ => rfl) (fun _ _ => rfl) (fun x _ => HAg.refl Hc x)
      · refine n6 Hc d (i + k.width) (j + 1) ds (fun x hx => ?_) (fun x hx => ?_)
        · have := hg (k.width + x) (by simp only [widths]; omega)
          rw [show i + k.width + x = i + (k.width + x) by omega, this, List.getD_eq_getElem?_getD, List.getD_eq_getElem?_getD, List.getElem?_append_right (by omega), m1, Nat.add_sub_cancel_left]
        · have := hds (x + 1) (by simp; omega)
          rw [show j + 1 + x = j + (x + 1) by omega, this]
          simp [rd]
end Go.Ev
/- The reader is right: what it answers is what the call comes to. -/
namespace Go.Ev
open Go
set_option linter.unusedVariables false
set_option linter.unusedSimpArgs false
variable {cf : CF} {P : Program} {C : Ctx} {S : Frm} {w w' : World} {St St' : Nat → Prop} {H H' : Gh} {F : Nat → List Nat} {E E' E1 E2 : Env} {A f fd : List Nat} {o : Oper} {a : Act}
theorem partDs_none {g : FuncId} : ∀ (asx : List AV) (j : Nat) (ps : List Dat), (∀ i cs, geti asx i ≠ .pbox cs) → partDs C g E j asx = some ps → ps = []
  | [], j, ps, _, h => by simpa [partDs] using h.symm
  | v :: asx, j, ps, hn, h => by
    have h0 : ∀ cs, v ≠ .pbox cs := fun cs => by have := hn 0 cs; simpa [geti] using this
    have hr : partDs C g E (j + 1) asx = some ps := by
      cases v <;> first | exact h | exact absurd rfl (h0 _)
    exact partDs_none asx (j + 1) ps (fun i cs => by have := hn (i + 1) cs; simpa [geti] using this) hr
theorem partDs_one {g : FuncId} {jp : Nat} {cs0 : List AV} : ∀ (asx : List AV) (j : Nat) (ps : List Dat), geti asx jp = .pbox cs0 → (∀ i cs, geti asx i = .pbox cs → i = jp) → partDs C g E j asx = some ps →
    ∃ ks cs dd, C.pk g (j + jp) = some ks ∧ geti E (j + jp) = .pbox cs ∧ RK.cellsUn (j + jp) 0 ks cs = some dd ∧ ps = [.agg dd]
  | [], j, ps, h0, _, h => by simp [geti] at h0
  | v :: asx, j, ps, h0, hn, h => by
    cases jp with
    | zero =>
      have hv : v = .pbox cs0 := by simpa [geti] using h0
      subst hv
      simp only [partDs] at h
      split at h
      · rename_i ks cs hk hc
        cases hd : RK.cellsUn j 0 ks cs with
        | none => simp [hd] at h
        | some dd =>
          cases hp : partDs C g E (j + 1) asx with
          | none => simp [hd, hp] at h
          | some ps' =>
            simp only [hd, hp, Option.bind_some, Option.map_some, Option.some.injEq] at h
            have := partDs_none asx (j + 1) ps' (fun i cs hq => by have := hn (i + 1) cs (by simpa [geti] using hq); omega) hp
            subst this
            exact ⟨ks, cs, dd, hk, hc, hd, h.symm⟩
      · cases h
    | succ jp =>
      have hv : ∀ cs, v ≠ .pbox cs := fun cs e => by
        have := hn 0 cs (by simp [geti, e])
        omega
      have hr : partDs C g E (j + 1) asx = some ps := by
        cases v <;> first | exact h | exact absurd rfl (hv _)
      have := partDs_one (jp := jp) (cs0 := cs0) asx (j + 1) ps (by simpa [geti] using h0) (fun i cs hq => by have := hn (i + 1) cs (by simpa [geti] using hq); omega) hr
      rw [show j + 1 + jp = j + (jp + 1) by omega] at this
      exact this
theorem getD_app_undef (us : Array Value) (n s : Nat) : (us ++ Array.replicate n undef).getD s undef = us.getD s undef := by
  rw [Array.getD_eq_getD_getElem?, Array.getD_eq_getD_getElem?, Array.getElem?_append]
  split
  · rfl
  · rw [Array.getElem?_replicate, Array.getElem?_eq_none (by omega)]
    split <;> rfl
theorem geti_app_und (E : Env) (n s : Nat) : geti (E ++ List.replicate n .und) s = geti E s := by
  simp only [geti, List.getD_eq_getElem?_getD]
  by_cases h : s < E.length
  · rw [List.getElem?_append_left h]
  · rw [List.getElem?_append_right (by omega), List.getElem?_replicate, List.getElem?_eq_none (by omega : E.length ≤ s)]
    split <;> rfl
theorem Inv.more {T : TypeId → Option TI} {tmps : Array Value} (h : Inv T S tmps w St H F E A) (n : Nat) : Inv T S (tmps ++ Array.replicate n undef) w St H F (E ++ List.replicate n .und) A :=
  { h with
    len := by simp [h.len]
    rel := fun s hs => by
      rw [getD_app_undef, geti_app_und]
      by_cases hl : s < E.length
      · exact h.rel s hl
      · rw [h.out s (by omega), geti_ge (by omega)]
        rfl
    out := fun s hs => h.out s (by simp at hs; omega)
    ment := fun s x hx => by
      rw [geti_app_und] at hx ⊢
      exact h.ment s x hx
    box := fun s hs => by
      rw [geti_app_und] at hs
      rw [getD_app_undef]
      exact h.box s hs
    pbox := fun s cs hs => by
      rw [geti_app_und] at hs
      exact h.pbox s cs hs }
theorem results_eq (fn : Func) (tmps : Array Value) {vs : List Value} (h : (fn.results.toList.mapM (resRun tmps)).run P w = .ok vs w) : (results fn tmps).run P w = .ok (if h : vs.toArray.size = 1 then vs.toArray[0] else .tuple vs.toArray) w := by
  have e : results fn tmps = (fn.results.mapM (resRun tmps) >>= fun vs => pure (if h : vs.size = 1 then vs[0] else .tuple vs)) := by
    unfold results
    refine congrArg (· >>= _) (congrArg (fun g => Array.mapM g fn.results) (funext fun r => ?_))
    cases r <;> rfl
  rw [e, Array.mapM_eq_mapM_toList]
  simp only [Sem.run_bind, map_eq_pure_bind, h, Result.andThen_ok, Sem.run_pure]
/-- The end of a body. -/
theorem end_ok (hP : POk P C) {g : FuncId} {fn : Func} {args : List AV} {asx ps : List Dat} (h : Inv C.T S a.tmps w St H F E []) (hpb : ∀ j b o n, S.pb = some (j, b, o, n) → ∃ cs, geti args j = .pbox cs) (hpa : ∀ j cs, geti args j = .pbox cs → ∃ b o, S.pb = some (j, b, o, cs.length))
    (hr : resDs C E fn.results.toList (C.rk g) = some asx) (hnd : nodupB (resSlots fn.results.toList) = true) (hp : partDs C g E 0 args = some ps) : ∃ v, (results fn a.tmps).run P w = .ok v w ∧ Post C g (asx ++ ps) S v w := by
  obtain ⟨n0, St1, F1, E1, fR, vs, gs, n1, n2, n3, n4, n5, n6⟩ := resDs_ok hP fn.results.toList (C.rk g) asx St F E [] h hr hnd
  refine ⟨_, results_eq fn a.tmps n1, ?_⟩
  -- the lent part
  have part : ∃ (St2 : Nat → Prop) (F2 : Nat → List Nat) (E2 : Env) (fP : List Nat) (gsP : List Hdr), (∀ b, St1 b → St2 b) ∧ Inv C.T S a.tmps w St2 H F2 E2 (fR ++ (fP ++ [])) ∧ (S.pb = none → fP = []) ∧
      (∀ j b o n, S.pb = some (j, b, o, n) → ∃ pks arr et fz, C.pk g j = some pks ∧ pks.length = n ∧ w.heap[b]? = some (.cells arr et fz) ∧ o + n ≤ arr.size ∧
        ∀ (Hc : Gh) (d s off : Nat), (∀ x, x < n → Hc.hd0 d (widths (C.rk g) + x) = gsP.getD x hdr0) → (Hc.bx s).1 = b → (Hc.bx s).2 + off = o → Cells C.T w St2 Hc ((arr.toList.drop o).take n) fP (RK.cellsAV d s off (rd (asx ++ ps) (C.rk g).length) (widths (C.rk g)) 0 pks)) := by
    cases hpbS : S.pb with
    | none => exact ⟨St1, F1, E1, [], [], fun _ h => h, n3, fun _ => rfl, (fun j b o n hq => by cases hq)⟩
    | some q =>
      obtain ⟨jp, b, o', n⟩ := q
      obtain ⟨cs0, hcs0⟩ := hpb jp b o' n hpbS
      obtain ⟨ks, cs, dd, k1, k2, k3, k4⟩ := partDs_one (jp := jp) (cs0 := cs0) args 0 ps hcs0 (fun i cs hq => by
        obtain ⟨b2, o2, q1⟩ := hpa i cs hq
        rw [hpbS] at q1
        simp only [Option.some.injEq, Prod.mk.injEq] at q1
        exact q1.1.symm) hp
      rw [Nat.zero_add] at k1 k2 k3
      have hE1 := n4 jp cs k2
      have hl := slot_lt (E := E1) (s := jp) (by rw [hE1]; simp)
      have hrs := n3.rel jp hl
      have hbx := n3.box jp (by rw [hE1]; rfl)
      obtain ⟨b2, o2, q1, q2⟩ := n3.pbox jp cs hE1
      rw [hpbS] at q1
      simp only [Option.some.injEq, Prod.mk.injEq] at q1
      obtain ⟨_, rfl, rfl, rfl⟩ := q1
      rw [hE1] at hrs
      obtain ⟨b3, o3, arr, et, fz, m1, m3, m4, m5, m6⟩ := hrs
      rw [m1, q2] at hbx
      simp only [Value.pointer.injEq, Option.some.injEq, Addr.mk.injEq, and_true] at hbx
      obtain ⟨rfl, rfl⟩ := hbx
      obtain ⟨c1, c2, f1, f2, gsP, c3, c4, c5⟩ := cellsUn_ok (hT_of hP) ks cs _ _ dd m6 k3
      have hlift := n3.lift jp
      have hpe : (F1 jp ++ (fR ++ [])).Perm (f2 ++ (fR ++ (f1 ++ []))) := by
        rw [List.append_nil, List.append_nil]
        refine List.perm_iff_count.2 fun x => ?_
        have := List.perm_iff_count.1 c4 x
        simp only [List.count_append] at this ⊢
        omega
      have hi := (hlift.perm hpe).share
      refine ⟨_, _, _, f1, gsP, fun b hb => .inl hb, hi, (fun hq => by cases hq), fun j b o n hq => ?_⟩
      simp only [Option.some.injEq, Prod.mk.injEq] at hq
      obtain ⟨rfl, rfl, rfl, rfl⟩ := hq
      refine ⟨ks, arr, et, fz, k1, c1.symm, m3, m5, fun Hc d s off hg hb1 hb2 => ?_⟩
      have hrd : rd (asx ++ ps) (C.rk g).length = .agg dd := by
        rw [k4]
        simp [rd, ← n0]
      rw [hrd]
      exact c5 Hc d s off (widths (C.rk g)) 0 (.agg dd) (fun x hx => hg x (by omega)) (fun x hx => by simp [Dat.C]) (.inr ⟨by rw [hb1, q2], by rw [hb2, q2]⟩)
  obtain ⟨St2, F2, E2, fP, gsP, p1, p2, p3, p4⟩ := part
  have hA : fR ++ (fP ++ []) = fR ++ fP := by rw [List.append_nil]
  rw [hA] at p2
  have hgR : ∀ x, x < widths (C.rk g) → (gs ++ gsP).getD x hdr0 = gs.getD x hdr0 := fun x hx => by
    rw [List.getD_eq_getElem?_getD, List.getD_eq_getElem?_getD, List.getElem?_append_left (by omega)]
  have hgP : ∀ x, (gs ++ gsP).getD (widths (C.rk g) + x) hdr0 = gsP.getD x hdr0 := fun x => by
    rw [List.getD_eq_getElem?_getD, List.getD_eq_getElem?_getD, List.getElem?_append_right (by omega), n5, Nat.add_sub_cancel_left]
  have hpbn : ∀ b, (St2 b ∨ b ∈ fR ++ fP) → PbNe S b := fun b hb j b' o' n hq e => by
    obtain ⟨x1, x2, _⟩ := p2.pbx j b' o' n hq
    rcases hb with hb | hb
    · exact x1 (e ▸ hb)
    · exact x2 (e ▸ hb)
  refine ⟨St2, fun i => (gs ++ gsP).getD i hdr0, fR, fP, p2.keep, p2.st0, fun b hb => ⟨(p2.stl b hb).1, hpbn b (.inl hb), (p2.stl b hb).2⟩, p2.and, fun b hb => ⟨(p2.afr b hb).1, (p2.afr b hb).2.1, hpbn b (.inr hb), (p2.afr b hb).2.2⟩, fun Hc d hg => ?_, p3, fun j b o' n hq => ?_⟩
  · have hgs := (n6 Hc d 0 0 (asx ++ ps) (fun x hx => by rw [Nat.zero_add, hg]; exact hgR x hx) (fun x hx => by
      rw [Nat.zero_add]
      simp only [rd, List.getD_eq_getElem?_getD, List.getElem?_append_left (show x < asx.length by omega)])).mono p1 (fun _ _ => rfl) (fun _ _ => rfl) (fun x _ => HAg.refl Hc x)
    rcases resV_cases d (C.rk g) (asx ++ ps) with ⟨k, hk, e⟩ | e
    · rw [e]
      rw [hk] at hgs
      simp only [RK.avs] at hgs
      match vs, hgs with
      | [], hgs => exact hgs.elim
      | [u], hgs =>
        obtain ⟨f1, f2, rfl, k1, k2⟩ := hgs
        have : f2 = [] := k2
        subst this
        rw [List.append_nil] at *
        exact av_toS.2 k1
      | _ :: _ :: _, hgs =>
        obtain ⟨f1, f2, _, _, k2⟩ := hgs
        exact k2.elim
    · rw [e]
      have hvl : vs.length = (C.rk g).length := by
        have : ∀ (ks : List RK) (i j : Nat) (vs : List Value) (f : List Nat), Gs C.T w St2 Hc vs f (RK.avs d (asx ++ ps) i j ks) → vs.length = ks.length := by
          intro ks
          induction ks with
          | nil =>
            intro i j vs f h
            cases vs with
            | nil => rfl
            | cons v vs => exact h.elim
          | cons k ks ih =>
            intro i j vs f h
            cases vs with
            | nil => exact h.elim
            | cons v vs =>
              obtain ⟨f1, f2, _, _, k2⟩ := h
              simp [ih _ _ _ _ k2]
        exact this _ _ _ _ _ hgs
      have hne : ¬ vs.toArray.size = 1 := fun h1 => by
        have h2 : (C.rk g).length = 1 := by rw [← hvl]; simpa using h1
        obtain ⟨k, hk⟩ := List.length_eq_one_iff.1 h2
        rw [hk] at e
        have : resV d [k] (asx ++ ps) = k.av d 0 (rd (asx ++ ps) 0) := rfl
        rw [this] at e
        cases k <;> simp [RK.av] at e
      rw [dif_neg hne]
      exact ⟨vs.toArray, rfl, by simpa using hgs⟩
  · obtain ⟨pks, arr, et, fz, c1, c2, c3, c4, c5⟩ := p4 j b o' n hq
    exact ⟨pks, arr, et, fz, c1, c2, c3, c4, fun Hc d s off hg hb1 hb2 => c5 Hc d s off (fun x hx => by rw [hg]; exact hgP x) hb1 hb2⟩
theorem body_ok (hP : POk P C) (hcf : CfOk P C cf) {N : Nat} {g : FuncId} {fn : Func} {c : Code} {args : List AV} {ds : List Dat} (hfn : C.fn g = some fn) (hb : fn.body = some c) (he : evBody C cf N g fn c args = some ds) : FnOk P C g args ds := by
  intro S us H F hS hi hpb
  unfold CallOk
  rw [hP.enter g (by rw [hfn]; rfl)]
  simp only
  refine calls_of_wp (hP.fn g fn hfn) hb ?_
  unfold evBody at he
  cases hnd : nodupB (resSlots fn.results.toList) with
  | false => simp [hnd] at he
  | true =>
    simp only [hnd, Bool.not_true, cond_false] at he
    have hlen := hi.len
    have hi' := hi.more (fn.ntmps - us.size)
    rw [← hlen] at hi'
    rw [← hlen]
    refine code_ok hP hS hcf c _ _ _ _ ds _ (fun x a w E hx h' he' => ?_) ⟨rfl, _, _, _, hi'⟩ he
    obtain ⟨hd, St, H, F, hinv⟩ := h'
    have fin : ((resDs C E fn.results.toList (C.rk g)).bind fun a => (partDs C g E 0 args).map (a ++ ·)) = some ds → a.defers = [] ∧ ∃ v, (results fn a.tmps).run P w = .ok v w ∧ Post C g ds S v w := by
      intro hq
      cases hr : resDs C E fn.results.toList (C.rk g) with
      | none => simp [hr] at hq
      | some asx =>
        cases hp : partDs C g E 0 args with
        | none => simp [hr, hp] at hq
        | some ps =>
          simp only [hr, hp, Option.bind_some, Option.map_some, Option.some.injEq] at hq
          subst hq
          exact ⟨hd, end_ok hP hinv hpb (fun j cs hj => by
            obtain ⟨b, o', q1, _⟩ := hi.pbox j cs hj
            exact ⟨b, o', q1⟩) hr hnd hp⟩
    cases x with
    | normal => exact fin he'
    | ret => exact fin he'
    | exit id => cases he'
    | goto l => cases hx
    | panic ch => cases hx
    | outgrown => cases hx
theorem ev_ok (hP : POk P C) (hgiven : ∀ g h args ds, C.given g = some h → h args = some ds → FnR P C g args ds) : ∀ n, CfOk P C (ev C n)
  | 0 => fun g args ds he => by simp [ev] at he
  | n + 1 => fun g args ds he => by
    simp only [ev] at he
    cases hg : C.given g with
    | some h =>
      rw [hg] at he
      exact hgiven g h args ds hg he
    | none =>
      rw [hg] at he
      simp only at he
      cases hio : C.io g with
      | true => simp [hio] at he
      | false =>
      simp only [hio] at he
      cases hf : C.fn g with
      | none => simp [hf] at he
      | some fn =>
        simp only [hf] at he
        cases hb : fn.body with
        | none => simp [hb] at he
        | some c =>
          simp only [hb] at he
          exact (body_ok hP (ev_ok hP hgiven n) hf hb he).r hio
end Go.Ev
/- A context out of a program, and a look over it that the kernel can do. -/
namespace Go.Ev
open Go
set_option linter.unusedVariables false
set_option linter.unusedSimpArgs false
def pickUp {α : Type} (k : Nat) : List (Nat × α) → Option α
  | [] => none
  | (j, a) :: r => bif Nat.beq k j then some a else pickUp k r
def ctxOf (P : Program) (tys : List (Option TI)) (ok : List Bool) (rks : List (List RK)) (pks : List ((Nat × Nat) × List RK)) (ows : List (Nat × Nat)) (glob : Nat → Option AV) (given : FuncId → Option (List AV → Option (List Dat))) (keeps : List (List Nat)) (ios : List Nat) (eqs : List Nat) (gint : List (Nat × (Obj → Prop)) := []) : Ctx :=
  { T := fun t => tys.getD t none, fn := fun f => bif ok.getD f false then P.funcs[f]? else none, rk := fun f => rks.getD f [], pk := fun f j => pks.lookup (f, j), ow := fun f j => ows.contains (f, j), glob := glob, given := given, keep := fun f => keeps.getD f [], io := fun f => ios.any fun g => Nat.beq g f, eqs := fun t => eqs.any fun g => Nat.beq g t, gint := gint }
def zeroB : CT → Value → Bool
  | .int k, .int k' n => k == k' && n == 0
  | .bool, .bool b => !b
  | .str, .string s => s.size == 0
  | .slice _, .slice a l c => a.isNone && l == 0 && c == 0
  | .ptr, .pointer p => p.isNone
  | _, _ => false
theorem zeroB_ok {c : CT} {v : Value} (h : zeroB c v = true) : v = zeroV c := by
  cases c <;> cases v <;> simp only [zeroB, Bool.false_eq_true] at h
  case int.int k k' n =>
    rw [Bool.and_eq_true, beq_iff_eq, beq_iff_eq] at h
    rw [h.1, h.2]; rfl
  case bool.bool b =>
    have : b = false := by simpa using h
    rw [this]; rfl
  case str.string s =>
    rw [beq_iff_eq] at h
    have : s = ByteArray.empty := by
      obtain ⟨d⟩ := s
      have hd : d.size = 0 := h
      have : d = #[] := Array.eq_empty_of_size_eq_zero hd
      rw [this]; rfl
    rw [this]; rfl
  case slice.slice e a l c =>
    simp only [Bool.and_eq_true, beq_iff_eq, Option.isNone_iff_eq_none] at h
    rw [h.1.1, h.1.2, h.2]; rfl
  case ptr.pointer p =>
    rw [Option.isNone_iff_eq_none] at h
    rw [h]; rfl
def zerosB : List CT → List Value → Bool
  | [], [] => true
  | c :: cs, v :: vs => zeroB c v && zerosB cs vs
  | _, _ => false
theorem zerosB_ok : ∀ {cs : List CT} {vs : List Value}, zerosB cs vs = true → vs = cs.map zeroV
  | [], [], _ => rfl
  | [], _ :: _, h => by simp [zerosB] at h
  | _ :: _, [], h => by simp [zerosB] at h
  | c :: cs, v :: vs, h => by
    simp only [zerosB, Bool.and_eq_true] at h
    rw [zeroB_ok h.1, zerosB_ok h.2, List.map_cons]
def isOth : CT → Bool | .oth => true | _ => false
def zeroOk (ti : TI) (z : Option Value) : Bool :=
  match ti.agg, z with
  | true, some (.agg vs) => zerosB ti.cts vs.toList
  | false, some v => (match ti.cts with | [c] => zeroB c v | _ => false)
  | _, _ => false
theorem zeroOk_ok {ti : TI} {z : Option Value} (h : zeroOk ti z = true) : z = some (if ti.agg then .agg (ti.cts.map zeroV).toArray else (match ti.cts with | [c] => zeroV c | _ => undef)) := by
  unfold zeroOk at h
  split at h
  · rename_i vs hag
    rw [hag, if_pos rfl, ← zerosB_ok h]
  · rename_i v hag
    split at h
    · rename_i c hc
      rw [hag, hc, zeroB_ok h]
      rfl
    · cases h
  · cases h
def aggB : TypeDesc → Bool
  | .struct _ => true
  | .array _ _ => true
  | _ => false
def fieldsB (P : Program) (fs : List (Nat × TypeId)) (fields : Array Field) : Bool :=
  decide (fields.toList.map (fun f => (f.offset, f.type)) = fs) && (fields.toList.mapM (fun f => (P.info? f.type).map fun i => (f.offset, i.size))).isSome
def oneCT (cts : List CT) (p : CT → Bool) : Bool := match cts with | [c] => p c | _ => false
theorem oneCT_ok {cts : List CT} {p : CT → Bool} (h : oneCT cts p = true) : ∃ c, cts = [c] ∧ p c = true := by
  unfold oneCT at h
  split at h
  · exact ⟨_, rfl, h⟩
  · cases h
def scalB (d : TypeDesc) (c : CT) : Bool :=
  match d with
  | .int k => (match c with | .int k' => k == k' | _ => false)
  | .bool => (match c with | .bool => true | _ => false)
  | .string => (match c with | .str => true | _ => false)
  | _ => false
def sliceB (e : TypeId) (d : TypeDesc) (c : CT) : Bool := match d with | .slice e' => e == e' && (match c with | .slice e'' => e == e'' | _ => false) | _ => false
def ptrB (e : TypeId) (d : TypeDesc) (c : CT) : Bool := match d with | .pointer e' => e == e' && (match c with | .ptr => true | _ => false) | _ => false
def structB (P : Program) (fs : List (Nat × TypeId)) (d : TypeDesc) : Bool := match d with | .struct fields => fieldsB P fs fields | _ => false
def arrB (n : Nat) (e : TypeId) (d : TypeDesc) : Bool := match d with | .array n' e' => n == n' && e == e' | _ => false
def descB (P : Program) (d : TypeDesc) (ti : TI) : Bool :=
  match ti.sh with
  | .scal => oneCT ti.cts (scalB d)
  | .slice e => oneCT ti.cts (sliceB e d)
  | .ptr e => oneCT ti.cts (ptrB e d)
  | .struct fs => structB P fs d
  | .arr n e => arrB n e d
  | .oth => true
def tiB (P : Program) (t : TypeId) (ti : TI) : Bool :=
  match P.info? t, P.underlying t with
  | some i, some d => i.size == ti.size && i.bytes == ti.bytes && ti.cts.length == ti.size && (ti.agg == aggB d) && (ti.agg || ti.size == 1) && descB P d ti && (ti.cts.any isOth || zeroOk ti i.zero)
  | _, _ => false
theorem tiB_ok {P : Program} {t : TypeId} {ti : TI} (h : tiB P t ti = true) : TIok P t ti := by
  unfold tiB at h
  split at h
  · rename_i i d hi hd
    simp only [Bool.and_eq_true, beq_iff_eq, Bool.or_eq_true] at h
    obtain ⟨⟨⟨⟨⟨⟨h1, h2⟩, h3⟩, h4⟩, h5⟩, h6⟩, h7⟩ := h
    refine ⟨⟨i, hi, h1, h2, fun hc => ?_⟩, h3, ?_, ?_, fun ha => ?_, ⟨d, hd⟩⟩
    · rcases h7 with h7 | h7
      · exfalso
        obtain ⟨c, hc1, hc2⟩ := List.any_eq_true.1 h7
        refine hc c hc1 ?_
        cases c <;> first | rfl | cases hc2
      · exact zeroOk_ok h7
    · rw [h4]
      constructor
      · intro ha
        cases d <;> first
          | exact .inl ⟨_, hd⟩
          | exact .inr ⟨_, _, hd⟩
          | (exfalso; simp [aggB] at ha)
      · rintro (⟨fs, hf⟩ | ⟨n, e, hf⟩) <;> rw [hd, Option.some.injEq] at hf <;> rw [hf] <;> rfl
    · unfold descB at h6
      cases hsh : ti.sh <;> simp only [hsh] at h6 ⊢
      case scal =>
        obtain ⟨c, hc, hp⟩ := oneCT_ok h6
        refine ⟨c, hc, ?_⟩
        cases d <;> cases c <;> simp only [scalB, Bool.false_eq_true] at hp <;> first
          | exact hd
          | skip
        rw [beq_iff_eq] at hp
        rw [← hp]
        exact hd
      case slice e =>
        obtain ⟨c, hc, hp⟩ := oneCT_ok h6
        cases d <;> cases c <;> simp only [sliceB, Bool.and_false, Bool.false_eq_true] at hp
        rw [Bool.and_eq_true, beq_iff_eq, beq_iff_eq] at hp
        exact ⟨by rw [hd, hp.1], by rw [hc, hp.2]⟩
      case ptr e =>
        obtain ⟨c, hc, hp⟩ := oneCT_ok h6
        cases d <;> cases c <;> simp only [ptrB, Bool.and_false, Bool.false_eq_true, Bool.and_true] at hp
        rw [beq_iff_eq] at hp
        exact ⟨by rw [hd, hp], hc⟩
      case struct fs =>
        cases d <;> simp only [structB, Bool.false_eq_true] at h6
        rw [fieldsB, Bool.and_eq_true, decide_eq_true_eq] at h6
        exact ⟨_, hd, h6.1, h6.2⟩
      case arr n e =>
        cases d <;> simp only [arrB, Bool.false_eq_true] at h6
        rw [Bool.and_eq_true, beq_iff_eq, beq_iff_eq] at h6
        rw [hd, h6.1, h6.2]
    · rcases h5 with h5 | h5
      · rw [ha] at h5; cases h5
      · exact h5
  · cases h
def tysB (P : Program) : Nat → List (Option TI) → Bool
  | _, [] => true
  | t, some ti :: l => tiB P t ti && tysB P (t + 1) l
  | t, none :: l => tysB P (t + 1) l
theorem tysB_ok {P : Program} : ∀ {l : List (Option TI)} {t0 : Nat}, tysB P t0 l = true → ∀ k ti, l.getD k none = some ti → TIok P (t0 + k) ti
  | [], _, _, k, ti, hk => by simp at hk
  | some ti0 :: l, t0, h, 0, ti, hk => by
    simp only [tysB, Bool.and_eq_true] at h
    simp only [List.getD_cons_zero, Option.some.injEq] at hk
    subst hk
    exact tiB_ok h.1
  | some ti0 :: l, t0, h, k + 1, ti, hk => by
    simp only [tysB, Bool.and_eq_true] at h
    have := tysB_ok h.2 k ti (by simpa using hk)
    rw [show t0 + (k + 1) = t0 + 1 + k by omega]
    exact this
  | none :: l, t0, h, 0, ti, hk => by simp at hk
  | none :: l, t0, h, k + 1, ti, hk => by
    have := tysB_ok (l := l) (t0 := t0 + 1) h k ti (by simpa using hk)
    rw [show t0 + (k + 1) = t0 + 1 + k by omega]
    exact this
def okB (P : Program) : Nat → List Bool → Bool
  | _, [] => true
  | f, true :: l => (match P.funcs[f]? with | some fn => fn.body.isSome && !(fn.name == "runtime.NumGoroutine") | none => false) && okB P (f + 1) l
  | f, false :: l => okB P (f + 1) l
theorem okB_ok {P : Program} : ∀ {l : List Bool} {f0 : Nat}, okB P f0 l = true → ∀ k, l.getD k false = true → ∃ fn, P.funcs[f0 + k]? = some fn ∧ fn.body.isSome = true ∧ (fn.name == "runtime.NumGoroutine") = false
  | [], _, _, k, hk => by simp at hk
  | true :: l, f0, h, 0, hk => by
    simp only [okB, Bool.and_eq_true] at h
    have h1 := h.1
    split at h1
    · rename_i fn hfn
      rw [Bool.and_eq_true, Bool.not_eq_true'] at h1
      exact ⟨fn, hfn, h1.1, h1.2⟩
    · cases h1
  | true :: l, f0, h, k + 1, hk => by
    simp only [okB, Bool.and_eq_true] at h
    have := okB_ok h.2 k (by simpa using hk)
    rw [show f0 + (k + 1) = f0 + 1 + k by omega]
    exact this
  | false :: l, f0, h, 0, hk => by simp at hk
  | false :: l, f0, h, k + 1, hk => by
    have := okB_ok (l := l) (f0 := f0 + 1) h k (by simpa using hk)
    rw [show f0 + (k + 1) = f0 + 1 + k by omega]
    exact this
def eqsB (P : Program) (tys : List (Option TI)) (eqs : List Nat) : Bool :=
  eqs.all fun t => match P.underlying t, tys.getD t none with
    | some d, some ti => eqT P 6 t ti.cts && isAggD d && !P.eqGuardType P.depth t
    | _, _ => false
theorem eqsB_ok {P : Program} {tys : List (Option TI)} {eqs : List Nat} (h : eqsB P tys eqs = true) {t : TypeId} {ti : TI} (ht : (eqs.any fun g => Nat.beq g t) = true) (hti : tys.getD t none = some ti) : EqOk P t ti := by
  obtain ⟨g, hg, he⟩ := List.any_eq_true.1 ht
  have hgt : g = t := Nat.eq_of_beq_eq_true he
  subst hgt
  have := List.all_eq_true.1 h g hg
  simp only [hti] at this
  split at this
  · rename_i d ti' hu hti'
    cases hti'
    rw [Bool.and_eq_true, Bool.and_eq_true, Bool.not_eq_true'] at this
    exact ⟨this.1.1, ⟨d, hu, this.1.2⟩, this.2⟩
  · cases this
theorem pok_of {P : Program} {tys : List (Option TI)} {ok : List Bool} {rks : List (List RK)} {pks : List ((Nat × Nat) × List RK)} {ows : List (Nat × Nat)} {glob : Nat → Option AV} {given : FuncId → Option (List AV → Option (List Dat))} {keeps : List (List Nat)} {ios : List Nat} {eqs : List Nat} {gint : List (Nat × (Obj → Prop))}
    (h1 : tysB P 0 tys = true) (h2 : okB P 0 ok = true) (h3 : P.follows .mixedOrders = true) (h4 : eqsB P tys eqs = true) : POk P (ctxOf P tys ok rks pks ows glob given keeps ios eqs gint) where
  eq := fun t ti ht hti => eqsB_ok h4 ht hti
  ti := fun t ti ht => by
    have := tysB_ok h1 t ti ht
    rwa [Nat.zero_add] at this
  fn := fun f fn hf => by
    simp only [ctxOf] at hf
    cases hk : ok.getD f false with
    | false => rw [hk] at hf; cases hf
    | true => rw [hk] at hf; exact hf
  mixed := h3
  enter := fun f hf args w => by
    simp only [ctxOf] at hf
    cases hk : ok.getD f false with
    | false => rw [hk] at hf; cases hf
    | true =>
      obtain ⟨fn, k1, k2, k3⟩ := okB_ok h2 f hk
      rw [Nat.zero_add] at k1
      have hne : fn.name ≠ "runtime.NumGoroutine" := by simpa using k3
      obtain ⟨c, hb⟩ := Option.isSome_iff_exists.1 k2
      simp [callFunc, k1, hne, hb]
end Go.Ev
/- The law's door: what a handed value is, as plain data. -/
namespace Go.Ev
open Go Go.ChangeShapes Go.WideShapes Go.RowKit
set_option linter.unusedVariables false
set_option linter.unusedSimpArgs false
def dcells (ti : TI) (d : Dat) : List Dat := if ti.agg then (match d with | .agg l => l | _ => []) else [d]
def fitS (c : CT) (d : Dat) : Prop :=
  match c with
  | .int k => ∃ n, d = .int n ∧ (Lit.int k n).wf = true
  | .bool => ∃ b, d = .bool b
  | .str => ∃ s : ByteArray, d = .str s ∧ s.size ≤ 140737488351232
  | _ => False
def fitF (Pf : TypeId → Dat → Prop) (T : TypeId → Option TI) : List (Nat × TypeId) → List Dat → Prop
  | [], l => l = []
  | (_, ft) :: fs, l => ∃ fti d l', T ft = some fti ∧ l = dcells fti d ++ l' ∧ (dcells fti d).length = fti.size ∧ Pf ft d ∧ fitF Pf T fs l'
/-- Data of a type, as they may be handed. -/
def fitT (T : TypeId → Option TI) : Nat → TypeId → Dat → Prop
  | 0, _, _ => False
  | k + 1, t, d => ∃ ti, T t = some ti ∧ (match ti.sh with
    | .scal => ∃ c, ti.cts = [c] ∧ fitS c d
    | .slice e => ∃ l, d = .list l ∧ (∃ te, T e = some te ∧ l.length * te.bytes ≤ 140737488351232) ∧ ∀ x, x ∈ l → fitT T k e x
    | .struct fs => ∃ l, d = .agg l ∧ fitF (fitT T k) T fs l
    | _ => False)
def layF (Pb : TypeId → Bool) (T : TypeId → Option TI) : Nat → List (Nat × TypeId) → List CT → Bool
  | _, [], cts => cts.isEmpty
  | off, (o, ft) :: fs, cts => o == off && (match T ft with | some fti => Pb ft && decide (cts.take fti.size = fti.cts) && layF Pb T (off + fti.size) fs (cts.drop fti.size) | none => false)
def layB (T : TypeId → Option TI) : Nat → TypeId → Bool
  | 0, _ => false
  | k + 1, t => match T t with
    | some ti => (match ti.sh with
      | .scal => true
      | .slice e => (match T e with | some te => decide (0 < te.size) | none => false) && layB T k e
      | .struct fs => ti.agg && layF (layB T k) T 0 fs ti.cts
      | _ => false)
    | none => false
variable {H : Type} {enc : TypeId × Value → H} {P : Program} {C : Ctx} {W : World} {base : Nat} {spare : Nat → Bool} {held : Bool}
def AllB (W : World) (b : Nat) : Prop := b < W.heap.size
theorem cells_of (hP : POk P C) {t : TypeId} {ti : TI} (h : C.T t = some ti) : P.cellsOf t = ti.size ∧ P.bytesOf t = ti.bytes := by
  obtain ⟨i, h1, h2, h3, _⟩ := (hP.ti t ti h).info
  exact ⟨by simp [Program.cellsOf, h1, h2], by simp [Program.bytesOf, h1, h3]⟩
structure Opened (C : Ctx) (W : World) (k : Nat) (t : TypeId) (cs : List Value) (ti : TI) (d : Dat) : Prop where
  ty : C.T t = some ti
  len : cs.length = ti.size
  rel : ∀ j ct, ti.cts[j]? = some ct → ∃ q, cs[j]? = some q ∧ RelD C.T W (AllB W) ct q (cellOf ti d j)
  fit : fitT C.T k t d
  cells : (dcells ti d).length = ti.size
theorem weightsAll_mem {e : TypeId} : ∀ {l : List (DataW H)} {d : DataW H}, d ∈ l → ∀ n ∈ d.weights P e, n ∈ DataW.weightsAll P e l
  | [], _, h, _, _ => by cases h
  | d0 :: r, d, h, n, hn => by
    simp only [DataW.weightsAll, List.mem_append]
    rcases List.mem_cons.mp h with rfl | h
    · exact .inl hn
    · exact .inr (weightsAll_mem h n hn)
theorem weightsEach_mem : ∀ {ts : List TypeId} {l : List (DataW H)} {i : Nat} {t : TypeId} {d : DataW H}, ts[i]? = some t → l[i]? = some d → ∀ n ∈ d.weights P t, n ∈ DataW.weightsEach P ts l
  | [], _, i, _, _, h, _, _, _ => by simp at h
  | _ :: _, [], i, _, _, _, h, _, _ => by simp at h
  | t0 :: ts, d0 :: l, 0, t, d, h, h', n, hn => by
    simp only [List.getElem?_cons_zero, Option.some.injEq] at h h'
    subst h h'
    simp only [DataW.weightsEach, List.mem_append]
    exact .inl hn
  | t0 :: ts, d0 :: l, i + 1, t, d, h, h', n, hn => by
    simp only [DataW.weightsEach, List.mem_append]
    exact .inr (weightsEach_mem (by simpa using h) (by simpa using h') n hn)
theorem list_of {α : Type} {Q : Nat → α → Prop} : ∀ n : Nat, (∀ i, i < n → ∃ a, Q i a) → ∃ l : List α, l.length = n ∧ ∀ i a, l[i]? = some a → Q i a := by
  intro n
  induction n with
  | zero => exact fun _ => ⟨[], rfl, fun i a h => by simp at h⟩
  | succ n ih =>
    intro h
    obtain ⟨l, hl, hq⟩ := ih (fun i hi => h i (by omega))
    obtain ⟨a, ha⟩ := h n (by omega)
    refine ⟨l ++ [a], by simp [hl], fun i b hb => ?_⟩
    by_cases hi : i < n
    · rw [List.getElem?_append_left (by omega)] at hb
      exact hq i b hb
    · rw [List.getElem?_append_right (by omega), hl] at hb
      have hi2 : i - n = 0 := by
        have := (List.getElem?_eq_some_iff.1 hb).1
        simp at this
        omega
      rw [hi2] at hb
      have e : i = n := by omega
      subst e
      simp only [List.getElem?_cons_zero, Option.some.injEq] at hb
      subst hb
      exact ha
/-- The fields of a struct, one behind the other. -/
theorem openF (hP : POk P C) {k : Nat} {cs : List Value} {fs0 : List (Nat × TypeId)}
    (each : ∀ o ft, (o, ft) ∈ fs0 → ∃ d, ∀ fti, C.T ft = some fti → layB C.T k ft = true → Opened C W k ft ((cs.drop o).take fti.size) fti d) :
    ∀ (fs : List (Nat × TypeId)) (off : Nat) (cts : List CT), (∀ p, p ∈ fs → p ∈ fs0) → layF (layB C.T k) C.T off fs cts = true → off + cts.length ≤ cs.length →
      ∃ l, l.length = cts.length ∧ fitF (fitT C.T k) C.T fs l ∧ ∀ j ct, cts[j]? = some ct → ∃ q, cs[off + j]? = some q ∧ RelD C.T W (AllB W) ct q (l.getD j .nil)
  | [], off, cts, _, hl, _ => by
    have : cts = [] := by simpa [layF] using hl
    subst this
    exact ⟨[], rfl, rfl, fun j ct hj => by simp at hj⟩
  | (o, ft) :: fs, off, cts, hsub, hl, hle => by
    simp only [layF, Bool.and_eq_true, beq_iff_eq] at hl
    obtain ⟨rfl, hl⟩ := hl
    cases hft : C.T ft with
    | none => simp [hft] at hl
    | some fti =>
      simp only [hft, Bool.and_eq_true, decide_eq_true_eq] at hl
      obtain ⟨⟨hlay, hct⟩, hrest⟩ := hl
      obtain ⟨d, hd⟩ := each o ft (hsub _ List.mem_cons_self)
      have hop := hd fti hft hlay
      have hflen : fti.cts.length = fti.size := (hP.ti ft fti hft).len
      have hctl : fti.size ≤ cts.length := by
        have : (cts.take fti.size).length = fti.size := by rw [hct, hflen]
        rw [List.length_take] at this
        omega
      obtain ⟨l, k1, k2, k3⟩ := openF hP each fs (o + fti.size) (cts.drop fti.size) (fun p hp => hsub p (List.mem_cons_of_mem _ hp)) hrest (by rw [List.length_drop]; omega)
      refine ⟨dcells fti d ++ l, by rw [List.length_append, hop.cells, k1, List.length_drop]; omega, ⟨fti, d, l, hft, rfl, hop.cells, hop.fit, k2⟩, fun j ct hj => ?_⟩
      by_cases hjs : j < fti.size
      · have hj' : fti.cts[j]? = some ct := by rw [← hct, List.getElem?_take_of_lt hjs]; exact hj
        obtain ⟨q, q1, q2⟩ := hop.rel j ct hj'
        rw [List.getElem?_take_of_lt hjs, List.getElem?_drop] at q1
        refine ⟨q, q1, ?_⟩
        have : (dcells fti d ++ l).getD j .nil = cellOf fti d j := by
          rw [List.getD_eq_getElem?_getD, List.getElem?_append_left (by rw [hop.cells]; exact hjs)]
          unfold dcells cellOf
          cases hag : fti.agg with
          | true =>
            simp only [if_true]
            cases d <;> simp [Dat.C, List.getD_eq_getElem?_getD]
          | false =>
            have := (hP.ti ft fti hft).one hag
            have hj0 : j = 0 := by omega
            subst hj0
            simp
        rw [this]
        exact q2
      · obtain ⟨q, q1, q2⟩ := k3 (j - fti.size) ct (by rw [List.getElem?_drop, ← hj]; congr 1; omega)
        refine ⟨q, by rw [← q1]; congr 1; omega, ?_⟩
        have : (dcells fti d ++ l).getD j .nil = l.getD (j - fti.size) .nil := by
          rw [List.getD_eq_getElem?_getD, List.getElem?_append_right (by rw [hop.cells]; omega), hop.cells, List.getD_eq_getElem?_getD]
        rw [this]
        exact q2
theorem open_ok (hP : POk P C) : ∀ (k : Nat) (t : TypeId) (fuel : Nat) (cs : List Value) (x : DataW H × List MemPlace), layB C.T k t = true → DataW.trod enc P W base spare held fuel t cs = some x → (∀ n ∈ x.1.weights P t, n ≤ reachBytes) → ∃ ti d, Opened C W k t cs ti d
  | 0, _, _, _, _, hl, _, _ => by simp [layB] at hl
  | k + 1, t, fuel, cs, x, hl, h, hw => by
    simp only [layB] at hl
    cases ht : C.T t with
    | none => simp [ht] at hl
    | some ti =>
      simp only [ht] at hl
      have hok := hP.ti t ti ht
      have hsh := hok.sh
      obtain ⟨hcell, hbyte⟩ := cells_of hP ht
      cases hs : ti.sh <;> simp only [hs, Bool.false_eq_true] at hl hsh
      case scal =>
        obtain ⟨c, hc, hu⟩ := hsh
        have hag : ti.agg = false := by
          cases hb : ti.agg with
          | false => rfl
          | true =>
            rcases hok.agg.1 hb with ⟨fs, h1⟩ | ⟨n, e, h1⟩ <;> cases c <;> simp only [h1, Option.some.injEq, reduceCtorEq] at hu
        have hsz : ti.size = 1 := hok.one hag
        have fin : ∀ (v : Value) (d : Dat), cs = [v] → RelD C.T W (AllB W) c v d → fitS c d → ∃ ti d, Opened C W (k + 1) t cs ti d := fun v d hcs hr hf => by
          refine ⟨ti, d, ht, by rw [hcs, hsz]; rfl, fun j ct hj => ?_, ⟨ti, ht, by rw [hs]; exact ⟨c, hc, hf⟩⟩, by simp [dcells, hag, hsz]⟩
          rw [hc] at hj
          cases j with
          | zero =>
            simp only [List.getElem?_cons_zero, Option.some.injEq] at hj
            subst hj
            exact ⟨v, by rw [hcs]; rfl, by simpa [cellOf, hag] using hr⟩
          | succ j => simp at hj
        cases c with
        | int kd =>
          obtain ⟨n, rfl, rfl, hwf⟩ := DataW.trod_int hu h
          exact fin _ (.int n) rfl (.int rfl) ⟨n, rfl, hwf⟩
        | bool =>
          obtain ⟨b, rfl, rfl⟩ := DataW.trod_bool hu h
          exact fin _ (.bool b) rfl (.bool rfl) ⟨b, rfl⟩
        | str =>
          obtain ⟨s, rfl, rfl, _⟩ := DataW.trod_string hu h
          refine fin _ (.str s) rfl (.str rfl) ⟨s, rfl, ?_⟩
          have := hw s.data.toList.length (by unfold DataW.weights; exact List.mem_singleton_self _)
          have hr : reachBytes = 140737488351232 := rfl
          have hs2 : s.data.toList.length = s.size := Array.length_toList
          rw [hs2, hr] at this
          exact this
        | slice e => exact hu.elim
        | ptr => exact hu.elim
        | oth => exact hu.elim
      case slice e =>
        obtain ⟨hu, hc⟩ := hsh
        rw [Bool.and_eq_true] at hl
        have hag : ti.agg = false := by
          cases hb : ti.agg with
          | false => rfl
          | true => rcases hok.agg.1 hb with ⟨fs, h1⟩ | ⟨n, e', h1⟩ <;> rw [h1] at hu <;> cases hu
        have hsz : ti.size = 1 := hok.one hag
        cases hte : C.T e with
        | none => simp [hte] at hl
        | some te =>
          have h0 : 0 < te.size := by simpa [hte] using hl.1
          obtain ⟨hce, hbe⟩ := cells_of hP hte
          have helen := (hP.ti e te hte).len
          have fin : ∀ (v : Value) (l : List Dat), cs = [v] → RelD C.T W (AllB W) (.slice e) v (.list l) → l.length * te.bytes ≤ 140737488351232 → (∀ x, x ∈ l → fitT C.T k e x) → ∃ ti d, Opened C W (k + 1) t cs ti d := fun v l hcs hr hb hf => by
            refine ⟨ti, .list l, ht, by rw [hcs, hsz]; rfl, fun j ct hj => ?_, ⟨ti, ht, by rw [hs]; exact ⟨l, rfl, ⟨te, hte, hb⟩, hf⟩⟩, by simp [dcells, hag, hsz]⟩
            rw [hc] at hj
            cases j with
            | zero =>
              simp only [List.getElem?_cons_zero, Option.some.injEq] at hj
              subst hj
              exact ⟨v, by rw [hcs]; rfl, by simpa [cellOf, hag] using hr⟩
            | succ j => simp at hj
          rcases DataW.trod_slice hu h with ⟨rfl, rfl⟩ | ⟨ad, len, cap, elems, rest, n, _, rfl, rfl, hb, hle, hm, hlen, hel, hsp, hns⟩
          · exact fin _ [] rfl (RelD.of_row (l := []) (ti := te) (b := 0) (o := 0) (fun hn => absurd rfl hn) (Nat.le_refl _) (fun hn => absurd rfl hn) RowD.nil (fun hn => absurd rfl hn)) (by rw [List.length_nil, Nat.zero_mul]; exact Nat.zero_le _) (fun x hx => by cases hx)
          have hww : DataW.weights P t (DataW.slice (elems.map (·.1)) (rest.map (·.1))) = ((elems.map (·.1)).length + (rest.map (·.1)).length) * P.bytesOf e :: (DataW.weightsAll P e (elems.map (·.1)) ++ DataW.weightsAll P e (rest.map (·.1))) := by
            simp [DataW.weights, hu]
          rw [hww] at hw
          have each : ∀ i, i < len → ∃ d : Dat, (∃ c, Opened C W k e c te d ∧ ∀ j, j < te.size → W.cell? (ad.add (i * te.size + j)) = c[j]?) := by
            intro i hi
            obtain ⟨y, hy⟩ : ∃ y, elems[i]? = some y := ⟨elems[i], List.getElem?_eq_getElem (by omega)⟩
            have hb' := hel i hi
            rw [hy, Option.bind_eq_some_iff] at hb'
            obtain ⟨cs', hcs, hy'⟩ := hb'
            obtain ⟨_, hlen', hcl⟩ := World.cells?_some hcs
            obtain ⟨te', d, hop⟩ := open_ok hP k e n cs' y hl.2 hy' (fun m hm => hw m (by
              simp only [List.mem_cons, List.mem_append]
              exact .inr (.inl (weightsAll_mem (List.mem_map.mpr ⟨y, List.mem_of_getElem? hy, rfl⟩) m hm))))
            have hte' := hop.ty
            rw [hte, Option.some.injEq] at hte'
            subst hte'
            refine ⟨d, cs', hop, fun j hj => ?_⟩
            have := hcl j (by rw [hce]; exact hj)
            rw [hce, Addr.add_add] at this
            exact this
          obtain ⟨l, hll, hl2⟩ := list_of len each
          have hw0 := hw _ (List.mem_cons_self)
          rw [List.length_map, List.length_map, hlen, hbe] at hw0
          have hr : reachBytes = 140737488351232 := by decide
          have hspot : l ≠ [] → ad = ⟨ad.block, ad.off, none⟩ ∧ ad.block < W.heap.size := fun hn => by
            obtain ⟨d0, hd0⟩ : ∃ d, l[0]? = some d := by
              cases l with
              | nil => exact absurd rfl hn
              | cons d l => exact ⟨d, rfl⟩
            obtain ⟨c, hop, hcl⟩ := hl2 0 d0 hd0
            have h1 := hcl 0 h0
            have hc0 : 0 < c.length := by rw [hop.len]; exact h0
            have h2 : c[0]? = some c[0] := List.getElem?_eq_getElem hc0
            rw [h2] at h1
            simp only [Nat.zero_mul, Nat.add_zero, Addr.add, if_true] at h1
            unfold World.cell? at h1
            split at h1
            · rename_i c' _ _ hh
              split at h1
              · cases h1
              · rename_i hsp'
                refine ⟨?_, ?_⟩
                · obtain ⟨bb, oo, ss⟩ := ad
                  cases ss with
                  | none => rfl
                  | some s => exact absurd rfl hsp'
                · rcases Nat.lt_or_ge ad.block W.heap.size with hlt | hge
                  · exact hlt
                  · rw [Array.getElem?_eq_none hge] at hh; cases hh
            · cases h1
          refine fin _ l rfl ?_ ?_ (fun y hy => ?_)
          · rw [← hll]
            refine RelD.of_row (ti := te) (b := ad.block) (o := ad.off) (fun _ => ⟨hte, h0⟩) (by omega) (fun hn => ⟨by rw [← (hspot hn).1], (hspot hn).2⟩) (fun i j hi hj => ?_) (fun _ => helen)
            have hn : l ≠ [] := fun e => by rw [e] at hi; simp at hi
            obtain ⟨c, hop, hcl⟩ := hl2 i _ (List.getElem?_eq_getElem hi)
            have hclt : j < c.length := by rw [hop.len]; exact hj
            refine ⟨c[j], ?_, fun ct hct => ?_⟩
            · have h1 := hcl j hj
              rw [List.getElem?_eq_getElem hclt] at h1
              rw [← h1, (hspot hn).1]
              by_cases hz : i * te.size + j = 0
              · simp only [Addr.add, hz, if_true]
                congr 2
                omega
              · simp only [Addr.add, hz, if_false]
                congr 2
                omega
            · obtain ⟨q, q1, q2⟩ := hop.rel j ct hct
              rw [List.getElem?_eq_getElem hclt, Option.some.injEq] at q1
              rw [q1]
              have : rd l i = l[i] := by simp [rd, hi]
              rw [this]
              exact q2
          · rw [hll]
            exact Nat.le_trans (Nat.mul_le_mul_right _ (Nat.le_add_right _ _)) (hr ▸ hw0)
          · obtain ⟨j, hj⟩ := List.getElem?_of_mem hy
            obtain ⟨c, hop, _⟩ := hl2 j y hj
            exact hop.fit
      case struct fs =>
        obtain ⟨fields, hu, hfs, hmap⟩ := hsh
        rw [Bool.and_eq_true] at hl
        obtain ⟨xs, n, rfl, rfl, hclen, hxl, hxs⟩ := DataW.trod_struct hu h
        rw [hcell] at hclen
        have hww : DataW.weights P t (DataW.agg (xs.map (·.1))) = DataW.weightsEach P (fields.toList.map (·.type)) (xs.map (·.1)) := by
          simp [DataW.weights, hu]
        rw [hww] at hw
        have each : ∀ o' ft, (o', ft) ∈ fs → ∃ d, ∀ fti, C.T ft = some fti → layB C.T k ft = true → Opened C W k ft ((cs.drop o').take fti.size) fti d := by
          intro o' ft hm
          rw [← hfs] at hm
          obtain ⟨fd, hfd, hfe⟩ := List.mem_map.1 hm
          simp only [Prod.mk.injEq] at hfe
          obtain ⟨rfl, rfl⟩ := hfe
          obtain ⟨i, hi⟩ := List.getElem?_of_mem hfd
          have hi' : fields[i]? = some fd := by rw [← Array.getElem?_toList]; exact hi
          have hx := hxs i fd hi'
          by_cases hex : ∃ fti, C.T fd.type = some fti ∧ layB C.T k fd.type = true
          · obtain ⟨fti, hft, hlay⟩ := hex
            obtain ⟨hcf, _⟩ := cells_of hP hft
            rw [hcf] at hx
            obtain ⟨y, hy⟩ : ∃ y, xs[i]? = some y := ⟨xs[i]'(by rw [hxl]; exact (Array.getElem?_eq_some_iff.1 hi').1), List.getElem?_eq_getElem _⟩
            rw [hy] at hx
            obtain ⟨fti', d, hop⟩ := open_ok hP k fd.type n _ y hlay hx (fun m hm' => hw m (weightsEach_mem (i := i) (by simp [hi]) (by simp [hy]) m hm'))
            refine ⟨d, fun fti2 hft2 _ => ?_⟩
            have e1 := hop.ty
            rw [hft, Option.some.injEq] at e1
            rw [hft, Option.some.injEq] at hft2
            subst e1 hft2
            exact hop
          · exact ⟨.nil, fun fti hft hlay => absurd ⟨fti, hft, hlay⟩ hex⟩
        obtain ⟨l, k1, k2, k3⟩ := openF (fs0 := fs) hP each fs 0 ti.cts (fun _ h => h) hl.2 (by rw [hclen, hok.len]; omega)
        refine ⟨ti, .agg l, ht, hclen, fun j ct hj => ?_, ⟨ti, ht, by rw [hs]; exact ⟨l, rfl, k2⟩⟩, by simp [dcells, hl.1, k1, hok.len]⟩
        obtain ⟨q, q1, q2⟩ := k3 j ct hj
        rw [Nat.zero_add] at q1
        exact ⟨q, q1, by simpa [cellOf, hl.1, Dat.C] using q2⟩
end Go.Ev
/- The law's door: a law that the reader finds true, at handed values. -/
namespace Go.Ev
open Go Go.ChangeShapes Go.WideShapes Go.RowKit
set_option linter.unusedVariables false
set_option linter.unusedSimpArgs false
variable {H : Type} {enc : TypeId × Value → H} {P : Program} {C : Ctx} {W : World} {base : Nat} {spare : Nat → Bool} {held : Bool}
def argAV (ti : TI) (d : Dat) : AV := if ti.agg then .agg (ofDs ti d 0 ti.cts) else (match ti.cts with | [c] => ofD c d | _ => .fnil)
/-- A handed value, as the law has it in its slot. -/
structure Handed (C : Ctx) (W : World) (u : Value) (v : AV) : Prop where
  rel : ∀ H, RelS C.T W (AllB W) H u [] v
  ment : ∀ x, ment x v = false
  box : isBox v = false
  und : v ≠ .und
theorem ofD_plain (c : CT) (d : Dat) : isBox (ofD c d) = false ∧ ofD c d ≠ .und ∧ ∀ x, ment x (ofD c d) = false := by
  cases c <;> exact ⟨rfl, by simp [ofD], fun _ => rfl⟩
theorem arg_ok (hP : POk P C) {k : Nat} {t : TypeId} {v : Value} {d : DataW H} {p : List MemPlace} {r : Reach} (hl : layB C.T k t = true) {base2 : Nat} (hok : Value.okWide P W r base2 t v) (h : DataW.Trod enc P W base spare held t v d p) (hw : ∀ n ∈ d.weights P t, n ≤ reachBytes) :
    ∃ ti dd, C.T t = some ti ∧ fitT C.T k t dd ∧ Handed C W v (argAV ti dd) := by
  obtain ⟨fuel, hf⟩ := h
  obtain ⟨ti, dd, hop⟩ := open_ok hP k t fuel _ (d, p) hl hf hw
  have hti := hP.ti t ti hop.ty
  refine ⟨ti, dd, hop.ty, hop.fit, ?_⟩
  cases k with
  | zero => simp [layB] at hl
  | succ k =>
  simp only [layB, hop.ty] at hl
  unfold argAV
  cases hag : ti.agg with
  | true =>
    have hvs : ∃ cs, v = .agg cs := by
      rcases hti.agg.1 hag with ⟨fs, h1⟩ | ⟨n, e, h1⟩
      · obtain ⟨cs, h2, _⟩ := okWide_struct h1 hok
        exact ⟨cs, h2⟩
      · exfalso
        have hsh := hti.sh
        cases hs : ti.sh <;> simp only [hs, Bool.false_eq_true] at hl hsh
        · obtain ⟨c, hc, hu⟩ := hsh
          cases c <;> simp only [h1, Option.some.injEq, reduceCtorEq] at hu
        · rw [h1] at hsh; cases hsh.1
        · obtain ⟨fields, hu, _⟩ := hsh
          rw [h1] at hu; cases hu
    obtain ⟨cs, rfl⟩ := hvs
    simp only [if_true]
    refine ⟨fun H => ⟨cs, rfl, ?_⟩, fun x => ofDs_ment x ti dd 0 ti.cts, rfl, by simp⟩
    have hlen : cs.toList.length = ti.size := hop.len
    refine ofDs_ok ti dd cs.toList 0 ti.cts (by rw [hlen, hti.len]) (fun j ct u hct hu => ?_)
    obtain ⟨q, q1, q2⟩ := hop.rel j ct hct
    have q1' : cs.toList[j]? = some q := q1
    rw [hu, Option.some.injEq] at q1'
    rw [q1', Nat.zero_add]
    exact q2
  | false =>
    have hsz := hti.one hag
    have hlen := hti.len
    rw [hsz] at hlen
    obtain ⟨c, hc⟩ := List.length_eq_one_iff.1 hlen
    simp only [Bool.false_eq_true, if_false, hc]
    obtain ⟨q, q1, q2⟩ := hop.rel 0 c (by rw [hc]; rfl)
    have hcell : cellOf ti dd 0 = dd := by simp [cellOf, hag]
    rw [hcell] at q2
    have hv : v = q := by
      have hsh := hti.sh
      have one : ∀ {u : Value}, u.cells.toList[0]? = some q → u.cells = #[u] → u = q := fun h1 h2 => by rw [h2] at h1; simpa using h1
      cases hs : ti.sh <;> simp only [hs, Bool.false_eq_true] at hl hsh
      · obtain ⟨c', hc', hu⟩ := hsh
        rw [hc] at hc'
        simp only [List.cons.injEq, and_true] at hc'
        subst hc'
        cases c <;> simp only at hu
        · obtain ⟨n, rfl⟩ := okWide_int hu hok
          exact one q1 rfl
        · obtain ⟨b, rfl⟩ := okWide_bool hu hok
          exact one q1 rfl
        · obtain ⟨s, rfl⟩ := okWide_string hu hok
          exact one q1 rfl
      · obtain ⟨a, len, cap, rfl⟩ := okWide_slice hsh.1 hok
        exact one q1 rfl
      · rw [hag] at hl; simp at hl
    rw [hv]
    obtain ⟨k1, k2, k3⟩ := ofD_plain c dd
    exact ⟨fun H => RelS_of_RelC (ofD_ok q2), k3, k1, k2⟩
def AllHanded (C : Ctx) (W : World) : List Value → List AV → Prop
  | [], [] => True
  | u :: us, v :: vs => Handed C W u v ∧ AllHanded C W us vs
  | _, _ => False
theorem AllHanded.get {C : Ctx} {W : World} : ∀ {us : List Value} {vs : List AV}, AllHanded C W us vs → us.length = vs.length ∧ ∀ s, s < vs.length → Handed C W (us.getD s undef) (geti vs s)
  | [], [], _ => ⟨rfl, fun s hs => absurd hs (Nat.not_lt_zero _)⟩
  | [], _ :: _, h => h.elim
  | _ :: _, [], h => h.elim
  | u :: us, v :: vs, h => by
    obtain ⟨h1, h2⟩ := AllHanded.get h.2
    refine ⟨by simp [h1], fun s hs => ?_⟩
    cases s with
    | zero => exact h.1
    | succ s =>
      have := h2 s (by simpa using hs)
      simpa [geti] using this
/-- What the world holds, of what the context tells of package-level variables. -/
def GlobOk (C : Ctx) (W : World) : Prop := ∀ g v, C.glob g = some v → Handed C W (.pointer (some ⟨g, 0, none⟩)) v
/-- Package-level whole numbers of which nothing is told but that they are there. -/
def IntsOk (C : Ctx) (W : World) : Prop := ∀ p, p ∈ C.gint → ∃ o, W.heap[p.1]? = some o ∧ p.2 o
theorem IntsOk.none {C : Ctx} {W : World} (h : C.gint = []) : IntsOk C W := fun p hp => by rw [h] at hp; cases hp
theorem law_ok (hP : POk P C) (hgiven : ∀ g h args ds, C.given g = some h → h args = some ds → FnR P C g args ds) (hglob : GlobOk C W) {f : FuncId} {us : Array Value} {args : List AV} (ha : AllHanded C W us.toList args) (hfn : (C.fn f).isSome = true) (hrk : C.rk f = [.bool]) (hio : C.io f = false) {n : Nat} (he : ev C n f args = some [.bool true]) (hints : IntsOk C W := by exact IntsOk.none rfl) :
    Calls P f us W fun e W' => e = .returned (.bool true) ∧ Below W.heap.size W W' := by
  obtain ⟨hl, hget⟩ := ha.get
  have hgeti : ∀ s, args.length ≤ s → geti args s = .und := fun s hs => geti_ge hs
  have hgd : ∀ s, us.getD s undef = us.toList.getD s undef := fun s => by
    rw [Array.getD_eq_getD_getElem?, List.getD_eq_getElem?_getD, Array.getElem?_toList]
  have hm : ∀ s x, ment x (geti args s) = false := fun s x => by
    by_cases hs : s < args.length
    · exact (hget s hs).ment x
    · rw [hgeti s (by omega)]; rfl
  have hb : ∀ s, isBox (geti args s) = false := fun s => by
    by_cases hs : s < args.length
    · exact (hget s hs).box
    · rw [hgeti s (by omega)]; rfl
  let H0 : Gh := ⟨fun _ _ => (none, 0, 0), fun _ => (0, 0)⟩
  have hinv : Inv C.T ⟨W, AllB W, [], none⟩ us W (AllB W) H0 (fun _ => []) args [] := {
    len := by rw [← hl]; simp
    keep := ⟨rfl, rfl, rfl, Nat.le_refl _, fun _ _ _ => rfl, fun j b o n hp => by cases hp⟩
    st0 := fun _ h => h
    stl := fun b hb => ⟨hb, .inl hb⟩
    rel := fun s hs => by rw [hgd]; exact (hget s hs).rel H0
    out := fun _ _ => rfl
    one := fun s t b hb _ => by cases hb
    nd := fun _ => List.nodup_nil
    fre := fun s b hb => by cases hb
    and := List.nodup_nil
    afr := fun b hb => by cases hb
    ment := fun s x hx => by rw [hm s x] at hx; cases hx
    box := fun s hs => by rw [hb s] at hs; cases hs
    pbox := fun s cs hs => by have := hb s; rw [hs] at this; simp [isBox] at this
    pbx := fun j b o n hp => by cases hp }
  have hF : FOk C ⟨W, AllB W, [], none⟩ := ⟨fun g v hv => ⟨(hglob g v hv).rel, (hglob g v hv).ment, (hglob g v hv).und, (hglob g v hv).box⟩, fun b hb => ⟨hb, by simp⟩, (fun j b o n hp => by cases hp), fun p hp => by
    obtain ⟨o, hm, ho⟩ := hints p hp
    exact ⟨(Array.getElem?_eq_some_iff.1 hm).1, o, hm, ho⟩⟩
  have hc := (ev_ok hP hgiven n f args [.bool true] he).fn hio ⟨W, AllB W, [], none⟩ us H0 (fun _ => []) hF hinv (fun j b o n hp => by cases hp)
  unfold CallOk at hc
  rw [hP.enter f hfn] at hc
  simp only at hc
  refine hc.mono fun e W' he => ?_
  cases e with
  | returned v =>
    obtain ⟨St', G, fR, fP, p1, p2, p3, p4, p5, p6, p7, p8⟩ := he
    have hr := p6 ⟨fun _ => G, fun _ => (0, 0)⟩ 0 (fun _ => rfl)
    rw [hrk] at hr
    have hv : v = .bool true := hr.2
    exact ⟨by rw [hv], ⟨p1.os, p1.tape, p1.output, p1.size, fun k hk => p1.heap k hk (by simp)⟩⟩
  | panicked c => exact he.elim
  | outgrown => exact he.elim
end Go.Ev
/- Words for the telling of functions: where a path goes on. -/
namespace Go.Ev
open Go
set_option linter.unusedVariables false
def bs (l : List UInt8) : ByteArray := ⟨l.toArray⟩
def pickC : Code → List Nat → Code
  | c, [] => c
  | .seq a b, i :: p => (match i with | 0 => pickC a p | _ => pickC b p)
  | .cond _ a b, i :: p => (match i with | 0 => pickC a p | _ => pickC b p)
  | .block _ c, _ :: p => pickC c p
  | .loop c, _ :: p => pickC c p
  | .scope c, _ :: p => pickC c p
  | c, _ :: _ => c
def pick (f : Func) (p : List Nat) : Code := match f.body with | some c => pickC c p | none => .skip
def Kseq (C : Ctx) (cf : CF) (N : Nat) (keep : List Nat) (b : Code) (K : Exit → Env → R) : Exit → Env → R := fun x E => match x with
  | .normal => evCode C cf N keep b E K
  | x => K x E
def Kblk (id : Nat) (K : Exit → Env → R) : Exit → Env → R := fun x E => match x with
  | .exit id' => if id' = id then K .normal E else K (.exit id') E
  | x => K x E
def Klop (B : Env → (Exit → Env → R) → R) (kp : List Nat) (K : Exit → Env → R) (n : Nat) : Exit → Env → R := fun x E => match x with
  | .normal => loopIter B kp K n (canon kp E)
  | x => K x E
def Ktop (C : Ctx) (f : FuncId) (fn : Func) (args : List AV) : Exit → Env → R := fun x E => match x with
  | .normal => (resDs C E fn.results.toList (C.rk f)).bind fun a => (partDs C f E 0 args).map (a ++ ·)
  | .ret => (resDs C E fn.results.toList (C.rk f)).bind fun a => (partDs C f E 0 args).map (a ++ ·)
  | _ => none
end Go.Ev
/- What a function answers in the end: no rounds are counted any more. -/
namespace Go.Ev
open Go
set_option linter.unusedVariables false
/-- As many rounds as one likes, of each kind. -/
abbrev Fu := Nat → Nat
def Big (N : Nat) (φ : Fu) : Prop := ∀ i, N ≤ φ i
def Evt (g : Fu → R) (r : List Dat) : Prop := ∃ N, ∀ φ, Big N φ → g φ = some r
open Classical in
noncomputable def lim (g : Fu → R) : R := if h : ∃ r, Evt g r then some (Classical.choose h) else none
/-- What is told is so from some number of rounds on. -/
def Cont (g : Fu → R) (v : R) : Prop := ∀ r, v = some r → Evt g r
theorem Evt.uniq {g : Fu → R} {a b : List Dat} (ha : Evt g a) (hb : Evt g b) : a = b := by
  obtain ⟨N, hN⟩ := ha
  obtain ⟨M, hM⟩ := hb
  have h1 := hN (fun _ => max N M) (fun _ => Nat.le_max_left _ _)
  have h2 := hM (fun _ => max N M) (fun _ => Nat.le_max_right _ _)
  rw [h1] at h2
  exact Option.some.inj h2
theorem lim_some {g : Fu → R} {r : List Dat} : lim g = some r ↔ Evt g r := by
  unfold lim
  constructor
  · intro h
    by_cases hh : ∃ r, Evt g r
    · rw [dif_pos hh] at h
      have := Classical.choose_spec hh
      rw [Option.some.inj h] at this
      exact this
    · rw [dif_neg hh] at h
      cases h
  · intro h
    rw [dif_pos ⟨r, h⟩]
    exact congrArg some ((Classical.choose_spec (⟨r, h⟩ : ∃ r, Evt g r)).uniq h)
theorem Cont.const (v : R) : Cont (fun _ => v) v := fun r h => ⟨0, fun _ _ => h⟩
theorem Cont.bif {c : Bool} {g h : Fu → R} {v w : R} (hg : Cont g v) (hh : Cont h w) : Cont (fun φ => bif c then g φ else h φ) (bif c then v else w) := by
  cases c
  · exact hh
  · exact hg
theorem Cont.bind {g : Fu → R} {v : R} {h : Fu → List Dat → R} {w : List Dat → R} (hg : Cont g v) (hh : ∀ x, Cont (fun φ => h φ x) (w x)) : Cont (fun φ => (g φ).bind (h φ)) (v.bind w) := by
  intro r hr
  cases v with
  | none => cases hr
  | some x =>
    obtain ⟨N, hN⟩ := hg x rfl
    obtain ⟨M, hM⟩ := hh x r hr
    refine ⟨max N M, fun φ hφ => ?_⟩
    show (g φ).bind (h φ) = some r
    rw [hN φ fun i => Nat.le_trans (Nat.le_max_left _ _) (hφ i)]
    exact hM φ fun i => Nat.le_trans (Nat.le_max_right _ _) (hφ i)
theorem Cont.eq {g h : Fu → R} {v : R} (he : ∀ φ, g φ = h φ) (hc : Cont h v) : Cont g v := fun r hr => by
  obtain ⟨N, hN⟩ := hc r hr
  exact ⟨N, fun φ hφ => (he φ).trans (hN φ hφ)⟩
theorem evOps_app {C : Ctx} {cf : CF} {ops : List Oper} : ∀ (l1 l2 : List Oper) (E : Env) (K : Env → R), evOps C cf ops (l1 ++ l2) E K = evOps C cf ops l1 E fun E => evOps C cf ops l2 E K
  | [], _, _, _ => rfl
  | o :: r, l2, E, K => by
    simp only [List.cons_append, evOps]
    congr 1
    funext E
    exact evOps_app r l2 E K
theorem evOps_cut {C : Ctx} {cf : CF} {ops l : List Oper} {E : Env} {K : Env → R} (i k j : Nat) (h : i + k = j) : (jn fun _ => evOps C cf ops (l.drop i) E K) = evOps C cf ops ((l.drop i).take k) E fun E => jn fun _ => evOps C cf ops (l.drop j) E K := by
  subst h
  show evOps C cf ops (l.drop i) E K = evOps C cf ops ((l.drop i).take k) E fun E => evOps C cf ops (l.drop (i + k)) E K
  rw [← evOps_app, ← List.drop_drop, List.take_append_drop]
def ropsOf : Code → List Oper
  | .region _ ops _ => ops.toList
  | _ => []
/-- With the rounds named anew. -/
theorem Cont.re (ρ : Nat → Nat) (g : Fu → R) : Cont (fun φ => g fun i => φ (ρ i)) (lim g) := by
  intro r hr
  obtain ⟨N, hN⟩ := lim_some.1 hr
  exact ⟨N, fun φ hφ => hN _ fun i => hφ _⟩
def upF (φ : Fu) (d : Nat) (x : Nat) : Fu := fun i => bif Nat.beq i d then x else φ i
def toZ (d i : Nat) : Nat := bif Nat.beq i d then 0 else i
/-- A loop, in the end: what one round says. -/
theorem lim_step {g h : Fu → R} {v : R} {r : List Dat} (d : Nat) (hs : ∀ φ m, φ d = m + 1 → g φ = h (upF φ d m)) (hc : Cont h v) (hv : v = some r) : lim g = some r := by
  refine lim_some.2 ?_
  obtain ⟨N, hN⟩ := hc r hv
  refine ⟨N + 1, fun φ hφ => ?_⟩
  have hd := hφ d
  have hm : φ d = (φ d - 1) + 1 := by omega
  rw [hs φ (φ d - 1) hm]
  refine hN _ fun i => ?_
  unfold upF
  cases hi : Nat.beq i d
  · have := hφ i
    simp only [cond_false]; omega
  · simp only [cond_true]; omega
/-- What a function answers. -/
noncomputable def E (C : Ctx) (f : FuncId) (args : List AV) : R := lim fun φ => ev C (φ 0) f args
theorem Cont.call (C : Ctx) (f : FuncId) (args : List AV) : Cont (fun φ => ev C (φ 0) f args) (E C f args) := fun r hr => lim_some.1 hr
theorem E_of {C : Ctx} {f : FuncId} {args : List AV} {t : Nat → R} {v : R} {r : List Dat} (ht : ∀ n, ev C (n + 1) f args = t n) (hc : Cont (fun φ => t (φ 0)) v) (h : v = some r) : E C f args = some r := by
  refine lim_some.2 ?_
  obtain ⟨N, hN⟩ := hc r h
  refine ⟨N + 1, fun φ hφ => ?_⟩
  have h0 := hφ 0
  have : φ 0 = (φ 0 - 1) + 1 := by omega
  show ev C (φ 0) f args = some r
  rw [this, ht]
  refine hN (fun i => φ i - 1) fun i => ?_
  have := hφ i
  show N ≤ φ i - 1
  omega
theorem E_given {C : Ctx} {f : FuncId} {args : List AV} {h : List AV → R} {r : List Dat} (hg : C.given f = some h) (he : h args = some r) : E C f args = some r :=
  E_of (t := fun _ => some r) (v := some r) (fun n => by rw [ev, hg]; exact he) (Cont.const _) rfl
theorem E_ev {C : Ctx} {f : FuncId} {args : List AV} {r : List Dat} (h : E C f args = some r) : ∃ n, ev C n f args = some r := by
  obtain ⟨N, hN⟩ := lim_some.1 h
  exact ⟨N, hN (fun _ => N) fun _ => Nat.le_refl _⟩
end Go.Ev
/- Functions that are given: out of a contract on memory. -/
namespace Go.Ev
open Go Go.RowKit
set_option linter.unusedVariables false
set_option linter.unusedSimpArgs false
variable {P : Program} {C : Ctx} {S : Frm} {w w' : World} {St St' : Nat → Prop} {H H' : Gh} {F : Nat → List Nat}
theorem fnOk_of (hP : POk P C) {g : FuncId} {args : List AV} {ds : List Dat} (hfn : (C.fn g).isSome = true) (hpb : ∀ j cs, geti args j ≠ .pbox cs)
    (h : ∀ (S : Frm) (us : Array Value) (H : Gh) (F : Nat → List Nat), FOk C S → Inv C.T S us S.w0 S.St0 H F args [] → Calls P g us S.w0 fun e w' => ∃ v, e = .returned v ∧ Below S.w0.heap.size S.w0 w' ∧
      ∃ (fR : List Nat) (G : Nat → Option Addr × Nat × Nat), fR.Nodup ∧ (∀ b, b ∈ fR → S.w0.heap.size ≤ b ∧ b < w'.heap.size) ∧ ∀ (Hc : Gh) (d : Nat), (∀ i, Hc.hd0 d i = G i) → RelS C.T w' S.St0 Hc v fR (resV d (C.rk g) ds)) : FnOk P C g args ds := by
  intro S us H F hS hi hp
  have hno : S.pb = none := by
    cases hq : S.pb with
    | none => rfl
    | some q =>
      obtain ⟨j, b, o, n⟩ := q
      obtain ⟨cs, hcs⟩ := hp j b o n hq
      exact absurd hcs (hpb j cs)
  unfold CallOk
  rw [hP.enter g hfn]
  refine (h S us H F hS hi).mono fun e w' he => ?_
  obtain ⟨v, rfl, hb, fR, G, h1, h2, h3⟩ := he
  have hne : ∀ b, PbNe S b := fun b j b' o n hq => by rw [hno] at hq; cases hq
  refine ⟨S.St0, G, fR, [], ⟨hb.os, hb.tape, hb.output, hb.size, fun k hk _ => hb.block k hk, fun j b o n hq => by rw [hno] at hq; cases hq⟩, fun _ h => h, fun b hb' => ⟨Nat.lt_of_lt_of_le (hS.st b hb').1 hb.size, hne b, .inl hb'⟩, by simpa using h1, fun b hb' => ?_, h3, fun _ => rfl, fun j b o n hq => by rw [hno] at hq; cases hq⟩
  have hb' : b ∈ fR := by simpa using hb'
  exact ⟨fun hs => absurd (hS.st b hs).1 (by have := (h2 b hb').1; omega), (h2 b hb').2, hne b, .inr (h2 b hb').1⟩
/-- Bytes, as they lie in memory. -/
def BA (w : World) (A : Option Addr) (b : List Int) : Prop := ∃ bb o, (b ≠ [] → A = some ⟨bb, o, none⟩) ∧ ∀ j, j < b.length → w.cell? ⟨bb, o + j, none⟩ = some (.int .u8 (b.getD j 0))
def ints (l : List Dat) : List Int := l.map Dat.I
theorem bytes_of {e : TypeId} {l : List Dat} {v : Value} {f : List Nat} (hT : C.T e = some ⟨1, 1, [.int .u8], false, .scal⟩) (h : RelS C.T w St H v f (.shr e l)) : ∃ A c, v = .slice A l.length c ∧ l.length ≤ c ∧ BA w A (ints l) ∧ f = [] := by
  obtain ⟨ti, a, cap, b, o, h1, h2, h3, h4, h5⟩ := (show RelD C.T w St (.slice e) v (.list l) from h.2).row
  refine ⟨a, cap, h2, h3, ⟨b, o, fun hn => (h4 (fun e => hn (by show ints l = []; have e' : l = [] := e; rw [e']; rfl))).1, fun j hj => ?_⟩, h.1⟩
  have hj : j < l.length := by simpa [ints] using hj
  have hl : (Dat.list l).L ≠ [] := fun e => by have e' : l = [] := e; rw [e'] at hj; simp at hj
  have ht := (h1 hl).1
  rw [hT, Option.some.injEq] at ht
  subst ht
  obtain ⟨u, k1, k2⟩ := h5 j 0 hj (by simp)
  have k3 := k2 (.int .u8) rfl
  cases k3 with
  | int k3 =>
    simp only [Nat.mul_one, Nat.add_zero] at k1
    rw [k1, k3]
    have : (ints l).getD j 0 = (rd l j).I := by simp [ints, rd, List.getD_eq_getElem?_getD, hj]
    rw [this]
    rfl
end Go.Ev
/- A function's telling, cut in pieces: where a path joins others, it stops at an exit of its own. -/
namespace Go.Ev
open Go
set_option linter.unusedVariables false
/-- Does the code never leave by that exit, nor name it? -/
def noX (l : Nat) : Code → Bool
  | .seq a b => noX l a && noX l b
  | .cond _ a b => noX l a && noX l b
  | .block i c => !Nat.beq i l && noX l c
  | .loop c => noX l c
  | .scope c => noX l c
  | .exit i => !Nat.beq i l
  | _ => true
/-- The code with an exit in place of what stands at a path. -/
def cutC : Code → List Nat → Nat → Code
  | _, [], l => .exit l
  | .seq a b, i :: p, l => (match i with | 0 => .seq (cutC a p l) b | _ => .seq a (cutC b p l))
  | .cond c a b, i :: p, l => (match i with | 0 => .cond c (cutC a p l) b | _ => .cond c a (cutC b p l))
  | .block i c, _ :: p, l => .block i (cutC c p l)
  | .scope c, _ :: p, l => .scope (cutC c p l)
  | c, _ :: _, _ => c
/-- What goes on from a path. -/
def restC (C : Ctx) (cf : CF) (N : Nat) (keep : List Nat) : Code → List Nat → (Exit → Env → R) → Env → R
  | c, [], K, E => evCode C cf N keep c E K
  | .seq a b, i :: p, K, E => (match i with | 0 => restC C cf N keep a p (Kseq C cf N keep b K) E | _ => restC C cf N keep b p K E)
  | .cond _ a b, i :: p, K, E => (match i with | 0 => restC C cf N keep a p K E | _ => restC C cf N keep b p K E)
  | .block id c, _ :: p, K, E => restC C cf N keep c p (Kblk id K) E
  | .scope c, _ :: p, K, E => restC C cf N keep c p K E
  | _, _ :: _, _, _ => none
def Kcut (l : Nat) (G : Env → R) (K : Exit → Env → R) : Exit → Env → R := fun x E => match x with
  | .exit id => bif Nat.beq id l then G E else K (.exit id) E
  | x => K x E
/-- May the path be cut: it goes through no loop. -/
def okP : Code → List Nat → Bool
  | _, [] => true
  | .seq a b, i :: p => (match i with | 0 => okP a p | _ => okP b p)
  | .cond _ a b, i :: p => (match i with | 0 => okP a p | _ => okP b p)
  | .block _ c, _ :: p => okP c p
  | .scope c, _ :: p => okP c p
  | _, _ :: _ => false
theorem andT {a b : Bool} (h1 : a = true) (h2 : b = true) : (a && b) = true := by rw [h1, h2]; rfl
theorem loopIter_congr {l : Nat} {B : Env → (Exit → Env → R) → R} {kp : List Nat} {K K' : Exit → Env → R} (hB : ∀ E (K K' : Exit → Env → R), (∀ x E, x ≠ .exit l → K x E = K' x E) → B E K = B E K') (h : ∀ x E, x ≠ .exit l → K x E = K' x E) :
    ∀ (n : Nat) (E : Env), loopIter B kp K n E = loopIter B kp K' n E
  | 0, _ => rfl
  | n + 1, E => by
    refine hB E _ _ fun x E hx => ?_
    cases x <;> first | exact loopIter_congr hB h n _ | exact h _ _ hx
theorem evCode_congr {C : Ctx} {cf : CF} {N : Nat} {keep : List Nat} {l : Nat} : ∀ (c : Code), noX l c = true → ∀ (E : Env) (K K' : Exit → Env → R), (∀ x E, x ≠ .exit l → K x E = K' x E) → evCode C cf N keep c E K = evCode C cf N keep c E K'
  | .skip, _, E, K, K', h => h _ _ (by simp)
  | .region i ops d, _, E, K, K', h => by
    have : K .normal = K' .normal := funext fun E => h _ _ (by simp)
    cases d <;> simp only [evCode, this]
  | .seq a b, hn, E, K, K', h => by
    simp only [noX, Bool.and_eq_true] at hn
    refine evCode_congr a hn.1 E _ _ fun x E hx => ?_
    cases x <;> first | exact evCode_congr b hn.2 E K K' h | exact h _ _ hx
  | .cond c a b, hn, E, K, K', h => by
    simp only [noX, Bool.and_eq_true] at hn
    have h1 := evCode_congr (C := C) (cf := cf) (N := N) (keep := keep) a hn.1 E K K' h
    have h2 := evCode_congr (C := C) (cf := cf) (N := N) (keep := keep) b hn.2 E K K' h
    unfold evCode
    cases c <;> simp only [h1, h2]
  | .block i c, hn, E, K, K', h => by
    simp only [noX, Bool.and_eq_true, Bool.not_eq_true'] at hn
    refine evCode_congr c hn.2 E _ _ fun x E hx => ?_
    cases x
    case exit j =>
      simp only
      split
      · exact h _ _ (by simp)
      · exact h _ _ hx
    all_goals exact h _ _ hx
  | .loop c, hn, E, K, K', h => by
    simp only [noX] at hn
    simp only [evCode]
    exact loopIter_congr (fun E K K' h => evCode_congr c hn E K K' h) h _ _
  | .exit i, hn, E, K, K', h => by
    simp only [noX, Bool.not_eq_true'] at hn
    refine h _ _ fun e => ?_
    cases e
    simp at hn
  | .scope c, hn, E, K, K', h => evCode_congr c hn E K K' h
  | .label _, _, E, K, K', h => h _ _ (by simp)
  | .ret, _, E, K, K', h => h _ _ (by simp)
  | .rangeFunc _ _ _ _, _, E, K, K', h => rfl
  | .goto _, _, E, K, K', h => rfl
  | .refuse _, _, E, K, K', h => rfl
theorem Kcut_ne {l : Nat} {G : Env → R} {K : Exit → Env → R} (x : Exit) (E : Env) (hx : x ≠ .exit l) : K x E = Kcut l G K x E := by
  cases x <;> try rfl
  rename_i i
  have : Nat.beq i l = false := by
    cases h : Nat.beq i l with
    | false => rfl
    | true => exact absurd (congrArg Exit.exit (Nat.eq_of_beq_eq_true h)) hx
  simp [Kcut, this]
theorem evCode_cut {C : Ctx} {cf : CF} {N : Nat} {keep : List Nat} {l : Nat} : ∀ (c : Code) (p : List Nat) (K : Exit → Env → R) (E : Env), (okP c p && noX l c) = true →
    evCode C cf N keep c E K = evCode C cf N keep (cutC c p l) E (Kcut l (restC C cf N keep c p K) K)
  | c, [], K, E, h => by
    have e : cutC c [] l = .exit l := by cases c <;> rfl
    have e2 : restC C cf N keep c [] K = fun E => evCode C cf N keep c E K := by cases c <;> rfl
    rw [e, e2]
    simp [evCode, Kcut]
  | .seq a b, i :: p, K, E, h => by
    simp only [okP, noX, Bool.and_eq_true] at h
    cases i with
    | zero =>
      simp only [cutC, restC, evCode]
      have := evCode_cut (C := C) (cf := cf) (N := N) (keep := keep) (l := l) a p (Kseq C cf N keep b K) E (andT h.1 h.2.1)
      refine this.trans (congrArg _ (funext fun x => funext fun E => ?_))
      cases x
      case normal => exact evCode_congr b h.2.2 E _ _ fun x E hx => Kcut_ne x E hx
      all_goals rfl
    | succ i =>
      simp only [cutC, restC, evCode]
      refine evCode_congr a h.2.1 E _ _ fun x E hx => ?_
      cases x
      case normal => exact evCode_cut b p K E (andT h.1 h.2.2)
      all_goals exact Kcut_ne _ E hx
  | .cond c a b, i :: p, K, E, h => by
    simp only [okP, noX, Bool.and_eq_true] at h
    cases i with
    | zero =>
      simp only [cutC, restC]
      have h1 := evCode_cut (C := C) (cf := cf) (N := N) (keep := keep) (l := l) a p K E (andT h.1 h.2.1)
      have h2 := evCode_congr (C := C) (cf := cf) (N := N) (keep := keep) (l := l) b h.2.2 E K (Kcut l (restC C cf N keep a p K) K) fun x E hx => Kcut_ne x E hx
      conv => lhs; unfold evCode
      conv => rhs; unfold evCode
      cases c <;> simp only [h1, h2]
    | succ i =>
      simp only [cutC, restC]
      have h1 := evCode_cut (C := C) (cf := cf) (N := N) (keep := keep) (l := l) b p K E (andT h.1 h.2.2)
      have h2 := evCode_congr (C := C) (cf := cf) (N := N) (keep := keep) (l := l) a h.2.1 E K (Kcut l (restC C cf N keep b p K) K) fun x E hx => Kcut_ne x E hx
      conv => lhs; unfold evCode
      conv => rhs; unfold evCode
      cases c <;> simp only [h1, h2]
  | .block id c, i :: p, K, E, h => by
    simp only [okP, noX, Bool.and_eq_true, Bool.not_eq_true'] at h
    simp only [cutC, restC, evCode]
    have := evCode_cut (C := C) (cf := cf) (N := N) (keep := keep) (l := l) c p (Kblk id K) E (andT h.1 h.2.2)
    refine this.trans (congrArg _ (funext fun x => funext fun E => ?_))
    cases x
    case exit j =>
      simp only [Kcut, Kblk]
      cases hj : Nat.beq j l with
      | true =>
        obtain rfl := Nat.eq_of_beq_eq_true hj
        have : ¬ j = id := fun e => by rw [← e] at h; simp at h
        simp [this]
      | false => simp
    all_goals rfl
  | .scope c, i :: p, K, E, h => by
    simp only [okP, noX] at h
    exact evCode_cut c p K E h
  | .skip, _ :: _, _, _, h => by simp [okP] at h
  | .region _ _ _, _ :: _, _, _, h => by simp [okP] at h
  | .loop _, _ :: _, _, _, h => by simp [okP] at h
  | .rangeFunc _ _ _ _, _ :: _, _, _, h => by simp [okP] at h
  | .exit _, _ :: _, _, _, h => by simp [okP] at h
  | .label _, _ :: _, _, _, h => by simp [okP] at h
  | .goto _, _ :: _, _, _, h => by simp [okP] at h
  | .ret, _ :: _, _, _, h => by simp [okP] at h
  | .refuse _, _ :: _, _, _, h => by simp [okP] at h
theorem ev_cut0 {C : Ctx} {f : FuncId} {fn : Func} {c : Code} {ks : List Nat} {n : Nat} {args args0 : List AV} {env : Env} (hg : C.given f = none) (hio : C.io f = false) (hf : C.fn f = some fn) (hb : fn.body = some c) (hn : nodupB (resSlots fn.results.toList) = true)
    (hk : C.keep f = ks) (he : args ++ List.replicate (fn.ntmps - args.length) .und = env) (hp : ∀ E, partDs C f E 0 args = partDs C f E 0 args0) : ev C (n + 1) f args = evCode C (ev C n) n ks c env (Ktop C f fn args0) := by
  subst hk he
  simp only [ev, hg, hio, hf, hb, evBody, hn, Bool.not_true, cond_false]
  congr 1
  funext x E
  cases x <;> simp only [Ktop, hp]
/-- A loop, in the end: what one round says; told once. -/
theorem lim_st {g h : Fu → R} {v : R} {r : List Dat} (d : Nat) (hv : v = some r) (hc : Cont h v) (hs : ∀ φ m, φ d = m + 1 → g φ = h (upF φ d m)) : lim g = some r := lim_step d hs hc hv
theorem E_st {C : Ctx} {f : FuncId} {args : List AV} {g : Fu → R} {v : R} {r : List Dat} (h : v = some r) (hc : Cont g v) (ht : ∀ φ : Fu, ev C (φ 0 + 1) f args = g φ) : E C f args = some r := by
  refine lim_some.2 ?_
  obtain ⟨N, hN⟩ := hc r h
  refine ⟨N + 1, fun φ hφ => ?_⟩
  have h0 := hφ 0
  have : φ 0 = (φ 0 - 1) + 1 := by omega
  show ev C (φ 0) f args = some r
  rw [this]
  have h1 := ht fun i => φ i - 1
  refine h1.trans (hN _ fun i => ?_)
  have := hφ i
  show N ≤ φ i - 1
  omega
theorem Cont.nn : Cont (fun _ => none) none := Cont.const none
theorem Cont.eq2 {g h : Fu → R} {v : R} (hc : Cont h v) (he : ∀ φ, g φ = h φ) : Cont g v := Cont.eq he hc
end Go.Ev
/- Bytes and symbols in plain Lean: what stands at a place, and all symbols of a row of bytes. -/
namespace Go.Ev
open Go Go.Proofs Go.Shelf
set_option linter.unusedVariables false
set_option linter.unusedSimpArgs false
theorem w64 {n : Int} (h0 : -9223372036854775808 ≤ n) (h1 : n ≤ 9223372036854775807) : IntKind.i64.wrap n = n := IntWalk.i64_in n ⟨h0, h1⟩
/-- The numbers of a list, as bytes. -/
def toBA (l : List Int) : ByteArray := ⟨(l.map fun x => UInt8.ofNat x.toNat).toArray⟩
/-- Are all numbers of a list bytes? -/
def isBytes (l : List Int) : Bool := l.all fun x => decide (0 ≤ x) && decide (x < 256)
def decR (l : List Int) : Int × Int := (((Go.Lib.decodeGo (toBA l)).1 : Int), ((Go.Lib.decodeGo (toBA l)).2 : Int))
theorem toBA_size (l : List Int) : (toBA l).size = l.length := by
  show (l.map fun x => UInt8.ofNat x.toNat).toArray.size = l.length
  simp
/-- The byte at a place, as a number; 0 beyond the end. -/
def bn (b : List Int) (i : Nat) : Nat := (b.getD i 0).toNat
theorem bn_lt {b : List Int} (hb : isBytes b = true) (i : Nat) : bn b i < 256 := by
  unfold bn
  by_cases hi : i < b.length
  · have hx := List.all_eq_true.1 hb b[i] (List.getElem_mem hi)
    simp only [Bool.and_eq_true, decide_eq_true_eq] at hx
    rw [List.getD_eq_getElem?_getD, List.getElem?_eq_getElem hi]
    simp only [Option.getD_some]
    omega
  · rw [List.getD_eq_getElem?_getD, List.getElem?_eq_none (by omega)]
    simp
theorem bn_drop (b : List Int) (n i : Nat) : bn (b.drop n) i = bn b (n + i) := by
  unfold bn
  rw [List.getD_eq_getElem?_getD, List.getD_eq_getElem?_getD, List.getElem?_drop]
theorem isBytes_drop {b : List Int} (hb : isBytes b = true) (n : Nat) : isBytes (b.drop n) = true := by
  unfold isBytes at hb ⊢
  rw [List.all_eq_true] at hb ⊢
  exact fun x hx => hb x (List.mem_of_mem_drop hx)
theorem getD_bn {b : List Int} (hb : isBytes b = true) (i : Nat) : b.getD i 0 = (bn b i : Int) := by
  unfold bn
  by_cases hi : i < b.length
  · have hx := List.all_eq_true.1 hb b[i] (List.getElem_mem hi)
    simp only [Bool.and_eq_true, decide_eq_true_eq] at hx
    rw [List.getD_eq_getElem?_getD, List.getElem?_eq_getElem hi]
    simp only [Option.getD_some]
    omega
  · rw [List.getD_eq_getElem?_getD, List.getElem?_eq_none (by omega)]
    simp
theorem toBA_get (l : List Int) (hb : isBytes l = true) (j : Nat) (hj : j < l.length) : (((toBA l).get! j).toNat : Int) = l.getD j 0 := by
  have hx := List.all_eq_true.1 hb l[j] (List.getElem_mem hj)
  simp only [Bool.and_eq_true, decide_eq_true_eq] at hx
  rw [Utf8W.get!_of_lt _ _ (by rw [toBA_size]; exact hj)]
  have h1 : (toBA l)[j]'(by rw [toBA_size]; exact hj) = UInt8.ofNat (l[j]).toNat := by
    have e : (toBA l)[j]'(by rw [toBA_size]; exact hj) = ((l.map fun x => UInt8.ofNat x.toNat).toArray)[j]'(by simpa using hj) := rfl
    rw [e]
    simp
  have h2 : l.getD j 0 = l[j] := by simp [List.getD_eq_getElem?_getD, List.getElem?_eq_getElem hj]
  rw [h1, h2, UInt8.toNat_ofNat']
  omega
theorem toBA_bn {l : List Int} (hb : isBytes l = true) (j : Nat) : ((toBA l).get! j).toNat = bn l j := by
  by_cases hj : j < l.length
  · have h1 := toBA_get l hb j hj
    rw [getD_bn hb] at h1
    omega
  · have h0 : bn l j = 0 := by
      unfold bn
      rw [List.getD_eq_getElem?_getD, List.getElem?_eq_none (by omega)]
      rfl
    have h1 : (toBA l).get! j = ((l.map fun x => UInt8.ofNat x.toNat).toArray)[j]! := rfl
    rw [h0, h1, getElem!_neg _ _ (by simpa using hj)]
    rfl
/-- The symbol out of up to four bytes: what is no symbol's bytes is the byte itself. -/
def symN (n b0 b1 b2 b3 : Nat) : Int × Int :=
  if (Go.Lib.decodeN n b0 b1 b2 b3).1 = 65533 ∧ (Go.Lib.decodeN n b0 b1 b2 b3).2 ≤ 1 then (1114112 + (b0 : Int), 1) else (((Go.Lib.decodeN n b0 b1 b2 b3).1 : Int), ((Go.Lib.decodeN n b0 b1 b2 b3).2 : Int))
/-- The symbol at a place that is there, and how many bytes it has. -/
def symA (b : List Int) (n : Nat) : Int × Int := symN (b.length - n) (bn b n) (bn b (n + 1)) (bn b (n + 2)) (bn b (n + 3))
/-- The symbol at any place. -/
def symR (b : List Int) (i : Int) : Int × Int := if 0 ≤ i ∧ i < (b.length : Int) then symA b i.toNat else (0, 0)
theorem decR_eq {l : List Int} (hb : isBytes l = true) (hl : l ≠ []) : decR l = (((Go.Lib.decodeN l.length (bn l 0) (bn l 1) (bn l 2) (bn l 3)).1 : Int), ((Go.Lib.decodeN l.length (bn l 0) (bn l 1) (bn l 2) (bn l 3)).2 : Int)) := by
  have h0 : ¬ (toBA l).size = 0 := by
    rw [toBA_size]
    exact fun h => hl (List.length_eq_zero_iff.mp h)
  unfold decR Go.Lib.decodeGo
  rw [if_neg h0, Go.Lib.decode_at, toBA_size]
  simp only [Nat.sub_zero, Nat.zero_add, toBA_bn hb]
theorem decodeN_small (n b0 b1 b2 b3 : Nat) (h0 : b0 < 256) (h1 : b1 < 256) (h2 : b2 < 256) (h3 : b3 < 256) : (Go.Lib.decodeN n b0 b1 b2 b3).1 ≤ 1114111 ∧ 1 ≤ (Go.Lib.decodeN n b0 b1 b2 b3).2 ∧ (Go.Lib.decodeN n b0 b1 b2 b3).2 ≤ 4 ∧ (1 ≤ n → (Go.Lib.decodeN n b0 b1 b2 b3).2 ≤ n) := by
  unfold Go.Lib.decodeN
  repeat' split
  all_goals (dsimp only; omega)
theorem symA_small {b : List Int} (hb : isBytes b = true) (n : Nat) (hn : n < b.length) : 0 ≤ (symA b n).1 ∧ (symA b n).1 ≤ 1114367 ∧ 1 ≤ (symA b n).2 ∧ (symA b n).2 ≤ 4 ∧ (symA b n).2 ≤ (b.length : Int) - n := by
  have h := decodeN_small (b.length - n) _ _ _ _ (bn_lt hb n) (bn_lt hb (n + 1)) (bn_lt hb (n + 2)) (bn_lt hb (n + 3))
  have h0 := bn_lt hb n
  unfold symA symN
  split
  · dsimp only
    omega
  · dsimp only
    omega
end Go.Ev
/- Functions that are given, as the reader has them: readers of symbols, a sort, a writer of a symbol's bytes. -/
namespace Go.Ev
open Go
set_option linter.unusedVariables false
set_option linter.unusedSimpArgs false
def firstL : List Dat := (List.range 256).map fun c => .int (Go.Lib.firstT c)
def accL : List Dat := (List.range 16).map fun i => .agg [.int (Go.Lib.accLo i), .int (Go.Lib.accHi i)]
/-- utf8.DecodeRune -/
def gDecode (e : TypeId) : List AV → Option (List Dat)
  | [.shr e' l] => bif Nat.beq e' e && (!l.isEmpty && isBytes (ints l)) then some [.int (decR (ints l)).1, .int (decR (ints l)).2] else none
  | _ => none
def insI (x : Int) : List Int → List Int
  | [] => [x]
  | y :: l => bif decide (x ≤ y) then x :: y :: l else y :: insI x l
def sortI : List Int → List Int
  | [] => []
  | x :: l => insI x (sortI l)
/-- slices.Sort of whole numbers -/
def gSortI (e : TypeId) : List AV → Option (List Dat)
  | [.shr e' l] => bif Nat.beq e' e && decide (l.length < 4611686018427387904) then some [.list ((sortI (ints l)).map .int)] else none
  | _ => none
theorem insI_perm (x : Int) : ∀ (l : List Int), (insI x l).Perm (x :: l)
  | [] => List.Perm.refl _
  | y :: l => by
    unfold insI
    cases decide (x ≤ y)
    · exact ((insI_perm x l).cons y).trans (List.Perm.swap x y l)
    · exact List.Perm.refl _
theorem sortI_perm : ∀ (l : List Int), (sortI l).Perm l
  | [] => List.Perm.refl _
  | x :: l => (insI_perm x (sortI l)).trans ((sortI_perm l).cons x)
theorem insI_sorted (x : Int) : ∀ (l : List Int), l.Pairwise (· ≤ ·) → (insI x l).Pairwise (· ≤ ·)
  | [], _ => List.pairwise_singleton _ _
  | y :: l, h => by
    obtain ⟨h1, h2⟩ := List.pairwise_cons.1 h
    unfold insI
    by_cases hxy : x ≤ y
    · rw [decide_eq_true hxy]
      refine List.pairwise_cons.2 ⟨fun z hz => ?_, h⟩
      rcases List.mem_cons.1 hz with rfl | hz
      · exact hxy
      · exact Int.le_trans hxy (h1 z hz)
    · rw [decide_eq_false hxy]
      refine List.pairwise_cons.2 ⟨fun z hz => ?_, insI_sorted x l h2⟩
      rcases List.mem_cons.1 ((insI_perm x l).mem_iff.1 hz) with rfl | hz
      · omega
      · exact h1 z hz
theorem sortI_sorted : ∀ (l : List Int), (sortI l).Pairwise (· ≤ ·)
  | [] => List.Pairwise.nil
  | x :: l => insI_sorted x _ (sortI_sorted l)
theorem sorted_uniq : ∀ {l m : List Int}, l.Pairwise (· ≤ ·) → m.Pairwise (· ≤ ·) → l.Perm m → l = m
  | [], m, _, _, h => (List.Perm.nil_eq h)
  | x :: l, [], _, _, h => absurd h.symm.nil_eq (by simp)
  | x :: l, y :: m, hl, hm, h => by
    obtain ⟨a1, a2⟩ := List.pairwise_cons.1 hl
    obtain ⟨b1, b2⟩ := List.pairwise_cons.1 hm
    have hxy : x = y := by
      have h1 : x ∈ y :: m := h.mem_iff.1 List.mem_cons_self
      have h2 : y ∈ x :: l := h.mem_iff.2 List.mem_cons_self
      rcases List.mem_cons.1 h1 with rfl | h1
      · rfl
      · rcases List.mem_cons.1 h2 with rfl | h2
        · rfl
        · exact Int.le_antisymm (a1 y h2) (b1 x h1)
    subst hxy
    rw [sorted_uniq a2 b2 (List.Perm.cons_inv h)]
theorem sortI_merge (l : List Int) : sortI l = l.mergeSort fun x y => decide (x ≤ y) := by
  refine sorted_uniq (sortI_sorted l) ?_ ((sortI_perm l).trans (List.mergeSort_perm l _).symm)
  have := List.pairwise_mergeSort (le := fun x y : Int => decide (x ≤ y)) (fun a b c h1 h2 => by simp at *; omega) (fun a b => by simp; omega) l
  exact this.imp fun h => by simpa using h
theorem sortI_length (l : List Int) : (sortI l).length = l.length := (sortI_perm l).length_eq
theorem ints_map (l : List Int) : ints (l.map .int) = l := by simp [ints, Function.comp_def, Dat.I]
end Go.Ev
/- Plain helpers for told functions. -/
namespace Go.Ev
open Go
set_option linter.unusedVariables false
set_option linter.unusedSimpArgs false
theorem cT {α : Type} {c : Bool} {a b : α} (h : c = true) : (bif c then a else b) = a := by rw [h]; rfl
theorem cF {α : Type} {c : Bool} {a b : α} (h : c = false) : (bif c then a else b) = b := by rw [h]; rfl
theorem dT {α : Type} {p : Prop} [Decidable p] {a b : α} (h : p) : (bif decide p then a else b) = a := by rw [decide_eq_true h]; rfl
theorem dF {α : Type} {p : Prop} [Decidable p] {a b : α} (h : ¬ p) : (bif decide p then a else b) = b := by rw [decide_eq_false h]; rfl
theorem eT {α : Type} {x y : Int} {a b : α} (h : x = y) : (bif x == y then a else b) = a := by rw [h]; simp
theorem eF {α : Type} {x y : Int} {a b : α} (h : x ≠ y) : (bif x == y then a else b) = b := by rw [beq_false_of_ne h]; rfl
theorem bT {f : List Dat → R} {x : R} {v : List Dat} (h : x = some v) : x.bind f = f v := by rw [h]; rfl
@[simp] theorem rd0 (a : Dat) (l : List Dat) : rd (a :: l) 0 = a := (rfl)
@[simp] theorem rd1 (a b : Dat) (l : List Dat) : rd (a :: b :: l) 1 = b := (rfl)
@[simp] theorem rd2 (a b c : Dat) (l : List Dat) : rd (a :: b :: c :: l) 2 = c := (rfl)
@[simp] theorem datI (n : Int) : (Dat.int n).I = n := (rfl)
@[simp] theorem datB (b : Bool) : (Dat.bool b).B = b := (rfl)
@[simp] theorem datS (s : ByteArray) : (Dat.str s).S = s := (rfl)
@[simp] theorem datL (l : List Dat) : (Dat.list l).L = l := (rfl)
theorem rdI (b : List Int) (i : Nat) : (rd (b.map Dat.int) i).I = b.getD i 0 := by
  by_cases h : i < b.length
  · simp [rd, List.getD_eq_getElem?_getD, h, Dat.I]
  · simp [rd, List.getD_eq_getElem?_getD, List.getElem?_eq_none (Nat.le_of_not_lt h), Dat.I]
theorem fit_ints {T : TypeId → Option TI} {k : Nat} {t e : TypeId} {kd : IntKind} {te : TI} {d : Dat} (ht : T t = some ⟨1, 24, [.slice e], false, .slice e⟩) (he : T e = some te) (hs : te.sh = .scal) (hc : te.cts = [.int kd]) (h : fitT T (k + 2) t d) :
    ∃ l : List Int, d = .list (l.map .int) ∧ l.length * te.bytes ≤ 140737488351232 ∧ ∀ x, x ∈ l → fitT T (k + 1) e (.int x) := by
  simp only [fitT, ht] at h
  obtain ⟨ti, h1, h2⟩ := h
  rw [Option.some.injEq] at h1
  subst h1
  simp only at h2
  obtain ⟨l, rfl, ⟨te', h3, h4⟩, h5⟩ := h2
  rw [he, Option.some.injEq] at h3
  subst h3
  have hint : ∀ x, x ∈ l → ∃ n, x = .int n := fun x hx => by
    obtain ⟨ti, g1, g2⟩ := h5 x hx
    rw [he, Option.some.injEq] at g1
    subst g1
    rw [hs] at g2
    obtain ⟨c, g3, g4⟩ := g2
    rw [hc] at g3
    simp only [List.cons.injEq, and_true] at g3
    subst g3
    cases x <;> simp [fitS] at g4
    exact ⟨_, rfl⟩
  have hl : (ints l).map .int = l := by
    unfold ints
    rw [List.map_map]
    refine (List.map_congr_left fun x hx => ?_).trans (List.map_id l)
    obtain ⟨n, rfl⟩ := hint x hx
    rfl
  refine ⟨ints l, by rw [hl], by simpa [ints] using h4, fun x hx => ?_⟩
  have : Dat.int x ∈ l := by rw [← hl]; exact List.mem_map_of_mem hx
  have hh := h5 _ this
  simpa only [fitT] using hh
theorem fit_int {T : TypeId → Option TI} {k : Nat} {t : TypeId} {kd : IntKind} {ti : TI} {d : Dat} (ht : T t = some ti) (hs : ti.sh = .scal) (hc : ti.cts = [.int kd]) (h : fitT T (k + 1) t d) : ∃ n, d = .int n ∧ fitS (.int kd) (.int n) := by
  simp only [fitT, ht] at h
  obtain ⟨ti', h1, h2⟩ := h
  rw [Option.some.injEq] at h1
  subst h1
  rw [hs] at h2
  obtain ⟨c, h3, h4⟩ := h2
  rw [hc] at h3
  simp only [List.cons.injEq, and_true] at h3
  subst h3
  cases d <;> simp [fitS] at h4
  exact ⟨_, rfl, by simpa [fitS] using h4⟩
end Go.Ev
/- Ranges sorted: a sort of pairs, as the reader has it. -/
namespace Go.Ev
open Go
set_option linter.unusedVariables false
set_option linter.unusedSimpArgs false
/-- Pairs of whole numbers, as data. -/
def prs (l : List (Int × Int)) : List Dat := l.map fun p => .agg [.int p.1, .int p.2]
def unprs (l : List Dat) : List (Int × Int) := l.map fun d => ((d.C 0).I, (d.C 1).I)
theorem unprs_prs (l : List (Int × Int)) : unprs (prs l) = l := by simp [unprs, prs, Function.comp_def, Dat.C, Dat.I]
def keyLt (x y : Int × Int) : Bool := decide (x.1 < y.1) || (decide (x.1 = y.1) && decide (x.2 < y.2))
theorem keyLt_iff {x y : Int × Int} : keyLt x y = true ↔ x.1 < y.1 ∨ (x.1 = y.1 ∧ x.2 < y.2) := by simp [keyLt]
theorem keyLt_no {x y : Int × Int} : keyLt x y = false ↔ ¬ (x.1 < y.1 ∨ (x.1 = y.1 ∧ x.2 < y.2)) := by rw [← keyLt_iff, Bool.not_eq_true]
def insR (x : Int × Int) : List (Int × Int) → List (Int × Int)
  | [] => [x]
  | y :: l => bif keyLt y x then y :: insR x l else x :: y :: l
def sortP : List (Int × Int) → List (Int × Int)
  | [] => []
  | x :: l => insR x (sortP l)
/-- slices.SortFunc of pairs by a function that tells their order -/
def gSortR (e g : Nat) : List AV → Option (List Dat)
  | [.shr e' l, .clo g' [] []] => bif Nat.beq e' e && (Nat.beq g' g && decide (l.length < 4611686018427387904)) then some [.list (prs (sortP (unprs l)))] else none
  | _ => none
theorem insR_perm (x : Int × Int) : ∀ (l : List (Int × Int)), (insR x l).Perm (x :: l)
  | [] => List.Perm.refl _
  | y :: l => by
    unfold insR
    cases keyLt y x
    · exact List.Perm.refl _
    · exact ((insR_perm x l).cons y).trans (List.Perm.swap x y l)
theorem sortP_perm : ∀ (l : List (Int × Int)), (sortP l).Perm l
  | [] => List.Perm.refl _
  | x :: l => (insR_perm x (sortP l)).trans ((sortP_perm l).cons x)
theorem insR_sorted (x : Int × Int) : ∀ (l : List (Int × Int)), l.Pairwise (fun a b => keyLt b a = false) → (insR x l).Pairwise fun a b => keyLt b a = false
  | [], _ => List.pairwise_singleton _ _
  | y :: l, h => by
    obtain ⟨h1, h2⟩ := List.pairwise_cons.1 h
    unfold insR
    cases hxy : keyLt y x with
    | false =>
      refine List.pairwise_cons.2 ⟨fun z hz => ?_, h⟩
      rcases List.mem_cons.1 hz with rfl | hz
      · exact hxy
      · have h3 := h1 z hz
        rw [keyLt_no] at *
        omega
    | true =>
      refine List.pairwise_cons.2 ⟨fun z hz => ?_, insR_sorted x l h2⟩
      rcases List.mem_cons.1 ((insR_perm x l).mem_iff.1 hz) with rfl | hz
      · rw [keyLt_iff] at hxy
        rw [keyLt_no]
        omega
      · exact h1 z hz
theorem sortP_sorted : ∀ (l : List (Int × Int)), (sortP l).Pairwise fun a b => keyLt b a = false
  | [] => List.Pairwise.nil
  | x :: l => insR_sorted x _ (sortP_sorted l)
theorem sortedP_uniq : ∀ {l m : List (Int × Int)}, l.Pairwise (fun a b => keyLt b a = false) → m.Pairwise (fun a b => keyLt b a = false) → l.Perm m → l = m
  | [], m, _, _, h => (List.Perm.nil_eq h)
  | x :: l, [], _, _, h => absurd h.symm.nil_eq (by simp)
  | x :: l, y :: m, hl, hm, h => by
    obtain ⟨a1, a2⟩ := List.pairwise_cons.1 hl
    obtain ⟨b1, b2⟩ := List.pairwise_cons.1 hm
    have hxy : x = y := by
      have h1 : x ∈ y :: m := h.mem_iff.1 List.mem_cons_self
      have h2 : y ∈ x :: l := h.mem_iff.2 List.mem_cons_self
      rcases List.mem_cons.1 h1 with rfl | h1
      · rfl
      · rcases List.mem_cons.1 h2 with rfl | h2
        · rfl
        · have c1 := a1 y h2
          have c2 := b1 x h1
          rw [keyLt_no] at c1 c2
          obtain ⟨p, q⟩ := x
          obtain ⟨s, t⟩ := y
          simp only [Prod.mk.injEq] at *
          omega
    subst hxy
    rw [sortedP_uniq a2 b2 (List.Perm.cons_inv h)]
theorem sortP_merge (l : List (Int × Int)) : sortP l = l.mergeSort fun x y => !keyLt y x := by
  refine sortedP_uniq (sortP_sorted l) ?_ ((sortP_perm l).trans (List.mergeSort_perm l _).symm)
  have := List.pairwise_mergeSort (le := fun x y : Int × Int => !keyLt y x) (fun a b c h1 h2 => by
    simp only [Bool.not_eq_true'] at *
    rw [keyLt_no] at *
    omega) (fun a b => by
    simp only [Bool.or_eq_true, Bool.not_eq_true']
    rw [keyLt_no, keyLt_no]
    omega) l
  exact this.imp fun h => by simpa using h
theorem sortP_length (l : List (Int × Int)) : (sortP l).length = l.length := (sortP_perm l).length_eq
end Go.Ev
/- Lists of ranges in plain Lean: the least list of the same numbers, what it has, what it hasn't. -/
namespace Go.Ev
open Go
set_option linter.unusedVariables false
set_option linter.unusedSimpArgs false
abbrev rs := prs
theorem rs_rd (l : List (Int × Int)) (i : Nat) (h : i < l.length) : rd (rs l) i = .agg [.int (l[i]).1, .int (l[i]).2] := by simp [rd, rs, prs, h]
theorem rs_len (l : List (Int × Int)) : (rs l).length = l.length := by simp [rs, prs]
def inR (x : Int) (p : Int × Int) : Bool := decide (p.1 ≤ x) && decide (x ≤ p.2)
def hasB (l : List (Int × Int)) (x : Int) : Bool := decide (0 ≤ x) && decide (x ≤ 1114367) && l.any (inR x)
theorem sortP_low (l : List (Int × Int)) : (sortP l).Pairwise fun a b => a.1 ≤ b.1 := (sortP_sorted l).imp fun h => by rw [keyLt_no] at h; omega
def mx (a b : Int) : Int := if b > a then b else a
def mn (a b : Int) : Int := if b < a then b else a
def clipR (r : (Int × Int)) : Option (Int × Int) := if mx r.1 0 ≤ mn r.2 1114367 then some ⟨mx r.1 0, mn r.2 1114367⟩ else none
def mg : (Int × Int) → List (Int × Int) → List (Int × Int)
  | c, [] => [c]
  | c, r :: rest => if r.1 ≤ c.2 + 1 then mg ⟨c.1, mx c.2 r.2⟩ rest else c :: mg r rest
def mgT : List (Int × Int) → List (Int × Int)
  | [] => []
  | c :: rest => mg c rest
def mk (l : List (Int × Int)) : List (Int × Int) := mgT (sortP (l.filterMap clipR))
def okR (r : (Int × Int)) : Prop := 0 ≤ r.1 ∧ r.1 ≤ r.2 ∧ r.2 ≤ 1114367
theorem okR_clip {r c : (Int × Int)} (h : clipR r = some c) : okR c := by
  unfold clipR at h
  split at h
  · rename_i hle
    obtain rfl := Option.some.inj h
    unfold okR mx mn at *
    dsimp only
    split <;> split <;> simp_all <;> omega
  · cases h
theorem okR_all {l : List (Int × Int)} : ∀ r ∈ l.filterMap clipR, okR r := by
  intro r hr
  obtain ⟨a, _, ha⟩ := List.mem_filterMap.mp hr
  exact okR_clip ha
theorem mem_sortP {l : List (Int × Int)} {r : (Int × Int)} : r ∈ sortP l ↔ r ∈ l := (sortP_perm l).mem_iff
theorem length_sortP (l : List (Int × Int)) : (sortP l).length = l.length := (sortP_perm l).length_eq
def leastP (l : List (Int × Int)) : Prop := (∀ r ∈ l, okR r) ∧ l.Pairwise fun a b => a.2 + 1 < b.1
def hasP (l : List (Int × Int)) (x : Int) : Prop := ∃ r ∈ l, r.1 ≤ x ∧ x ≤ r.2
theorem mg_has : ∀ (rest : List (Int × Int)) (c : (Int × Int)), okR c → (∀ r ∈ rest, okR r ∧ c.1 ≤ r.1) → rest.Pairwise (fun a b => a.1 ≤ b.1) → ∀ x, hasP (mg c rest) x ↔ hasP (c :: rest) x := by
  intro rest
  induction rest with
  | nil => intro c _ _ _ x; rfl
  | cons r rest ih =>
    intro c hc hr hp x
    have h1 := hr r (by simp)
    have h2 : ∀ q ∈ rest, okR q ∧ c.1 ≤ q.1 := fun q hq => hr q (by simp [hq])
    have hp2 := List.pairwise_cons.mp hp
    unfold mg
    split
    · rename_i hle
      rw [ih ⟨c.1, mx c.2 r.2⟩ (by unfold okR mx at *; dsimp only; split <;> omega) h2 hp2.2 x]
      constructor
      · rintro ⟨q, hq, hx⟩
        rcases List.mem_cons.mp hq with rfl | hq
        · dsimp only at hx
          unfold mx at hx
          by_cases hxc : x ≤ c.2
          · exact ⟨c, by simp, hx.1, hxc⟩
          · refine ⟨r, by simp, by omega, ?_⟩
            split at hx <;> omega
        · exact ⟨q, by simp [hq], hx⟩
      · rintro ⟨q, hq, hx⟩
        rcases List.mem_cons.mp hq with rfl | hq
        · exact ⟨(⟨q.1, mx q.2 r.2⟩ : (Int × Int)), List.mem_cons_self, hx.1, by dsimp only; unfold mx; split <;> omega⟩
        · rcases List.mem_cons.mp hq with rfl | hq
          · exact ⟨(⟨c.1, mx c.2 q.2⟩ : (Int × Int)), List.mem_cons_self, by dsimp only; omega, by dsimp only; unfold mx; split <;> omega⟩
          · exact ⟨q, by simp [hq], hx⟩
    · have h := ih r h1.1 (fun q hq => ⟨(h2 q hq).1, hp2.1 q hq⟩) hp2.2 x
      constructor
      · rintro ⟨q, hq, hx⟩
        rcases List.mem_cons.mp hq with rfl | hq
        · exact ⟨q, by simp, hx⟩
        · obtain ⟨q', hq', hx'⟩ := h.mp ⟨q, hq, hx⟩
          exact ⟨q', List.mem_cons_of_mem _ hq', hx'⟩
      · rintro ⟨q, hq, hx⟩
        rcases List.mem_cons.mp hq with rfl | hq
        · exact ⟨q, by simp, hx⟩
        · obtain ⟨q', hq', hx'⟩ := h.mpr ⟨q, hq, hx⟩
          exact ⟨q', List.mem_cons_of_mem _ hq', hx'⟩
theorem mg_least : ∀ (rest : List (Int × Int)) (c : (Int × Int)), okR c → (∀ r ∈ rest, okR r ∧ c.1 ≤ r.1) → rest.Pairwise (fun a b => a.1 ≤ b.1) → leastP (mg c rest) ∧ ∀ r ∈ mg c rest, c.1 ≤ r.1 := by
  intro rest
  induction rest with
  | nil =>
    intro c hc _ _
    refine ⟨⟨?_, ?_⟩, ?_⟩
    · intro r hr; rw [List.mem_singleton.mp hr]; exact hc
    · exact List.pairwise_singleton _ _
    · intro r hr; rw [List.mem_singleton.mp hr]; exact Int.le_refl _
  | cons r rest ih =>
    intro c hc hr hp
    have h1 := hr r (by simp)
    have h2 : ∀ q ∈ rest, okR q ∧ c.1 ≤ q.1 := fun q hq => hr q (by simp [hq])
    have hp2 := List.pairwise_cons.mp hp
    unfold mg
    split
    · exact ih ⟨c.1, mx c.2 r.2⟩ (by unfold okR mx at *; dsimp only; split <;> omega) h2 hp2.2
    · rename_i hle
      obtain ⟨⟨g1, g2⟩, g3⟩ := ih r h1.1 (fun q hq => ⟨(h2 q hq).1, hp2.1 q hq⟩) hp2.2
      refine ⟨⟨?_, List.pairwise_cons.mpr ⟨?_, g2⟩⟩, ?_⟩
      · intro q hq
        rcases List.mem_cons.mp hq with rfl | hq
        · exact hc
        · exact g1 q hq
      · intro q hq
        have := g3 q hq
        omega
      · intro q hq
        rcases List.mem_cons.mp hq with rfl | hq
        · exact Int.le_refl _
        · have := g3 q hq
          omega
theorem mk_least (l : List (Int × Int)) : leastP (mk l) := by
  have hs := sortP_low (l.filterMap clipR)
  have hok : ∀ r ∈ sortP (l.filterMap clipR), okR r := fun r hr => okR_all r (mem_sortP.mp hr)
  unfold mk
  generalize sortP (l.filterMap clipR) = s at hs hok
  cases s with
  | nil => exact ⟨by simp [mgT], by simp [mgT]⟩
  | cons c rest =>
    have hp := List.pairwise_cons.mp hs
    exact (mg_least rest c (hok c (by simp)) (fun r hr => ⟨hok r (by simp [hr]), hp.1 r hr⟩) hp.2).1
theorem mx_le {a b x : Int} : mx a b ≤ x ↔ a ≤ x ∧ b ≤ x := by unfold mx; split <;> omega
theorem le_mn {a b x : Int} : x ≤ mn a b ↔ x ≤ a ∧ x ≤ b := by unfold mn; split <;> omega
theorem clip_has (r : (Int × Int)) (x : Int) : (∃ c, clipR r = some c ∧ c.1 ≤ x ∧ x ≤ c.2) ↔ 0 ≤ x ∧ x ≤ 1114367 ∧ r.1 ≤ x ∧ x ≤ r.2 := by
  unfold clipR
  constructor
  · rintro ⟨c, h, h1, h2⟩
    by_cases hle : mx r.1 0 ≤ mn r.2 1114367
    · rw [if_pos hle] at h
      obtain rfl := Option.some.inj h
      have h3 := mx_le.mp h1
      have h4 := le_mn.mp h2
      omega
    · rw [if_neg hle] at h
      cases h
  · rintro ⟨h0, h1, h2, h3⟩
    have h4 : mx r.1 0 ≤ x := mx_le.mpr ⟨h2, h0⟩
    have h5 : x ≤ mn r.2 1114367 := le_mn.mpr ⟨h3, h1⟩
    exact ⟨⟨mx r.1 0, mn r.2 1114367⟩, if_pos (Int.le_trans h4 h5), h4, h5⟩
theorem mk_has (l : List (Int × Int)) (x : Int) : hasP (mk l) x ↔ 0 ≤ x ∧ x ≤ 1114367 ∧ hasP l x := by
  have hs := sortP_low (l.filterMap clipR)
  have hok : ∀ r ∈ sortP (l.filterMap clipR), okR r := fun r hr => okR_all r (mem_sortP.mp hr)
  have h1 : hasP (mk l) x ↔ hasP (sortP (l.filterMap clipR)) x := by
    unfold mk
    generalize sortP (l.filterMap clipR) = s at hs hok
    cases s with
    | nil => rfl
    | cons c rest =>
      have hp := List.pairwise_cons.mp hs
      exact mg_has rest c (hok c (by simp)) (fun r hr => ⟨hok r (by simp [hr]), hp.1 r hr⟩) hp.2 x
  rw [h1]
  constructor
  · rintro ⟨c, hc, hx⟩
    obtain ⟨r, hr, hrc⟩ := List.mem_filterMap.mp (mem_sortP.mp hc)
    obtain ⟨a, b, c1, c2⟩ := (clip_has r x).mp ⟨c, hrc, hx⟩
    exact ⟨a, b, r, hr, c1, c2⟩
  · rintro ⟨a, b, r, hr, hx⟩
    obtain ⟨c, hc, hx⟩ := (clip_has r x).mpr ⟨a, b, hx⟩
    exact ⟨c, mem_sortP.mpr (List.mem_filterMap.mpr ⟨r, hr, hc⟩), hx⟩
theorem least_unique : ∀ (a b : List (Int × Int)), leastP a → leastP b → (∀ x, hasP a x ↔ hasP b x) → a = b := by
  intro a
  induction a with
  | nil =>
    intro b _ hb h
    cases b with
    | nil => rfl
    | cons r b =>
      have := hb.1 r (by simp)
      unfold okR at this
      obtain ⟨q, hq, _⟩ := (h r.1).mpr ⟨r, by simp, by omega, by omega⟩
      cases hq
  | cons p a ih =>
    intro b ha hb h
    have hp := ha.1 p (by simp)
    cases b with
    | nil =>
      unfold okR at hp
      obtain ⟨q, hq, _⟩ := (h p.1).mp ⟨p, by simp, by omega, by omega⟩
      cases hq
    | cons r b =>
      have hr := hb.1 r (by simp)
      have pa := List.pairwise_cons.mp ha.2
      have pb := List.pairwise_cons.mp hb.2
      unfold okR at hp hr
      have lowa : ∀ x, hasP (p :: a) x → p.1 ≤ x ∧ (x ≤ p.2 ∨ p.2 + 1 < x ∧ hasP a x) := by
        rintro x ⟨q, hq, h1, h2⟩
        rcases List.mem_cons.mp hq with rfl | hq
        · exact ⟨h1, .inl h2⟩
        · have := pa.1 q hq
          exact ⟨by omega, .inr ⟨by omega, q, hq, h1, h2⟩⟩
      have lowb : ∀ x, hasP (r :: b) x → r.1 ≤ x ∧ (x ≤ r.2 ∨ r.2 + 1 < x ∧ hasP b x) := by
        rintro x ⟨q, hq, h1, h2⟩
        rcases List.mem_cons.mp hq with rfl | hq
        · exact ⟨h1, .inl h2⟩
        · have := pb.1 q hq
          exact ⟨by omega, .inr ⟨by omega, q, hq, h1, h2⟩⟩
      have ina : ∀ x, p.1 ≤ x → x ≤ p.2 → hasP (p :: a) x := fun x h1 h2 => ⟨p, by simp, h1, h2⟩
      have inb : ∀ x, r.1 ≤ x → x ≤ r.2 → hasP (r :: b) x := fun x h1 h2 => ⟨r, by simp, h1, h2⟩
      have e0 : p.1 = r.1 := by
        have h1 := (lowb p.1 ((h _).mp (ina _ (by omega) (by omega)))).1
        have h2 := (lowa r.1 ((h _).mpr (inb _ (by omega) (by omega)))).1
        omega
      have e1 : p.2 = r.2 := by
        rcases Int.lt_trichotomy p.2 r.2 with hlt | heq | hgt
        · exfalso
          have := (lowa (p.2 + 1) ((h _).mpr (inb _ (by omega) (by omega)))).2
          omega
        · exact heq
        · exfalso
          have := (lowb (r.2 + 1) ((h _).mp (ina _ (by omega) (by omega)))).2
          omega
      have epr : p = r := by
        cases p; cases r
        simp only at e0 e1
        rw [e0, e1]
      subst epr
      have : a = b := by
        refine ih b ⟨fun q hq => ha.1 q (by simp [hq]), pa.2⟩ ⟨fun q hq => hb.1 q (by simp [hq]), pb.2⟩ fun x => ⟨fun hx => ?_, fun hx => ?_⟩
        · obtain ⟨q, hq, h1, h2⟩ := hx
          have hq' := pa.1 q hq
          rcases (lowb x ((h x).mp ⟨q, by simp [hq], h1, h2⟩)).2 with h3 | h3
          · omega
          · exact h3.2
        · obtain ⟨q, hq, h1, h2⟩ := hx
          have hq' := pb.1 q hq
          rcases (lowa x ((h x).mpr ⟨q, by simp [hq], h1, h2⟩)).2 with h3 | h3
          · omega
          · exact h3.2
      rw [this]
theorem mk_of_least {l : List (Int × Int)} (h : leastP l) : mk l = l := by
  refine least_unique _ _ (mk_least l) h fun x => ?_
  rw [mk_has]
  constructor
  · exact fun ⟨_, _, hx⟩ => hx
  · rintro ⟨r, hr, h1, h2⟩
    have := h.1 r hr
    unfold okR at this
    exact ⟨by omega, by omega, r, hr, h1, h2⟩
theorem mk_eq_iff (l : List (Int × Int)) : mk l = l ↔ leastP l := ⟨fun h => h ▸ mk_least l, mk_of_least⟩
def leastF : Option Int → List (Int × Int) → Bool
  | _, [] => true
  | p, r :: rest => decide (0 ≤ r.1) && decide (r.2 ≤ 1114367) && decide (r.1 ≤ r.2) && (match p with | none => true | some h => decide (h < r.1 - 1)) && leastF (some r.2) rest
theorem leastF_cons (p : Option Int) (r : (Int × Int)) (rest : List (Int × Int)) : leastF p (r :: rest) = ((decide (0 ≤ r.1) && decide (r.2 ≤ 1114367) && decide (r.1 ≤ r.2) && (match p with | none => true | some h => decide (h < r.1 - 1))) && leastF (some r.2) rest) := by cases p <;> rfl
theorem leastF_iff : ∀ (l : List (Int × Int)) (p : Option Int), leastF p l = true ↔ leastP l ∧ ∀ h ∈ p, ∀ r ∈ l, h + 1 < r.1 := by
  intro l
  induction l with
  | nil => intro p; simp [leastF, leastP]
  | cons r rest ih =>
    intro p
    rw [leastF_cons, Bool.and_eq_true, ih]
    have hd : (decide (0 ≤ r.1) && decide (r.2 ≤ 1114367) && decide (r.1 ≤ r.2) && (match p with | none => true | some h => decide (h < r.1 - 1))) = true ↔ okR r ∧ ∀ h ∈ p, h + 1 < r.1 := by
      unfold okR
      cases p with
      | none =>
        simp only [Bool.and_eq_true, decide_eq_true_eq, Option.mem_def, reduceCtorEq, false_implies, implies_true, and_true]
        omega
      | some h =>
        simp only [Bool.and_eq_true, decide_eq_true_eq, Option.mem_def, Option.some.injEq, forall_eq']
        omega
    rw [hd]
    unfold leastP
    rw [List.pairwise_cons]
    constructor
    · rintro ⟨⟨h1, h2⟩, ⟨h3, h4⟩, h5⟩
      have h6 : ∀ q ∈ rest, r.2 + 1 < q.1 := fun q hq => h5 r.2 rfl q hq
      refine ⟨⟨?_, h6, h4⟩, ?_⟩
      · intro q hq
        rcases List.mem_cons.mp hq with rfl | hq
        · exact h1
        · exact h3 q hq
      · intro h hh q hq
        have := h2 h hh
        rcases List.mem_cons.mp hq with rfl | hq
        · exact this
        · have := h6 q hq
          unfold okR at h1
          omega
    · rintro ⟨⟨h1, h2, h3⟩, h4⟩
      exact ⟨⟨h1 r (by simp), fun h hh => h4 h hh r (by simp)⟩, ⟨fun q hq => h1 q (by simp [hq]), h3⟩, fun h hh q hq => by
        have : r.2 = h := by simpa using hh
        rw [← this]
        exact h2 q hq⟩
def leastB (l : List (Int × Int)) : Bool := leastF none l
theorem leastB_iff (l : List (Int × Int)) : leastB l = true ↔ leastP l := by
  unfold leastB
  rw [leastF_iff]
  simp
theorem mg_length : ∀ (rest : List (Int × Int)) (c : (Int × Int)), (mg c rest).length ≤ rest.length + 1 := by
  intro rest
  induction rest with
  | nil => intro c; simp [mg]
  | cons r rest ih =>
    intro c
    unfold mg
    split
    · have := ih ⟨c.1, mx c.2 r.2⟩
      simp only [List.length_cons]
      omega
    · have := ih r
      simp only [List.length_cons]
      omega
theorem mk_length (l : List (Int × Int)) : (mk l).length ≤ l.length := by
  have h1 : (sortP (l.filterMap clipR)).length ≤ l.length := by
    rw [length_sortP]
    exact List.length_filterMap_le _ _
  unfold mk
  generalize sortP (l.filterMap clipR) = s at h1
  cases s with
  | nil => simp [mgT]
  | cons c rest =>
    have := mg_length rest c
    simp only [List.length_cons] at h1
    show (mg c rest).length ≤ l.length
    omega
def notL : Int → List (Int × Int) → List (Int × Int)
  | n, [] => if n ≤ 1114367 then [⟨n, 1114367⟩] else []
  | n, r :: rest => if r.1 > n then (⟨n, r.1 - 1⟩ : (Int × Int)) :: notL (r.2 + 1) rest else notL (r.2 + 1) rest
def notR (l : List (Int × Int)) : List (Int × Int) := notL 0 (mk l)
theorem notL_length : ∀ (l : List (Int × Int)) (n : Int), (notL n l).length ≤ l.length + 1 := by
  intro l
  induction l with
  | nil => intro n; unfold notL; split <;> simp
  | cons r rest ih =>
    intro n
    have := ih (r.2 + 1)
    unfold notL
    split <;> simp only [List.length_cons] <;> omega
theorem notR_length (l : List (Int × Int)) : (notR l).length ≤ l.length + 1 := Nat.le_trans (notL_length _ _) (Nat.add_le_add_right (mk_length l) 1)
theorem notL_law : ∀ (l : List (Int × Int)) (n : Int), leastP l → 0 ≤ n → (∀ r ∈ l, n ≤ r.1) → (leastP (notL n l) ∧ ∀ r ∈ notL n l, n ≤ r.1) ∧ ∀ x, hasP (notL n l) x ↔ n ≤ x ∧ x ≤ 1114367 ∧ ¬ hasP l x := by
  intro l
  induction l with
  | nil =>
    intro n _ hn _
    unfold notL
    split
    · refine ⟨⟨⟨?_, List.pairwise_singleton _ _⟩, ?_⟩, ?_⟩
      · intro r hr; rw [List.mem_singleton.mp hr]; unfold okR; dsimp only; omega
      · intro r hr; rw [List.mem_singleton.mp hr]; exact Int.le_refl _
      · intro x
        constructor
        · rintro ⟨r, hr, h1, h2⟩
          rw [List.mem_singleton.mp hr] at h1 h2
          exact ⟨h1, h2, by rintro ⟨q, hq, _⟩; cases hq⟩
        · rintro ⟨h1, h2, _⟩
          exact ⟨_, List.mem_singleton.mpr rfl, h1, h2⟩
    · refine ⟨⟨⟨by simp, List.Pairwise.nil⟩, by simp⟩, fun x => ⟨?_, ?_⟩⟩
      · rintro ⟨r, hr, _⟩; cases hr
      · rintro ⟨h1, h2, _⟩; omega
  | cons r rest ih =>
    intro n hl hn hlow
    have hp := List.pairwise_cons.mp hl.2
    have hr := hl.1 r (by simp)
    have hr0 := hlow r (by simp)
    unfold okR at hr
    obtain ⟨⟨g1, g2⟩, g3⟩ := ih (r.2 + 1) ⟨fun q hq => hl.1 q (by simp [hq]), hp.2⟩ (by omega) (fun q hq => by have := hp.1 q hq; omega)
    have hin : ∀ x, hasP (r :: rest) x ↔ (r.1 ≤ x ∧ x ≤ r.2) ∨ hasP rest x := by
      intro x
      constructor
      · rintro ⟨q, hq, h⟩
        rcases List.mem_cons.mp hq with rfl | hq
        · exact .inl h
        · exact .inr ⟨q, hq, h⟩
      · rintro (h | ⟨q, hq, h⟩)
        · exact ⟨r, by simp, h⟩
        · exact ⟨q, by simp [hq], h⟩
    have hrest : ∀ x, hasP rest x → r.2 + 1 < x := by
      rintro x ⟨q, hq, h1, h2⟩
      have := hp.1 q hq
      omega
    unfold notL
    split
    · refine ⟨⟨⟨?_, List.pairwise_cons.mpr ⟨?_, g1.2⟩⟩, ?_⟩, ?_⟩
      · intro q hq
        rcases List.mem_cons.mp hq with rfl | hq
        · unfold okR; dsimp only; omega
        · exact g1.1 q hq
      · intro q hq
        have := g2 q hq
        dsimp only
        omega
      · intro q hq
        rcases List.mem_cons.mp hq with rfl | hq
        · exact Int.le_refl _
        · have := g2 q hq; omega
      · intro x
        rw [hin]
        constructor
        · rintro ⟨q, hq, h1, h2⟩
          rcases List.mem_cons.mp hq with rfl | hq
          · dsimp only at h1 h2
            refine ⟨h1, by omega, ?_⟩
            rintro (h | h)
            · omega
            · have := hrest x h; omega
          · have := (g3 x).mp ⟨q, hq, h1, h2⟩
            refine ⟨by omega, this.2.1, ?_⟩
            rintro (h | h)
            · omega
            · exact this.2.2 h
        · rintro ⟨h1, h2, h3⟩
          by_cases hx : x ≤ r.1 - 1
          · exact ⟨_, List.mem_cons_self, h1, hx⟩
          · have h4 : ¬ (r.1 ≤ x ∧ x ≤ r.2) := fun h => h3 (.inl h)
            obtain ⟨q, hq, h⟩ := (g3 x).mpr ⟨by omega, h2, fun h => h3 (.inr h)⟩
            exact ⟨q, List.mem_cons_of_mem _ hq, h⟩
    · refine ⟨⟨g1, fun q hq => by have := g2 q hq; omega⟩, ?_⟩
      intro x
      rw [hin, g3]
      constructor
      · rintro ⟨h1, h2, h3⟩
        refine ⟨by omega, h2, ?_⟩
        rintro (h | h)
        · omega
        · exact h3 h
      · rintro ⟨h1, h2, h3⟩
        have h4 : ¬ (r.1 ≤ x ∧ x ≤ r.2) := fun h => h3 (.inl h)
        exact ⟨by omega, h2, fun h => h3 (.inr h)⟩
theorem notR_least (l : List (Int × Int)) : leastP (notR l) := (notL_law (mk l) 0 (mk_least l) (Int.le_refl _) (fun r hr => ((mk_least l).1 r hr).1)).1.1
def card (l : List (Int × Int)) : Nat := (List.range 1114368).countP fun x : Nat => hasB l (x : Int)
end Go.Ev
/- Functions that are given: copies of rows of pairs, strings cut in two. -/
namespace Go.Ev
open Go
set_option linter.unusedVariables false
set_option linter.unusedSimpArgs false
/-- A fact that is put aside. -/
structure Aside0 (p : Prop) : Prop where mk :: (out : p)
/-- slices.Clone of pairs -/
def gClone (e : TypeId) : List AV → Option (List Dat)
  | [.shr e' l] => bif Nat.beq e' e && decide (l.length < 8796093022208) then some [.list l] else none
  | _ => none
/-- strings.Cut -/
def gCut : List AV → Option (List Dat)
  | [.str s, .str p] => bif decide (s.size < 4294967281) then some [.str ⟨(Lib.cut s.data.toList p.data.toList).1.toArray⟩, .str ⟨(Lib.cut s.data.toList p.data.toList).2.1.toArray⟩, .bool (Lib.cut s.data.toList p.data.toList).2.2] else none
  | _ => none
/-- Pairs' cells. -/
def flat2 : List Dat → List Value
  | [] => []
  | d :: l => .int .i64 (d.C 0).I :: .int .i64 (d.C 1).I :: flat2 l
theorem flat2_len : ∀ (l : List Dat), (flat2 l).length = l.length * 2
  | [] => rfl
  | d :: l => by simp only [flat2, List.length_cons, flat2_len l]; omega
theorem flat2_at : ∀ (l : List Dat) (i j : Nat), i < l.length → j < 2 → (flat2 l)[i * 2 + j]? = some (.int .i64 ((rd l i).C j).I)
  | [], i, j, h, _ => by simp at h
  | d :: l, 0, j, h, hj => by
    have : j = 0 ∨ j = 1 := by omega
    rcases this with rfl | rfl <;> rfl
  | d :: l, i + 1, j, h, hj => by
    have e : (i + 1) * 2 + j = (i * 2 + j) + 1 + 1 := by omega
    rw [e]
    show (flat2 l)[i * 2 + j]? = _
    exact flat2_at l i j (by simpa using h) hj
theorem flat2_cell {l : List Dat} {j : Nat} {u : Value} (h : (flat2 l)[j]? = some u) : j < l.length * 2 ∧ u = .int .i64 ((rd l (j / 2)).C (j % 2)).I := by
  have hj : j < l.length * 2 := by
    rw [← flat2_len]
    exact (List.getElem?_eq_some_iff.1 h).1
  have := flat2_at l (j / 2) (j % 2) (by omega) (by omega)
  have e : j / 2 * 2 + j % 2 = j := by omega
  rw [e, h] at this
  exact ⟨hj, Option.some.inj this⟩
theorem own_row2 {C : Ctx} {w' : World} {e et : TypeId} {te : TI} (hte : C.T e = some te) (hc : te.cts = [.int .i64, .int .i64]) (hsz : te.size = 2) (hag : te.agg = true) {base : Nat} {v : Value} {l : List Dat} (h : w'.ownsRow base et 2 v l.length (flat2 l)) :
    ∃ (fR : List Nat) (G : Nat → Option Addr × Nat × Nat), fR.Nodup ∧ (∀ b, b ∈ fR → base ≤ b ∧ b < w'.heap.size) ∧ ∀ (St : Nat → Prop) (Hc : Gh) (d : Nat), (∀ i, Hc.hd0 d i = G i) → RelS C.T w' St Hc v fR (.own d 0 e l) := by
  obtain ⟨_, h⟩ := h
  rcases h with ⟨rfl, hn⟩ | ⟨g, cap, cur, rfl, hb, hh, hcap, hm, hs, ht⟩
  · have hr : l = [] := List.length_eq_zero_iff.1 hn
    subst hr
    exact ⟨[], fun _ => (none, 0, 0), List.nodup_nil, (fun b hb => by cases hb), fun St Hc d hG => ⟨by simp only [Gh.hd, hG], te, none, 0, fun h => absurd rfl h, rfl, Nat.le_refl _, .inl ⟨rfl, rfl⟩⟩⟩
  · refine ⟨[g], fun _ => (some ⟨g, 0, none⟩, l.length, cap), by simp, fun b hb' => ?_, fun St Hc d hG => ⟨by simp only [Gh.hd, hG], te, _, cap, fun _ => ⟨hte, by omega⟩, rfl, hcap, .inr ⟨g, 0, cur, et, (0, 0), rfl, rfl, hh, ⟨Nat.le_refl _, fun x _ hx => by omega⟩, by rw [hs, hsz]; omega, fun i j hi hj => ?_⟩⟩⟩
    · rw [List.mem_singleton] at hb'
      subst hb'
      exact ⟨hb, (Array.getElem?_eq_some_iff.1 hh).1⟩
    · have hj : j < 2 := by rw [← hsz]; exact hj
      have hcur : cur.toList[i * 2 + j]? = some (.int .i64 ((rd l i).C j).I) := by
        have : (cur.toList.take (l.length * 2))[i * 2 + j]? = some (.int .i64 ((rd l i).C j).I) := by rw [ht]; exact flat2_at l i j hi hj
        rwa [List.getElem?_take_of_lt (by omega)] at this
      refine ⟨.int .i64 ((rd l i).C j).I, ?_, fun ct hct => ?_⟩
      · show w'.cell? ⟨g, 0 + i * te.size + j, none⟩ = some (.int .i64 ((rd l i).C j).I)
        simp only [World.cell?, hh, Option.isSome_none, Bool.false_eq_true, if_false, hsz, Nat.zero_add]
        rw [← Array.getElem?_toList]
        exact hcur
      · rw [hc] at hct
        have e : cellOf te (rd l i) j = (rd l i).C j := by simp [cellOf, hag]
        have : j = 0 ∨ j = 1 := by omega
        rcases this with rfl | rfl
        · simp only [List.getElem?_cons_zero, Option.some.injEq] at hct
          subst hct
          exact .int (by rw [e])
        · simp only [List.getElem?_cons_succ, List.getElem?_cons_zero, Option.some.injEq] at hct
          subst hct
          exact .int (by rw [e])
theorem pickUp_cases {α : Type} {g k : Nat} {a x : α} {l : List (Nat × α)} (h : pickUp g ((k, a) :: l) = some x) : (g = k ∧ x = a) ∨ pickUp g l = some x := by
  simp only [pickUp] at h
  cases e : Nat.beq g k with
  | true =>
    rw [e] at h
    exact .inl ⟨Nat.eq_of_beq_eq_true e, (Option.some.inj h).symm⟩
  | false =>
    rw [e] at h
    exact .inr h
/-- The kinds' rules of trees. -/
def rulesL : List Dat := [(0, 0, 0, 0), (0, 0, 0, 0), (0, 0, 0, 0), (0, 0, 7, 0), (0, 0, 99, 1), (2, 4096, 0, 0), (2, 4097, 0, 0), (1, 1, 99, 0), (1, 1, 0, 1), (1, 1, 0, 0), (1, 1, 4, 0)].map fun r : Int × Int × Int × Int => .agg [.int r.1, .int r.2.1, .int r.2.2.1, .int r.2.2.2]
end Go.Ev
/- The wrap of a row whose contract asks both what the listed variables hold and the world's shape. -/
namespace Go
set_option linter.unusedVariables false
variable {H : Type} {enc : TypeId × Value → H}
theorem Ev.handed_both {a : Assume} {C : Checked} {os : Os} {f : FuncId} {fn : Func} {s : ChangeSpec} {conds : List PathCond} {apart fresh handsOn again : Bool} {X : World → Array Value → Prop}
    (hX : ∀ (w w' : World) (args : Array Value), w.heap = w'.heap → X w args → X w' args)
    (own : ownKnob C.prog.godebug = none) (started : os.Started) (noInit : C.prog.inits.idxOf? f = none) (hfn : C.prog.funcs[f]? = some fn)
    (witness : ∃ (w : World) (tape : Tape) (i : Input), w.os = os ∧ (w.forCall tape i).Shaped C.prog ∧ i.vars = [] ∧ Input.okWide C.prog (w.forCall tape i) .any w.heap.size f i ∧
      ((s.pre enc C.prog fn conds apart (w.forCall tape i).memory i.args ∧ X (w.forCall tape i).memory i.args) ∧ sizedMet enc C.prog fn (OpenSpec.ofChange s) apart (w.forCall tape i).memory i.args) ∧ a.holds C.prog (lone (Frame.enter C.prog f i.args .normal) [] (w.forCall tape i)))
    (contract : ∀ (W : World) (base : Nat) (args : Array Value) (ds gs : List (DataW H)) (before : List MemPlace),
      (∀ (j : Nat) t v, fn.params[j]? = some t → args[j]? = some v → Value.okWide C.prog W .any base t v) →
      DataW.Whole enc C.prog fn.params.toList s.vars apart W args.toList ds gs before →
      conds.all (PathCond.test C.prog ⟨fn.params.toList, ds, s.plain.varTypes C.prog, gs⟩) = true →
      (DataW.weightsEach C.prog (fn.params.toList ++ s.plain.varTypes C.prog) (ds ++ gs)).all (· ≤ reachBytes) = true → X W args → W.ShapedOpen C.prog →
      a.holds C.prog (lone (Frame.enter C.prog f args .normal) [] W) →
      Calls C.prog f args W fun e W' => ∃ v, e = .returned v ∧ s.post enc C.prog fn apart fresh handsOn again W args v W') :
    ReturnsInHanded a C os f .any (fun w args => (s.pre enc C.prog fn conds apart w args ∧ X w args) ∧ sizedMet enc C.prog fn (OpenSpec.ofChange s) apart w args) (s.post enc C.prog fn apart fresh handsOn again) := by
  refine returnsInHanded_of_calls own started noInit witness ?_
  intro w tape i _ hsh _ hok hpre hholds
  obtain ⟨_, _, _, fn', hfn', _, _, _, _, hval⟩ := hok
  have e : fn' = fn := Option.some.inj (hfn'.symm.trans hfn)
  subst e
  obtain ⟨⟨⟨ds, gs, before, hw, hc⟩, hx⟩, hz⟩ := hpre
  have hw' := DataW.Whole.of_heap (w' := w.forCall tape i) (by rfl) hw
  refine (contract (w.forCall tape i) w.heap.size i.args ds gs before hval hw' hc (hz.weights hw) (hX _ _ _ (by rfl) hx) hsh hholds).mono fun e W' ⟨v, he, hp⟩ => ?_
  subst he
  exact ChangeSpec.post_blind hp
end Go
namespace Go.Proofs.YtlofoifcdmeopaaGreatDoor.V
open Go Go.Ev
set_option maxRecDepth 100000
def tys : List (Option TI) := [none, none, some ⟨1, 8, [.int .i64], false, .scal⟩, some ⟨1, 8, [.int .i64], false, .scal⟩, some ⟨1, 1, [.bool], false, .scal⟩, some ⟨1, 1, [.int .u8], false, .scal⟩, some ⟨1, 1, [.int .u8], false, .scal⟩, some ⟨4, 24, [.int .i64, .int .i64, .bool, .int .u8], true, .struct [(0, 2), (1, 3), (2, 4), (3, 6)]⟩, some ⟨4, 24, [.int .i64, .int .i64, .bool, .int .u8], true, .struct [(0, 2), (1, 3), (2, 4), (3, 6)]⟩, some ⟨1, 16, [.str], false, .scal⟩, some ⟨1, 16, [.str], false, .scal⟩, some ⟨1, 16, [.str], false, .scal⟩, some ⟨1, 8, [.int .u64], false, .scal⟩, some ⟨2, 24, [.str, .int .u64], true, .struct [(0, 9), (1, 12)]⟩, some ⟨2, 24, [.str, .int .u64], true, .struct [(0, 9), (1, 12)]⟩, some ⟨1, 8, [.ptr], false, .ptr 355⟩, some ⟨1, 8, [.ptr], false, .ptr 358⟩, some ⟨1, 8, [.ptr], false, .ptr 365⟩, some ⟨1, 8, [.ptr], true, .struct [(0, 17)]⟩, some ⟨1, 8, [.ptr], true, .struct [(0, 17)]⟩, none, some ⟨1, 4, [.int .i32], false, .scal⟩, some ⟨1, 24, [.slice 38], false, .slice 38⟩, some ⟨1, 24, [.slice 9], false, .slice 9⟩, some ⟨3, 56, [.slice 38, .int .i64, .slice 9], true, .struct [(0, 22), (1, 3), (2, 23)]⟩, some ⟨3, 56, [.slice 38, .int .i64, .slice 9], true, .struct [(0, 22), (1, 3), (2, 23)]⟩, none, some ⟨1, 24, [.slice 42], false, .slice 42⟩, some ⟨3, 56, [.slice 42, .int .i64, .slice 9], true, .struct [(0, 27), (1, 3), (2, 23)]⟩, some ⟨3, 56, [.slice 42, .int .i64, .slice 9], true, .struct [(0, 27), (1, 3), (2, 23)]⟩, none, none, none, none, none, some ⟨1, 24, [.slice 82], false, .slice 82⟩, some ⟨1, 24, [.slice 3], false, .slice 3⟩, some ⟨10, 120, [.int .i64, .int .i64, .int .i64, .int .i64, .int .i64, .int .i64, .int .i64, .str, .slice 82, .slice 3], true, .struct [(0, 3), (1, 3), (2, 3), (3, 3), (4, 3), (5, 3), (6, 3), (7, 9), (8, 35), (9, 36)]⟩, some ⟨10, 120, [.int .i64, .int .i64, .int .i64, .int .i64, .int .i64, .int .i64, .int .i64, .str, .slice 82, .slice 3], true, .struct [(0, 3), (1, 3), (2, 3), (3, 3), (4, 3), (5, 3), (6, 3), (7, 9), (8, 35), (9, 36)]⟩, none, some ⟨1, 24, [.slice 88], false, .slice 88⟩, some ⟨10, 120, [.int .i64, .int .i64, .int .i64, .int .i64, .int .i64, .int .i64, .int .i64, .str, .slice 88, .slice 3], true, .struct [(0, 3), (1, 3), (2, 3), (3, 3), (4, 3), (5, 3), (6, 3), (7, 9), (8, 40), (9, 36)]⟩, some ⟨10, 120, [.int .i64, .int .i64, .int .i64, .int .i64, .int .i64, .int .i64, .int .i64, .str, .slice 88, .slice 3], true, .struct [(0, 3), (1, 3), (2, 3), (3, 3), (4, 3), (5, 3), (6, 3), (7, 9), (8, 40), (9, 36)]⟩, none, some ⟨1, 24, [.slice 5], false, .slice 5⟩, some ⟨1, 8, [.int .i64], false, .scal⟩, none, none, none, none, none, none, none, none, none, none, none, none, none, some ⟨1, 24, [.slice 62], false, .slice 62⟩, none, some ⟨2, 16, [.int .i64, .int .i64], true, .struct [(0, 3), (1, 3)]⟩, some ⟨2, 16, [.int .i64, .int .i64], true, .struct [(0, 3), (1, 3)]⟩, none, none, none, none, none, some ⟨1, 24, [.slice 140], false, .slice 140⟩, none, none, some ⟨1, 24, [.slice 74], false, .slice 74⟩, none, some ⟨2, 16, [.int .i64, .int .i64], true, .struct [(0, 3), (1, 3)]⟩, some ⟨2, 16, [.int .i64, .int .i64], true, .struct [(0, 3), (1, 3)]⟩, none, none, none, none, none, none, none, some ⟨2, 16, [.int .i64, .int .i64], true, .struct [(0, 3), (1, 3)]⟩, none, none, some ⟨9, 144, [.str, .str, .str, .str, .str, .str, .str, .str, .str], true, .arr 9 9⟩, none, none, some ⟨2, 16, [.int .i64, .int .i64], true, .struct [(0, 3), (1, 3)]⟩, none, none, none, none, some ⟨8, 128, [.str, .str, .str, .str, .str, .str, .str, .str], true, .arr 8 9⟩, some ⟨5, 80, [.str, .str, .str, .str, .str], true, .arr 5 9⟩, some ⟨10, 160, [.str, .str, .str, .str, .str, .str, .str, .str, .str, .str], true, .arr 10 9⟩, some ⟨1, 8, [.ptr], false, .ptr 100⟩, some ⟨4, 4, [.bool, .bool, .bool, .bool], true, .struct [(0, 4), (1, 4), (2, 4), (3, 4)]⟩, some ⟨4, 4, [.bool, .bool, .bool, .bool], true, .struct [(0, 4), (1, 4), (2, 4), (3, 4)]⟩, some ⟨10, 88, [.slice 5, .int .i64, .bool, .bool, .bool, .bool, .int .i64, .slice 9, .int .i64, .int .i64], true, .struct [(0, 44), (1, 3), (2, 98), (6, 3), (7, 23), (8, 45), (9, 3)]⟩, some ⟨10, 88, [.slice 5, .int .i64, .bool, .bool, .bool, .bool, .int .i64, .slice 9, .int .i64, .int .i64], true, .struct [(0, 44), (1, 3), (2, 98), (6, 3), (7, 23), (8, 45), (9, 3)]⟩, some ⟨1, 24, [.slice 103], false, .slice 103⟩, some ⟨11, 144, [.int .i64, .int .i64, .int .i64, .int .i64, .int .i64, .int .i64, .int .i64, .str, .slice 82, .slice 3, .slice 103], true, .struct [(0, 38), (10, 101)]⟩, some ⟨11, 144, [.int .i64, .int .i64, .int .i64, .int .i64, .int .i64, .int .i64, .int .i64, .str, .slice 82, .slice 3, .slice 103], true, .struct [(0, 38), (10, 101)]⟩, none, none, none, none, none, none, none, none, some ⟨8, 64, [.int .i64, .int .i64, .int .i64, .int .i64, .int .i64, .int .i64, .int .i64, .int .i64], true, .arr 8 3⟩, some ⟨6, 48, [.int .i64, .int .i64, .int .i64, .int .i64, .int .i64, .int .i64], true, .arr 6 3⟩, none, none, none, none, none, none, some ⟨1, 8, [.ptr], false, .ptr 122⟩, some ⟨6, 80, [.slice 38, .int .i64, .slice 9, .int .i64, .int .i64, .bool], true, .struct [(0, 25), (3, 3), (4, 3), (5, 4)]⟩, some ⟨6, 80, [.slice 38, .int .i64, .slice 9, .int .i64, .int .i64, .bool], true, .struct [(0, 25), (3, 3), (4, 3), (5, 4)]⟩, none, none, none, some ⟨4, 4, [.bool, .bool, .bool, .bool], true, .arr 4 4⟩, some ⟨9, 80, [.slice 5, .int .i64, .bool, .bool, .bool, .bool, .slice 9, .int .i64, .int .i64], true, .struct [(0, 44), (1, 3), (2, 126), (6, 23), (7, 3), (8, 3)]⟩, some ⟨9, 80, [.slice 5, .int .i64, .bool, .bool, .bool, .bool, .slice 9, .int .i64, .int .i64], true, .struct [(0, 44), (1, 3), (2, 126), (6, 23), (7, 3), (8, 3)]⟩, some ⟨6, 48, [.int .i64, .int .i64, .int .i64, .str, .int .u8, .bool], true, .struct [(0, 3), (1, 3), (2, 3), (3, 9), (4, 5), (5, 4)]⟩, some ⟨6, 48, [.int .i64, .int .i64, .int .i64, .str, .int .u8, .bool], true, .struct [(0, 3), (1, 3), (2, 3), (3, 9), (4, 5), (5, 4)]⟩, some ⟨1, 24, [.slice 302], false, .slice 302⟩, some ⟨1, 24, [.slice 134], false, .slice 134⟩, some ⟨20, 176, [.int .i64, .int .i64, .int .i64, .int .i64, .int .i64, .int .i64, .int .i64, .str, .int .i64, .int .i64, .int .i64, .str, .int .u8, .bool, .slice 302, .bool, .bool, .bool, .bool, .slice 134], true, .struct [(0, 3), (1, 3), (2, 3), (3, 3), (4, 3), (5, 3), (6, 3), (7, 9), (8, 130), (14, 131), (15, 4), (16, 4), (17, 4), (18, 4), (19, 132)]⟩, some ⟨20, 176, [.int .i64, .int .i64, .int .i64, .int .i64, .int .i64, .int .i64, .int .i64, .str, .int .i64, .int .i64, .int .i64, .str, .int .u8, .bool, .slice 302, .bool, .bool, .bool, .bool, .slice 134], true, .struct [(0, 3), (1, 3), (2, 3), (3, 3), (4, 3), (5, 3), (6, 3), (7, 9), (8, 130), (14, 131), (15, 4), (16, 4), (17, 4), (18, 4), (19, 132)]⟩, none, none, none, none, some ⟨21, 200, [.int .i64, .int .i64, .int .i64, .int .i64, .int .i64, .int .i64, .int .i64, .str, .int .i64, .int .i64, .int .i64, .str, .int .u8, .bool, .slice 302, .bool, .bool, .bool, .bool, .slice 134, .slice 3], true, .struct [(0, 134), (20, 36)]⟩, some ⟨21, 200, [.int .i64, .int .i64, .int .i64, .int .i64, .int .i64, .int .i64, .int .i64, .str, .int .i64, .int .i64, .int .i64, .str, .int .u8, .bool, .slice 302, .bool, .bool, .bool, .bool, .slice 134, .slice 3], true, .struct [(0, 134), (20, 36)]⟩, none, some ⟨4, 80, [.slice 38, .int .i64, .slice 9, .slice 62], true, .struct [(0, 25), (3, 59)]⟩, some ⟨4, 80, [.slice 38, .int .i64, .slice 9, .slice 62], true, .struct [(0, 25), (3, 59)]⟩, none, some ⟨1, 8, [.ptr], false, .ptr 150⟩, some ⟨1, 8, [.ptr], false, .ptr 148⟩, some ⟨2, 32, [.ptr, .slice 5], true, .struct [(0, 146), (1, 44)]⟩, some ⟨2, 32, [.ptr, .slice 5], true, .struct [(0, 146), (1, 44)]⟩, some ⟨5, 88, [.slice 38, .int .i64, .slice 9, .ptr, .slice 5], true, .struct [(0, 25), (3, 148)]⟩, some ⟨5, 88, [.slice 38, .int .i64, .slice 9, .ptr, .slice 5], true, .struct [(0, 25), (3, 148)]⟩, none, none, none, none, none, none, none, none, some ⟨4, 32, [.int .i64, .int .i64, .int .i64, .int .i64], true, .arr 4 3⟩, some ⟨72, 576, [.int .i64, .int .i64, .int .i64, .int .i64, .int .i64, .int .i64, .int .i64, .int .i64, .int .i64, .int .i64, .int .i64, .int .i64, .int .i64, .int .i64, .int .i64, .int .i64, .int .i64, .int .i64, .int .i64, .int .i64, .int .i64, .int .i64, .int .i64, .int .i64, .int .i64, .int .i64, .int .i64, .int .i64, .int .i64, .int .i64, .int .i64, .int .i64, .int .i64, .int .i64, .int .i64, .int .i64, .int .i64, .int .i64, .int .i64, .int .i64, .int .i64, .int .i64, .int .i64, .int .i64, .int .i64, .int .i64, .int .i64, .int .i64, .int .i64, .int .i64, .int .i64, .int .i64, .int .i64, .int .i64, .int .i64, .int .i64, .int .i64, .int .i64, .int .i64, .int .i64, .int .i64, .int .i64, .int .i64, .int .i64, .int .i64, .int .i64, .int .i64, .int .i64, .int .i64, .int .i64, .int .i64, .int .i64], true, .arr 18 159⟩, some ⟨2, 16, [.int .i64, .int .i64], true, .arr 2 3⟩, some ⟨12, 96, [.int .i64, .int .i64, .int .i64, .int .i64, .int .i64, .int .i64, .int .i64, .int .i64, .int .i64, .int .i64, .int .i64, .int .i64], true, .arr 6 161⟩, none, none, none, none, none, none, none, some ⟨5, 40, [.int .i64, .int .i64, .int .i64, .int .i64, .int .i64], true, .arr 5 3⟩, none, none, none, none, none, none, none, none, none, none, none, none, none, none, some ⟨1, 8, [.ptr], false, .ptr 5⟩, none, none, some ⟨1, 8, [.int .u64], false, .scal⟩, none, none, none, none, none, none, none, none, none, none, some ⟨4, 32, [.int .i64, .int .i64, .int .i64, .int .i64], true, .struct [(0, 3), (1, 3), (2, 3), (3, 3)]⟩, some ⟨4, 32, [.int .i64, .int .i64, .int .i64, .int .i64], true, .struct [(0, 3), (1, 3), (2, 3), (3, 3)]⟩, some ⟨44, 352, [.int .i64, .int .i64, .int .i64, .int .i64, .int .i64, .int .i64, .int .i64, .int .i64, .int .i64, .int .i64, .int .i64, .int .i64, .int .i64, .int .i64, .int .i64, .int .i64, .int .i64, .int .i64, .int .i64, .int .i64, .int .i64, .int .i64, .int .i64, .int .i64, .int .i64, .int .i64, .int .i64, .int .i64, .int .i64, .int .i64, .int .i64, .int .i64, .int .i64, .int .i64, .int .i64, .int .i64, .int .i64, .int .i64, .int .i64, .int .i64, .int .i64, .int .i64, .int .i64, .int .i64], true, .arr 11 200⟩, none, none, none, none, some ⟨1, 4, [.int .u32], false, .scal⟩, none, none, some ⟨1, 8, [.int .u64], false, .scal⟩, none, none, none, some ⟨24, 24, [.int .u8, .int .u8, .int .u8, .int .u8, .int .u8, .int .u8, .int .u8, .int .u8, .int .u8, .int .u8, .int .u8, .int .u8, .int .u8, .int .u8, .int .u8, .int .u8, .int .u8, .int .u8, .int .u8, .int .u8, .int .u8, .int .u8, .int .u8, .int .u8], true, .arr 24 5⟩, none, none, none, none, some ⟨4, 32, [.int .i64, .int .i64, .int .i64, .int .i64], true, .struct [(0, 3), (1, 3), (2, 3), (3, 3)]⟩, some ⟨4, 32, [.int .i64, .int .i64, .int .i64, .int .i64], true, .struct [(0, 3), (1, 3), (2, 3), (3, 3)]⟩, none, none, none, none, none, none, none, none, some ⟨1, 8, [.int .i64], false, .scal⟩, none, none, none, none, none, none, none, none, none, none, none, none, none, none, none, none, none, none, some ⟨20, 160, [.int .u64, .int .u64, .int .u64, .int .u64, .int .u64, .int .u64, .int .u64, .int .u64, .int .u64, .int .u64, .int .u64, .int .u64, .int .u64, .int .u64, .int .u64, .int .u64, .int .u64, .int .u64, .int .u64, .int .u64], true, .arr 20 209⟩, some ⟨65, 65, [.int .u8, .int .u8, .int .u8, .int .u8, .int .u8, .int .u8, .int .u8, .int .u8, .int .u8, .int .u8, .int .u8, .int .u8, .int .u8, .int .u8, .int .u8, .int .u8, .int .u8, .int .u8, .int .u8, .int .u8, .int .u8, .int .u8, .int .u8, .int .u8, .int .u8, .int .u8, .int .u8, .int .u8, .int .u8, .int .u8, .int .u8, .int .u8, .int .u8, .int .u8, .int .u8, .int .u8, .int .u8, .int .u8, .int .u8, .int .u8, .int .u8, .int .u8, .int .u8, .int .u8, .int .u8, .int .u8, .int .u8, .int .u8, .int .u8, .int .u8, .int .u8, .int .u8, .int .u8, .int .u8, .int .u8, .int .u8, .int .u8, .int .u8, .int .u8, .int .u8, .int .u8, .int .u8, .int .u8, .int .u8, .int .u8], true, .arr 65 5⟩, none, none, none, none, none, none, none, none, none, none, none, some ⟨1, 8, [.int .u64], false, .scal⟩, none, none, none, some ⟨1, 8, [.ptr], false, .ptr 3⟩, none, none, some ⟨8, 40, [.int .i64, .int .i64, .str, .bool, .bool, .bool, .bool, .bool], true, .struct [(0, 3), (1, 3), (2, 9), (3, 98), (7, 4)]⟩, some ⟨8, 40, [.int .i64, .int .i64, .str, .bool, .bool, .bool, .bool, .bool], true, .struct [(0, 3), (1, 3), (2, 9), (3, 98), (7, 4)]⟩, none, some ⟨5, 64, [.int .i64, .int .i64, .int .i64, .str, .slice 82], true, .struct [(0, 3), (1, 3), (2, 3), (3, 9), (4, 35)]⟩, some ⟨5, 64, [.int .i64, .int .i64, .int .i64, .str, .slice 82], true, .struct [(0, 3), (1, 3), (2, 3), (3, 9), (4, 35)]⟩, none, none, none, none, none, none, some ⟨1, 8, [.ptr], false, .ptr 260⟩, none, none, none, none, none, none, none, none, none, none, none, some ⟨32, 32, [.int .u8, .int .u8, .int .u8, .int .u8, .int .u8, .int .u8, .int .u8, .int .u8, .int .u8, .int .u8, .int .u8, .int .u8, .int .u8, .int .u8, .int .u8, .int .u8, .int .u8, .int .u8, .int .u8, .int .u8, .int .u8, .int .u8, .int .u8, .int .u8, .int .u8, .int .u8, .int .u8, .int .u8, .int .u8, .int .u8, .int .u8, .int .u8], true, .arr 32 5⟩, some ⟨64, 64, [.int .u8, .int .u8, .int .u8, .int .u8, .int .u8, .int .u8, .int .u8, .int .u8, .int .u8, .int .u8, .int .u8, .int .u8, .int .u8, .int .u8, .int .u8, .int .u8, .int .u8, .int .u8, .int .u8, .int .u8, .int .u8, .int .u8, .int .u8, .int .u8, .int .u8, .int .u8, .int .u8, .int .u8, .int .u8, .int .u8, .int .u8, .int .u8, .int .u8, .int .u8, .int .u8, .int .u8, .int .u8, .int .u8, .int .u8, .int .u8, .int .u8, .int .u8, .int .u8, .int .u8, .int .u8, .int .u8, .int .u8, .int .u8, .int .u8, .int .u8, .int .u8, .int .u8, .int .u8, .int .u8, .int .u8, .int .u8, .int .u8, .int .u8, .int .u8, .int .u8, .int .u8, .int .u8, .int .u8, .int .u8], true, .arr 64 5⟩, none, none, none, none, none, none, none, none, none, some ⟨8, 64, [.int .i64, .int .i64, .int .i64, .int .i64, .int .i64, .str, .int .u8, .bool], true, .struct [(0, 88), (2, 130)]⟩, some ⟨8, 64, [.int .i64, .int .i64, .int .i64, .int .i64, .int .i64, .str, .int .u8, .bool], true, .struct [(0, 88), (2, 130)]⟩, none, some ⟨7, 56, [.int .i64, .int .i64, .int .i64, .int .i64, .int .i64, .int .i64, .int .i64], true, .arr 7 3⟩, none, none, none, some ⟨1, 24, [.slice 311], false, .slice 311⟩, none, some ⟨4, 32, [.int .i64, .int .i64, .int .i64, .int .i64], true, .struct [(0, 3), (1, 3), (2, 3), (3, 3)]⟩, some ⟨4, 32, [.int .i64, .int .i64, .int .i64, .int .i64], true, .struct [(0, 3), (1, 3), (2, 3), (3, 3)]⟩, some ⟨1, 24, [.slice 315], false, .slice 315⟩, none, some ⟨2, 16, [.int .i64, .int .i64], true, .struct [(0, 3), (1, 3)]⟩, some ⟨2, 16, [.int .i64, .int .i64], true, .struct [(0, 3), (1, 3)]⟩, none, none, none, none, some ⟨2, 2, [.int .u8, .int .u8], true, .struct [(0, 5), (1, 5)]⟩, some ⟨2, 2, [.int .u8, .int .u8], true, .struct [(0, 5), (1, 5)]⟩, some ⟨32, 32, [.int .u8, .int .u8, .int .u8, .int .u8, .int .u8, .int .u8, .int .u8, .int .u8, .int .u8, .int .u8, .int .u8, .int .u8, .int .u8, .int .u8, .int .u8, .int .u8, .int .u8, .int .u8, .int .u8, .int .u8, .int .u8, .int .u8, .int .u8, .int .u8, .int .u8, .int .u8, .int .u8, .int .u8, .int .u8, .int .u8, .int .u8, .int .u8], true, .arr 16 321⟩, some ⟨4, 4, [.int .u8, .int .u8, .int .u8, .int .u8], true, .arr 4 5⟩, none, none, some ⟨1, 8, [.ptr], false, .ptr 98⟩, none, none, none, none, none, none, none, none, some ⟨14, 224, [.str, .str, .str, .str, .str, .str, .str, .str, .str, .str, .str, .str, .str, .str], true, .arr 14 9⟩, none, some ⟨14, 14, [.bool, .bool, .bool, .bool, .bool, .bool, .bool, .bool, .bool, .bool, .bool, .bool, .bool, .bool], true, .arr 14 4⟩, some ⟨1, 24, [.slice 342], false, .slice 342⟩, none, none, some ⟨2, 40, [.str, .slice 82], true, .struct [(0, 9), (1, 35)]⟩, some ⟨2, 40, [.str, .slice 82], true, .struct [(0, 9), (1, 35)]⟩, none, none, none, none, none, none, none, none, none, none, none, some ⟨4, 40, [.ptr, .ptr, .ptr, .str], true, .struct [(0, 17), (1, 17), (2, 17), (3, 9)]⟩, some ⟨4, 40, [.ptr, .ptr, .ptr, .str], true, .struct [(0, 17), (1, 17), (2, 17), (3, 9)]⟩, some ⟨0, 0, [], true, .arr 0 16⟩, some ⟨0, 0, [], true, .struct [(0, 356)]⟩, some ⟨0, 0, [], true, .struct [(0, 356)]⟩, some ⟨1, 1, [.int .u8], false, .scal⟩, some ⟨1, 1, [.int .u8], false, .scal⟩, none, some ⟨1, 4, [.int .i32], false, .scal⟩, some ⟨1, 4, [.int .i32], false, .scal⟩, some ⟨11, 48, [.int .u64, .int .u64, .int .u32, .int .u8, .int .u8, .int .u8, .int .u8, .oth, .ptr, .int .i32, .int .i32], true, .struct [(0, 12), (1, 12), (2, 206), (3, 359), (4, 5), (5, 5), (6, 360), (7, 361), (8, 185), (9, 362), (10, 363)]⟩, some ⟨11, 48, [.int .u64, .int .u64, .int .u32, .int .u8, .int .u8, .int .u8, .int .u8, .oth, .ptr, .int .i32, .int .i32], true, .struct [(0, 12), (1, 12), (2, 206), (3, 359), (4, 5), (5, 5), (6, 360), (7, 361), (8, 185), (9, 362), (10, 363)]⟩]
def oks : List Bool := [false, false, true, true, true, true, true, true, true, true, true, true, true, true, true, true, true, true, true, true, true, true, true, true, true, true, true, true, true, true, true, true, true, true, true, true, true, true, true, true, true, true, true, true, true, true, true, true, true, true, true, true, true, true, true, true, true, true, true, true, true, true, true, true, true, true, true, true, true, true, true, true, true, true, true, true, true, true, true, true, true, true, true, true, true, true, true, true, true, true, true, true, true, true, true, true, true, true, true, true, true, true, true, true, true, true, true, true, true, true, true, true, true, true, true, true, true, true, true, true, true, true, true, true, true, true, true, true, true, true, true, true, true, true, true, true, true, true, true, true, true, true, true, true, true, true, true, true, true, true, true, true, true, true, true, true, true, true, true, true, true, true, true, true, true, true, true, true, true, true, true, true, true, true, true, true, true, true, true, true, true, true, true, true, true, true, true, true, true, true, true, true, true, true, true, true, true, false, true, false, true, true, true, true, true, true, true, true, true, true, true, true, true, true, true, true, true, true, true, true, true, true, true, true, true, true, true, true, true, true, true, true, true, true, true, true, true, true, true, true, true, true, true, true, true, true, true, true, true, true, true, true, true, true, true, true, true, true, true, true, true, true, true, true, true, true, true, true, true, true, true, true, true, true, true, true, true, true, true, true, true, true, true, true, true, true, true, true, true, true, true, true, true, true, true, true, true, true, true, true, true, true, true, true, true, true, true, true, false, true, true, true, false, true, false, false, false, false, false, false, false, false, false, false, false, false, false, false, false, false, false, false, false, false, false, false, false, false, false, false, false, true]
def rks : List (List RK) := [[], [], [], [.bool], [.bool], [.bool], [.bool], [.bool], [.bool], [.bool], [.bool], [.bool], [.bool], [.bool], [.bool], [.bool], [.bool], [.bool], [.bool], [.bool], [.agg [.shr 42, .int .i64, .shr 9]], [.bool], [.shr 9], [.str], [.str], [.str], [.agg [.shr 38, .int .i64, .shr 9], .int .i64, .int .i64], [], [.bool], [.bool], [.str], [.shr 3], [.bool], [.int .i64], [.bool], [.bool], [.bool], [.agg [.shr 42, .int .i64, .shr 9]], [.shr 62], [.int .i64, .int .i64], [.int .i64, .int .i64], [.int .i64, .int .i64], [.agg [.shr 38, .int .i64, .shr 9], .int .i64, .int .i64], [.shr 140, .shr 9, .int .i64, .int .i64], [.bool], [.agg [.shr 42, .int .i64, .shr 9]], [.bool], [], [.shr 74], [.bool], [.str], [.str], [.int .i64], [.shr 9], [.str], [.str], [.str], [.int .i64], [.bool], [.own 9], [.int .i64], [.str], [.str], [.str], [.str], [.str], [.agg [.int .i64, .int .i64, .int .i64, .int .i64, .int .i64, .int .i64, .int .i64, .str, .shr 82, .shr 3, .shr 103]], [.bool], [], [.own 38], [.int .i64], [], [.int .i64], [], [.int .i64], [.bool], [.bool], [.own 82], [.bool], [.bool], [.bool], [], [.agg [.int .i64, .int .i64]], [.int .i64], [.int .i64], [.int .i64], [.agg [.shr 5, .int .i64, .bool, .bool, .bool, .bool, .shr 9, .int .i64, .int .i64], .agg [.int .i64, .int .i64, .int .i64, .int .i64, .int .i64, .int .i64, .int .i64, .str, .int .i64, .int .i64, .int .i64, .str, .int .u8, .bool, .shr 302, .bool, .bool, .bool, .bool, .shr 134]], [.agg [.shr 5, .int .i64, .bool, .bool, .bool, .bool, .shr 9, .int .i64, .int .i64]], [.own 140], [.bool], [.bool], [.int .i64], [.int .i64], [], [.bool], [], [.str], [.bool], [], [.str], [.str], [.bool], [.bool], [.str], [.str], [.str], [.str], [.str], [.agg [.int .i64, .int .i64, .int .i64, .int .i64, .int .i64, .int .i64, .int .i64, .str, .shr 82, .shr 3, .shr 103]], [.int .u8], [.bool], [], [.int .i64], [.agg [.int .i64, .int .i64], .bool], [], [.int .i64], [.int .i64], [.int .i64], [.bool], [.bool], [.bool], [.agg [.int .i64, .int .i64]], [.agg [.int .i64, .int .i64]], [.agg [.int .i64, .int .i64]], [.agg [.shr 5, .int .i64, .bool, .bool, .bool, .bool, .shr 9, .int .i64, .int .i64], .agg [.int .i64, .int .i64, .int .i64, .int .i64, .int .i64, .int .i64, .int .i64, .str, .int .i64, .int .i64, .int .i64, .str, .int .u8, .bool, .shr 302, .bool, .bool, .bool, .bool, .shr 134]], [.bool], [.int .i64], [.bool], [.bool], [.int .i64], [], [], [], [], [], [], [], [], [.str], [], [.int .u64, .int .u64], [.bool], [], [.int .i64], [.shr 5, .int .i64], [.str], [.str], [.bool], [.shr 103], [.int .i64], [], [.int .i64], [.bool], [.bool], [.bool], [.int .i64], [.agg [.shr 5, .int .i64, .bool, .bool, .bool, .bool, .shr 9, .int .i64, .int .i64]], [.bool], [.agg [.shr 5, .int .i64, .bool, .bool, .bool, .bool, .shr 9, .int .i64, .int .i64], .agg [.int .i64, .int .i64, .int .i64, .int .i64, .int .i64, .int .i64, .int .i64, .str, .int .i64, .int .i64, .int .i64, .str, .int .u8, .bool, .shr 302, .bool, .bool, .bool, .bool, .shr 134]], [.bool], [.bool], [.bool], [.int .i64], [.int .i64], [.bool], [], [.bool], [.shr 82], [.int .u32, .int .u32], [.int .u64, .int .u64], [.bool], [], [.shr 5], [.str], [.int .i64], [], [.shr 5, .str], [], [.agg [.int .i64, .int .i64, .int .i64, .int .i64], .bool], [.agg [.int .i64, .int .i64, .int .i64, .int .i64, .int .i64, .int .i64, .int .i64, .str, .shr 82, .shr 3, .shr 103], .bool], [.agg [.int .i64, .int .i64, .int .i64, .int .i64, .int .i64, .int .i64, .int .i64, .str, .shr 82, .shr 3, .shr 103]], [.agg [.int .i64, .int .i64, .int .i64, .int .i64], .bool, .int .i64], [], [], [], [.int .i64, .int .i64], [], [.bool], [.int .i64], [.int .i64, .bool], [.int .i64], [.int .i64], [.int .i64], [.agg [.int .i64, .int .i64, .int .i64, .int .i64], .bool, .int .i64], [.agg [.shr 5, .int .i64, .bool, .bool, .bool, .bool, .shr 9, .int .i64, .int .i64], .agg [.int .i64, .int .i64, .int .i64, .int .i64, .int .i64, .int .i64, .int .i64, .str, .int .i64, .int .i64, .int .i64, .str, .int .u8, .bool, .shr 302, .bool, .bool, .bool, .bool, .shr 134], .bool], [.int .i64], [.bool], [], [.bool], [.shr 5], [.shr 5], [.int .i64], [.int .i64], [.bool], [.int .i64], [.int .i64], [.agg [.int .i64, .int .i64, .int .i64, .int .i64, .int .i64, .int .i64, .int .i64, .str, .shr 82, .shr 3, .shr 103], .bool], [.shr 82, .int .i64, .int .i64, .int .i64], [.agg [.int .i64, .int .i64, .int .i64, .int .i64, .int .i64, .int .i64, .int .i64, .str, .shr 82, .shr 3, .shr 103]], [.shr 82], [.agg [.int .i64, .int .i64, .int .i64, .int .i64, .int .i64, .int .i64, .int .i64, .str, .shr 82, .shr 3, .shr 103]], [.int .i64], [.agg [.int .i64, .int .i64, .int .i64, .int .i64, .int .i64, .int .i64, .int .i64, .str, .shr 82, .shr 3, .shr 103]], [.int .i64, .int .i64], [.shr 82], [.shr 82], [.agg [.int .i64, .int .i64, .int .i64, .int .i64], .bool], [.int .u8], [], [.int .u64], [.int .u64], [.int .i64], [.int .i64], [.int .u8], [.int .i64, .int .i64], [.agg [.shr 5, .int .i64, .bool, .bool, .bool, .bool, .shr 9, .int .i64, .int .i64], .agg [.int .i64, .int .i64, .int .i64, .int .i64, .int .i64, .int .i64, .int .i64, .str, .int .i64, .int .i64, .int .i64, .str, .int .u8, .bool, .shr 302, .bool, .bool, .bool, .bool, .shr 134]], [.agg [.shr 5, .int .i64, .bool, .bool, .bool, .bool, .shr 9, .int .i64, .int .i64], .agg [.int .i64, .int .i64, .int .i64, .int .i64, .int .i64, .int .i64, .int .i64, .str, .int .i64, .int .i64, .int .i64, .str, .int .u8, .bool, .shr 302, .bool, .bool, .bool, .bool, .shr 134]], [.int .i64], [.int .i64], [.agg [.int .i64, .int .i64, .str, .bool, .bool, .bool, .bool, .bool]], [.agg [.int .i64, .int .i64, .int .i64, .str, .shr 82], .int .i64, .int .i64], [.shr 82], [.agg [.int .i64, .int .i64, .int .i64, .str, .shr 82], .int .i64], [.int .i32, .int .i64], [.agg [.int .i64, .int .i64, .int .i64, .int .i64], .bool], [.int .i64, .int .i64], [.bool], [.int .u8], [.str, .int .i64, .int .i64], [.agg [.shr 5, .int .i64, .bool, .bool, .bool, .bool, .shr 9, .int .i64, .int .i64], .agg [.bool, .bool, .bool, .bool], .bool], [.agg [.shr 5, .int .i64, .bool, .bool, .bool, .bool, .shr 9, .int .i64, .int .i64], .agg [.int .i64, .int .i64, .int .i64, .int .i64, .int .i64, .int .i64, .int .i64, .str, .int .i64, .int .i64, .int .i64, .str, .int .u8, .bool, .shr 302, .bool, .bool, .bool, .bool, .shr 134]], [.shr 302, .bool, .int .i64, .int .i64, .int .i64], [.int .i64, .int .i64], [.agg [.int .i64, .int .i64, .int .i64, .str, .int .u8, .bool], .int .i64], [.int .i64], [.agg [.int .i64, .int .i64, .str, .bool, .bool, .bool, .bool, .bool]], [.agg [.int .i64, .int .i64, .str, .bool, .bool, .bool, .bool, .bool]], [.agg [.int .i64, .int .i64, .str, .bool, .bool, .bool, .bool, .bool]], [.agg [.int .i64, .int .i64, .int .i64, .str, .shr 82], .int .i64], [.bool], [.own 82], [.shr 3], [.own 3], [.agg [.int .i64, .int .i64, .int .i64, .str, .shr 82], .bool, .int .i64], [.int .i64], [.bool], [.str, .int .i64, .int .i64], [.int .i32, .int .i64], [.int .i64, .int .i64], [.bool], [.int .i64], [.agg [.int .i64, .int .i64, .int .i64, .str, .int .u8, .bool], .int .i64], [.agg [.int .i64, .int .i64, .int .i64, .str, .int .u8, .bool], .int .i64], [.int .i64], [.int .i64], [.bool], [.bool], [.agg [.int .i64, .int .i64, .int .i64, .str, .shr 82], .int .i64], [.agg [.int .i64, .int .i64, .int .i64, .str, .shr 82], .int .i64], [.shr 311], [.shr 315], [.int .i64], [.bool], [], [.agg [.int .i64, .int .i64, .int .i64, .str, .shr 82], .int .i64], [.int .i64], [.shr 82, .bool], [.bool], [.bool, .bool], [.int .i64], [.str, .str, .bool], [.str, .bool], [.shr 82, .bool], [], [.int .i64, .int .i64], [.shr 82], [.bool], [.agg [.str, .str, .str, .str, .str, .str, .str, .str, .str, .str, .str, .str, .str, .str]], [.str, .str, .bool], [.str, .bool], [.shr 342], [.int .i64], [.bool], [], [], [], [.int .i64, .int .i64], [], [.bool], [.bool], [.int .i64], [.int .i64, .bool], [.int .i64], [.int .i64], [], [.int .i64], [.int .i64], [.int .i64], [.int .i64], [.int .i64], [.int .i64], [.int .i64, .int .i64], [.int .i64], [.int .u32, .int .u32], [.str], [], [.str], [], [.str], [], [.str], [], [.str], [], [.str], [], [.int .i64], [.str], [], [], [.str], [], [], [], [], [], [], [], [], [], [], []]
def keeps : List (List Nat) := [[], [], [], [0, 1, 2, 3, 4, 5, 28, 29], [0, 2, 3, 4, 6, 7, 8, 9, 10, 32, 33, 34], [0, 2, 3, 4, 5, 6, 7, 16, 17, 70, 71], [0, 1, 4, 5, 7, 8, 9, 11, 12, 13, 14, 26, 27, 28, 66, 67, 68], [0, 2, 3, 4, 6, 7, 9, 10, 52, 53, 54], [0, 2, 3, 4, 5], [0, 1, 2, 3, 4, 5, 6, 7, 28, 29, 30], [0, 1, 2, 3, 4, 5, 6], [0, 2, 3, 4, 6, 7, 8, 9, 11, 27, 28, 29, 68, 69, 70], [0, 2, 3, 4, 5, 8, 9, 10, 13, 14, 15, 96, 97], [0, 1, 3, 4, 5, 6, 8, 9, 10, 11, 12, 39, 40], [0, 2, 3, 4, 6, 7, 8, 10, 11, 12, 14, 15, 17, 18, 20, 95, 96, 97, 108, 109, 110], [0, 1, 4, 5, 6, 8, 9, 10, 11, 12, 37, 38], [0, 2, 3, 5, 6, 7, 8, 10, 11, 12, 18, 19, 20, 80, 81, 82], [0, 2, 3, 4, 6, 7, 8], [0, 2, 3, 4, 6, 7, 8, 9, 10, 11, 36, 37, 38], [0, 1, 2, 4], [0, 1, 2, 3, 5, 6, 8, 10, 11, 12, 36, 37, 38], [0, 1, 2, 3, 4, 5, 6], [0, 1, 2], [0, 1, 2, 4, 5, 6, 7], [0, 1, 2, 3, 4, 6], [0, 1, 2, 3, 4, 5, 6, 7], [0, 2, 3, 4, 5, 6, 7, 8, 9, 17, 55, 56, 57], [0, 1, 2, 3, 4], [0, 1, 2, 4, 5], [0, 2], [0, 2, 3, 4], [0, 2, 3, 4, 6, 7, 9, 10, 12, 13, 14, 15, 25, 26, 49, 50, 57, 58, 59], [0, 1, 3, 4], [0, 2, 3, 5, 7, 8, 9], [0, 1, 2, 3, 4], [0, 1, 2, 3, 6], [0, 1, 2, 5, 6, 7], [0, 1, 2, 3, 5, 6, 8, 10, 11, 12, 36, 37, 38], [0, 1, 2, 3, 4], [0, 1, 2, 4, 5], [0, 1, 2, 3, 4, 6, 7, 11, 12, 13], [0, 1, 2, 3, 4, 5, 6], [0, 2, 3, 4, 5, 6, 7, 8, 9], [0, 2, 3, 4, 5, 6, 7, 8, 9, 10], [0, 1, 2, 4], [0, 1, 2, 3, 5, 6, 8, 10, 11, 12, 36, 37, 38], [0, 1, 2, 3, 6, 7, 8, 10, 11, 12, 13], [0, 1, 2], [0, 1, 2, 3, 4], [0, 1, 2, 4, 5], [0, 1, 2, 3, 6], [0, 2, 3, 5, 7, 8, 9, 10], [0, 2, 3, 4, 5, 7, 8, 13], [0, 1, 3, 4, 5], [0, 2, 3], [0, 2], [0, 2, 3, 4, 5, 6], [0, 1, 2, 4, 5, 6], [0, 1, 2, 3, 4], [0, 1, 2, 3, 4, 8, 9, 11, 35, 36, 37], [0, 1, 2, 4, 5, 6], [0, 2, 3, 5, 19, 20, 21], [0, 1, 2, 3], [0, 2], [0, 1, 2, 3], [0, 1, 2, 3, 4, 5, 6], [0, 1, 4, 5, 6], [0, 2], [0, 1, 2], [0, 1, 2, 4, 5, 6, 8, 17, 18, 19], [0, 1, 4, 5, 7, 8], [0, 1, 2, 4], [0, 1, 2, 4, 5, 11, 12], [0, 1, 2], [0, 2, 3, 4, 5, 6], [0, 1, 4], [0, 1, 2, 3], [0, 2, 3, 5, 6, 7, 8, 10, 11, 12, 13, 14, 31, 32, 33], [0, 1, 4, 5, 12, 13], [0, 1, 2, 6, 7, 8, 9, 15, 16, 17], [0, 1, 2, 3, 4, 5], [0, 1, 2, 3, 4, 10, 12, 145, 146, 147], [0, 1, 2, 4, 5, 7, 8, 10, 12, 46, 47, 48, 71, 72, 73], [0, 1, 2, 4, 5, 6, 7, 8], [0, 1, 2, 4, 5, 6, 7, 8], [0, 1, 2, 3, 4, 6, 7], [0, 1, 2, 4, 5, 6, 7, 8, 9, 10], [0, 1, 2, 3, 6], [0, 1, 2, 4, 5, 6, 7, 8], [0, 1, 2], [0, 1, 2, 3, 6, 7, 8, 9, 10], [0, 1, 2, 4, 5], [0, 1, 2, 4], [0, 1, 3, 4, 5, 12, 13], [0, 1, 2, 3, 6, 7, 14], [0, 1, 4, 14], [0, 2], [0, 2], [0, 1], [0, 1, 2], [0, 2, 3, 5, 7, 8, 9], [0, 1, 2, 6], [0, 2, 3], [0, 1, 4, 5, 6, 7, 8, 9, 10, 11, 42], [0, 2, 3], [0, 1, 4, 5, 7, 8, 10, 12, 39, 40, 41, 63, 64, 65], [0, 2], [0, 2], [0, 1, 4, 5, 6, 20], [0, 1, 4], [0, 1, 4], [0, 1, 3], [0, 1, 4, 5, 7, 8], [0, 1, 2, 3], [0, 1, 4], [0, 1, 2, 3, 4], [0, 2, 3, 5, 6, 7, 8], [0, 1, 4, 5, 6], [0, 1, 4, 5, 12, 13], [0, 1, 4, 5, 12, 13], [0, 1, 2, 3, 4, 5, 6], [0, 1, 2, 3, 6, 7], [0, 1, 2, 3, 4, 5], [0, 1, 2, 3, 4, 5], [0, 1, 2, 4, 5, 6, 7, 8, 9], [0, 1, 2, 4, 5], [0, 1, 2, 4], [0, 1, 2, 3, 4, 5, 6, 8, 9, 10], [0, 1, 2, 3, 6], [0, 1, 2, 3, 4], [0, 1, 4, 5], [0, 1, 5, 19, 20, 21], [0, 1, 3], [0, 1, 2, 3, 8, 9, 10, 11, 12], [0, 1, 3], [0, 1, 2], [0, 1, 3], [0, 1, 2, 5], [0, 1, 4], [0, 1, 4], [0, 1, 4, 5, 6, 7, 8, 9], [0, 1, 4], [0, 1], [0, 2], [0, 2, 3], [0, 1, 4, 5, 6, 7, 9], [0, 2, 3], [0, 2], [0, 1, 4, 5, 7, 8, 9, 10, 11, 13, 14], [0, 1, 4, 5, 7, 8], [0, 1, 2, 3, 4, 10, 11, 12, 13, 14, 15, 16, 17, 18, 19, 20], [0, 2], [0, 2], [0, 2], [0, 1, 2], [0, 2], [0, 1, 2], [0, 1, 2], [0, 1, 2, 4, 5, 6, 8, 9, 10, 11, 12, 13], [0, 1, 4], [0, 1, 2, 4], [0, 1, 2, 3, 6, 7, 8, 9], [0, 1, 2, 4, 5], [0, 1, 4, 5, 7, 8], [0, 1, 2, 3], [0], [0, 2], [0, 2, 3, 4, 6, 8, 9, 10], [0, 1, 4, 5, 6], [0, 1, 4, 5, 6, 7, 8, 9, 10, 11, 12, 13], [0, 1, 4], [0, 1, 4], [0, 1, 4], [0, 2], [0, 2, 3], [0, 1, 4, 5, 6, 7, 8, 9, 10, 11, 12, 13, 14, 15, 16], [0, 1, 2, 3, 4, 10, 11, 12, 13, 14, 15, 16, 17, 18], [0], [0, 2, 3, 4, 5, 6], [0, 1, 4, 5, 6, 7, 8, 9, 10, 11, 12, 13, 20], [0, 1, 2, 3, 5, 6, 7, 8], [0, 1, 4, 5, 6, 7, 8, 47], [0, 1, 2, 3, 8, 9], [0, 1, 2, 3, 8, 9, 10, 11, 12], [0, 1, 2, 3, 8, 9, 10, 11, 12], [0, 1, 2, 3, 8, 9, 10, 11, 12, 13, 14, 55], [0, 1, 2, 3, 8, 9], [0, 1, 2, 3, 8, 9, 10, 11, 12], [0, 1, 2, 3, 4, 10, 11, 12], [0, 1, 2, 3, 4, 10, 11, 12, 13], [0, 2], [0, 2], [0, 1, 4, 5, 6], [0, 1, 4, 5, 6, 7, 8, 9, 10, 11, 12], [0, 1, 2, 4, 5, 6, 7, 8, 9, 10, 11], [0, 1, 4, 5, 7, 8], [0, 1, 2, 6, 7, 8, 9, 15, 16, 17], [], [0, 1, 2], [], [0, 1, 4, 5], [0, 2], [0, 2], [0, 2], [0, 2], [0, 1, 4, 5], [0, 1, 4, 5, 6, 7, 8, 9], [0, 1, 2, 6, 7, 8, 9, 10, 11, 12, 13, 14, 15, 16], [0, 1, 2, 3, 8], [0, 2], [0, 1, 2, 3, 8], [0, 1, 2, 6], [0, 2, 3, 4, 5, 27], [0, 1, 4, 5, 6, 7], [0, 1, 4], [0, 2], [0, 1, 4, 5, 8], [0, 1, 4], [0, 1, 2, 3, 4, 10, 11], [0, 2], [0, 2], [0, 1, 2, 3, 8], [0, 1, 2, 3, 4, 5, 12], [0, 1, 4], [0, 1, 4, 5, 6], [0, 1, 2, 4, 5, 6, 7, 8, 9, 10, 11, 12, 13, 14, 15, 16, 17, 18, 19, 20], [0, 1, 2, 4, 5, 6, 7, 8, 9, 10, 11, 12, 13, 14, 15, 16], [0, 2], [0, 2], [0, 1, 4, 5, 6], [0, 1, 4, 5, 6, 7, 8, 9], [0, 2, 3, 5, 7, 10, 11, 12, 21, 22, 23], [0, 1, 4, 5, 6, 7, 8, 9, 10, 11, 12, 13, 14, 15, 16], [0, 2, 3, 5, 6, 7, 8], [0, 1, 4, 5, 6, 7, 8, 9, 10], [0, 1, 2, 3, 4, 10, 11], [0, 2], [0, 1, 2, 4], [0, 1, 4, 5, 6, 7, 8], [0, 1, 2, 3, 4, 5, 6, 7, 8, 9], [0, 1, 2, 3, 4, 6, 7], [0, 1, 4, 5, 6, 7, 8, 9, 10, 11, 12, 13, 14, 15], [0, 1, 4, 5, 6, 7, 8, 9, 10], [0, 1, 2, 6, 7, 8, 9, 10, 11, 12, 13, 14, 15, 16], [0, 1, 2, 6], [0, 1, 4, 5], [0, 1, 4, 5, 6, 7], [0, 2, 3, 4, 5, 6], [0, 1, 4, 5, 6, 7], [0, 1, 4], [0, 2], [0, 1, 3, 4, 6, 7, 8, 9, 32, 33, 34], [0, 2, 3, 4, 6, 8, 19, 20, 21, 39, 40, 41], [0, 1, 4, 5, 6, 7, 8, 9, 10, 11, 12, 13, 14], [0, 2, 3], [0, 2], [0, 1, 4, 5, 6, 7, 8], [0, 2, 3, 4, 5, 6, 7, 8, 9, 10, 11, 12], [0, 1, 4, 5, 6], [0, 2], [0, 2, 3, 4], [0, 1, 4, 5, 6, 7, 8, 9, 10, 12], [0, 1, 4, 5, 6, 7, 8, 9], [0, 1, 4, 5], [0, 1, 4, 5, 7, 8], [0, 1, 4], [0, 1, 2, 6, 7], [0, 1, 4, 5, 6, 7, 9, 10, 11, 12, 13], [0, 1, 4, 5, 6, 7, 8], [0], [0], [0, 2, 4, 6, 7, 8, 9, 20, 21, 22], [0, 1, 2, 4], [0, 2], [0, 1, 4, 5, 6, 7, 8, 9], [0, 2, 3], [0, 2, 3, 4, 6], [0, 2], [0, 1, 4, 5, 6, 7, 8, 9, 10, 11], [0, 2, 3], [0, 1, 4, 5, 6], [0, 1, 4, 5], [0, 1, 2, 3, 4, 5], [0, 1, 2, 3, 8, 9, 10, 11, 12, 13, 14, 15, 16, 17, 18], [0, 1, 2, 6, 7, 8, 9], [0, 2, 3], [0, 1, 2, 6], [0], [0, 1, 4, 5, 6, 7], [0, 1, 4, 5], [0, 1, 2, 3], [0, 1, 4, 5, 7, 8], [0, 1, 2, 3], [0, 1, 2, 6, 7], [0, 1, 2, 6, 7, 8, 9, 10], [0, 1, 2, 6, 7, 8, 9, 10], [0, 1, 2, 6, 7, 8, 9, 10, 11, 12, 49], [0, 1, 2, 6, 7], [0, 1, 2, 6, 7, 8, 9, 10], [0, 1, 4], [0, 1, 2, 3, 8, 9, 10], [0, 1, 2, 3, 8, 9, 10, 11], [0, 2], [0, 1, 4, 5, 6, 7, 8, 9, 10, 11, 12, 13], [0, 1, 2, 3, 8, 9], [0, 1, 2, 6], [0, 1, 2, 3, 4, 10], [0, 1, 4], [], [0, 2], [0, 1, 4, 5, 6, 7, 8, 9, 10], [0, 1, 2, 3, 8, 9], [], [0, 2, 3, 4, 5, 6, 7, 8], [], [], [], [], [], [], [], [], [], [], [], [], [], [], [], [], [], [], [], [], [], [], [], [], [], [], [], []]
def ows : List (Nat × Nat) := [(69, 1), (88, 1), (59, 3)]
def pks : List ((Nat × Nat) × List RK) := [((66, 0), [.shr 5, .int .i64, .bool, .bool, .bool, .bool, .int .i64, .own 9, .int .i64, .int .i64]), ((67, 0), [.shr 5, .int .i64, .bool, .bool, .bool, .bool, .int .i64, .own 9, .int .i64, .int .i64]), ((68, 0), [.shr 5, .int .i64, .bool, .bool, .bool, .bool, .int .i64, .own 9, .int .i64, .int .i64]), ((81, 0), [.shr 38, .int .i64, .shr 9, .int .i64, .int .i64, .bool]), ((95, 0), [.shr 38, .int .i64, .shr 9, .self, .shr 5]), ((96, 0), [.self, .shr 5]), ((98, 0), [.shr 38, .int .i64, .shr 9, .self, .shr 5]), ((108, 0), [.shr 5, .int .i64, .bool, .bool, .bool, .bool, .int .i64, .own 9, .int .i64, .int .i64]), ((109, 0), [.shr 5, .int .i64, .bool, .bool, .bool, .bool, .int .i64, .own 9, .int .i64, .int .i64]), ((130, 0), [.self, .shr 5]), ((131, 0), [.shr 38, .int .i64, .shr 9, .self, .shr 5]), ((132, 0), [.shr 38, .int .i64, .shr 9, .self, .shr 5]), ((133, 0), [.shr 38, .int .i64, .shr 9, .self, .shr 5]), ((134, 0), [.shr 38, .int .i64, .shr 9, .self, .shr 5]), ((135, 0), [.shr 38, .int .i64, .shr 9, .self, .shr 5]), ((136, 0), [.shr 38, .int .i64, .shr 9, .self, .shr 5]), ((137, 0), [.shr 38, .int .i64, .shr 9, .self, .shr 5]), ((139, 0), [.self, .shr 5]), ((142, 0), [.self, .shr 5]), ((143, 0), [.self, .shr 5]), ((147, 0), [.shr 5, .int .i64, .bool, .bool, .bool, .bool, .int .i64, .own 9, .int .i64, .int .i64]), ((148, 0), [.shr 5, .int .i64, .bool, .bool, .bool, .bool, .int .i64, .own 9, .int .i64, .int .i64]), ((165, 0), [.self, .shr 5]), ((171, 0), [.self, .shr 5]), ((177, 0), [.shr 5, .int .i64, .bool, .bool, .bool, .bool, .int .i64, .own 9, .int .i64, .int .i64]), ((178, 0), [.shr 5, .int .i64, .bool, .bool, .bool, .bool, .int .i64, .own 9, .int .i64, .int .i64]), ((179, 0), [.shr 5, .int .i64, .bool, .bool, .bool, .bool, .int .i64, .own 9, .int .i64, .int .i64]), ((206, 0), [.shr 5, .int .i64, .bool, .bool, .bool, .bool, .int .i64, .own 9, .int .i64, .int .i64]), ((208, 0), [.shr 5, .int .i64, .bool, .bool, .bool, .bool, .int .i64, .own 9, .int .i64, .int .i64]), ((210, 0), [.shr 5, .int .i64, .bool, .bool, .bool, .bool, .int .i64, .own 9, .int .i64, .int .i64]), ((212, 0), [.shr 5, .int .i64, .bool, .bool, .bool, .bool, .int .i64, .own 9, .int .i64, .int .i64]), ((214, 0), [.shr 5, .int .i64, .bool, .bool, .bool, .bool, .int .i64, .own 9, .int .i64, .int .i64]), ((229, 0), [.shr 5, .int .i64, .bool, .bool, .bool, .bool, .int .i64, .own 9, .int .i64, .int .i64]), ((245, 0), [.shr 5, .int .i64, .bool, .bool, .bool, .bool, .int .i64, .own 9, .int .i64, .int .i64]), ((246, 0), [.shr 5, .int .i64, .bool, .bool, .bool, .bool, .int .i64, .own 9, .int .i64, .int .i64]), ((247, 0), [.shr 5, .int .i64, .bool, .bool, .bool, .bool, .int .i64, .own 9, .int .i64, .int .i64]), ((266, 0), [.bool, .bool, .bool, .bool]), ((322, 0), [.self, .self, .self, .str]), ((323, 0), [.self, .self, .self, .str]), ((324, 0), []), ((325, 0), []), ((329, 0), [.self, .shr 5])]
noncomputable def givens : List (Nat × (List AV → Option (List Dat))) := [(233, gDecode 5), (273, gSortI 3), (114, gSortR 82 115), (250, gClone 82), (280, gCut)]
noncomputable def globs : List (Nat × AV) := [(7, .sref 5 firstL 0 0), (8, .sref 321 accL 0 0), (2, .sref 200 rulesL 0 0)]
def ios : List Nat := [273, 114]
def eqs : List Nat := [62, 74, 82, 170, 219]
noncomputable def C : Ctx := ctxOf Tryz.prog tys oks rks pks ows (fun g => pickUp g globs) (fun f => pickUp f givens) keeps ios eqs [(4, intO .i64)]
theorem pok : POk Tryz.prog C := pok_of (by kernel_rfl) (by kernel_rfl) (by kernel_rfl) (by kernel_rfl)
end Go.Proofs.YtlofoifcdmeopaaGreatDoor.V
namespace Go.Proofs
open Go.Shelf
def Tryz.laysDec_ren : Go.Shelf.Ren := ⟨fun | 32 => 233 | 49 => 257 | n => n, fun | 30 => 44 | 21 => 21 | 3 => 3 | 0 => 0 | 5 => 5 | 4 => 4 | 33 => 276 | 66 => 319 | 25 => 188 | 69 => 322 | 68 => 321 | n => n, fun | 2 => 7 | 3 => 8 | n => n⟩
theorem Tryz.laysDec : Go.Proofs.Lays7.n32 Tryz.prog Tryz.laysDec_ren := {
  mixed := by kernel_rfl
  f32 := Tryz.func233.trans (congrArg some (by kernel_rfl))
  f49 := Tryz.func257.trans (congrArg some (by kernel_rfl))
  t0 := Tryz.underlying0
  a0 := Tryz.isAgg0
  z0 := Tryz.sizeOf0
  v0 := Tryz.zeroValue0
  i0 := by kernel_rfl
  t3 := Tryz.underlying3
  a3 := Tryz.isAgg3
  z3 := Tryz.sizeOf3
  v3 := Tryz.zeroValue3
  i3 := by kernel_rfl
  t4 := Tryz.underlying4
  a4 := Tryz.isAgg4
  z4 := Tryz.sizeOf4
  v4 := Tryz.zeroValue4
  i4 := by kernel_rfl
  t5 := Tryz.underlying5
  a5 := Tryz.isAgg5
  z5 := Tryz.sizeOf5
  v5 := Tryz.zeroValue5
  i5 := by kernel_rfl
  t21 := Tryz.underlying21
  a21 := Tryz.isAgg21
  z21 := Tryz.sizeOf21
  v21 := Tryz.zeroValue21
  i21 := by kernel_rfl
  t25 := Tryz.underlying188
  a25 := Tryz.isAgg188
  z25 := Tryz.sizeOf188
  v25 := Tryz.zeroValue188
  i25 := by kernel_rfl
  t30 := Tryz.underlying44
  a30 := Tryz.isAgg44
  z30 := Tryz.sizeOf44
  v30 := Tryz.zeroValue44
  i30 := by kernel_rfl
  t33 := Tryz.underlying276
  a33 := Tryz.isAgg276
  z33 := Tryz.sizeOf276
  v33 := Tryz.zeroValue276
  i33 := by kernel_rfl
  t66 := Tryz.underlying319
  a66 := Tryz.isAgg319
  z66 := Tryz.sizeOf319
  t68 := Tryz.underlying321
  a68 := Tryz.isAgg321
  z68 := Tryz.sizeOf321
  v68 := Tryz.zeroValue321
  i68 := by kernel_rfl
  t69 := Tryz.underlying322
  a69 := Tryz.isAgg322
  z69 := Tryz.sizeOf322
  v69 := Tryz.zeroValue322
  i69 := by kernel_rfl
  g2 := by kernel_rfl
  g3 := by kernel_rfl }
end Go.Proofs
namespace Go.Proofs.YtlofoifcdmeopaaGreatDoor.V
open Go Go.Ev Go.RowKit Go.Shelf
set_option linter.unusedVariables false
set_option linter.unusedSimpArgs false
set_option maxRecDepth 100000
def TabsU (w : World) : Prop := Go.Lib.Utf8Tabs 7 8 w
theorem ty_u8 : C.T 5 = some ⟨1, 1, [.int .u8], false, .scal⟩ := rfl
theorem ty_acc : C.T 321 = some ⟨2, 2, [.int .u8, .int .u8], true, .struct [(0, 5), (1, 5)]⟩ := rfl
theorem glob0 : C.glob 7 = some (.sref 5 firstL 0 0) := rfl
theorem glob1 : C.glob 8 = some (.sref 321 accL 0 0) := rfl
theorem firstL_rd {c : Nat} (h : c < 256) : rd firstL c = .int (Go.Lib.firstT c) := by simp [rd, firstL, h]
theorem accL_rd {i : Nat} (h : i < 16) : rd accL i = .agg [.int (Go.Lib.accLo i), .int (Go.Lib.accHi i)] := by simp [rd, accL, h]
theorem len_first : firstL.length = 256 := by simp [firstL]
theorem len_acc : accL.length = 16 := by simp [accL]
theorem tabs_of_rel {w : World} {St : Nat → Prop} (h : ∀ g v, C.glob g = some v → ∀ H, RelS C.T w St H (.pointer (some ⟨g, 0, none⟩)) [] v) : TabsU w := by
  let H0 : Gh := ⟨fun _ _ => (none, 0, 0), fun _ => (0, 0)⟩
  have h0 := h _ _ glob0 H0
  have h1 := h _ _ glob1 H0
  obtain ⟨_, ti, b, o, k1, k2, k3, k4, k5⟩ := (show RelC C.T w St H0 _ [] (.sref _ firstL 0 0) from h0)
  rw [ty_u8, Option.some.injEq] at k1
  subst k1
  simp only [Nat.zero_mul, Nat.add_zero, Value.pointer.injEq, Option.some.injEq, Addr.mk.injEq, and_true] at k3
  obtain ⟨rfl, rfl⟩ := k3
  obtain ⟨_, ti, b, o, m1, m2, m3, m4, m5⟩ := (show RelC C.T w St H0 _ [] (.sref _ accL 0 0) from h1)
  rw [ty_acc, Option.some.injEq] at m1
  subst m1
  simp only [Nat.zero_mul, Nat.add_zero, Value.pointer.injEq, Option.some.injEq, Addr.mk.injEq, and_true] at m3
  obtain ⟨rfl, rfl⟩ := m3
  refine ⟨fun c hc => ?_, fun i hi => ⟨?_, ?_⟩⟩
  · obtain ⟨u, q1, q2⟩ := k5 c 0 (by rw [len_first]; exact hc) (by simp)
    have q3 := q2 _ rfl
    cases q3 with
    | int q3 =>
      simp only [Nat.mul_one, Nat.add_zero, Nat.zero_add] at q1
      rw [q1, q3, firstL_rd hc]
      rfl
  · obtain ⟨u, q1, q2⟩ := m5 i 0 (by rw [len_acc]; exact hi) (by simp)
    have q3 := q2 _ rfl
    cases q3 with
    | int q3 =>
      simp only [Nat.add_zero, Nat.zero_add] at q1
      rw [Nat.mul_comm, q1, q3, accL_rd hi]
      rfl
  · obtain ⟨u, q1, q2⟩ := m5 i 1 (by rw [len_acc]; exact hi) (by simp)
    have q3 := q2 _ rfl
    cases q3 with
    | int q3 =>
      simp only [Nat.zero_add] at q1
      rw [Nat.mul_comm, q1, q3, accL_rd hi]
      rfl
theorem dec_ok {args : List AV} {ds : List Dat} (h : gDecode 5 args = some ds) : FnR Tryz.prog C 233 args ds := by
  refine FnOk.r ?_ (by kernel_rfl)
  unfold gDecode at h
  split at h
  case h_2 => cases h
  rename_i e' l
  cases hb : Nat.beq e' 5 && (!l.isEmpty && isBytes (ints l)) with
  | false => rw [hb] at h; cases h
  | true =>
    rw [hb] at h
    obtain rfl := Option.some.inj h
    simp only [Bool.and_eq_true, Bool.not_eq_true'] at hb
    obtain ⟨he, hne, hby⟩ := hb
    obtain rfl := Nat.eq_of_beq_eq_true he
    have hne : l ≠ [] := fun e => by rw [e] at hne; simp at hne
    refine fnOk_of pok (by kernel_rfl) (fun j cs => by cases j <;> simp [geti]) fun S us H F hS hi => ?_
    have hT : TabsU S.w0 := tabs_of_rel fun g v hv => (hS.glob g v hv).1
    have hlen : us.size = 1 := by have := hi.len; simpa using this.symm
    obtain ⟨u, rfl⟩ : ∃ u, us = #[u] := by
      obtain ⟨us⟩ := us
      match us, hlen with
      | [u], _ => exact ⟨u, rfl⟩
    obtain ⟨A, c, hu, hc, ⟨bb, o, hA, hcell⟩, _⟩ := bytes_of ty_u8 (hi.rel 0 (by simp))
    have hu : u = .slice A l.length c := hu
    subst hu
    have hni : ints l ≠ [] := fun e => hne (List.map_eq_nil_iff.1 e)
    obtain rfl := hA hni
    have hsz := toBA_size (ints l)
    have hil : (ints l).length = l.length := by simp [ints]
    have hp : ∀ j, j < (toBA (ints l)).size → S.w0.cell? ⟨bb, o + j, none⟩ = some (.int .u8 ((toBA (ints l)).get! j).toNat) := fun j hj => by
      rw [hsz] at hj
      rw [toBA_get _ hby j hj]
      exact hcell j hj
    have hcon := Any7.utf8_DecodeRune Tryz.laysDec (toBA (ints l)) bb o c S.w0 hT hp
    rw [hsz, hil] at hcon
    refine Calls.mono hcon ?_
    rintro e w' ⟨rfl, hbel⟩
    exact ⟨_, rfl, hbel, [], fun _ => (none, 0, 0), List.nodup_nil, fun b hb => by (cases hb), fun Hc d _ => ⟨_, rfl, [], [], rfl, ⟨rfl, rfl⟩, [], [], rfl, ⟨rfl, rfl⟩, rfl⟩⟩
def ruleZ : List (List Int) := [[0, 0, 0, 0], [0, 0, 0, 0], [0, 0, 0, 0], [0, 0, 7, 0], [0, 0, 99, 1], [2, 4096, 0, 0], [2, 4097, 0, 0], [1, 1, 99, 0], [1, 1, 0, 1], [1, 1, 0, 0], [1, 1, 4, 0]]
def RulesOk (w : World) : Prop := ∀ i j : Nat, i < 11 → j < 4 → w.cell? ⟨2, 4 * i + j, none⟩ = some (.int .i64 ((ruleZ.getD i []).getD j 0))
def TabsOk (w : World) : Prop := TabsU w ∧ RulesOk w
theorem ty_rule : C.T 200 = some ⟨4, 32, [.int .i64, .int .i64, .int .i64, .int .i64], true, .struct [(0, 3), (1, 3), (2, 3), (3, 3)]⟩ := rfl
theorem ruleL_len : rulesL.length = 11 := rfl
theorem globOk {w : World} (h : TabsOk w) : GlobOk C w := by
  obtain ⟨⟨h1, h2⟩, h⟩ := h
  have b0 := World.block_lt_of_cell? w _ (h1 0 (by omega))
  have b1 := World.block_lt_of_cell? w _ (h2 0 (by omega)).1
  have b2 := World.block_lt_of_cell? w _ (h 0 0 (by omega) (by omega))
  intro g v hv
  have hg : (g = 7 ∧ v = .sref 5 firstL 0 0) ∨ (g = 8 ∧ v = .sref 321 accL 0 0) ∨ (g = 2 ∧ v = .sref 200 rulesL 0 0) := by
    have hv' : pickUp g globs = some v := hv
    unfold globs at hv'
    repeat' (first | (rcases pickUp_cases hv' with ⟨rfl, rfl⟩ | hv'; · simp) | cases hv')
  rcases hg with ⟨rfl, rfl⟩ | ⟨rfl, rfl⟩ | ⟨rfl, rfl⟩
  · refine ⟨fun H => ⟨rfl, _, _, 0, ty_u8, by simp, by simp, b0, fun i j hi hj => ?_⟩, fun _ => rfl, rfl, by simp⟩
    rw [len_first] at hi
    have hj0 : j = 0 := by simp at hj; omega
    subst hj0
    refine ⟨_, by simp only [Nat.mul_one, Nat.add_zero, Nat.zero_add]; exact h1 i hi, fun ct hct => ?_⟩
    simp only [List.getElem?_cons_zero, Option.some.injEq] at hct
    subst hct
    exact .int (by rw [firstL_rd hi]; rfl)
  · refine ⟨fun H => ⟨rfl, _, _, 0, ty_acc, by simp, by simp, b1, fun i j hi hj => ?_⟩, fun _ => rfl, rfl, by simp⟩
    rw [len_acc] at hi
    have hj0 : j = 0 ∨ j = 1 := by
      have : j < 2 := hj
      omega
    rcases hj0 with rfl | rfl
    · refine ⟨_, by simp only [Nat.add_zero, Nat.zero_add]; rw [Nat.mul_comm]; exact (h2 i hi).1, fun ct hct => ?_⟩
      simp only [List.getElem?_cons_zero, Option.some.injEq] at hct
      subst hct
      exact .int (by rw [accL_rd hi]; rfl)
    · refine ⟨_, by simp only [Nat.zero_add]; rw [Nat.mul_comm]; exact (h2 i hi).2, fun ct hct => ?_⟩
      simp only [List.getElem?_cons_succ, List.getElem?_cons_zero, Option.some.injEq] at hct
      subst hct
      exact .int (by rw [accL_rd hi]; rfl)
  · refine ⟨fun H => ⟨rfl, _, _, 0, ty_rule, by simp, by simp, b2, fun i j hi hj => ?_⟩, fun _ => rfl, rfl, by simp⟩
    rw [ruleL_len] at hi
    have hj4 : j < 4 := hj
    have hc := h i j hi hj4
    refine ⟨_, by rw [Nat.zero_add, Nat.mul_comm]; simp only [Nat.zero_add] at hc ⊢; exact hc, fun ct hct => ?_⟩
    have hi11 : i = 0 ∨ i = 1 ∨ i = 2 ∨ i = 3 ∨ i = 4 ∨ i = 5 ∨ i = 6 ∨ i = 7 ∨ i = 8 ∨ i = 9 ∨ i = 10 := by omega
    have hj0 : j = 0 ∨ j = 1 ∨ j = 2 ∨ j = 3 := by omega
    rcases hj0 with rfl | rfl | rfl | rfl <;> simp only [List.getElem?_cons_zero, List.getElem?_cons_succ, Option.some.injEq] at hct <;> subst hct <;> rcases hi11 with rfl | rfl | rfl | rfl | rfl | rfl | rfl | rfl | rfl | rfl | rfl <;> exact .int rfl
end Go.Proofs.YtlofoifcdmeopaaGreatDoor.V
namespace Go.Proofs.YtlofoifcdmeopaaGreatDoor.V
open Go Go.Ev Go.RowKit Go.Shelf Go.Lib
set_option maxRecDepth 100000
/-- The tables that every row of this seat lists. -/
def laidT : List (String × DataW Unit) := [("unicode/utf8.acceptRanges", Rows.laid_unicode_utf8_acceptRanges), ("clew/ast.rules", Rows.laid_clew_ast_rules), ("unicode/utf8.first", Rows.laid_unicode_utf8_first)]
def renT : Ren := ⟨fun x => x, fun x => if x = 5 then 5 else if x = 119 then 319 else if x = 138 then 321 else 322, fun x => if x = 3 then 7 else 8⟩
theorem typesT : U8Types Tryz.prog renT := ⟨Tryz.underlying5, Tryz.underlying319, Tryz.underlying321, Tryz.underlying322⟩
theorem extraT : U8Extra Tryz.prog renT := ⟨by kernel_rfl, by kernel_rfl, by kernel_rfl, by kernel_rfl, by kernel_rfl, by kernel_rfl, by kernel_rfl⟩
theorem acceptT_eq : (Rows.laid_unicode_utf8_acceptRanges : DataW Unit) = acceptData := by kernel_rfl
theorem rules_eq : (Rows.laid_clew_ast_rules : DataW Unit) = .agg (ruleZ.map fun zs => .agg (zs.map fun z => .lit (.int .i64 z))) := by kernel_rfl
theorem rules_of_laid {W : World} (h : laidMetH Tryz.prog laidT W) : RulesOk W := by
  rw [MakeChecks.laidMetH_plain _ _ _ (by kernel_rfl)] at h
  have hr := Lib.laidMet.reads h (.tail _ (.head _))
  rw [rules_eq] at hr
  obtain ⟨g, t, cs, fuel, p, hg, ht, hvar, hd⟩ := hr
  obtain rfl := Option.some.inj ((show Tryz.prog.globalNamed "clew/ast.rules" = some 2 by kernel_rfl).symm.trans hg)
  obtain rfl := Option.some.inj ((show (Tryz.prog.globals[2]?).map (·.type) = some 201 by kernel_rfl).symm.trans ht)
  have c4 : Tryz.prog.cellsOf 200 = 4 := by kernel_rfl
  have c1 : Tryz.prog.cellsOf 3 = 1 := by kernel_rfl
  intro i j hi hj
  obtain ⟨fuel', d, q, hdi, he⟩ := Lib.array_elem Tryz.underlying201 hd i hi
  have hil : i < ruleZ.length := hi
  rw [List.getElem?_map, List.getElem?_eq_getElem hil, Option.map_some, Option.some.injEq] at hdi
  subst hdi
  rw [c4] at he
  have hcs := Lib.ints_of_struct Tryz.underlying200 (fun j f hj => by
    match j, hj with
    | 0, hj => simp at hj; subst hj; exact ⟨Tryz.underlying3, rfl, c1⟩
    | 1, hj => simp at hj; subst hj; exact ⟨Tryz.underlying3, rfl, c1⟩
    | 2, hj => simp at hj; subst hj; exact ⟨Tryz.underlying3, rfl, c1⟩
    | 3, hj => simp at hj; subst hj; exact ⟨Tryz.underlying3, rfl, c1⟩
    | j + 4, hj => simp at hj) (by rw [c4]; rfl) he
  have ej := congrArg (·[j]?) hcs
  simp only [List.getElem?_take, List.getElem?_drop, if_pos hj] at ej
  have hlen : (ruleZ[i]).length = 4 := (by decide : ∀ k : Fin 11, (ruleZ[k.val]'k.isLt).length = 4) ⟨i, hi⟩
  rw [World.var?_cell hg hvar (4 * i + j), ← Array.getElem?_toList]
  rw [show i * 4 + j = 4 * i + j by omega] at ej
  rw [ej, List.getElem?_map, List.getElem?_eq_getElem (by omega)]
  simp [List.getD_eq_getElem?_getD, List.getElem?_eq_getElem hil, List.getElem?_eq_getElem (show j < (ruleZ[i]).length by omega)]
theorem tabs_of_laid {W : World} (h : laidMetH Tryz.prog laidT W) : TabsOk W := by
  refine ⟨?_, rules_of_laid h⟩
  rw [MakeChecks.laidMetH_plain _ _ _ (by kernel_rfl)] at h
  exact utf8Tabs_of_readsT typesT extraT (Pinned.utf8First_eq ▸ Lib.laidMet.reads h (.tail _ (.tail _ (.head _)))) (acceptT_eq ▸ Lib.laidMet.reads h (.head _))
end Go.Proofs.YtlofoifcdmeopaaGreatDoor.V
namespace Go.Proofs.YtlofoifcdmeopaaGreatDoor.V
open Go Go.Ev Go.RowKit
set_option linter.unusedVariables false
set_option linter.unusedSimpArgs false
theorem tyb : C.T 5 = some ⟨1, 1, [.int .u8], false, .scal⟩ := rfl
theorem tybs : C.T 44 = some ⟨1, 24, [.slice 5], false, .slice 5⟩ := rfl
def i64P (x : Int) : Prop := -9223372036854775808 ≤ x ∧ x ≤ 9223372036854775807
theorem fit_u8 {k : Nat} {d : Dat} (h : fitT C.T (k + 1) 5 d) : ∃ n : Int, d = .int n ∧ 0 ≤ n ∧ n < 256 := by
  obtain ⟨n, rfl, n', h1, h2⟩ := fit_int tyb rfl rfl h
  refine ⟨n, rfl, ?_⟩
  simp only [Dat.int.injEq] at h1
  subst h1
  simp only [Lit.wf, IntKind.min, IntKind.max, IntKind.signed, IntKind.bits, Bool.and_eq_true, decide_eq_true_eq] at h2
  simp at h2
  omega
theorem fit_bytes {k : Nat} {d : Dat} (h : fitT C.T (k + 2) 44 d) : ∃ b : List Int, d = .list (b.map .int) ∧ isBytes b = true ∧ b.length ≤ 140737488351232 := by
  obtain ⟨l, rfl, h1, h2⟩ := fit_ints tybs tyb rfl rfl h
  refine ⟨l, rfl, ?_, by simpa using h1⟩
  unfold isBytes
  rw [List.all_eq_true]
  intro x hx
  obtain ⟨n, e, g1, g2⟩ := fit_u8 (h2 x hx)
  simp only [Dat.int.injEq] at e
  subst e
  simp [g1, g2]
theorem E_from {f : FuncId} {args : List AV} {r : List Dat} (k : Nat) (h : ∀ n, ev C (n + k) f args = some r) : E C f args = some r :=
  lim_some.2 ⟨k, fun φ hφ => by
    have h0 := hφ 0
    have e : φ 0 = (φ 0 - k) + k := by omega
    show ev C (φ 0) f args = some r
    rw [e]
    exact h _⟩
/-- The byte at a place; 0 beyond all. -/
def atB (b : List Int) (i : Int) : Int := if 0 ≤ i ∧ i < (b.length : Int) then b.getD i.toNat 0 else 0
theorem atB_in {b : List Int} {k : Nat} (h : k < b.length) : atB b (k : Int) = b[k] := by
  unfold atB
  rw [if_pos (by omega), Int.toNat_natCast]
  simp [List.getD_eq_getElem?_getD, h]
theorem atB_out {b : List Int} {i : Int} (h : ¬ (0 ≤ i ∧ i < (b.length : Int))) : atB b i = 0 := if_neg h
theorem atB_some {b : List Int} {i : Int} (h : atB b i ≠ 0) : 0 ≤ i ∧ i < (b.length : Int) := by
  unfold atB at h
  split at h
  · assumption
  · exact absurd rfl h
theorem isBytes_get {b : List Int} (hb : isBytes b = true) {k : Nat} (h : k < b.length) : 0 ≤ b[k] ∧ b[k] < 256 := by
  have hx := List.all_eq_true.1 hb b[k] (List.getElem_mem h)
  simp only [Bool.and_eq_true, decide_eq_true_eq] at hx
  exact hx
theorem atB_byte {b : List Int} (hb : isBytes b = true) (i : Int) : 0 ≤ atB b i ∧ atB b i < 256 := by
  by_cases h : 0 ≤ i ∧ i < (b.length : Int)
  · obtain ⟨k, rfl⟩ : ∃ k : Nat, i = (k : Int) := ⟨i.toNat, by omega⟩
    rw [atB_in (by omega)]
    exact isBytes_get hb _
  · rw [atB_out h]; omega
theorem rdB {b : List Int} {k : Nat} (h : k < b.length) : (rd (b.map Dat.int) k).I = b[k] := by rw [rdI]; simp [List.getD_eq_getElem?_getD, h]
theorem rdA {b : List Int} {i : Int} (h : 0 ≤ i ∧ i < (b.length : Int)) : (rd (b.map Dat.int) i.toNat).I = atB b i := by
  unfold atB
  rw [if_pos h, rdI]
/-- A look at a place of a row, its checks passed. -/
theorem ixT {α : Type} {i : Int} {n : Nat} {a x y z : α} (h : 0 ≤ i ∧ i < (n : Int)) : (bif decide (0 ≤ i) then (bif decide (i < (n : Int)) then (bif decide (i.toNat < n) then a else x) else y) else z) = a := by
  rw [dT h.1, dT h.2, dT (by omega)]
theorem nT {α : Type} {b : Bool} {x y : α} (h : b = false) : (bif !b then x else y) = x := by rw [h]; rfl
theorem nF {α : Type} {b : Bool} {x y : α} (h : b = true) : (bif !b then x else y) = y := by rw [h]; rfl
theorem neT {α : Type} {x y : Int} {a b : α} (h : x ≠ y) : (bif x != y then a else b) = a := by
  have : (x != y) = true := by simpa using h
  rw [this]; rfl
theorem neF {α : Type} {x y : Int} {a b : α} (h : x = y) : (bif x != y then a else b) = b := by
  rw [h]; simp
@[simp] theorem aggC0 (a : Dat) (l : List Dat) : (Dat.agg (a :: l)).C 0 = a := (rfl)
@[simp] theorem aggC1 (a b : Dat) (l : List Dat) : (Dat.agg (a :: b :: l)).C 1 = b := (rfl)
@[simp] theorem aggC2 (a b c : Dat) (l : List Dat) : (Dat.agg (a :: b :: c :: l)).C 2 = c := (rfl)
@[simp] theorem aggC3 (a b c d : Dat) (l : List Dat) : (Dat.agg (a :: b :: c :: d :: l)).C 3 = d := (rfl)
@[simp] theorem aggC4 (a b c d e : Dat) (l : List Dat) : (Dat.agg (a :: b :: c :: d :: e :: l)).C 4 = e := (rfl)
@[simp] theorem aggC5 (a b c d e f : Dat) (l : List Dat) : (Dat.agg (a :: b :: c :: d :: e :: f :: l)).C 5 = f := (rfl)
@[simp] theorem rd3 (a b c d : Dat) (l : List Dat) : rd (a :: b :: c :: d :: l) 3 = d := (rfl)
@[simp] theorem rd4 (a b c d e : Dat) (l : List Dat) : rd (a :: b :: c :: d :: e :: l) 4 = e := (rfl)
theorem w8 {n : Int} (h0 : 0 ≤ n) (h1 : n ≤ 255) : IntKind.u8.wrap n = n := IntWalk.u8_in n ⟨h0, h1⟩
/-- Is a byte a letter, a digit? -/
def letB (c : Int) : Bool := (decide (97 ≤ c) && decide (c ≤ 122)) || (decide (65 ≤ c) && decide (c ≤ 90))
def digB (c : Int) : Bool := decide (48 ≤ c) && decide (c ≤ 57)
theorem letB_iff {c : Int} : letB c = true ↔ (97 ≤ c ∧ c ≤ 122) ∨ (65 ≤ c ∧ c ≤ 90) := by simp [letB]
theorem digB_iff {c : Int} : digB c = true ↔ 48 ≤ c ∧ c ≤ 57 := by simp [digB]
theorem letB_no {c : Int} : letB c = false ↔ ¬ ((97 ≤ c ∧ c ≤ 122) ∨ (65 ≤ c ∧ c ≤ 90)) := by rw [← letB_iff, Bool.not_eq_true]
theorem digB_no {c : Int} : digB c = false ↔ ¬ (48 ≤ c ∧ c ≤ 57) := by rw [← digB_iff, Bool.not_eq_true]
end Go.Proofs.YtlofoifcdmeopaaGreatDoor.V
namespace Go.Proofs.YtlofoifcdmeopaaGreatDoor.V
open Go Go.Ev
def psA (d : Dat) : AV := .pbox [.shr 5 ((d.C 0).L), .int .i64 ((d.C 1).I), .bool ((d.C 2).B), .bool ((d.C 3).B), .bool ((d.C 4).B), .bool ((d.C 5).B), .int .i64 ((d.C 6).I), .own 0 8 9 ((d.C 7).L), .int .i64 ((d.C 8).I), .int .i64 ((d.C 9).I)]
def psD (d : Dat) : Dat := .agg [.list ((d.C 0).L), .int ((d.C 1).I), .bool ((d.C 2).B), .bool ((d.C 3).B), .bool ((d.C 4).B), .bool ((d.C 5).B), .int ((d.C 6).I), .list ((d.C 7).L), .int ((d.C 8).I), .int ((d.C 9).I)]
def psN (d : Dat) : Dat := .agg [.int ((d.C 0).I), .int ((d.C 1).I), .int ((d.C 2).I), .int ((d.C 3).I), .int ((d.C 4).I), .int ((d.C 5).I), .int ((d.C 6).I), .str ((d.C 7).S), .list ((d.C 8).L), .list ((d.C 9).L), .list ((d.C 10).L)]
def cn (a b : List AV) : List AV := a ++ b
def un (n : Nat) (l : List AV) : List AV := List.replicate n .und ++ l
set_option maxRecDepth 100000
set_option linter.unusedVariables false
end Go.Proofs.YtlofoifcdmeopaaGreatDoor.V
namespace Go.Proofs.YtlofoifcdmeopaaGreatDoor.V
open Go Go.Ev
set_option maxRecDepth 100000
set_option linter.unusedVariables false
/-- clew/scan.Blank -/
noncomputable def f205 : Func := Tryz.f205
def kp205 : List Nat := [0, 1, 4, 5]
noncomputable def c205 (p : List Nat) : Code := pick f205 p
noncomputable def L205_2 (n : Nat) (m1 : Nat) (m2 : Nat) (v0 : List Dat) (v1 v4 v5 : Int) : R := loopIter (fun E K => evCode C (ev C n) n kp205 (c205 [1, 1, 0, 0, 0, 1, 0, 1, 0, 1, 1, 1, 0, 0, 0]) E K) [0, 1, 4, 5] (Kblk 3 (Kblk 2 (Kblk 1 (Klop (fun E K => evCode C (ev C n) n kp205 (c205 [1, 1, 0, 0, 0]) E K) [0, 1, 4] (Kblk 0 (Kseq C (ev C n) n kp205 (c205 [1, 1, 1]) (Ktop C 205 f205 [.und, .und]))) m1)))) m2 (cn [.shr 5 v0, .int .i64 v1, .und, .und, .int .i64 v4, .int .u8 v5] (un 41 []))
noncomputable def M205_2 (v0 : List Dat) (v1 v4 v5 : Int) : R := lim fun φ => L205_2 (φ 0) (φ 1) (φ 2) v0 v1 v4 v5
theorem M205_2_c (v0 : List Dat) (v1 v4 v5 : Int) : Cont (fun φ => L205_2 (φ 0) (φ 1) (φ 2) v0 v1 v4 v5) (M205_2 v0 v1 v4 v5) := Cont.re id _
theorem M205_2_e (v0 : List Dat) (v1 v4 v5 : Int) : Cont (fun φ => L205_2 (φ 0) (φ 1) (φ 0) v0 v1 v4 v5) (M205_2 v0 v1 v4 v5) := Cont.re (toZ 2) fun φ => L205_2 (φ 0) (φ 1) (φ 2) v0 v1 v4 v5
noncomputable def L205_1 (n : Nat) (m1 : Nat) (v0 : List Dat) (v1 v4 : Int) : R := loopIter (fun E K => evCode C (ev C n) n kp205 (c205 [1, 1, 0, 0, 0]) E K) [0, 1, 4] (Kblk 0 (Kseq C (ev C n) n kp205 (c205 [1, 1, 1]) (Ktop C 205 f205 [.und, .und]))) m1 (cn [.shr 5 v0, .int .i64 v1, .und, .und, .int .i64 v4] (un 42 []))
noncomputable def M205_1 (v0 : List Dat) (v1 v4 : Int) : R := lim fun φ => L205_1 (φ 0) (φ 1) v0 v1 v4
theorem M205_1_c (v0 : List Dat) (v1 v4 : Int) : Cont (fun φ => L205_1 (φ 0) (φ 1) v0 v1 v4) (M205_1 v0 v1 v4) := Cont.re id _
theorem M205_1_e (v0 : List Dat) (v1 v4 : Int) : Cont (fun φ => L205_1 (φ 0) (φ 0) v0 v1 v4) (M205_1 v0 v1 v4) := Cont.re (toZ 1) fun φ => L205_1 (φ 0) (φ 1) v0 v1 v4
theorem M205_2_of (v0 : List Dat) (v1 v4 v5 : Int) {r : List Dat} (h : (bif decide (v1 < (v0.length : Int)) then (bif decide (0 ≤ v1) then (bif decide (v1 < (v0.length : Int)) then (bif decide (v1.toNat < v0.length) then (bif ((rd v0 v1.toNat).I) != 10 then (M205_2 v0 (IntKind.i64.wrap (v1 + 1)) v4 v5) else (M205_1 v0 v1 v4)) else none) else none) else none) else (M205_1 v0 v1 v4) : R) = some r) : M205_2 v0 v1 v4 v5 = some r := lim_st (g := fun φ => L205_2 (φ 0) (φ 1) (φ 2) v0 v1 v4 v5) 2 h (Cont.bif (Cont.bif (Cont.bif (Cont.bif (Cont.bif (M205_2_c _ _ _ _) (M205_1_c _ _ _)) Cont.nn) Cont.nn) Cont.nn) (M205_1_c _ _ _)) fun φ m hm => (congrArg (fun q => L205_2 (φ 0) (φ 1) q v0 v1 v4 v5) hm).trans (by kernel_rfl)
theorem M205_1_of (v0 : List Dat) (v1 v4 : Int) {r : List Dat} (h : (bif decide (v1 < (v0.length : Int)) then (bif decide (0 ≤ v1) then (bif decide (v1 < (v0.length : Int)) then (bif decide (v1.toNat < v0.length) then (bif ((rd v0 v1.toNat).I) == 32 then (M205_1 v0 (IntKind.i64.wrap (v1 + 1)) v4) else (bif decide (((rd v0 v1.toNat).I) ≥ 9) then (bif decide (((rd v0 v1.toNat).I) ≤ 13) then (M205_1 v0 (IntKind.i64.wrap (v1 + 1)) v4) else (bif ((rd v0 v1.toNat).I) == 35 then (M205_2 v0 v1 v4 ((rd v0 v1.toNat).I)) else (some [.int v1]))) else (bif ((rd v0 v1.toNat).I) == 35 then (M205_2 v0 v1 v4 ((rd v0 v1.toNat).I)) else (some [.int v1])))) else none) else none) else none) else (some [.int v1]) : R) = some r) : M205_1 v0 v1 v4 = some r := lim_st (g := fun φ => L205_1 (φ 0) (φ 1) v0 v1 v4) 1 h (Cont.bif (Cont.bif (Cont.bif (Cont.bif (Cont.bif (M205_1_c _ _ _) (Cont.bif (Cont.bif (M205_1_c _ _ _) (Cont.bif (M205_2_e _ _ _ _) (Cont.const _))) (Cont.bif (M205_2_e _ _ _ _) (Cont.const _)))) Cont.nn) Cont.nn) Cont.nn) (Cont.const _)) fun φ m hm => (congrArg (fun q => L205_1 (φ 0) q v0 v1 v4) hm).trans (by kernel_rfl)
theorem o205 (a0 : List Dat) (a1 : Int) {r : List Dat} (h : (M205_1 a0 (if 0 > a1 then 0 else a1) 0 : R) = some r) : E C 205 [.shr 5 a0, .int .i64 a1] = some r := E_st h (M205_1_e _ _ _) fun φ => by kernel_rfl
/-- clew/scan.at -/
noncomputable def f217 : Func := Tryz.f217
theorem o217 (a0 : List Dat) (a1 : Int) {r : List Dat} (h : (bif decide (a1 < 0) then (some [.int 0]) else (bif decide (a1 ≥ (a0.length : Int)) then (some [.int 0]) else (bif decide (0 ≤ a1) then (bif decide (a1 < (a0.length : Int)) then (bif decide (a1.toNat < a0.length) then (some [.int ((rd a0 a1.toNat).I)]) else none) else none) else none)) : R) = some r) : E C 217 [.shr 5 a0, .int .i64 a1] = some r := E_st h (Cont.bif (Cont.const _) (Cont.bif (Cont.const _) (Cont.bif (Cont.bif (Cont.bif (Cont.const _) Cont.nn) Cont.nn) Cont.nn))) fun φ => by kernel_rfl
theorem o232 (a0 : List Dat) (a1 : Int) {r : List Dat} (h : ((E C 217 [.shr 5 a0, .int .i64 a1]).bind fun d1 => (bif ((rd d1 0).I) != 92 then (some [.agg [.int 0, .int 0, .int 0, .str ByteArray.empty, .list ([] : List Dat)], .int 10]) else ((E C 253 [.shr 5 a0, .int .i64 a1]).bind fun d2 => (bif (rd d2 1).B then (some [.agg [.int (((rd d2 0).C 0).I), .int (((rd d2 0).C 1).I), .int (((rd d2 0).C 2).I), .str (((rd d2 0).C 3).S), .list (((rd d2 0).C 4).L)], .int ((rd d2 2).I)]) else ((E C 217 [.shr 5 a0, .int .i64 (IntKind.i64.wrap (a1 + 1))]).bind fun d3 => ((E C 254 [.int .u8 ((rd d3 0).I)]).bind fun d4 => (bif decide (((rd d4 0).I) > 0) then (some [.agg [.int 3, .int (IntKind.i64.wrap (a1 + 2)), .int ((rd d4 0).I), .str ByteArray.empty, .list ([] : List Dat)], .int 0]) else (bif decide (((rd d3 0).I) ≥ 49) then (bif decide (((rd d3 0).I) ≤ 57) then ((E C 217 [.shr 5 a0, .int .i64 (IntKind.i64.wrap (a1 + 2))]).bind fun d5 => ((E C 255 [.int .u8 ((rd d5 0).I)]).bind fun d6 => (bif (rd d6 0).B then (some [.agg [.int 4, .int (IntKind.i64.wrap ((IntKind.i64.wrap (a1 + 2)) + 1)), .int (IntKind.i64.wrap ((IntKind.i64.wrap ((IntKind.i64.wrap (IntKind.u8.wrap (((rd d3 0).I) - 48))) * 10)) + (IntKind.i64.wrap (IntKind.u8.wrap (((rd d5 0).I) - 48))))), .str ByteArray.empty, .list ([] : List Dat)], .int 0]) else (some [.agg [.int 4, .int (IntKind.i64.wrap (a1 + 2)), .int (IntKind.i64.wrap (IntKind.u8.wrap (((rd d3 0).I) - 48))), .str ByteArray.empty, .list ([] : List Dat)], .int 0])))) else (bif ((rd d3 0).I) != 107 then (some [.agg [.int 0, .int 0, .int 0, .str ByteArray.empty, .list ([] : List Dat)], .int 32]) else ((E C 217 [.shr 5 a0, .int .i64 (IntKind.i64.wrap (a1 + 2))]).bind fun d7 => (bif ((rd d7 0).I) != 60 then (some [.agg [.int 0, .int 0, .int 0, .str ByteArray.empty, .list ([] : List Dat)], .int 36]) else ((E C 256 [.shr 5 a0, .int .i64 (IntKind.i64.wrap (a1 + 3))]).bind fun d8 => (bif ((rd d8 2).I) != 0 then (some [.agg [.int 0, .int 0, .int 0, .str ByteArray.empty, .list ([] : List Dat)], .int ((rd d8 2).I)]) else (some [.agg [.int 5, .int ((rd d8 1).I), .int 0, .str ((rd d8 0).S), .list ([] : List Dat)], .int 0]))))))) else (bif ((rd d3 0).I) != 107 then (some [.agg [.int 0, .int 0, .int 0, .str ByteArray.empty, .list ([] : List Dat)], .int 32]) else ((E C 217 [.shr 5 a0, .int .i64 (IntKind.i64.wrap (a1 + 2))]).bind fun d9 => (bif ((rd d9 0).I) != 60 then (some [.agg [.int 0, .int 0, .int 0, .str ByteArray.empty, .list ([] : List Dat)], .int 36]) else ((E C 256 [.shr 5 a0, .int .i64 (IntKind.i64.wrap (a1 + 3))]).bind fun d10 => (bif ((rd d10 2).I) != 0 then (some [.agg [.int 0, .int 0, .int 0, .str ByteArray.empty, .list ([] : List Dat)], .int ((rd d10 2).I)]) else (some [.agg [.int 5, .int ((rd d10 1).I), .int 0, .str ((rd d10 0).S), .list ([] : List Dat)], .int 0]))))))))))))) : R) = some r) : E C 232 [.shr 5 a0, .int .i64 a1] = some r := E_st h (Cont.bind (Cont.call C 217 _) fun _ => (Cont.bif (Cont.const _) (Cont.bind (Cont.call C 253 _) fun _ => (Cont.bif (Cont.const _) (Cont.bind (Cont.call C 217 _) fun _ => (Cont.bind (Cont.call C 254 _) fun _ => (Cont.bif (Cont.const _) (Cont.bif (Cont.bif (Cont.bind (Cont.call C 217 _) fun _ => (Cont.bind (Cont.call C 255 _) fun _ => (Cont.bif (Cont.const _) (Cont.const _)))) (Cont.bif (Cont.const _) (Cont.bind (Cont.call C 217 _) fun _ => (Cont.bif (Cont.const _) (Cont.bind (Cont.call C 256 _) fun _ => (Cont.bif (Cont.const _) (Cont.const _))))))) (Cont.bif (Cont.const _) (Cont.bind (Cont.call C 217 _) fun _ => (Cont.bif (Cont.const _) (Cont.bind (Cont.call C 256 _) fun _ => (Cont.bif (Cont.const _) (Cont.const _)))))))))))))) fun φ => by kernel_rfl
theorem o253 (a0 : List Dat) (a1 : Int) {r : List Dat} (h : ((E C 217 [.shr 5 a0, .int .i64 (IntKind.i64.wrap (a1 + 1))]).bind fun d1 => (bif ((rd d1 0).I) == 120 then ((E C 274 [.shr 5 a0, .int .i64 (IntKind.i64.wrap (a1 + 2))]).bind fun d2 => (some [.agg [.int (((rd d2 0).C 0).I), .int (((rd d2 0).C 1).I), .int (((rd d2 0).C 2).I), .str (((rd d2 0).C 3).S), .list (((rd d2 0).C 4).L)], .bool true, .int ((rd d2 1).I)])) else ((E C 275 [.int .u8 ((rd d1 0).I)]).bind fun d3 => (bif decide (((rd d3 0).I) ≥ 0) then (some [.agg [.int 1, .int (IntKind.i64.wrap (a1 + 2)), .int ((rd d3 0).I), .str ByteArray.empty, .list ([] : List Dat)], .bool true, .int 0]) else ((E C 276 [.int .u8 ((rd d1 0).I)]).bind fun d4 => (bif (rd d4 1).B then (some [.agg [.int 2, .int (IntKind.i64.wrap (a1 + 2)), .int 0, .str ByteArray.empty, .list ((rd d4 0).L)], .bool true, .int 0]) else ((E C 277 [.int .u8 ((rd d1 0).I)]).bind fun d5 => (bif (rd d5 0).B then (some [.agg [.int 0, .int 0, .int 0, .str ByteArray.empty, .list ([] : List Dat)], .bool false, .int 0]) else ((E C 255 [.int .u8 ((rd d1 0).I)]).bind fun d6 => (bif (rd d6 0).B then (some [.agg [.int 0, .int 0, .int 0, .str ByteArray.empty, .list ([] : List Dat)], .bool false, .int 0]) else ((E C 213 [.shr 5 a0, .int .i64 (IntKind.i64.wrap (a1 + 1))]).bind fun d7 => (bif ((rd d7 1).I) == 0 then (some [.agg [.int 0, .int 0, .int 0, .str ByteArray.empty, .list ([] : List Dat)], .bool true, .int 32]) else (some [.agg [.int 1, .int (IntKind.i64.wrap ((IntKind.i64.wrap (a1 + 1)) + ((rd d7 1).I))), .int ((rd d7 0).I), .str ByteArray.empty, .list ([] : List Dat)], .bool true, .int 0])))))))))))) : R) = some r) : E C 253 [.shr 5 a0, .int .i64 a1] = some r := E_st h (Cont.bind (Cont.call C 217 _) fun _ => (Cont.bif (Cont.bind (Cont.call C 274 _) fun _ => (Cont.const _)) (Cont.bind (Cont.call C 275 _) fun _ => (Cont.bif (Cont.const _) (Cont.bind (Cont.call C 276 _) fun _ => (Cont.bif (Cont.const _) (Cont.bind (Cont.call C 277 _) fun _ => (Cont.bif (Cont.const _) (Cont.bind (Cont.call C 255 _) fun _ => (Cont.bif (Cont.const _) (Cont.bind (Cont.call C 213 _) fun _ => (Cont.bif (Cont.const _) (Cont.const _))))))))))))) fun φ => by kernel_rfl
theorem o254 (a0 : Int) {r : List Dat} (h : (bif a0 == 65 then (some [.int 1]) else (bif a0 == 90 then (some [.int 2]) else (bif a0 == 122 then (some [.int 3]) else (bif a0 == 98 then (some [.int 6]) else (bif a0 == 66 then (some [.int 7]) else (some [.int 0]))))) : R) = some r) : E C 254 [.int .u8 a0] = some r := E_st h (Cont.bif (Cont.const _) (Cont.bif (Cont.const _) (Cont.bif (Cont.const _) (Cont.bif (Cont.const _) (Cont.bif (Cont.const _) (Cont.const _)))))) fun φ => by kernel_rfl
theorem o255 (a0 : Int) {r : List Dat} (h : (bif decide (a0 ≥ 48) then (some [.bool (decide (a0 ≤ 57))]) else (some [.bool false]) : R) = some r) : E C 255 [.int .u8 a0] = some r := E_st h (Cont.bif (Cont.const _) (Cont.const _)) fun φ => by kernel_rfl
/-- clew/scan.Name -/
noncomputable def f256 : Func := Tryz.f256
def kp256 : List Nat := [0, 1, 4, 5, 6, 7, 8]
noncomputable def c256 (p : List Nat) : Code := pick f256 p
noncomputable def L256_1 (n : Nat) (m1 : Nat) (v0 : List Dat) (v1 : Int) (v4 : ByteArray) (v5 v6 v7 v8 : Int) : R := loopIter (fun E K => evCode C (ev C n) n kp256 (c256 [1, 1, 0, 1, 0, 0]) E K) [0, 1, 4, 5, 6, 7, 8] (Kblk 0 (Kseq C (ev C n) n kp256 (c256 [1, 1, 1]) (Ktop C 256 f256 [.und, .und]))) m1 (cn [.shr 5 v0, .int .i64 v1, .und, .und, .str v4, .int .i64 v5, .int .i64 v6, .int .i64 v7, .int .u8 v8] (un 51 []))
noncomputable def M256_1 (v0 : List Dat) (v1 : Int) (v4 : ByteArray) (v5 v6 v7 v8 : Int) : R := lim fun φ => L256_1 (φ 0) (φ 1) v0 v1 v4 v5 v6 v7 v8
theorem M256_1_c (v0 : List Dat) (v1 : Int) (v4 : ByteArray) (v5 v6 v7 v8 : Int) : Cont (fun φ => L256_1 (φ 0) (φ 1) v0 v1 v4 v5 v6 v7 v8) (M256_1 v0 v1 v4 v5 v6 v7 v8) := Cont.re id _
theorem M256_1_e (v0 : List Dat) (v1 : Int) (v4 : ByteArray) (v5 v6 v7 v8 : Int) : Cont (fun φ => L256_1 (φ 0) (φ 0) v0 v1 v4 v5 v6 v7 v8) (M256_1 v0 v1 v4 v5 v6 v7 v8) := Cont.re (toZ 1) fun φ => L256_1 (φ 0) (φ 1) v0 v1 v4 v5 v6 v7 v8
theorem M256_1_of (v0 : List Dat) (v1 : Int) (v4 : ByteArray) (v5 v6 v7 v8 : Int) {r : List Dat} (h : ((E C 277 [.int .u8 v8]).bind fun d2 => (bif (rd d2 0).B then ((E C 217 [.shr 5 v0, .int .i64 (IntKind.i64.wrap (v7 + 1))]).bind fun d3 => (M256_1 v0 v1 v4 v5 v6 (IntKind.i64.wrap (v7 + 1)) ((rd d3 0).I))) else (bif v8 == 95 then ((E C 217 [.shr 5 v0, .int .i64 (IntKind.i64.wrap (v7 + 1))]).bind fun d4 => (M256_1 v0 v1 v4 v5 v6 (IntKind.i64.wrap (v7 + 1)) ((rd d4 0).I))) else ((E C 255 [.int .u8 v8]).bind fun d5 => (bif (rd d5 0).B then (bif decide (v7 > v1) then ((E C 217 [.shr 5 v0, .int .i64 (IntKind.i64.wrap (v7 + 1))]).bind fun d6 => (M256_1 v0 v1 v4 v5 v6 (IntKind.i64.wrap (v7 + 1)) ((rd d6 0).I))) else (bif decide (v1 < 0) then (some [.str ByteArray.empty, .int 0, .int 36]) else (bif v7 == v1 then (some [.str ByteArray.empty, .int 0, .int 36]) else (bif decide ((IntKind.i64.wrap (v7 - v1)) > 32) then (some [.str ByteArray.empty, .int 0, .int 36]) else ((E C 217 [.shr 5 v0, .int .i64 v7]).bind fun d7 => (bif ((rd d7 0).I) != 62 then (some [.str ByteArray.empty, .int 0, .int 36]) else (bif decide (0 ≤ v1) then (bif decide (v1 ≤ v7) then (bif decide (v7 ≤ (v0.length : Int)) then (some [.str (strOf ((v0.take v7.toNat).drop v1.toNat)), .int (IntKind.i64.wrap (v7 + 1)), .int 0]) else none) else none) else none))))))) else (bif decide (v1 < 0) then (some [.str ByteArray.empty, .int 0, .int 36]) else (bif v7 == v1 then (some [.str ByteArray.empty, .int 0, .int 36]) else (bif decide ((IntKind.i64.wrap (v7 - v1)) > 32) then (some [.str ByteArray.empty, .int 0, .int 36]) else ((E C 217 [.shr 5 v0, .int .i64 v7]).bind fun d8 => (bif ((rd d8 0).I) != 62 then (some [.str ByteArray.empty, .int 0, .int 36]) else (bif decide (0 ≤ v1) then (bif decide (v1 ≤ v7) then (bif decide (v7 ≤ (v0.length : Int)) then (some [.str (strOf ((v0.take v7.toNat).drop v1.toNat)), .int (IntKind.i64.wrap (v7 + 1)), .int 0]) else none) else none) else none)))))))))) : R) = some r) : M256_1 v0 v1 v4 v5 v6 v7 v8 = some r := lim_st (g := fun φ => L256_1 (φ 0) (φ 1) v0 v1 v4 v5 v6 v7 v8) 1 h (Cont.bind (Cont.call C 277 _) fun _ => (Cont.bif (Cont.bind (Cont.call C 217 _) fun _ => (M256_1_c _ _ _ _ _ _ _)) (Cont.bif (Cont.bind (Cont.call C 217 _) fun _ => (M256_1_c _ _ _ _ _ _ _)) (Cont.bind (Cont.call C 255 _) fun _ => (Cont.bif (Cont.bif (Cont.bind (Cont.call C 217 _) fun _ => (M256_1_c _ _ _ _ _ _ _)) (Cont.bif (Cont.const _) (Cont.bif (Cont.const _) (Cont.bif (Cont.const _) (Cont.bind (Cont.call C 217 _) fun _ => (Cont.bif (Cont.const _) (Cont.bif (Cont.bif (Cont.bif (Cont.const _) Cont.nn) Cont.nn) Cont.nn))))))) (Cont.bif (Cont.const _) (Cont.bif (Cont.const _) (Cont.bif (Cont.const _) (Cont.bind (Cont.call C 217 _) fun _ => (Cont.bif (Cont.const _) (Cont.bif (Cont.bif (Cont.bif (Cont.const _) Cont.nn) Cont.nn) Cont.nn))))))))))) fun φ m hm => (congrArg (fun q => L256_1 (φ 0) q v0 v1 v4 v5 v6 v7 v8) hm).trans (by kernel_rfl)
theorem o256 (a0 : List Dat) (a1 : Int) {r : List Dat} (h : ((E C 217 [.shr 5 a0, .int .i64 (if 0 > a1 then 0 else a1)]).bind fun d1 => (M256_1 a0 a1 ByteArray.empty 0 0 (if 0 > a1 then 0 else a1) ((rd d1 0).I)) : R) = some r) : E C 256 [.shr 5 a0, .int .i64 a1] = some r := E_st h (Cont.bind (Cont.call C 217 _) fun _ => (M256_1_e _ _ _ _ _ _ _)) fun φ => by kernel_rfl
theorem o268 (a0 : List Dat) (a1 : Int) {r : List Dat} (h : ((E C 217 [.shr 5 a0, .int .i64 a1]).bind fun d1 => (bif ((rd d1 0).I) != 92 then (some [.agg [.int 0, .int 0, .int 0, .str ByteArray.empty, .list ([] : List Dat)], .int 10]) else ((E C 253 [.shr 5 a0, .int .i64 a1]).bind fun d2 => (bif (rd d2 1).B then (some [.agg [.int (((rd d2 0).C 0).I), .int (((rd d2 0).C 1).I), .int (((rd d2 0).C 2).I), .str (((rd d2 0).C 3).S), .list (((rd d2 0).C 4).L)], .int ((rd d2 2).I)]) else ((E C 217 [.shr 5 a0, .int .i64 (IntKind.i64.wrap (a1 + 1))]).bind fun d3 => (bif ((rd d3 0).I) == 98 then (some [.agg [.int 1, .int (IntKind.i64.wrap (a1 + 2)), .int 8, .str ByteArray.empty, .list ([] : List Dat)], .int 0]) else (some [.agg [.int 0, .int 0, .int 0, .str ByteArray.empty, .list ([] : List Dat)], .int 32])))))) : R) = some r) : E C 268 [.shr 5 a0, .int .i64 a1] = some r := E_st h (Cont.bind (Cont.call C 217 _) fun _ => (Cont.bif (Cont.const _) (Cont.bind (Cont.call C 253 _) fun _ => (Cont.bif (Cont.const _) (Cont.bind (Cont.call C 217 _) fun _ => (Cont.bif (Cont.const _) (Cont.const _))))))) fun φ => by kernel_rfl
theorem o274 (a0 : List Dat) (a1 : Int) {r : List Dat} (h : ((E C 217 [.shr 5 a0, .int .i64 a1]).bind fun d1 => (bif ((rd d1 0).I) == 123 then ((E C 284 [.shr 5 a0, .int .i64 (IntKind.i64.wrap (a1 + 1)), .int .i64 6]).bind fun d2 => (bif ((rd d2 1).I) == 0 then (some [.agg [.int 0, .int 0, .int 0, .str ByteArray.empty, .list ([] : List Dat)], .int 32]) else ((E C 217 [.shr 5 a0, .int .i64 (IntKind.i64.wrap ((IntKind.i64.wrap (a1 + 1)) + ((rd d2 1).I)))]).bind fun d3 => (bif ((rd d3 0).I) != 125 then (some [.agg [.int 0, .int 0, .int 0, .str ByteArray.empty, .list ([] : List Dat)], .int 32]) else ((E C 97 [.int .i64 ((rd d2 0).I)]).bind fun d4 => (bif !((rd d4 0).B) then (some [.agg [.int 0, .int 0, .int 0, .str ByteArray.empty, .list ([] : List Dat)], .int 32]) else (some [.agg [.int 1, .int (IntKind.i64.wrap ((IntKind.i64.wrap (a1 + ((rd d2 1).I))) + 2)), .int ((rd d2 0).I), .str ByteArray.empty, .list ([] : List Dat)], .int 0]))))))) else ((E C 284 [.shr 5 a0, .int .i64 a1, .int .i64 2]).bind fun d5 => (bif decide (((rd d5 1).I) < 2) then (some [.agg [.int 0, .int 0, .int 0, .str ByteArray.empty, .list ([] : List Dat)], .int 32]) else (some [.agg [.int 1, .int (IntKind.i64.wrap (a1 + ((rd d5 1).I))), .int ((rd d5 0).I), .str ByteArray.empty, .list ([] : List Dat)], .int 0])))) : R) = some r) : E C 274 [.shr 5 a0, .int .i64 a1] = some r := E_st h (Cont.bind (Cont.call C 217 _) fun _ => (Cont.bif (Cont.bind (Cont.call C 284 _) fun _ => (Cont.bif (Cont.const _) (Cont.bind (Cont.call C 217 _) fun _ => (Cont.bif (Cont.const _) (Cont.bind (Cont.call C 97 _) fun _ => (Cont.bif (Cont.const _) (Cont.const _))))))) (Cont.bind (Cont.call C 284 _) fun _ => (Cont.bif (Cont.const _) (Cont.const _))))) fun φ => by kernel_rfl
theorem o275 (a0 : Int) {r : List Dat} (h : (bif a0 == 110 then (some [.int 10]) else (bif a0 == 116 then (some [.int 9]) else (bif a0 == 114 then (some [.int 13]) else (bif a0 == 102 then (some [.int 12]) else (bif a0 == 118 then (some [.int 11]) else (bif a0 == 97 then (some [.int 7]) else (bif a0 == 101 then (some [.int 27]) else (some [.int (-1)]))))))) : R) = some r) : E C 275 [.int .u8 a0] = some r := E_st h (Cont.bif (Cont.const _) (Cont.bif (Cont.const _) (Cont.bif (Cont.const _) (Cont.bif (Cont.const _) (Cont.bif (Cont.const _) (Cont.bif (Cont.const _) (Cont.bif (Cont.const _) (Cont.const _)))))))) fun φ => by kernel_rfl
theorem o277 (a0 : Int) {r : List Dat} (h : (bif decide (a0 ≥ 97) then (bif decide (a0 ≤ 122) then (some [.bool true]) else (bif decide (a0 ≥ 65) then (some [.bool (decide (a0 ≤ 90))]) else (some [.bool false]))) else (bif decide (a0 ≥ 65) then (some [.bool (decide (a0 ≤ 90))]) else (some [.bool false])) : R) = some r) : E C 277 [.int .u8 a0] = some r := E_st h (Cont.bif (Cont.bif (Cont.const _) (Cont.bif (Cont.const _) (Cont.const _))) (Cont.bif (Cont.const _) (Cont.const _))) fun φ => by kernel_rfl
/-- clew/scan.hexes -/
noncomputable def f284 : Func := Tryz.f284
def kp284 : List Nat := [0, 1, 2, 6, 7, 8, 9]
noncomputable def c284 (p : List Nat) : Code := pick f284 p
noncomputable def L284_1 (n : Nat) (m1 : Nat) (v0 : List Dat) (v1 v2 v6 v7 v8 v9 : Int) : R := loopIter (fun E K => evCode C (ev C n) n kp284 (c284 [1, 1, 0, 0, 0]) E K) [0, 1, 2, 6, 7, 8, 9] (Kblk 0 (Kseq C (ev C n) n kp284 (c284 [1, 1, 1]) (Ktop C 284 f284 [.und, .und, .und]))) m1 (cn [.shr 5 v0, .int .i64 v1, .int .i64 v2, .und, .und, .und, .int .i64 v6, .int .i64 v7, .int .i64 v8, .int .i64 v9] (un 26 []))
noncomputable def M284_1 (v0 : List Dat) (v1 v2 v6 v7 v8 v9 : Int) : R := lim fun φ => L284_1 (φ 0) (φ 1) v0 v1 v2 v6 v7 v8 v9
theorem M284_1_c (v0 : List Dat) (v1 v2 v6 v7 v8 v9 : Int) : Cont (fun φ => L284_1 (φ 0) (φ 1) v0 v1 v2 v6 v7 v8 v9) (M284_1 v0 v1 v2 v6 v7 v8 v9) := Cont.re id _
theorem M284_1_e (v0 : List Dat) (v1 v2 v6 v7 v8 v9 : Int) : Cont (fun φ => L284_1 (φ 0) (φ 0) v0 v1 v2 v6 v7 v8 v9) (M284_1 v0 v1 v2 v6 v7 v8 v9) := Cont.re (toZ 1) fun φ => L284_1 (φ 0) (φ 1) v0 v1 v2 v6 v7 v8 v9
theorem M284_1_of (v0 : List Dat) (v1 v2 v6 v7 v8 v9 : Int) {r : List Dat} (h : (bif decide (v9 < v2) then ((E C 217 [.shr 5 v0, .int .i64 (IntKind.i64.wrap (v1 + v9))]).bind fun d1 => ((E C 302 [.int .u8 ((rd d1 0).I)]).bind fun d2 => (bif decide (((rd d2 0).I) ≥ 0) then (bif decide (0 ≤ (IntKind.i64.wrap (v1 + v9))) then (bif decide ((IntKind.i64.wrap (v1 + v9)) < (v0.length : Int)) then (bif decide ((IntKind.i64.wrap (v1 + v9)).toNat < v0.length) then ((E C 302 [.int .u8 ((rd v0 ((IntKind.i64.wrap (v1 + v9)).toNat)).I)]).bind fun d3 => (M284_1 v0 v1 v2 v6 v7 (IntKind.i64.wrap ((IntKind.i64.wrap (v8 * 16)) + ((rd d3 0).I))) (IntKind.i64.wrap (v9 + 1)))) else none) else none) else none) else (some [.int v8, .int v9])))) else (some [.int v8, .int v9]) : R) = some r) : M284_1 v0 v1 v2 v6 v7 v8 v9 = some r := lim_st (g := fun φ => L284_1 (φ 0) (φ 1) v0 v1 v2 v6 v7 v8 v9) 1 h (Cont.bif (Cont.bind (Cont.call C 217 _) fun _ => (Cont.bind (Cont.call C 302 _) fun _ => (Cont.bif (Cont.bif (Cont.bif (Cont.bif (Cont.bind (Cont.call C 302 _) fun _ => (M284_1_c _ _ _ _ _ _ _)) Cont.nn) Cont.nn) Cont.nn) (Cont.const _)))) (Cont.const _)) fun φ m hm => (congrArg (fun q => L284_1 (φ 0) q v0 v1 v2 v6 v7 v8 v9) hm).trans (by kernel_rfl)
theorem o284 (a0 : List Dat) (a1 a2 : Int) {r : List Dat} (h : (M284_1 a0 a1 a2 0 0 0 0 : R) = some r) : E C 284 [.shr 5 a0, .int .i64 a1, .int .i64 a2] = some r := E_st h (M284_1_e _ _ _ _ _ _ _) fun φ => by kernel_rfl
theorem o302 (a0 : Int) {r : List Dat} (h : ((E C 255 [.int .u8 a0]).bind fun d1 => (bif (rd d1 0).B then (some [.int (IntKind.i64.wrap (IntKind.u8.wrap (a0 - 48)))]) else (bif decide (a0 ≥ 97) then (bif decide (a0 ≤ 102) then (some [.int (IntKind.i64.wrap ((IntKind.i64.wrap (IntKind.u8.wrap (a0 - 97))) + 10))]) else (bif decide (a0 ≥ 65) then (bif decide (a0 ≤ 70) then (some [.int (IntKind.i64.wrap ((IntKind.i64.wrap (IntKind.u8.wrap (a0 - 65))) + 10))]) else (some [.int (-1)])) else (some [.int (-1)]))) else (bif decide (a0 ≥ 65) then (bif decide (a0 ≤ 70) then (some [.int (IntKind.i64.wrap ((IntKind.i64.wrap (IntKind.u8.wrap (a0 - 65))) + 10))]) else (some [.int (-1)])) else (some [.int (-1)])))) : R) = some r) : E C 302 [.int .u8 a0] = some r := E_st h (Cont.bind (Cont.call C 255 _) fun _ => (Cont.bif (Cont.const _) (Cont.bif (Cont.bif (Cont.const _) (Cont.bif (Cont.bif (Cont.const _) (Cont.const _)) (Cont.const _))) (Cont.bif (Cont.bif (Cont.const _) (Cont.const _)) (Cont.const _))))) fun φ => by kernel_rfl
end Go.Proofs.YtlofoifcdmeopaaGreatDoor.V
namespace Go.Proofs.YtlofoifcdmeopaaGreatDoor.V
open Go Go.Ev Go.RowKit
set_option linter.unusedVariables false
set_option linter.unusedSimpArgs false
theorem at_E (b : List Int) (i : Int) : E C 217 [.shr 5 (b.map .int), .int .i64 i] = some [.int (atB b i)] := by
  apply o217
  rw [List.length_map]
  by_cases h0 : i < 0
  · rw [dT h0, atB_out (by omega)]
  by_cases h1 : i ≥ (b.length : Int)
  · rw [dF h0, dT h1, atB_out (by omega)]
  rw [dF h0, dF h1, ixT ⟨by omega, by omega⟩, rdA ⟨by omega, by omega⟩]
theorem letter_E (c : Int) : E C 277 [.int .u8 c] = some [.bool (letB c)] := by
  apply o277
  unfold letB
  by_cases h0 : c ≥ 97
  · by_cases h1 : c ≤ 122
    · rw [dT h0, dT h1, decide_eq_true (show 97 ≤ c from h0), decide_eq_true h1]; rfl
    · rw [dT h0, dF h1, dT (by omega), decide_eq_false h1, decide_eq_true (show 65 ≤ c by omega)]; simp
  · rw [dF h0, decide_eq_false (show ¬ 97 ≤ c from h0)]
    by_cases h2 : c ≥ 65
    · rw [dT h2, decide_eq_true (show 65 ≤ c from h2)]; simp
    · rw [dF h2, decide_eq_false (show ¬ 65 ≤ c from h2)]; simp
theorem digit_E (c : Int) : E C 255 [.int .u8 c] = some [.bool (digB c)] := by
  apply o255
  unfold digB
  by_cases h : c ≥ 48
  · rw [dT h, decide_eq_true (show 48 ≤ c from h)]; rfl
  · rw [dF h, decide_eq_false (show ¬ 48 ≤ c from h)]; rfl
/-- How many bytes are skipped; is it a remark? -/
def skipL : Bool → List Int → Nat
  | _, [] => 0
  | r, c :: l => if c = 10 then skipL false l + 1 else if c = 35 then skipL true l + 1 else if r = false ∧ c ≠ 32 ∧ (c < 9 ∨ 13 < c) then 0 else skipL r l + 1
theorem skipL_le : ∀ (l : List Int) (r : Bool), skipL r l ≤ l.length
  | [], _ => Nat.le_refl _
  | c :: l, r => by
    unfold skipL
    have h1 := skipL_le l false
    have h2 := skipL_le l true
    have h3 := skipL_le l r
    simp only [List.length_cons]
    repeat' split
    all_goals omega
theorem skipL_drop {b : List Int} {k : Nat} (h : k < b.length) (r : Bool) : skipL r (b.drop k) = if b[k] = 10 then skipL false (b.drop (k + 1)) + 1 else if b[k] = 35 then skipL true (b.drop (k + 1)) + 1 else if r = false ∧ b[k] ≠ 32 ∧ (b[k] < 9 ∨ 13 < b[k]) then 0 else skipL r (b.drop (k + 1)) + 1 := by
  rw [List.drop_eq_getElem_cons h, skipL]
def blankR (b : List Int) (i : Int) : Int := mx i 0 + skipL false (b.drop (mx i 0).toNat)
theorem blank1_loop (b : List Int) (hb : b.length ≤ 140737488351232) (v4 : Int) : ∀ (d k : Nat), b.length - k = d → k ≤ 9223372036854775807 →
    M205_1 (b.map .int) (k : Int) v4 = some [.int ((k : Int) + skipL false (b.drop k))] ∧ ∀ v5, M205_2 (b.map .int) (k : Int) v4 v5 = some [.int ((k : Int) + skipL true (b.drop k))] := by
  intro d
  induction d with
  | zero =>
    intro k hd hk
    have e1 : M205_1 (b.map .int) (k : Int) v4 = some [.int ((k : Int) + skipL false (b.drop k))] := by
      apply M205_1_of
      rw [List.length_map, dF (by omega), List.drop_of_length_le (by omega)]
      simp [skipL]
    refine ⟨e1, fun v5 => ?_⟩
    apply M205_2_of
    rw [List.length_map, dF (by omega), e1, List.drop_of_length_le (by omega)]
    simp [skipL]
  | succ d ih =>
    intro k hd hk
    have hlt : k < b.length := by omega
    obtain ⟨i1, i2⟩ := ih (k + 1) (by omega) (by omega)
    have ew : IntKind.i64.wrap ((k : Int) + 1) = ((k + 1 : Nat) : Int) := by rw [w64 (by omega) (by omega)]; omega
    have sk : ∀ (n : Nat), ((k + 1 : Nat) : Int) + n = (k : Int) + ((n + 1 : Nat) : Int) := fun n => by omega
    have e2 : ∀ v5, b[k] ≠ 10 → M205_2 (b.map .int) (k : Int) v4 v5 = some [.int ((k : Int) + skipL true (b.drop k))] := fun v5 c1 => by
      apply M205_2_of
      rw [List.length_map, dT (by omega), ixT ⟨by omega, by omega⟩, Int.toNat_natCast, rdB hlt, neT c1, ew, i2, skipL_drop hlt, if_neg c1, sk]
      by_cases c2 : b[k] = 35
      · rw [if_pos c2]
      · rw [if_neg c2, if_neg (by simp)]
    have e1 : M205_1 (b.map .int) (k : Int) v4 = some [.int ((k : Int) + skipL false (b.drop k))] := by
      apply M205_1_of
      rw [List.length_map, dT (by omega), ixT ⟨by omega, by omega⟩, Int.toNat_natCast, rdB hlt, ew, i1, skipL_drop hlt, sk]
      by_cases c1 : b[k] = 32
      · rw [eT c1, if_neg (by omega), if_neg (by omega), if_neg (by simp [c1])]
      rw [eF c1]
      by_cases c2 : b[k] ≥ 9
      · rw [dT c2]
        by_cases c3 : b[k] ≤ 13
        · rw [dT c3]
          by_cases c4 : b[k] = 10
          · rw [if_pos c4]
          · rw [if_neg c4, if_neg (by omega), if_neg (by rintro ⟨_, _, h⟩; omega)]
        · rw [dF c3, if_neg (by omega)]
          by_cases c4 : b[k] = 35
          · rw [eT c4, if_pos c4, e2 _ (by omega), skipL_drop hlt, if_neg (by omega), if_pos c4]
          · rw [eF c4, if_neg c4, if_pos ⟨rfl, c1, by omega⟩]; simp
      · rw [dF c2, eF (by omega), if_neg (by omega), if_neg (by omega), if_pos ⟨rfl, c1, by omega⟩]; simp
    refine ⟨e1, fun v5 => ?_⟩
    by_cases c1 : b[k] = 10
    · apply M205_2_of
      rw [List.length_map, dT (by omega), ixT ⟨by omega, by omega⟩, Int.toNat_natCast, rdB hlt, neF c1, e1, skipL_drop hlt, skipL_drop hlt, if_pos c1, if_pos c1]
    · exact e2 v5 c1
theorem Blank_E (b : List Int) (hb : b.length ≤ 140737488351232) (i : Int) (hi : i64P i) : E C 205 [.shr 5 (b.map .int), .int .i64 i] = some [.int (blankR b i)] := by
  apply o205
  unfold blankR mx
  by_cases h : 0 > i
  · rw [if_pos h]
    exact (blank1_loop b hb 0 _ 0 rfl (by omega)).1
  · rw [if_neg h]
    obtain ⟨k, rfl⟩ : ∃ k : Nat, i = (k : Int) := ⟨i.toNat, by omega⟩
    exact (blank1_loop b hb 0 _ k rfl (by have := hi.2; omega)).1
end Go.Proofs.YtlofoifcdmeopaaGreatDoor.V
namespace Go.Proofs.YtlofoifcdmeopaaGreatDoor.V
open Go Go.Ev
set_option maxRecDepth 100000
set_option linter.unusedVariables false
theorem o181 (a0 : List Dat) (a1 : Int) {r : List Dat} (h : ((E C 216 [.shr 5 a0, .int .i64 a1]).bind fun d1 => (bif !((rd d1 1).B) then (some [.agg [.int 0, .int 0, .int 0, .int 0], .bool false, .int 0]) else (bif decide ((((rd d1 0).C 0).I) > 1000) then (some [.agg [.int 0, .int 0, .int 0, .int 0], .bool false, .int 34]) else (bif decide ((((rd d1 0).C 1).I) > 1000) then (some [.agg [.int 0, .int 0, .int 0, .int 0], .bool false, .int 34]) else (bif (((rd d1 0).C 1).I) == 0 then (some [.agg [.int 0, .int 0, .int 0, .int 0], .bool false, .int 34]) else (bif (((rd d1 0).C 1).I) != (-1) then (bif decide ((((rd d1 0).C 1).I) < (((rd d1 0).C 0).I)) then (some [.agg [.int 0, .int 0, .int 0, .int 0], .bool false, .int 34]) else ((E C 217 [.shr 5 a0, .int .i64 (((rd d1 0).C 3).I)]).bind fun d2 => (bif ((rd d2 0).I) == 63 then (some [.agg [.int (((rd d1 0).C 0).I), .int (((rd d1 0).C 1).I), .int 1, .int (IntKind.i64.wrap ((((rd d1 0).C 3).I) + 1))], .bool true, .int 0]) else (bif ((rd d2 0).I) == 43 then (some [.agg [.int (((rd d1 0).C 0).I), .int (((rd d1 0).C 1).I), .int 2, .int (IntKind.i64.wrap ((((rd d1 0).C 3).I) + 1))], .bool true, .int 0]) else (some [.agg [.int (((rd d1 0).C 0).I), .int (((rd d1 0).C 1).I), .int (((rd d1 0).C 2).I), .int (((rd d1 0).C 3).I)], .bool true, .int 0]))))) else ((E C 217 [.shr 5 a0, .int .i64 (((rd d1 0).C 3).I)]).bind fun d3 => (bif ((rd d3 0).I) == 63 then (some [.agg [.int (((rd d1 0).C 0).I), .int (((rd d1 0).C 1).I), .int 1, .int (IntKind.i64.wrap ((((rd d1 0).C 3).I) + 1))], .bool true, .int 0]) else (bif ((rd d3 0).I) == 43 then (some [.agg [.int (((rd d1 0).C 0).I), .int (((rd d1 0).C 1).I), .int 2, .int (IntKind.i64.wrap ((((rd d1 0).C 3).I) + 1))], .bool true, .int 0]) else (some [.agg [.int (((rd d1 0).C 0).I), .int (((rd d1 0).C 1).I), .int (((rd d1 0).C 2).I), .int (((rd d1 0).C 3).I)], .bool true, .int 0]))))))))) : R) = some r) : E C 181 [.shr 5 a0, .int .i64 a1] = some r := E_st h (Cont.bind (Cont.call C 216 _) fun _ => (Cont.bif (Cont.const _) (Cont.bif (Cont.const _) (Cont.bif (Cont.const _) (Cont.bif (Cont.const _) (Cont.bif (Cont.bif (Cont.const _) (Cont.bind (Cont.call C 217 _) fun _ => (Cont.bif (Cont.const _) (Cont.bif (Cont.const _) (Cont.const _))))) (Cont.bind (Cont.call C 217 _) fun _ => (Cont.bif (Cont.const _) (Cont.bif (Cont.const _) (Cont.const _)))))))))) fun φ => by kernel_rfl
/-- clew/scan.counts -/
noncomputable def f216 : Func := Tryz.f216
theorem o216 (a0 : List Dat) (a1 : Int) {r : List Dat} (h : ((E C 217 [.shr 5 a0, .int .i64 a1]).bind fun d1 => (bif ((rd d1 0).I) == 42 then (some [.agg [.int 0, .int (-1), .int 0, .int (IntKind.i64.wrap (a1 + 1))], .bool true]) else (bif ((rd d1 0).I) == 43 then (some [.agg [.int 1, .int (-1), .int 0, .int (IntKind.i64.wrap (a1 + 1))], .bool true]) else (bif ((rd d1 0).I) == 63 then (some [.agg [.int 0, .int 1, .int 0, .int (IntKind.i64.wrap (a1 + 1))], .bool true]) else (bif ((rd d1 0).I) == 123 then ((E C 234 [.shr 5 a0, .int .i64 a1]).bind fun d2 => (some [.agg [.int (((rd d2 0).C 0).I), .int (((rd d2 0).C 1).I), .int (((rd d2 0).C 2).I), .int (((rd d2 0).C 3).I)], .bool ((rd d2 1).B)])) else (some [.agg [.int 0, .int 0, .int 0, .int 0], .bool false]))))) : R) = some r) : E C 216 [.shr 5 a0, .int .i64 a1] = some r := E_st h (Cont.bind (Cont.call C 217 _) fun _ => (Cont.bif (Cont.const _) (Cont.bif (Cont.const _) (Cont.bif (Cont.const _) (Cont.bif (Cont.bind (Cont.call C 234 _) fun _ => (Cont.const _)) (Cont.const _)))))) fun φ => by kernel_rfl
theorem o234 (a0 : List Dat) (a1 : Int) {r : List Dat} (h : ((E C 258 [.shr 5 a0, .int .i64 (IntKind.i64.wrap (a1 + 1))]).bind fun d1 => (bif ((rd d1 1).I) == (IntKind.i64.wrap (a1 + 1)) then (some [.agg [.int 0, .int 0, .int 0, .int 0], .bool false]) else ((E C 217 [.shr 5 a0, .int .i64 ((rd d1 1).I)]).bind fun d2 => (bif ((rd d2 0).I) == 44 then ((E C 258 [.shr 5 a0, .int .i64 (IntKind.i64.wrap (((rd d1 1).I) + 1))]).bind fun d3 => (bif ((rd d3 1).I) == (IntKind.i64.wrap (((rd d1 1).I) + 1)) then ((E C 217 [.shr 5 a0, .int .i64 ((rd d3 1).I)]).bind fun d4 => (some [.agg [.int ((rd d1 0).I), .int (-1), .int 0, .int (IntKind.i64.wrap (((rd d3 1).I) + 1))], .bool (((rd d4 0).I) == 125)])) else ((E C 217 [.shr 5 a0, .int .i64 ((rd d3 1).I)]).bind fun d5 => (some [.agg [.int ((rd d1 0).I), .int ((rd d3 0).I), .int 0, .int (IntKind.i64.wrap (((rd d3 1).I) + 1))], .bool (((rd d5 0).I) == 125)])))) else ((E C 217 [.shr 5 a0, .int .i64 ((rd d1 1).I)]).bind fun d6 => (some [.agg [.int ((rd d1 0).I), .int ((rd d1 0).I), .int 0, .int (IntKind.i64.wrap (((rd d1 1).I) + 1))], .bool (((rd d6 0).I) == 125)]))))) : R) = some r) : E C 234 [.shr 5 a0, .int .i64 a1] = some r := E_st h (Cont.bind (Cont.call C 258 _) fun _ => (Cont.bif (Cont.const _) (Cont.bind (Cont.call C 217 _) fun _ => (Cont.bif (Cont.bind (Cont.call C 258 _) fun _ => (Cont.bif (Cont.bind (Cont.call C 217 _) fun _ => (Cont.const _)) (Cont.bind (Cont.call C 217 _) fun _ => (Cont.const _)))) (Cont.bind (Cont.call C 217 _) fun _ => (Cont.const _)))))) fun φ => by kernel_rfl
/-- clew/scan.number -/
noncomputable def f258 : Func := Tryz.f258
def kp258 : List Nat := [0, 1, 4, 5, 6]
noncomputable def c258 (p : List Nat) : Code := pick f258 p
noncomputable def L258_1 (n : Nat) (m1 : Nat) (v0 : List Dat) (v1 v4 v5 v6 : Int) : R := loopIter (fun E K => evCode C (ev C n) n kp258 (c258 [1, 1, 0, 0, 0]) E K) [0, 1, 4, 5, 6] (Kblk 0 (Kseq C (ev C n) n kp258 (c258 [1, 1, 1]) (Ktop C 258 f258 [.und, .und]))) m1 (cn [.shr 5 v0, .int .i64 v1, .und, .und, .int .i64 v4, .int .i64 v5, .int .i64 v6] (un 18 []))
noncomputable def M258_1 (v0 : List Dat) (v1 v4 v5 v6 : Int) : R := lim fun φ => L258_1 (φ 0) (φ 1) v0 v1 v4 v5 v6
theorem M258_1_c (v0 : List Dat) (v1 v4 v5 v6 : Int) : Cont (fun φ => L258_1 (φ 0) (φ 1) v0 v1 v4 v5 v6) (M258_1 v0 v1 v4 v5 v6) := Cont.re id _
theorem M258_1_e (v0 : List Dat) (v1 v4 v5 v6 : Int) : Cont (fun φ => L258_1 (φ 0) (φ 0) v0 v1 v4 v5 v6) (M258_1 v0 v1 v4 v5 v6) := Cont.re (toZ 1) fun φ => L258_1 (φ 0) (φ 1) v0 v1 v4 v5 v6
theorem M258_1_of (v0 : List Dat) (v1 v4 v5 v6 : Int) {r : List Dat} (h : ((E C 217 [.shr 5 v0, .int .i64 v1]).bind fun d1 => ((E C 255 [.int .u8 ((rd d1 0).I)]).bind fun d2 => (bif (rd d2 0).B then (bif decide (0 ≤ v1) then (bif decide (v1 < (v0.length : Int)) then (bif decide (v1.toNat < v0.length) then (M258_1 v0 (IntKind.i64.wrap (v1 + 1)) v4 v5 (if 1001 < (IntKind.i64.wrap ((IntKind.i64.wrap (v6 * 10)) + (IntKind.i64.wrap (IntKind.u8.wrap (((rd v0 v1.toNat).I) - 48))))) then 1001 else (IntKind.i64.wrap ((IntKind.i64.wrap (v6 * 10)) + (IntKind.i64.wrap (IntKind.u8.wrap (((rd v0 v1.toNat).I) - 48))))))) else none) else none) else none) else (some [.int v6, .int v1]))) : R) = some r) : M258_1 v0 v1 v4 v5 v6 = some r := lim_st (g := fun φ => L258_1 (φ 0) (φ 1) v0 v1 v4 v5 v6) 1 h (Cont.bind (Cont.call C 217 _) fun _ => (Cont.bind (Cont.call C 255 _) fun _ => (Cont.bif (Cont.bif (Cont.bif (Cont.bif (M258_1_c _ _ _ _ _) Cont.nn) Cont.nn) Cont.nn) (Cont.const _)))) fun φ m hm => (congrArg (fun q => L258_1 (φ 0) q v0 v1 v4 v5 v6) hm).trans (by kernel_rfl)
theorem o258 (a0 : List Dat) (a1 : Int) {r : List Dat} (h : (M258_1 a0 a1 0 0 0 : R) = some r) : E C 258 [.shr 5 a0, .int .i64 a1] = some r := E_st h (M258_1_e _ _ _ _ _) fun φ => by kernel_rfl
end Go.Proofs.YtlofoifcdmeopaaGreatDoor.V
