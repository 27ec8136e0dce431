/- Programs' balance: what it calls, the map as a list of pairs; laws that the walk needs. -/
import Derived.Test.YtbhffcogeeeidaaDoorVSC2
import Derived.Test.YtbhffcogeeeidaaDoorUBas
import Derived.Test.YtbhffcogeeeidaaDoorEc
import Derived.WalkSmall
import Derived.Maps.OwnIn
import Derived.Maps.AppendAt
import Derived.Deep.LoopGhost
import Derived.WalkSpells
import Derived.OwnWalk
namespace Go.Ev
open Go Go.RowKit
set_option linter.unusedVariables false
set_option linter.unusedSimpArgs false
variable {P : Program} {C : Ctx} {S : Frm} {w w' : World} {St St' : Nat → Prop} {H H' : Gh} {F : Nat → List Nat}
/-- A function that the reader reads, called from outside, some blocks set aside. -/
theorem calls_of_E2 (hP : POk P C) (hgiven : ∀ g h args ds, C.given g = some h → h args = some ds → FnR P C g args ds) (hglob : ∀ g, C.glob g = none) (hg : C.gint = []) (X : Nat → Prop) {f : FuncId} {us : Array Value} {args : List AV} {ds : List Dat} (hl : us.size = args.length)
    (hrel : ∀ s, s < args.length → ∀ H, RelS C.T w (fun b => b < w.heap.size ∧ ¬ X b) H (us.getD s undef) [] (geti args s)) (hment : ∀ s, s < args.length → ∀ x, ment x (geti args s) = false) (hbox : ∀ s, s < args.length → isBox (geti args s) = false)
    (hfn : (C.fn f).isSome = true) (hio : C.io f = false) (he : E C f args = some ds) :
    Calls P f us w fun e w' => ∃ v, e = .returned v ∧ Below w.heap.size w w' ∧ ∃ (St' : Nat → Prop) (fR : List Nat) (Hc : Gh), (∀ b, St' b → b < w'.heap.size ∧ ((b < w.heap.size ∧ ¬ X b) ∨ w.heap.size ≤ b)) ∧ RelS C.T w' St' Hc v fR (resV 0 (C.rk f) ds) := by
  obtain ⟨n, hn⟩ := E_ev he
  have hgeti : ∀ s, args.length ≤ s → geti args s = .und := fun s hs => geti_ge hs
  have hm : ∀ s x, ment x (geti args s) = false := fun s x => by
    by_cases hs : s < args.length
    · exact hment s hs x
    · rw [hgeti s (by omega)]; rfl
  have hb : ∀ s, isBox (geti args s) = false := fun s => by
    by_cases hs : s < args.length
    · exact hbox s hs
    · rw [hgeti s (by omega)]; rfl
  let H0 : Gh := ⟨fun _ _ => (none, 0, 0), fun _ => (0, 0)⟩
  have hinv : Inv C.T ⟨w, (fun b => b < w.heap.size ∧ ¬ X b), [], none⟩ us w (fun b => b < w.heap.size ∧ ¬ X b) H0 (fun _ => []) args [] := {
    len := hl.symm
    keep := ⟨rfl, rfl, rfl, Nat.le_refl _, fun _ _ _ => rfl, fun j b o n hp => by cases hp⟩
    st0 := fun _ h => h
    stl := fun b hb => ⟨hb.1, .inl hb⟩
    rel := fun s hs => hrel s hs H0
    out := fun _ _ => rfl
    one := fun s t b hb _ => by cases hb
    nd := fun _ => List.nodup_nil
    fre := fun s b hb => by cases hb
    and := List.nodup_nil
    afr := fun b hb => by cases hb
    ment := fun s x hx => by rw [hm s x] at hx; cases hx
    box := fun s hs => by rw [hb s] at hs; cases hs
    pbox := fun s cs hs => by have := hb s; rw [hs] at this; simp [isBox] at this
    pbx := fun j b o n hp => by cases hp }
  have hF : FOk C ⟨w, (fun b => b < w.heap.size ∧ ¬ X b), [], none⟩ := ⟨fun g v hv => absurd hv (by rw [hglob g]; intro h; cases h), fun b hb => ⟨hb.1, by simp⟩, (fun j b o n hp => by cases hp), fun p hp => by rw [hg] at hp; cases hp⟩
  have hc := (ev_ok hP hgiven n f args ds hn).fn hio ⟨w, (fun b => b < w.heap.size ∧ ¬ X b), [], none⟩ us H0 (fun _ => []) hF hinv (fun j b o n hp => by cases hp)
  unfold CallOk at hc
  rw [hP.enter f hfn] at hc
  simp only at hc
  refine hc.mono fun e W' he => ?_
  cases e with
  | returned v =>
    obtain ⟨St', G, fR, fP, p1, p2, p3, p4, p5, p6, p7, p8⟩ := he
    refine ⟨v, rfl, ⟨p1.os, p1.tape, p1.output, p1.size, fun k hk => p1.heap k hk (by simp)⟩, St', fR, ⟨fun _ => G, fun _ => (0, 0)⟩, fun b hb => ⟨(p3 b hb).1, ?_⟩, p6 ⟨fun _ => G, fun _ => (0, 0)⟩ 0 (fun _ => rfl)⟩
    rcases (p3 b hb).2.2 with h | h | h
    · exact .inl h
    · cases h
    · exact .inr h
  | panicked c => exact he.elim
  | outgrown => exact he.elim
/-- A literal's pair is laid into a map that the call made. -/
theorem wpList_insert_own {H : Type} {P : Program} (w : World) {ops : Array Oper} {rest : List Oper} {o : Oper} {a : Act} {Q : Exit → Act → World → Prop}
    (hg : o.guard = none) (m x v : Operand) (t : TypeId) (hop : o.op = Op.insert t m x v)
    (k e : TypeId) (K : Go.Maps.Keyed P k) (ht : P.underlying t = some (.map k e)) (R : Value → Option (DataW H × List MemPlace)) (b n : Nat) (D : DataW H)
    (hm : a.eval m = .map (some b)) (hown : w.ownsMap P k R b n D) (hn : n < maxLen) (key val : Value) (kl : Lit) (hx : a.eval x = key) (hv : a.eval v = val) (hkey : keyOf P k key = some kl)
    (d : DataW H) (ps : List MemPlace) (hval : R val = some (d, ps))
    (hK : ∀ w', w'.ownsMap P k R b (n + 1) (D.put kl d) → w.grownBy w' (some b) → wpList P ops Q rest (a.put o.dst undef) w') :
    wpList P ops Q (o :: rest) a w := by
  refine wpList_plain hg fun K' hK' => ?_
  obtain ⟨w', hrun, r1, r2⟩ := hown.update K ht hn hkey hval
  unfold Oper.wp
  simp [execOp, hop, hm, hx, hv, hrun, Result.andThen]
  exact hK' _ _ (hK w' r1 r2)
theorem ownsMap_below {H : Type} {P : Program} {k : TypeId} {R : Value → Option (DataW H × List MemPlace)} {b n : Nat} {D : DataW H} (h : w.ownsMap P k R b n D) (hb : Below w.heap.size w w') : w'.ownsMap P k R b n D := by
  have hl := h.lt
  obtain ⟨es, c, h1, h2⟩ := h
  exact ⟨es, c, by rw [hb.block b hl]; exact h1, h2⟩
theorem ownsRow_below {base : Nat} {e : TypeId} {size : Nat} {v : Value} {n : Nat} {xs : List Value} (h : w.ownsRow base e size v n xs) (hb : Below w.heap.size w w') : w'.ownsRow base e size v n xs := by
  refine ⟨h.1, ?_⟩
  rcases h.2 with h | ⟨g, cap, cur, h1, h2, h3, h4⟩
  · exact .inl h
  · exact .inr ⟨g, cap, cur, h1, h2, by rw [hb.block g (Array.getElem?_eq_some_iff.1 h3).1]; exact h3, h4⟩
/-- A map's datum, and the pairs. -/
structure MapR (D : DataW Unit) (m : List (Int × Int)) : Prop where
  is : Go.Maps.IsMap D
  at_ : ∀ k : Int, D.atKey (.int .i64 k) (.lit (.int .i64 0)) = .lit (.int .i64 ((lookB m k).getD 0))
  has : ∀ k : Int, Go.Maps.has D (.int .i64 k) = (lookB m k).isSome
theorem MapR.nil : MapR (.map []) [] := ⟨⟨_, rfl⟩, fun k => rfl, fun k => rfl⟩
theorem MapR.put {D : DataW Unit} {m : List (Int × Int)} (h : MapR D m) (k v : Int) : MapR (D.put (.int .i64 k) (.lit (.int .i64 v))) ((k, v) :: m) := by
  have hk : Go.WideAt.IsKeyLit (.int .i64 k) := by first | trivial | exact ⟨_, _, rfl⟩ | simp [Go.WideAt.IsKeyLit]
  refine ⟨h.is.put _ _, fun k' => ?_, fun k' => ?_⟩
  · rw [lookB_cons]
    by_cases e : k = k'
    · subst e
      rw [Go.Maps.atKey_put_same h.is hk, if_pos rfl]
      rfl
    · rw [Go.Maps.atKey_put_other (fun q => e (by injection q with _ q; exact q.symm)), if_neg e]
      exact h.at_ k'
  · rw [lookB_cons]
    by_cases e : k = k'
    · subst e
      rw [Go.Maps.has_put_same h.is hk, if_pos rfl]
      rfl
    · rw [Go.Maps.has_put_other (fun q => e (by injection q with _ q; exact q.symm)), if_neg e]
      exact h.has k'
end Go.Ev
namespace Go.Proofs.YtbhffcogeeeidaaDoor.V0
open Go Go.Ev Go.RowKit
set_option linter.unusedVariables false
set_option linter.unusedSimpArgs false
set_option maxRecDepth 100000
def insV (i : Ins) : Value := .agg #[.int .i64 i.op, .int .i64 i.x, .int .i64 i.y, .int .i64 i.z, .int .i64 i.node, .int .i64 i.phase]
def insA (i : Ins) : AV := .agg [.int .i64 i.op, .int .i64 i.x, .int .i64 i.y, .int .i64 i.z, .int .i64 i.node, .int .i64 i.phase]
theorem insA_rel (i : Ins) (w : World) (St : Nat → Prop) (H : Gh) : RelS C.T w St H (insV i) [] (insA i) :=
  ⟨_, rfl, [], [], rfl, ⟨rfl, rfl⟩, [], [], rfl, ⟨rfl, rfl⟩, [], [], rfl, ⟨rfl, rfl⟩, [], [], rfl, ⟨rfl, rfl⟩, [], [], rfl, ⟨rfl, rfl⟩, [], [], rfl, ⟨rfl, rfl⟩, rfl⟩
theorem noGiven : ∀ g h args ds, C.given g = some h → h args = some ds → FnR Tryd.prog C g args ds := fun g h args ds hg _ => by
  have : C.given g = none := rfl
  rw [this] at hg
  cases hg
theorem barred_E (i : Ins) (n : Int) : E C 27 [insA i, .int .i64 n] = some [.bool (Ev.barredB i n)] := by
  apply o27
  unfold Ev.barredB
  by_cases h1 : i.op = 14
  · rw [eT h1, eT h1, if_pos (by omega)]
  rw [eF h1]
  by_cases h2 : i.op = 15
  · rw [eT h2, eT h2, if_pos (by omega)]
  rw [eF h2]
  by_cases h3 : i.op = 16
  · rw [eT h3, eT h3, if_pos (by omega)]
  rw [eF h3]
  by_cases h4 : i.op = 17
  · rw [eT h4, eT h4, if_pos (by omega)]
  rw [eF h4]
  by_cases h5 : i.op = 18
  · rw [eT h5, if_pos (by omega)]
  rw [eF h5, if_neg (by omega)]
  by_cases h6 : i.op = 19
  · rw [eT h6, if_pos h6]
  · rw [eF h6, if_neg h6]
def tgD (l : Int × Int) : Dat := .agg [.int l.1, .int l.2]
theorem leads_E (a : Int) (i : Ins) (n : Int) (ha : -4000000000000 ≤ a ∧ a ≤ 4000000000000) (hn : -4000000000000 ≤ n ∧ n ≤ 4000000000000) : E C 28 [.int .i64 a, insA i, .int .i64 n] = some [.list ((leadsL a i n).map tgD)] := by
  have e1 : IntKind.i64.wrap (a + 1) = a + 1 := w64 (by omega) (by omega)
  have e2 : IntKind.i64.wrap (n + 1) = n + 1 := w64 (by omega) (by omega)
  have e3 : IntKind.i64.wrap (n - 1) = n - 1 := w64 (by omega) (by omega)
  apply o28
  rw [e1, e2, e3]
  unfold leadsL
  have hx : ∀ {α : Type} (p q : α), (bif i.x != (-1) then p else q) = if i.x ≠ -1 then p else q := fun p q => by
    by_cases h : i.x = -1
    · rw [if_neg (by simp [h]), h]; rfl
    · rw [if_pos h, show (i.x != (-1)) = true by simp [h]]; rfl
  by_cases h4 : i.op = 4
  · simp only [eT h4]
    rw [if_pos (.inl h4), hx]
    split <;> rfl
  by_cases h5 : i.op = 5
  · simp only [eF h4, eT h5]
    rw [if_pos (.inr h5), hx]
    split <;> rfl
  rw [if_neg (by omega)]
  by_cases h6 : i.op = 6
  · simp only [eF h4, eF h5, eT h6]
    rw [if_pos h6]
    rfl
  rw [if_neg h6]
  by_cases h8 : i.op = 8
  · simp only [eF h4, eF h5, eF h6, eT h8]
    rw [if_pos h8]
    rfl
  rw [if_neg h8]
  by_cases h10 : i.op = 10
  · simp only [eF h4, eF h5, eF h6, eF h8, eT h10]
    rw [if_pos h10]
    rfl
  rw [if_neg h10]
  by_cases h13 : i.op = 13
  · simp only [eF h4, eF h5, eF h6, eF h8, eF h10, eT h13]
    rw [if_pos h13, hx]
    split <;> rfl
  rw [if_neg h13]
  by_cases h16 : i.op = 16
  · simp only [eF h4, eF h5, eF h6, eF h8, eF h10, eF h13, eT h16]
    rw [if_pos (.inl h16)]
    rfl
  by_cases h17 : i.op = 17
  · simp only [eF h4, eF h5, eF h6, eF h8, eF h10, eF h13, eF h16, eT h17]
    rw [if_pos (.inr h17)]
    rfl
  rw [if_neg (by omega)]
  by_cases h18 : i.op = 18
  · simp only [eF h4, eF h5, eF h6, eF h8, eF h10, eF h13, eF h16, eF h17, eT h18]
    rw [if_pos (.inl h18)]
    rfl
  by_cases h19 : i.op = 19
  · simp only [eF h4, eF h5, eF h6, eF h8, eF h10, eF h13, eF h16, eF h17, eF h18, eT h19]
    rw [if_pos (.inr h19)]
    rfl
  rw [if_neg (by omega)]
  simp only [eF h4, eF h5, eF h6, eF h8, eF h10, eF h13, eF h16, eF h17, eF h18, eF h19]
  rfl
theorem barred_calls (i : Ins) (n : Int) (w : World) : Calls Tryd.prog 27 #[insV i, .int .i64 n] w fun e w' => e = .returned (.bool (Ev.barredB i n)) ∧ Below w.heap.size w w' := by
  refine Calls.mono (calls_of_E2 pok noGiven (fun _ => rfl) rfl (fun _ => False) (by rfl) (fun s hs H => ?_) (fun s hs x => ?_) (fun s hs => ?_) (by kernel_rfl) (by kernel_rfl) (barred_E i n)) ?_
  · match s, hs with
    | 0, _ => exact insA_rel i _ _ _
    | 1, _ => exact ⟨rfl, rfl⟩
  · match s, hs with
    | 0, _ => rfl
    | 1, _ => rfl
  · match s, hs with
    | 0, _ => rfl
    | 1, _ => rfl
  · rintro e w' ⟨v, rfl, hb, St', fR, Hc, h1, h2⟩
    have e1 : v = .bool (Ev.barredB i n) := rel_bool (show RelS C.T w' St' Hc v fR (.bool (Ev.barredB i n)) from h2)
    exact ⟨by rw [e1], hb⟩
theorem leads_calls (X : Nat → Prop) (a : Int) (i : Ins) (n : Int) (ha : -4000000000000 ≤ a ∧ a ≤ 4000000000000) (hn : -4000000000000 ≤ n ∧ n ≤ 4000000000000) (w : World) : Calls Tryd.prog 28 #[.int .i64 a, insV i, .int .i64 n] w fun e w' => ∃ (A : Option Addr) (c b o : Nat), e = .returned (.slice A (leadsL a i n).length c) ∧ Below w.heap.size w w' ∧ (leadsL a i n).length ≤ c ∧
    (leadsL a i n ≠ [] → A = some ⟨b, o, none⟩ ∧ b < w'.heap.size ∧ ((b < w.heap.size ∧ ¬ X b) ∨ w.heap.size ≤ b)) ∧ ∀ (j : Nat) l, (leadsL a i n)[j]? = some l → w'.cell? ⟨b, o + j * 2, none⟩ = some (.int .i64 l.1) ∧ w'.cell? ⟨b, o + j * 2 + 1, none⟩ = some (.int .i64 l.2) := by
  refine Calls.mono (calls_of_E2 pok noGiven (fun _ => rfl) rfl X (by rfl) (fun s hs H => ?_) (fun s hs x => ?_) (fun s hs => ?_) (by kernel_rfl) (by kernel_rfl) (leads_E a i n ha hn)) ?_
  · match s, hs with
    | 0, _ => exact ⟨rfl, rfl⟩
    | 1, _ => exact insA_rel i _ _ _
    | 2, _ => exact ⟨rfl, rfl⟩
  · match s, hs with
    | 0, _ => rfl
    | 1, _ => rfl
    | 2, _ => rfl
  · match s, hs with
    | 0, _ => rfl
    | 1, _ => rfl
    | 2, _ => rfl
  · rintro e w' ⟨v, rfl, hb, St', fR, Hc, h1, h2⟩
    generalize leadsL a i n = ls at h2 ⊢
    obtain ⟨ti, A, cap, b, o, k1, k2, k3, k4, k5⟩ := (show RelD C.T w' St' (.slice 67) v (.list (ls.map tgD)) from h2.2).row
    have hlen : (Dat.list (ls.map tgD)).L.length = ls.length := List.length_map _
    rw [hlen] at k2 k3
    refine ⟨A, cap, b, o, by rw [k2], hb, k3, fun hn => ?_, fun j l hj => ?_⟩
    · have hn' : (Dat.list (ls.map tgD)).L ≠ [] := fun q => hn (List.map_eq_nil_iff.1 q)
      obtain ⟨q1, q2⟩ := k4 hn'
      exact ⟨q1, h1 b q2⟩
    · have hjl := (List.getElem?_eq_some_iff.1 hj).1
      have hn' : (Dat.list (ls.map tgD)).L ≠ [] := fun q => by rw [List.map_eq_nil_iff.1 q] at hjl; simp at hjl
      have ht := (k1 hn').1
      rw [show C.T 67 = some ⟨2, 16, [.int .i64, .int .i64], true, .struct [(0, 3), (1, 3)]⟩ from rfl, Option.some.injEq] at ht
      subst ht
      have hrd : rd (Dat.list (ls.map tgD)).L j = tgD l := by
        show rd (ls.map tgD) j = _
        simp [rd, hj]
      obtain ⟨u, p1, p2⟩ := k5 j 0 (by rw [hlen]; exact hjl) (by decide)
      obtain ⟨u', p1', p2'⟩ := k5 j 1 (by rw [hlen]; exact hjl) (by decide)
      have p3 := p2 (.int .i64) rfl
      have p3' := p2' (.int .i64) rfl
      rw [hrd] at p3 p3'
      constructor
      · cases p3 with
        | int p3 => rw [p3] at p1; exact p1
      · cases p3' with
        | int p3 => rw [p3] at p1'; exact p1'
end Go.Proofs.YtbhffcogeeeidaaDoor.V0
