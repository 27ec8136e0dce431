/- Functions that are given: texts joined; whether a program's barriers are balanced (with what it says, in plain words). -/
import Derived.Test.YtbhffcogeeeidaaDoorEc
import Derived.Lib.Join
namespace Go.Ev
open Go
set_option linter.unusedVariables false
set_option linter.unusedSimpArgs false
/-- An instruction. -/
structure Ins where
  op : Int
  x : Int
  y : Int
  z : Int
  node : Int
  phase : Int
/-- Where an instruction leads, and with how many barriers. -/
def leadsL (a : Int) (i : Ins) (n : Int) : List (Int × Int) :=
  if i.op = 4 ∨ i.op = 5 then (if i.x ≠ -1 then [(a + 1, n), (i.x, n)] else [(a + 1, n)])
  else if i.op = 6 then [(i.x, n)]
  else if i.op = 8 then [(a + 1, n), (i.y, n), (i.z, n)]
  else if i.op = 10 then [(i.y, n)]
  else if i.op = 13 then (if i.x ≠ -1 then [(a + 1, n + 1), (i.x, n)] else [(a + 1, n + 1)])
  else if i.op = 16 ∨ i.op = 17 then [(a + 1, n - 1)]
  else if i.op = 18 ∨ i.op = 19 then []
  else [(a + 1, n)]
def barredB (i : Ins) (n : Int) : Bool := if 14 ≤ i.op ∧ i.op ≤ 18 then decide (n > 0) else if i.op = 19 then n == 0 else true
def lookB (m : List (Int × Int)) (k : Int) : Option Int := (m.find? fun p => p.1 == k).map (·.2)
/-- The leads of an instruction are looked at: the places that are new go onto the stack. -/
def stepB : List (Int × Int) → List (Int × Int) → List Int → Option (List (Int × Int) × List Int)
  | [], m, st => some (m, st)
  | l :: ls, m, st => match lookB m l.1 with
    | some was => if was = l.2 then stepB ls m st else none
    | none => stepB ls (l :: m) (l.1 :: st)
def balG (is : List Ins) : Nat → List (Int × Int) → List Int → Option Bool
  | 0, _, _ => none
  | f + 1, m, [] => some true
  | f + 1, m, a :: st => if a < 0 then none else match is[a.toNat]? with
    | none => none
    | some i => if barredB i ((lookB m a).getD 0) = true then (match stepB (leadsL a i ((lookB m a).getD 0)) m st with
      | none => some false
      | some p => balG is f p.1 p.2) else some false
def balB (is : List Ins) : Option Bool := balG is (is.length + 1) [(0, 0)] [0]
/-! It ends, if all leads are there. -/
def newN (n : Nat) (m : List (Int × Int)) : Nat := ((List.range n).filter fun (k : Nat) => (lookB m (k : Int)).isNone).length
theorem lookB_cons (p : Int × Int) (m : List (Int × Int)) (k : Int) : lookB (p :: m) k = if p.1 = k then some p.2 else lookB m k := by
  unfold lookB
  rw [List.find?_cons]
  by_cases h : p.1 = k
  · rw [if_pos h, show (p.1 == k) = true by simp [h]]; rfl
  · rw [if_neg h, show (p.1 == k) = false by simp [h]]
theorem newN_cons {n : Nat} {m : List (Int × Int)} {p : Int × Int} (h0 : 0 ≤ p.1) (h1 : p.1 < (n : Int)) (h : lookB m p.1 = none) : newN n (p :: m) + 1 = newN n m := by
  obtain ⟨a, b⟩ := p
  obtain ⟨k, rfl⟩ : ∃ k : Nat, a = (k : Int) := ⟨a.toNat, by have : 0 ≤ a := h0; omega⟩
  have hk : k < n := by have : (k : Int) < (n : Int) := h1; omega
  unfold newN
  have e : ∀ L : List Nat, L.Nodup → k ∈ L → (L.filter fun (j : Nat) => (lookB (((k : Int), b) :: m) (j : Int)).isNone).length + 1 = (L.filter fun (j : Nat) => (lookB m (j : Int)).isNone).length := by
    intro L
    induction L with
    | nil => intro _ hk; cases hk
    | cons j L ih =>
      intro hn hk
      obtain ⟨hj, hn⟩ := List.nodup_cons.1 hn
      have hq : lookB (((k : Int), b) :: m) (j : Int) = if (k : Int) = (j : Int) then some b else lookB m (j : Int) := lookB_cons _ _ _
      rw [List.filter_cons, List.filter_cons, hq]
      by_cases c : k = j
      · subst c
        have same : ∀ M : List Nat, k ∉ M → (M.filter fun (j : Nat) => (lookB (((k : Int), b) :: m) (j : Int)).isNone) = M.filter fun (j : Nat) => (lookB m (j : Int)).isNone := by
          intro M hM
          refine List.filter_congr fun x hx => ?_
          rw [lookB_cons]
          have : ((k : Int), b).1 ≠ (x : Int) := fun e => hM (by have e' : (k : Int) = (x : Int) := e; rw [show k = x by omega]; exact hx)
          rw [if_neg this]
        have h' : lookB m (k : Int) = none := h
        rw [if_pos rfl, h', same L hj]
        simp
      · have hkL : k ∈ L := by
          rw [List.mem_cons] at hk
          rcases hk with hk | hk
          · exact absurd hk c
          · exact hk
        have hr := ih hn hkL
        rw [if_neg (show ¬ (k : Int) = (j : Int) by omega)]
        cases (lookB m (j : Int)).isNone with
        | true => rw [if_pos rfl, if_pos rfl, List.length_cons, List.length_cons, hr]
        | false => rw [if_neg (by simp), if_neg (by simp)]; exact hr
  exact e _ List.nodup_range (List.mem_range.2 hk)
theorem stepB_ok {n : Nat} : ∀ (ls m : List (Int × Int)) (st : List Int), (∀ l, l ∈ ls → 0 ≤ l.1 ∧ l.1 < (n : Int)) → (∀ a, a ∈ st → 0 ≤ a ∧ a < (n : Int)) → ∀ p, stepB ls m st = some p → (∀ a, a ∈ p.2 → 0 ≤ a ∧ a < (n : Int)) ∧ newN n p.1 + p.2.length = newN n m + st.length
  | [], m, st, _, h2, p, h => by
    obtain rfl := Option.some.inj h
    exact ⟨h2, rfl⟩
  | l :: ls, m, st, h1, h2, p, h => by
    unfold stepB at h
    have hl := h1 l List.mem_cons_self
    have h1' : ∀ x, x ∈ ls → 0 ≤ x.1 ∧ x.1 < (n : Int) := fun x hx => h1 x (List.mem_cons_of_mem _ hx)
    cases q : lookB m l.1 with
    | some was =>
      rw [q] at h
      dsimp only at h
      split at h
      · exact stepB_ok ls m st h1' h2 p h
      · cases h
    | none =>
      rw [q] at h
      have := stepB_ok ls (l :: m) (l.1 :: st) h1' (fun a ha => by
        rw [List.mem_cons] at ha
        rcases ha with rfl | ha
        · exact hl
        · exact h2 a ha) p h
      refine ⟨this.1, ?_⟩
      have hn := newN_cons hl.1 hl.2 q
      rw [this.2, List.length_cons]
      omega
theorem balG_some {is : List Ins} (hle : ∀ (a : Nat) (h : a < is.length) (n : Int), ∀ l, l ∈ leadsL (a : Int) is[a] n → 0 ≤ l.1 ∧ l.1 < (is.length : Int)) : ∀ (f : Nat) (m : List (Int × Int)) (st : List Int), (∀ a, a ∈ st → 0 ≤ a ∧ a < (is.length : Int)) → newN is.length m + st.length < f → ∃ b, balG is f m st = some b
  | 0, m, st, _, h => by omega
  | f + 1, m, [], _, _ => ⟨true, rfl⟩
  | f + 1, m, a :: st, h1, h2 => by
    have ha := h1 a List.mem_cons_self
    obtain ⟨k, rfl⟩ : ∃ k : Nat, a = (k : Int) := ⟨a.toNat, by omega⟩
    have hk : k < is.length := by omega
    unfold balG
    rw [if_neg (by omega), Int.toNat_natCast, List.getElem?_eq_getElem hk]
    dsimp only
    split
    · cases hs : stepB (leadsL (k : Int) is[k] ((lookB m (k : Int)).getD 0)) m st with
      | none => exact ⟨false, rfl⟩
      | some p =>
        obtain ⟨p1, p2⟩ := stepB_ok _ m st (hle k hk _) (fun x hx => h1 x (List.mem_cons_of_mem _ hx)) p hs
        rw [List.length_cons] at h2
        exact balG_some hle f p.1 p.2 p1 (by omega)
    · exact ⟨false, rfl⟩
theorem newN_le (n : Nat) (m : List (Int × Int)) : newN n m ≤ n := by
  unfold newN
  have := List.length_filter_le (fun (k : Nat) => (lookB m (k : Int)).isNone) (List.range n)
  rw [List.length_range] at this
  exact this
theorem balB_some {is : List Ins} (h0 : 0 < is.length) (hle : ∀ (a : Nat) (h : a < is.length) (n : Int), ∀ l, l ∈ leadsL (a : Int) is[a] n → 0 ≤ l.1 ∧ l.1 < (is.length : Int)) : ∃ b, balB is = some b := by
  refine balG_some hle _ _ _ (fun a ha => by rw [List.mem_singleton] at ha; rw [ha]; omega) ?_
  have h1 := newN_cons (n := is.length) (m := []) (p := (0, 0)) (Int.le_refl 0) (by show (0 : Int) < _; omega) rfl
  have h2 := newN_le is.length []
  rw [List.length_singleton]
  omega
/-! What it says: at each place that can be come to there are always as many barriers, and as many as are needed. -/
inductive Dv (is : List Ins) : Int → Int → Prop where
  | zero : Dv is 0 0
  | step {a n : Int} {i : Ins} {l : Int × Int} : Dv is a n → 0 ≤ a → is[a.toNat]? = some i → l ∈ leadsL a i n → Dv is l.1 l.2
def GoodB (is : List Ins) : Prop := (∀ a n i, Dv is a n → 0 ≤ a → is[a.toNat]? = some i → barredB i n = true) ∧ ∀ a n n', Dv is a n → Dv is a n' → n = n'
theorem stepB_lead : ∀ (ls m : List (Int × Int)) (st : List Int) (p : List (Int × Int) × List Int), stepB ls m st = some p → (∀ k v, lookB m k = some v → lookB p.1 k = some v) ∧ (∀ l, l ∈ ls → lookB p.1 l.1 = some l.2) ∧ (∀ a, a ∈ st → a ∈ p.2) ∧ (∀ k v, lookB p.1 k = some v → lookB m k = some v ∨ (k ∈ p.2 ∧ (k, v) ∈ ls)) ∧ (∀ a, a ∈ p.2 → a ∈ st ∨ ∃ v, lookB p.1 a = some v)
  | [], m, st, p, h => by
    obtain rfl := Option.some.inj h
    refine ⟨fun k v h => h, ?_, fun a h => h, fun k v h => Or.inl h, fun a h => Or.inl h⟩
    intro l hl
    cases hl
  | l :: ls, m, st, p, h => by
    unfold stepB at h
    cases q : lookB m l.1 with
    | some was =>
      rw [q] at h
      dsimp only at h
      split at h
      · rename_i hw
        obtain ⟨h1, h2, h3, h4, h5⟩ := stepB_lead ls m st p h
        refine ⟨h1, fun x hx => ?_, h3, fun k v hk => ?_, h5⟩
        · rw [List.mem_cons] at hx
          rcases hx with rfl | hx
          · rw [← hw]; exact h1 _ _ q
          · exact h2 x hx
        · rcases h4 k v hk with h | h
          · exact .inl h
          · exact .inr ⟨h.1, List.mem_cons_of_mem _ h.2⟩
      · cases h
    | none =>
      rw [q] at h
      obtain ⟨h1, h2, h3, h4, h5⟩ := stepB_lead ls (l :: m) (l.1 :: st) p h
      have hc : ∀ k v, lookB m k = some v → lookB (l :: m) k = some v := fun k v hk => by
        rw [lookB_cons, if_neg (fun e => by rw [e, hk] at q; cases q)]
        exact hk
      have hl : lookB (l :: m) l.1 = some l.2 := by rw [lookB_cons, if_pos rfl]
      refine ⟨fun k v hk => h1 k v (hc k v hk), fun x hx => ?_, fun a ha => h3 a (List.mem_cons_of_mem _ ha), fun k v hk => ?_, fun a ha => ?_⟩
      · rw [List.mem_cons] at hx
        rcases hx with rfl | hx
        · exact h1 _ _ hl
        · exact h2 x hx
      · rcases h4 k v hk with h | h
        · rw [lookB_cons] at h
          split at h
          · rename_i hkk
            obtain rfl := Option.some.inj h
            refine .inr ⟨?_, ?_⟩
            · rw [← hkk]; exact h3 _ List.mem_cons_self
            · rw [← hkk]; exact List.mem_cons_self
          · exact .inl h
        · exact .inr ⟨h.1, List.mem_cons_of_mem _ h.2⟩
      · rcases h5 a ha with h | h
        · rw [List.mem_cons] at h
          rcases h with rfl | h
          · exact .inr ⟨l.2, h1 _ _ hl⟩
          · exact .inl h
        · exact .inr h
theorem stepB_none {is : List Ins} : ∀ (ls m : List (Int × Int)) (st : List Int), (∀ k v, lookB m k = some v → Dv is k v) → (∀ l, l ∈ ls → Dv is l.1 l.2) → stepB ls m st = none → ¬ GoodB is
  | [], m, st, _, _, h => by cases h
  | l :: ls, m, st, h1, h2, h => by
    unfold stepB at h
    have hl := h2 l List.mem_cons_self
    cases q : lookB m l.1 with
    | some was =>
      rw [q] at h
      dsimp only at h
      split at h
      · exact stepB_none ls m st h1 (fun x hx => h2 x (List.mem_cons_of_mem _ hx)) h
      · rename_i hw
        intro hg
        exact hw (hg.2 _ _ _ (h1 _ _ q) hl)
    | none =>
      rw [q] at h
      refine stepB_none ls (l :: m) (l.1 :: st) (fun k v hk => ?_) (fun x hx => h2 x (List.mem_cons_of_mem _ hx)) h
      rw [lookB_cons] at hk
      split at hk
      · rename_i e
        obtain rfl := Option.some.inj hk
        rw [← e]
        exact hl
      · exact h1 k v hk
theorem balG_good {is : List Ins} : ∀ (f : Nat) (m : List (Int × Int)) (st : List Int) (b : Bool), balG is f m st = some b → lookB m 0 = some 0 → (∀ k v, lookB m k = some v → Dv is k v) → (∀ a, a ∈ st → ∃ v, lookB m a = some v) → (∀ k v, lookB m k = some v → k ∈ st ∨ ∀ i, 0 ≤ k → is[k.toNat]? = some i → barredB i v = true ∧ ∀ l, l ∈ leadsL k i v → lookB m l.1 = some l.2) → (b = true ↔ GoodB is)
  | 0, m, st, b, h, _, _, _, _ => by cases h
  | f + 1, m, [], b, h, h0, h1, h2, h3 => by
    obtain rfl := Option.some.inj h
    have all : ∀ a n, Dv is a n → lookB m a = some n := by
      intro a n hd
      induction hd with
      | zero => exact h0
      | step hd ha hi hl ih =>
        rcases h3 _ _ ih with h | h
        · cases h
        · exact (h _ ha hi).2 _ hl
    refine ⟨fun _ => ⟨fun a n i hd ha hi => ?_, fun a n n' hd hd' => ?_⟩, fun _ => rfl⟩
    · rcases h3 _ _ (all a n hd) with h | h
      · cases h
      · exact (h i ha hi).1
    · have e1 := all a n hd
      have e2 := all a n' hd'
      rw [e1] at e2
      exact Option.some.inj e2
  | f + 1, m, a :: st, b, h, h0, h1, h2, h3 => by
    unfold balG at h
    split at h
    · cases h
    · rename_i ha
      have ha' : 0 ≤ a := by omega
      obtain ⟨v, hv⟩ := h2 a List.mem_cons_self
      cases hi : is[a.toNat]? with
      | none => rw [hi] at h; cases h
      | some i =>
        rw [hi, hv] at h
        dsimp only [Option.getD_some] at h
        have hd := h1 a v hv
        cases hb : barredB i v with
        | false =>
          split at h
          · rename_i hb2
            have hb3 : barredB i v = true := hb2
            rw [hb] at hb3
            cases hb3
          obtain rfl := Option.some.inj h
          refine ⟨(fun e => by cases e), fun hg => ?_⟩
          have := hg.1 a v i hd ha' hi
          rw [hb] at this
          cases this
        | true =>
          split at h
          case isFalse hb2 => exact absurd hb hb2
          have hls : ∀ l, l ∈ leadsL a i v → Dv is l.1 l.2 := fun l hl => Dv.step hd ha' hi hl
          cases hs : stepB (leadsL a i v) m st with
          | none =>
            rw [hs] at h
            obtain rfl := Option.some.inj h
            exact ⟨(fun e => by cases e), fun hg => absurd hg (stepB_none _ m st h1 hls hs)⟩
          | some p =>
            rw [hs] at h
            obtain ⟨q1, q2, q3, q4, q5⟩ := stepB_lead _ m st p hs
            refine balG_good f p.1 p.2 b h (q1 _ _ h0) (fun k w hk => ?_) (fun x hx => ?_) (fun k w hk => ?_)
            · rcases q4 k w hk with h | h
              · exact h1 k w h
              · exact hls _ h.2
            · rcases q5 x hx with h | h
              · obtain ⟨w, hw⟩ := h2 x (List.mem_cons_of_mem _ h)
                exact ⟨w, q1 _ _ hw⟩
              · exact h
            · rcases q4 k w hk with h | h
              · rcases h3 k w h with h' | h'
                · rw [List.mem_cons] at h'
                  rcases h' with rfl | h'
                  · right
                    intro i' hk0 hi'
                    rw [hi] at hi'
                    obtain rfl := Option.some.inj hi'
                    rw [hv] at h
                    obtain rfl := Option.some.inj h
                    exact ⟨hb, q2⟩
                  · exact .inl (q3 k h')
                · right
                  intro i' hk0 hi'
                  obtain ⟨r1, r2⟩ := h' i' hk0 hi'
                  exact ⟨r1, fun l hl => q1 _ _ (r2 l hl)⟩
              · exact .inl h.1
theorem balB_good {is : List Ins} {b : Bool} (h : balB is = some b) : b = true ↔ GoodB is := by
  refine balG_good _ _ _ b h rfl (fun k v hk => ?_) (fun a ha => ?_) (fun k v hk => ?_)
  · rw [lookB_cons] at hk
    split at hk
    · rename_i e
      obtain rfl := Option.some.inj hk
      have e' : (0 : Int) = k := e
      rw [← e']
      exact Dv.zero
    · cases hk
  · rw [List.mem_singleton] at ha
    rw [ha]
    exact ⟨0, rfl⟩
  · left
    rw [lookB_cons] at hk
    split at hk
    · rename_i e
      have e' : (0 : Int) = k := e
      rw [← e']
      exact List.mem_cons_self
    · cases hk
def insOf (d : Dat) : Ins := ⟨(d.C 0).I, (d.C 1).I, (d.C 2).I, (d.C 3).I, (d.C 4).I, (d.C 5).I⟩
/-- All leads of all instructions are there. -/
def ldsIn (is : List Ins) : Bool := (List.range is.length).all fun a => (leadsL (a : Int) (is.getD a ⟨0, 0, 0, 0, 0, 0⟩) 0).all fun l => decide (0 ≤ l.1) && decide (l.1 < (is.length : Int))
theorem leads_n (a : Int) (i : Ins) (n n' : Int) : (leadsL a i n).map (·.1) = (leadsL a i n').map (·.1) := by
  unfold leadsL
  repeat' split
  all_goals rfl
theorem ldsIn_iff {is : List Ins} : ldsIn is = true ↔ ∀ (a : Nat) (h : a < is.length) (n : Int), ∀ l, l ∈ leadsL (a : Int) is[a] n → 0 ≤ l.1 ∧ l.1 < (is.length : Int) := by
  unfold ldsIn
  rw [List.all_eq_true]
  constructor
  · intro h a ha n l hl
    have h1 := h a (List.mem_range.2 ha)
    rw [List.all_eq_true, List.getD_eq_getElem?_getD, List.getElem?_eq_getElem ha, Option.getD_some] at h1
    have hm : l.1 ∈ (leadsL (a : Int) is[a] 0).map (·.1) := by rw [leads_n _ _ 0 n]; exact List.mem_map.2 ⟨l, hl, rfl⟩
    obtain ⟨l', h2, h3⟩ := List.mem_map.1 hm
    have := h1 l' h2
    rw [Bool.and_eq_true, decide_eq_true_eq, decide_eq_true_eq, h3] at this
    exact this
  · intro h a ha
    have ha := List.mem_range.1 ha
    rw [List.all_eq_true, List.getD_eq_getElem?_getD, List.getElem?_eq_getElem ha, Option.getD_some]
    intro l hl
    rw [Bool.and_eq_true, decide_eq_true_eq, decide_eq_true_eq]
    exact h a ha 0 l hl
/-- (clew/code.Program).balanced; at types of instructions, sets, loops. -/
def gBal (tI tS tL : TypeId) : List AV → Option (List Dat)
  | [.agg [.shr a is, .shr b _, .shr c _, .int .i64 _]] => bif Nat.beq a tI && (Nat.beq b tS && (Nat.beq c tL && (decide (is.length ≤ 4294967296) && ldsIn (is.map insOf)))) then (balB (is.map insOf)).map fun r => [.bool r] else none
  | _ => none
/-- strings.Join, of strings -/
def gJoin (tS : TypeId) : List AV → Option (List Dat)
  | [.shr e l, .str sep] => bif Nat.beq e tS && (decide (l.length ≤ 1000) && decide ((Go.Lib.join (l.map fun d => d.S.data.toList) sep.data.toList).length ≤ 4294967296)) then some [.str ⟨(Go.Lib.join (l.map fun d => d.S.data.toList) sep.data.toList).toArray⟩] else none
  | _ => none
end Go.Ev
