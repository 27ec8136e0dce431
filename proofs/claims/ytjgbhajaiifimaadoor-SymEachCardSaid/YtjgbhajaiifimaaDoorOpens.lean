/- Handed values opened: what a handed struct, or slice of structs, is, as the printed walks take it. -/
import Derived.ChangeSlices
import Derived.SizedLaws
import Derived.DataElems
import Derived.DataReads
import Derived.Test.YtjgbhajaiifimaaDoorWWords
namespace Go.Proofs.YtjgbhajaiifimaaDoor.P
set_option linter.unusedVariables false
set_option linter.unusedSimpArgs false
open Go.RowKit Go.ChangeShapes Go.WideShapes Go.Proofs.YtjgbhajaiifimaaDoorW.PrintWords

theorem list_of_each {α : Type} {Q : Nat → α → Prop} : ∀ n : Nat, (∀ i, i < n → ∃ a, Q i a) → ∃ l : List α, l.length = n ∧ ∀ i a, l[i]? = some a → Q i a := by
  intro n
  induction n with
  | zero => exact fun _ => ⟨[], rfl, fun i a h => by simp at h⟩
  | succ n ih =>
    intro h
    obtain ⟨l, hl, hq⟩ := ih (fun i hi => h i (by omega))
    obtain ⟨a, ha⟩ := h n (by omega)
    refine ⟨l ++ [a], by simp [hl], fun i b hb => ?_⟩
    by_cases hi : i < n
    · rw [List.getElem?_append_left (by omega)] at hb
      exact hq i b hb
    · rw [List.getElem?_append_right (by omega), hl] at hb
      have hi2 : i - n = 0 := by
        have := (List.getElem?_eq_some_iff.1 hb).1
        simp at this
        omega
      rw [hi2] at hb
      have e : i = n := by omega
      subst e
      simp only [List.getElem?_cons_zero, Option.some.injEq] at hb
      subst hb
      exact ha

section
variable {α β H : Type} {enc : TypeId × Value → H} {P : Program} {W : World} {base : Nat} {spare : Nat → Bool} {held : Bool}

def Opens (enc : TypeId × Value → H) (P : Program) (W : World) (base : Nat) (spare : Nat → Bool) (held : Bool) (d : Kd α) (wf : α → Prop) (t : TypeId) : Prop :=
  ∀ (fuel : Nat) (cs : List Value) (x : DataW H × List MemPlace), DataW.trod enc P W base spare held fuel t cs = some x → (∀ n ∈ x.1.weights P t, n ≤ reachBytes) → ∃ a, d.K W a cs ∧ wf a

theorem opens_int {t : TypeId} {k : IntKind} (ht : P.underlying t = some (.int k)) : Opens enc P W base spare held (Kd.int k) (fun n => (Lit.int k n).wf = true) t := by
  intro fuel cs x h _
  obtain ⟨m, rfl, rfl, hw⟩ := DataW.trod_int ht h
  exact ⟨m, rfl, hw⟩

theorem weightsAll_mem {P : Program} {e : TypeId} : ∀ {l : List (DataW H)} {d : DataW H}, d ∈ l → ∀ n ∈ d.weights P e, n ∈ DataW.weightsAll P e l
  | [], _, h, _, _ => by cases h
  | d0 :: r, d, h, n, hn => by
    simp only [DataW.weightsAll, List.mem_append]
    rcases List.mem_cons.mp h with rfl | h
    · exact .inl hn
    · exact .inr (weightsAll_mem h n hn)

theorem opens_struct2 {t : TypeId} {f0 f1 : Field} {d0 : Kd α} {d1 : Kd β} {wf0 : α → Prop} {wf1 : β → Prop} (ht : P.underlying t = some (.struct #[f0, f1]))
    (ho0 : f0.offset = 0) (hc0 : P.cellsOf f0.type = d0.sz) (ho1 : f1.offset = d0.sz) (hc1 : P.cellsOf f1.type = d1.sz) (hct : P.cellsOf t = d0.sz + d1.sz)
    (h0 : Opens enc P W base spare held d0 wf0 f0.type) (h1 : Opens enc P W base spare held d1 wf1 f1.type) : Opens enc P W base spare held (Kd.pair d0 d1) (fun p => wf0 p.1 ∧ wf1 p.2) t := by
  intro fuel cs x h hs
  obtain ⟨y0, y1, n, rfl, hl, g0, g1⟩ := trod_struct2 ht h
  have hw : DataW.weights P t (DataW.agg [y0.1, y1.1]) = DataW.weights P f0.type y0.1 ++ (DataW.weights P f1.type y1.1 ++ []) := by
    simp [DataW.weights, ht, DataW.weightsEach]
  rw [hw] at hs
  obtain ⟨a, ka, wa⟩ := h0 n _ y0 g0 (fun m hm => hs m (by simp [hm]))
  obtain ⟨b, kb, wb⟩ := h1 n _ y1 g1 (fun m hm => hs m (by simp [hm]))
  refine ⟨(a, b), ⟨_, _, ?_, ka, kb⟩, wa, wb⟩
  rw [ho0, hc0, ho1, hc1, List.drop_zero]
  rw [hct] at hl
  rw [List.take_of_length_le (l := cs.drop d0.sz) (by simp; omega), List.take_append_drop]

theorem Opens.iso {d : Kd α} {wf : α → Prop} {t : TypeId} (f : β → α) (g : α → β) (hg : ∀ a, f (g a) = a) (h : Opens enc P W base spare held d wf t) : Opens enc P W base spare held (Kd.iso d f) (fun b => wf (f b)) t := by
  intro fuel cs x hx hs
  obtain ⟨a, ka, wa⟩ := h fuel cs x hx hs
  exact ⟨g a, by show d.K W (f (g a)) cs; rw [hg]; exact ka, by show wf (f (g a)); rw [hg]; exact wa⟩

theorem opens_slice {t e : TypeId} {B : Nat} {d : Kd α} {wf : α → Prop} (ht : P.underlying t = some (.slice e)) (hc : P.cellsOf e = d.sz) (hB : P.bytesOf e = B) (he : Opens enc P W base spare held d wf e) :
    Opens enc P W base spare held (Kd.slice e d) (fun l => l.length * B ≤ 140737488351232 ∧ ∀ x ∈ l, wf x) t := by
  intro fuel cs x h hs
  rcases DataW.trod_slice ht h with ⟨rfl, rfl⟩ | ⟨a, len, cap, elems, rest, n, _, rfl, rfl, hb, hl, hm, hlen, hel, hsp, hns⟩
  · exact ⟨[], ⟨none, 0, rfl, Nat.le_refl _, rfl, by simp, fun h => absurd h (Nat.lt_irrefl _)⟩, by simp, by simp⟩
  have hw : DataW.weights P t (DataW.slice (elems.map (·.1)) (rest.map (·.1))) = ((elems.map (·.1)).length + (rest.map (·.1)).length) * P.bytesOf e :: (DataW.weightsAll P e (elems.map (·.1)) ++ DataW.weightsAll P e (rest.map (·.1))) := by
    simp [DataW.weights, ht]
  rw [hw] at hs
  have each : ∀ i, i < len → ∃ b : α, (∃ c, c.length = d.sz ∧ d.K W b c ∧ ∀ j u, c[j]? = some u → W.cell? (a.add (i * d.sz + j)) = some u) ∧ wf b := by
    intro i hi
    obtain ⟨y, hy⟩ : ∃ y, elems[i]? = some y := ⟨elems[i], List.getElem?_eq_getElem (by omega)⟩
    have hb' := hel i hi
    rw [hy, Option.bind_eq_some_iff] at hb'
    obtain ⟨cs', hcs, hy'⟩ := hb'
    obtain ⟨_, hlen', hcell⟩ := World.cells?_some hcs
    obtain ⟨b, kb, wb⟩ := he n cs' y hy' (fun m hm => hs m (by
      simp only [List.mem_cons, List.mem_append]
      exact .inr (.inl (weightsAll_mem (List.mem_map.mpr ⟨y, List.mem_of_getElem? hy, rfl⟩) m hm))))
    refine ⟨b, ⟨cs', d.K_len kb, kb, fun j u hu => ?_⟩, wb⟩
    have hj : j < cs'.length := (List.getElem?_eq_some_iff.1 hu).1
    have hc1 := hcell j (by omega)
    rw [hc, Addr.add_add] at hc1
    rw [hc1, hu]
  obtain ⟨l, hll, hl2⟩ := list_of_each len each
  have h0 := hs _ (List.mem_cons_self)
  rw [List.length_map, List.length_map, hlen, hB] at h0
  have hr : reachBytes = 140737488351232 := by decide
  have hm2 : len ≤ 9223372036854775807 := by
    have : maxLen = 9223372036854775807 := by decide
    omega
  refine ⟨l, ⟨some a, cap, by rw [hll], by omega, by rw [hll], by omega, fun _ => ⟨a, rfl, fun j p hp => (hl2 j p hp).1⟩⟩, ?_, fun y hy => ?_⟩
  · rw [hll]
    exact Nat.le_trans (Nat.mul_le_mul_right _ (Nat.le_add_right _ _)) (hr ▸ h0)
  · obtain ⟨j, hj⟩ := List.getElem?_of_mem hy
    exact (hl2 j y hj).2
end
end Go.Proofs.YtjgbhajaiifimaaDoor.P
