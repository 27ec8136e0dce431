/- sym.All, by hand: for all bytes that are read the call answers all symbols, in new memory; nothing that was there is turned. -/
import Derived.Test.YtjgbhajaiifimaaDoorVEach
namespace Go.Proofs.YtjgbhajaiifimaaDoor.V0
open Go Go.Ev Go.RowKit Go.Shelf
attribute [local go_sem] Oper.semAt_some
set_option linter.unusedVariables false
set_option linter.unusedSimpArgs false

theorem intInfo : (Tryd.prog.info? 3).map (fun i => (i.zero, i.size, i.bytes)) = some (some (.int .i64 0), 1, 8) := by kernel_rfl

/-- Behind an append into a variable of the call's own: another variable, of another type, is kept. -/
theorem Boxed.kept_append {W w1 : World} {B B2 : Nat} {t2 e : TypeId} {v v' u : Value} {k : Nat} {xs : List Value} {base size : Nat} {tmp : Obj} (h2 : Boxed W B2 t2 u) (ht2 : t2 ≠ e) (hrow : W.ownsRow base e size v k xs) (hgrow : (W.alloc tmp).grownBy w1 v.ownBlock) (hne : B2 ≠ B) : Boxed (w1.setCell ⟨B, 0, none⟩ v') B2 t2 u :=
  (Below.heap_setCell _ _ _ _ hne).trans ((h2.alloc tmp).kept hgrow (h2.not_row ht2 hrow))
theorem keepB_of {n0 Bs : Nat} {W W' : World} {t : TypeId} {u : Value} (hb : Below n0 W W') (h1 : Boxed W Bs t u) (h2 : Boxed W' Bs t u) : KeepB n0 Bs W W' := ⟨hb, fun o ho => by
  have h3 := (show W.heap[Bs]? = _ from h1).symm.trans ho
  rw [← h3]
  exact h2⟩

set_option maxRecDepth 100000 in
set_option maxHeartbeats 4000000 in
theorem sym_All.calls (A0 : Option Addr) (c0 : Nat) (l0 : List Int) (r : List Int) (w : World) (hT_ : TabsOk w) (hr0 : BA w A0 l0) (hc0 : l0.length ≤ c0) (hby : isBytes l0 = true) (hlen : l0.length ≤ 1000000000000) (h : symsR l0 = r) :
    Calls Tryd.prog 20 #[.slice A0 l0.length c0] w fun e w' => ∃ v0_ : Value, e = .returned v0_ ∧ w'.ownsRow w.heap.size 3 1 v0_ r.length (r.map (Value.int .i64)) ∧ Below w.heap.size w w' := by
  subst h
  obtain ⟨i0, hi, hz0, hz1, hz2⟩ := info_parts intInfo
  have hea := eachAll_length l0
  refine (callsIn_wide (n := 3)).1 ?_
  refine callsIn_of_wp_marks Tryd.func20 rfl trivial ?_ rfl
  simp only [Tryd.ntmps20, List.size_toArray, List.length_cons, List.length_nil, Nat.reduceAdd, Nat.reduceSub, Array.replicate_succ, Array.replicate_zero, List.push_toArray, List.append_toArray, List.nil_append, List.cons_append]
  gi_wp2_with (refine ⟨trivial, ?_⟩; gi_at_call 19; refine (each_in _ _ _ _ _).mono ?_; rintro e w' ⟨rfl, rfl⟩)
  have bO := Boxed.new w 27 (.slice none 0 0)
  have bN := Boxed.new (w.alloc (.cells #[.slice none 0 0] 27)) 22 (.slice A0 l0.length c0)
  rw [World.size_alloc] at bN
  have hB0 : Below w.heap.size w ((w.alloc (.cells #[.slice none 0 0] 27)).alloc (.cells #[.slice A0 l0.length c0] 22)) := ((Below.refl _ w).alloc (Nat.le_refl _) _).alloc (by simp) _
  refine wpIn_rangeFunc_ownG rfl (by omega) (gf := 41) (lb := #[.pointer (some ⟨w.heap.size + 1, 0, none⟩)]) rfl trivial (enters_of Tryd.func41 (by kernel_rfl) rfl)
    (each_stops _ (by omega) w hT_ A0 c0 l0 hr0 hc0 hby (by omega) (w.heap.size + 1) _ hB0 (by simp) bN.cell) KeepB.trans (keepB_b (by simp; omega) (by simp)) (Below.refl _ _) (fun _ => rfl)
    (fun (pre : List (Nat × Int)) W => (∃ v, Boxed W w.heap.size 27 v ∧ W.ownsRow w.heap.size 3 1 v pre.length (pre.map fun p => Value.int .i64 p.2) ∧ True) ∧ Boxed W (w.heap.size + 1) 22 (.slice A0 l0.length c0) ∧ Below w.heap.size w W)
    (fun _ _ _ => False)
    (OwnFrom.and (Own.from (holdsRow_own w.heap.size w.heap.size 27 3 1 (fun (pre : List (Nat × Int)) => pre.length) (fun pre => pre.map fun p => Value.int .i64 p.2) (fun _ _ => True)) _) (OwnFrom.and (Own.from (boxed_own _ _ _) _) (ownFrom_below (Nat.le_refl _) (by simp; omega))))
    (fun _ _ _ _ _ hs _ _ => hs)
    ⟨⟨_, bO.alloc _, World.ownsRow_nil _ _ _ _, trivial⟩, bN, hB0⟩
    (fun x => { tmps := #[.slice A0 l0.length c0, undef, .slice none 0 0, .pointer (some ⟨w.heap.size, 0, none⟩), undef, .int .i64 x.2, .slice A0 l0.length c0, .func (.func 41) #[] #[.pointer (some ⟨w.heap.size + 1, 0, none⟩)], .int .i64 (x.1 : Int), .int .i64 x.2, undef, undef, undef, undef, undef], defers := [] }) ?assign ?body ?done ?stop
  case assign =>
    intro l x W K hK
    gi_wp2
    exact hK
  case body =>
    rintro l pre x W ⟨⟨v, hv, hrow, _⟩, hb1, hB⟩ hlt
    have hc := hv.cell
    have hBl := hb1.lt
    have hm1 : pre.length + 1 ≤ maxLen := by unfold maxLen; omega
    gi_wp2_with (gi_at_builtin; refine wpListIn_append_own _ rfl _ _ 27 rfl w.heap.size 3 i0 (.int .i64 0) 1 8 Tryd.underlying27 hi hz0 hz1 hz2 rfl (by decide) _ _ _ rfl (hrow.alloc _) ⟨W.heap.size, 0, none⟩ 1 1 [.int .i64 x.2] rfl rfl (cell_one_new _ _ _) (by simp [Value.oneCell']) (by omega) (by omega) (by have := hB.size; simp; omega) ?_; intro v' w1 hown' hgrow _; obtain ⟨g', cap', rfl⟩ := ownsRow_succ hown'; have hb2 := Boxed.kept_append (B := w.heap.size) (v' := .slice (some ⟨g', 0, none⟩) (pre.length + 1) cap') hb1 (by decide) hrow hgrow (by omega); obtain ⟨hv1, hv2, hr2, hk2, hbb2⟩ := hv.appended (by decide) hrow hB.size (Nat.le_refl _) hown' hgrow; have hc1 := hv1.cell; have hf1 := hv1.frozen)
    exact ⟨hk2.from _, keepB_of hbb2 hb1 hb2, ⟨_, hv2, by simpa using hr2, trivial⟩, hb2, hB.trans hbb2⟩
  case done =>
    rintro D ys W hD rfl ⟨⟨v, hv, hrow, _⟩, hb1, hB⟩ hK
    have hc := hv.cell
    gi_wp2
    refine ⟨by simp, .inl ⟨_, _, rfl, run_takeDeferred hK, ?_⟩⟩
    refine ⟨_, results_tmp rfl _ _ _, v, rfl, ?_, hB.trans (belowK_b (w := w) (Nat.le_refl _) W D _ _ (by simp at hD; omega) hK rfl rfl)⟩
    have h1 := ownsRow_putObj hrow (.deferred none) hK rfl
    simpa [symsR, Function.comp_def] using h1
  case stop =>
    rintro D c pre W _ _ h _
    exact h.elim
end Go.Proofs.YtjgbhajaiifimaaDoor.V0
