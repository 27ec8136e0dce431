/- clewlaw01.anchor, by hand: the call answers true; nothing that was there is turned. -/
import Derived.Test.YtjgbhajaiifimaaDoorGSyms
import Derived.Lib.SlBytesConst
namespace Go.Proofs.YtjgbhajaiifimaaDoor.P
open Go.RowKit Go.Proofs.YtjgbhajaiifimaaDoorW.PrintWords Go.Proofs.YtjgbhajaiifimaaDoorW.PrintLast Go.Proofs.YtjgbhajaiifimaaDoorW.PrintMore
set_option linter.unusedVariables false
set_option linter.unusedSimpArgs false

/-- A row of bytes that has just been laid, marked or not, is read. -/
theorem lit_C (w : World) (xs : List Int) (fr : Nat × Nat) (hl : xs.length ≤ 9223372036854775807) : Kd.C (Kd.int .u8) (w.alloc (.cells (xs.map (Value.int .u8)).toArray 5 fr)) (some ⟨w.heap.size, 0, none⟩) xs.length xs := by
  refine ⟨rfl, hl, fun _ => ⟨_, rfl, fun j p hj => ⟨[.int .u8 p], rfl, rfl, fun i u hi => ?_⟩⟩⟩
  obtain ⟨hlt, hp⟩ := List.getElem?_eq_some_iff.1 hj
  match i, hi with
  | 0, hi =>
    obtain rfl : Value.int .u8 p = u := by simpa using hi
    have h1 : (w.alloc (.cells (xs.map (Value.int .u8)).toArray 5 fr)).heap[w.heap.size]? = some (.cells (xs.map (Value.int .u8)).toArray 5 fr) := heap_alloc_new _ _
    have h2 : ((⟨w.heap.size, 0, none⟩ : Addr).add (j * (Kd.int .u8).sz + 0)) = ⟨w.heap.size, j, none⟩ := by
      show (⟨w.heap.size, 0, none⟩ : Addr).add (j * 1 + 0) = _
      simp only [Addr.add]
      split
      · have : j = 0 := by omega
        subst this
        rfl
      · simp
    rw [h2]
    simp only [World.cell?, h1]
    simp [hlt, hp]
  | i + 1, hi => simp at hi

def clewlaw01_anchor.f : Option Bool := some true
set_option maxHeartbeats 4000000 in
set_option maxRecDepth 100000 in
theorem clewlaw01_anchor.calls (r : Bool) (w : World) (hT_ : TabsOk w) (h : clewlaw01_anchor.f = some r) :
    Calls Tryd.prog 15 #[] w fun e w' => e = .returned (.bool r) ∧ Below w.heap.size w w' := by
  obtain rfl : true = r := Option.some.inj h
  clear h
  have hall : sym_All.f [65, 195, 169, 195, 255] = some [65, 233, 1114307, 1114367] := by decide +kernel
  have kc : (convert 22 22 (.slice (some ⟨w.heap.size, 0, none⟩) 5 5)).run Tryd.prog (w.alloc (.cells #[.int .u8 65, .int .u8 195, .int .u8 169, .int .u8 195, .int .u8 255] 5)) = .ok (.slice (some ⟨w.heap.size, 0, none⟩) 5 5) (w.alloc (.cells #[.int .u8 65, .int .u8 195, .int .u8 169, .int .u8 195, .int .u8 255] 5 (5, 6))) := Go.Lib.run_convert_bytes_const (P := Tryd.prog) w 22 5 #[.int .u8 65, .int .u8 195, .int .u8 169, .int .u8 195, .int .u8 255] 5 5 Tryd.underlying22 Tryd.underlying5
  have hc : Kd.C (Kd.int .u8) (w.alloc (.cells #[.int .u8 65, .int .u8 195, .int .u8 169, .int .u8 195, .int .u8 255] 5 (5, 6))) (some ⟨w.heap.size, 0, none⟩) 5 [65, 195, 169, 195, 255] := lit_C w [65, 195, 169, 195, 255] (5, 6) (by simp)
  have hb1 : Below w.heap.size w (w.alloc (.cells #[.int .u8 65, .int .u8 195, .int .u8 169, .int .u8 195, .int .u8 255] 5 (5, 6))) := (Below.refl _ w).alloc (Nat.le_refl _) _
  have hcall := sym_All.calls (some ⟨w.heap.size, 0, none⟩) 5 [65, 195, 169, 195, 255] [65, 233, 1114307, 1114367] _ (TabsOk.below hT_ hb1) hc (by simp) hall
  clear hT_ hc hall
  have HB1 := Aside0.mk hb1
  clear hb1
  go_enter Tryd.func15, Tryd.ntmps15
  go_wp2_with fail
  refine hcall.mono ?_
  rintro e w2 ⟨v, rfl, hr, hb2⟩
  have hs4 : ∃ A1 c1, v = .slice A1 4 c1 ∧ Kd.C (Kd.int .i64) w2 A1 4 [65, 233, 1114307, 1114367] := by
    obtain ⟨A1, c1, rfl, hc1, hC1⟩ := Kd.R_reads hr
    exact ⟨A1, c1, rfl, hC1⟩
  obtain ⟨A1, c1, rfl, hC1'⟩ := hs4
  obtain ⟨ad, rfl, x0⟩ := Kd.at_int hC1' 0 (by omega) (by omega)
  obtain ⟨_, e1, x1⟩ := Kd.at_int hC1' 1 (by omega) (by omega)
  obtain rfl := Option.some.inj e1
  obtain ⟨_, e2, x2⟩ := Kd.at_int hC1' 2 (by omega) (by omega)
  obtain rfl := Option.some.inj e2
  obtain ⟨_, e3, x3⟩ := Kd.at_int hC1' 3 (by omega) (by omega)
  obtain rfl := Option.some.inj e3
  have y0 : w2.cell? ad = some (.int .i64 65) := x0
  have y1 : w2.cell? ⟨ad.block, ad.off + 1, none⟩ = some (.int .i64 233) := x1
  have y2 : w2.cell? ⟨ad.block, ad.off + 2, none⟩ = some (.int .i64 1114307) := x2
  have y3 : w2.cell? ⟨ad.block, ad.off + 3, none⟩ = some (.int .i64 1114367) := x3
  have HB2 := Aside0.mk hb2
  clear hr hC1' x0 x1 x2 x3 e1 e2 e3 hb2 hcall
  go_wp2
  go_ret
  exact ⟨rfl, HB1.out.trans (HB2.out.mono HB1.out.size)⟩
end Go.Proofs.YtjgbhajaiifimaaDoor.P
