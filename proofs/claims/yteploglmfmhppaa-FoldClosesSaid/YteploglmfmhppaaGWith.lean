/- clewref03.with, by hand: for every number the call answers what it goes with; nothing that was there is turned. -/
import Derived.Test.YteploglmfmhppaaPx0
import Derived.Laws.Tables
namespace Go.Proofs.Yteploglmfmhppaa.P
open Go.RowKit Go.Proofs.YteploglmfmhppaaW.PrintWords Go.Proofs.YteploglmfmhppaaW.PrintLast Go.Proofs.YteploglmfmhppaaW.PrintMore
set_option linter.unusedVariables false
set_option linter.unusedSimpArgs false

/-- The document's rows: from, to, the step, how far. -/
def refRows : List (Int × Int × Int × Int) := [(65, 90, 1, 32), (192, 214, 1, 32), (216, 222, 1, 32), (256, 302, 2, 1), (306, 310, 2, 1), (313, 327, 2, 1), (330, 374, 2, 1), (377, 381, 2, 1), (913, 929, 1, 32), (931, 939, 1, 32), (1024, 1039, 1, 80), (1040, 1071, 1, 32), (1120, 1152, 2, 1), (1329, 1366, 1, 48), (7680, 7828, 2, 1), (9398, 9423, 1, 26), (65313, 65338, 1, 32), (66560, 66599, 1, 40)]
def refSingles : List (Int × Int) := [(181, 956), (376, 255), (383, 115), (962, 963), (8490, 107), (8491, 229)]
def rowHas (x : Int) (r : Int × Int × Int × Int) : Bool := decide (r.1 ≤ x) && decide (x ≤ r.2.1) && (decide (r.2.2.1 = 1) || decide (Int.tmod x 2 = Int.tmod r.1 2))
def refWith (x : Int) : Int := match refSingles.find? (fun s => decide (s.1 = x)) with
  | some s => s.2
  | none => match refRows.find? (rowHas x) with
    | some r => x + r.2.2.2
    | none => x
def clewref03_with.f (a0 : Int) : Option Int := if -1000000 ≤ a0 ∧ a0 ≤ 2000000 then some (refWith a0) else none
def cellsA : Array Value := #[.int .i64 65, .int .i64 90, .int .i64 1, .int .i64 32, .int .i64 192, .int .i64 214, .int .i64 1, .int .i64 32, .int .i64 216, .int .i64 222, .int .i64 1, .int .i64 32, .int .i64 256, .int .i64 302, .int .i64 2, .int .i64 1, .int .i64 306, .int .i64 310, .int .i64 2, .int .i64 1, .int .i64 313, .int .i64 327, .int .i64 2, .int .i64 1, .int .i64 330, .int .i64 374, .int .i64 2, .int .i64 1, .int .i64 377, .int .i64 381, .int .i64 2, .int .i64 1, .int .i64 913, .int .i64 929, .int .i64 1, .int .i64 32, .int .i64 931, .int .i64 939, .int .i64 1, .int .i64 32, .int .i64 1024, .int .i64 1039, .int .i64 1, .int .i64 80, .int .i64 1040, .int .i64 1071, .int .i64 1, .int .i64 32, .int .i64 1120, .int .i64 1152, .int .i64 2, .int .i64 1, .int .i64 1329, .int .i64 1366, .int .i64 1, .int .i64 48, .int .i64 7680, .int .i64 7828, .int .i64 2, .int .i64 1, .int .i64 9398, .int .i64 9423, .int .i64 1, .int .i64 26, .int .i64 65313, .int .i64 65338, .int .i64 1, .int .i64 32, .int .i64 66560, .int .i64 66599, .int .i64 1, .int .i64 40]
def cellsB : Array Value := #[.int .i64 181, .int .i64 956, .int .i64 376, .int .i64 255, .int .i64 383, .int .i64 115, .int .i64 962, .int .i64 963, .int .i64 8490, .int .i64 107, .int .i64 8491, .int .i64 229]

theorem find_at {α : Type} (p : α → Bool) : ∀ (l : List α) (kk : Nat) (z : α), kk < l.length → p (l.getD kk z) = true → (∀ j, j < kk → p (l.getD j z) = false) → l.find? p = some (l.getD kk z)
  | [], kk, z, h, _, _ => absurd h (Nat.not_lt_zero _)
  | a :: l, 0, z, _, hp, _ => by
    have : p a = true := hp
    simp [List.find?, this]
  | a :: l, kk + 1, z, h, hp, hn => by
    have h0 : p a = false := hn 0 (by omega)
    have ih := find_at p l kk z (by simpa using h) hp (fun j hj => hn (j + 1) (by omega))
    simp only [List.find?, h0]
    exact ih
theorem find_none {α : Type} (p : α → Bool) : ∀ (l : List α) (z : α), (∀ j, j < l.length → p (l.getD j z) = false) → l.find? p = none
  | [], _, _ => rfl
  | a :: l, z, hn => by
    have h0 : p a = false := hn 0 (by simp)
    simp only [List.find?, h0]
    exact find_none p l z (fun j hj => hn (j + 1) (by simpa using hj))
theorem rows_at {W : World} {g : Nat} (h : W.heap[g]? = some (.cells cellsA 94 (0, 0))) (k : Nat) (hk : k < 18) :
    W.cell? ⟨g, k * 4, none⟩ = some (.int .i64 (refRows.getD k (0, 0, 0, 0)).1) ∧ W.cell? ⟨g, k * 4 + 1, none⟩ = some (.int .i64 (refRows.getD k (0, 0, 0, 0)).2.1) ∧ W.cell? ⟨g, k * 4 + 2, none⟩ = some (.int .i64 (refRows.getD k (0, 0, 0, 0)).2.2.1) ∧ W.cell? ⟨g, k * 4 + 3, none⟩ = some (.int .i64 (refRows.getD k (0, 0, 0, 0)).2.2.2)
      ∧ 0 ≤ (refRows.getD k (0, 0, 0, 0)).2.2.2 ∧ (refRows.getD k (0, 0, 0, 0)).2.2.2 ≤ 100 := by
  rw [blk_cell h, blk_cell h, blk_cell h, blk_cell h]
  match k, hk with
  | 0, _ => exact ⟨rfl, rfl, rfl, rfl, by decide, by decide⟩
  | 1, _ => exact ⟨rfl, rfl, rfl, rfl, by decide, by decide⟩
  | 2, _ => exact ⟨rfl, rfl, rfl, rfl, by decide, by decide⟩
  | 3, _ => exact ⟨rfl, rfl, rfl, rfl, by decide, by decide⟩
  | 4, _ => exact ⟨rfl, rfl, rfl, rfl, by decide, by decide⟩
  | 5, _ => exact ⟨rfl, rfl, rfl, rfl, by decide, by decide⟩
  | 6, _ => exact ⟨rfl, rfl, rfl, rfl, by decide, by decide⟩
  | 7, _ => exact ⟨rfl, rfl, rfl, rfl, by decide, by decide⟩
  | 8, _ => exact ⟨rfl, rfl, rfl, rfl, by decide, by decide⟩
  | 9, _ => exact ⟨rfl, rfl, rfl, rfl, by decide, by decide⟩
  | 10, _ => exact ⟨rfl, rfl, rfl, rfl, by decide, by decide⟩
  | 11, _ => exact ⟨rfl, rfl, rfl, rfl, by decide, by decide⟩
  | 12, _ => exact ⟨rfl, rfl, rfl, rfl, by decide, by decide⟩
  | 13, _ => exact ⟨rfl, rfl, rfl, rfl, by decide, by decide⟩
  | 14, _ => exact ⟨rfl, rfl, rfl, rfl, by decide, by decide⟩
  | 15, _ => exact ⟨rfl, rfl, rfl, rfl, by decide, by decide⟩
  | 16, _ => exact ⟨rfl, rfl, rfl, rfl, by decide, by decide⟩
  | 17, _ => exact ⟨rfl, rfl, rfl, rfl, by decide, by decide⟩
  | k + 18, h => exact absurd h (by omega)

theorem singles_at {W : World} {g : Nat} (h : W.heap[g]? = some (.cells cellsB 96 (0, 0))) (k : Nat) (hk : k < 6) :
    W.cell? ⟨g, k * 2, none⟩ = some (.int .i64 (refSingles.getD k (0, 0)).1) ∧ W.cell? ⟨g, k * 2 + 1, none⟩ = some (.int .i64 (refSingles.getD k (0, 0)).2) := by
  rw [blk_cell h, blk_cell h]
  match k, hk with
  | 0, _ => exact ⟨rfl, rfl⟩
  | 1, _ => exact ⟨rfl, rfl⟩
  | 2, _ => exact ⟨rfl, rfl⟩
  | 3, _ => exact ⟨rfl, rfl⟩
  | 4, _ => exact ⟨rfl, rfl⟩
  | 5, _ => exact ⟨rfl, rfl⟩

theorem below_setRow {B g : Nat} {w w1 : World} {cs : Array Value} (h : Below B w w1) (hg : B ≤ g) : Below B w (w1.setRow g cs) :=
  ⟨h.os, h.tape, h.output, by simpa [World.setRow] using h.size, fun k hk => by rw [setRow_other _ _ _ _ (by omega)]; exact h.block k hk⟩

set_option maxHeartbeats 2000000 in
set_option maxRecDepth 100000 in
theorem clewref03_with.calls (a0 : Int) (r : Int) (w : World) (h : clewref03_with.f a0 = some r) :
    Calls Try.prog 50 #[.int .i64 a0] w fun e w' => e = .returned (.int .i64 r) ∧ Below w.heap.size w w' := by
  unfold clewref03_with.f at h
  split at h
  case isFalse => exact absurd h (by simp)
  case isTrue hlim =>
  obtain rfl : refWith a0 = r := Option.some.inj h
  clear h
  obtain ⟨hlo, hhi⟩ := hlim
  have HB0 := Aside0.mk (Below.refl w.heap.size w)
  go_enter Try.func50, Try.ntmps50
  go_wp2_with ((refine wpList_store_row (g := w.heap.size) (cells := cellsA) (t := 94) (old := Try.zeroCells94) rfl 94 _ _ rfl ?hx ?hy ?hg ?hi ?hold ?h1 ?_); (case hx => rfl); (case hy => rfl); (case hg => exact heap_alloc_new _ _); (case hi => kernel_rfl); (case hold => kernel_rfl); (case h1 => kernel_rfl); (have hA : ((w.alloc (Obj.cells Try.zeroCells94 94)).setRow w.heap.size cellsA).heap[w.heap.size]? = some (.cells cellsA 94 (0, 0)) := setRow_heap _ _ _ _ _ _ (heap_alloc_new _ _)); (have hW : Below w.heap.size w ((w.alloc (Obj.cells Try.zeroCells94 94)).setRow w.heap.size cellsA) := below_setRow ((Below.refl _ w).alloc (Nat.le_refl _) _) (Nat.le_refl _)); (generalize ((w.alloc (Obj.cells Try.zeroCells94 94)).setRow w.heap.size cellsA) = W1 at hA hW ⊢); (have HA1 := Aside0.mk hA); (have HW1 := Aside0.mk hW); clear hA hW)
  have hA2 : (W1.alloc (Obj.cells cellsB 96)).heap[w.heap.size]? = some (.cells cellsA 94 (0, 0)) := blk_alloc HA1.out _
  have hB2 : (W1.alloc (Obj.cells cellsB 96)).heap[W1.heap.size]? = some (.cells cellsB 96 (0, 0)) := heap_alloc_new _ _
  have hW2 : Below w.heap.size w (W1.alloc (Obj.cells cellsB 96)) := HW1.out.alloc HW1.out.size _
  change Code.wp _ _ _ _ (W1.alloc (Obj.cells cellsB 96))
  generalize (W1.alloc (Obj.cells cellsB 96)) = W2 at hA2 hB2 hW2 ⊢
  generalize W1.heap.size = g2 at hB2 ⊢
  have HA2 := Aside0.mk hA2
  have HB2 := Aside0.mk hB2
  have HW2 := Aside0.mk hW2
  clear hA2 hB2 hW2 HA1 HW1 HB0
  generalize hg1 : w.heap.size = g1 at HA2 ⊢
  have HG1 := Aside0.mk hg1
  clear hg1
  go_loop [5] (fun i => ∃ kk : Nat, kk ≤ 6 ∧ i = .int .i64 kk ∧ Aside0 (∀ j, j < kk → decide ((refSingles.getD j (0, 0)).1 = a0) = false)) (fun i => 6 - (intOf i).toNat)
  case atStart => exact ⟨0, by omega, rfl, ⟨fun j hj => absurd hj (Nat.not_lt_zero _)⟩⟩
  case round =>
    obtain ⟨kk, hkk, rfl, AL⟩ := hrel
    by_cases hlt : kk < 6
    · have hltz : (kk : Int) < 6 := by omega
      obtain ⟨c0, c1⟩ := singles_at HB2.out kk hlt
      have hm : refSingles.getD kk (0, 0) ∈ refSingles := by
        rw [List.getD_eq_getElem?_getD, List.getElem?_eq_getElem (show kk < refSingles.length by simpa [refSingles] using hlt)]
        exact List.getElem_mem _
      generalize hs : refSingles.getD kk (0, 0) = s at c0 c1
      have HS := Aside0.mk hs
      clear hs
      by_cases he : s.1 = a0
      · have heb : (s.1 == a0) = true := by simpa using he
        go_wp2
        go_ret
        refine ⟨?_, HW2.out⟩
        have hf := find_at (fun s : Int × Int => decide (s.1 = a0)) refSingles kk (0, 0) hlt (by rw [HS.out]; simpa using he) AL.out
        unfold refWith
        rw [hf, HS.out]
        rfl
      · have heb : (s.1 == a0) = false := by simpa using he
        go_wp2
        go_round
        case rel =>
          refine ⟨kk + 1, by omega, by go_num, ⟨fun j hj => ?_⟩⟩
          by_cases e : j = kk
          · subst e; rw [HS.out]; simpa using he
          · exact AL.out j (by omega)
        case measure => simp [intOf]; omega
    · have : kk = 6 := by omega
      subst this
      have hltz : ¬ ((6 : Nat) : Int) < 6 := by omega
      have hfs := find_none (fun s : Int × Int => decide (s.1 = a0)) refSingles (0, 0) (fun j hj => AL.out j (by simpa [refSingles] using hj))
      have HF := Aside0.mk hfs
      clear hfs AL
      go_wp2
      go_loop [6] (fun i => ∃ kk : Nat, kk ≤ 18 ∧ i = .int .i64 kk ∧ Aside0 (∀ j, j < kk → rowHas a0 (refRows.getD j (0, 0, 0, 0)) = false)) (fun i => 18 - (intOf i).toNat)
      case atStart => exact ⟨0, by omega, rfl, ⟨fun j hj => absurd hj (Nat.not_lt_zero _)⟩⟩
      case round =>
        obtain ⟨kk, hkk2, rfl, AL⟩ := hrel
        by_cases hlt : kk < 18
        · have hltz : (kk : Int) < 18 := by omega
          obtain ⟨c0, c1, c2, c3, b0, b1⟩ := rows_at HA2.out kk hlt
          generalize hs : refRows.getD kk (0, 0, 0, 0) = s at c0 c1 c2 c3 b0 b1
          obtain ⟨p1, p2, p3, p4⟩ := s
          dsimp only at c0 c1 c2 c3 b0 b1
          have HS := Aside0.mk hs
          clear hs
          have hit : rowHas a0 (p1, p2, p3, p4) = true → refWith a0 = a0 + p4 := fun hr => by
            have hf := find_at (rowHas a0) refRows kk (0, 0, 0, 0) hlt (by rw [HS.out]; exact hr) AL.out
            unfold refWith
            rw [HF.out, hf, HS.out]
          have miss : rowHas a0 (p1, p2, p3, p4) = false → ∀ j, j < kk + 1 → rowHas a0 (refRows.getD j (0, 0, 0, 0)) = false := fun hr j hj => by
            by_cases e : j = kk
            · subst e; rw [HS.out]; exact hr
            · exact AL.out j (by omega)
          have HH := Aside0.mk hit
          have HM := Aside0.mk miss
          clear hit miss
          by_cases h1 : p1 ≤ a0
          · by_cases h2 : a0 ≤ p2
            · by_cases h3 : p3 = 1
              · have h3b : (p3 == 1) = true := by simpa using h3
                have hr := HH.out (by simp [rowHas, h1, h2, h3])
                have HR := Aside0.mk hr
                clear hr h3
                go_wp2
                go_ret
                exact ⟨by rw [HR.out]; rfl, HW2.out⟩
              · have h3b : (p3 == 1) = false := by simpa using h3
                by_cases h4 : Int.tmod a0 2 = Int.tmod p1 2
                · have h4b : (Int.tmod a0 2 == Int.tmod p1 2) = true := by simpa using h4
                  have hr := HH.out (by simp [rowHas, h1, h2, h4])
                  have HR := Aside0.mk hr
                  clear hr h3 h4
                  go_wp2
                  go_ret
                  exact ⟨by rw [HR.out]; rfl, HW2.out⟩
                · have h4b : (Int.tmod a0 2 == Int.tmod p1 2) = false := by simpa using h4
                  have hr := HM.out (by simp [rowHas, h3, h4])
                  have HR := Aside0.mk hr
                  clear hr h3 h4
                  go_wp2
                  go_round
                  case rel => exact ⟨kk + 1, by omega, by go_num, HR⟩
                  case measure => simp [intOf]; omega
            · have hr := HM.out (by simp [rowHas, h2])
              have HR := Aside0.mk hr
              clear hr
              go_wp2
              go_round
              case rel => exact ⟨kk + 1, by omega, by go_num, HR⟩
              case measure => simp [intOf]; omega
          · have hr := HM.out (by simp [rowHas, h1])
            have HR := Aside0.mk hr
            clear hr
            go_wp2
            go_round
            case rel => exact ⟨kk + 1, by omega, by go_num, HR⟩
            case measure => simp [intOf]; omega
        · have : kk = 18 := by omega
          subst this
          have hltz : ¬ ((18 : Nat) : Int) < 18 := by omega
          have hf := find_none (rowHas a0) refRows (0, 0, 0, 0) (fun j hj => AL.out j (by simpa [refRows] using hj))
          have HR := Aside0.mk hf
          clear hf AL
          go_wp2
          go_ret
          refine ⟨?_, HW2.out⟩
          unfold refWith
          rw [HF.out, HR.out]
          rfl
end Go.Proofs.Yteploglmfmhppaa.P
