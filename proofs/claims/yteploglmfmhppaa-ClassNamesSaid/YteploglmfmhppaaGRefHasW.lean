/- clewref05.Has, by hand, the plain side and what its rows hold: for every name and every number the call answers whether the number is one of those with the name, and whether there is such a name; nothing that was there is turned. -/
import Derived.Test.YteploglmfmhppaaPx19
import Derived.Laws.Tables
import Derived.Laws.StructEq
namespace Go.Proofs.Yteploglmfmhppaa.P
open Go.RowKit Go.Proofs.YteploglmfmhppaaW.PrintWords Go.Proofs.YteploglmfmhppaaW.PrintLast Go.Proofs.YteploglmfmhppaaW.PrintMore
set_option linter.unusedVariables false
set_option linter.unusedSimpArgs false

/-- The document's names. -/
def refNames : List ByteArray := [⟨#[97, 108, 110, 117, 109]⟩, ⟨#[97, 108, 112, 104, 97]⟩, ⟨#[97, 115, 99, 105, 105]⟩, ⟨#[98, 108, 97, 110, 107]⟩, ⟨#[99, 110, 116, 114, 108]⟩, ⟨#[100, 105, 103, 105, 116]⟩, ⟨#[103, 114, 97, 112, 104]⟩, ⟨#[108, 111, 119, 101, 114]⟩, ⟨#[112, 114, 105, 110, 116]⟩, ⟨#[112, 117, 110, 99, 116]⟩, ⟨#[115, 112, 97, 99, 101]⟩, ⟨#[117, 112, 112, 101, 114]⟩, ⟨#[119, 111, 114, 100]⟩, ⟨#[120, 100, 105, 103, 105, 116]⟩]
def cellsNames : Array Value := #[.string ⟨#[97, 108, 110, 117, 109]⟩, .string ⟨#[97, 108, 112, 104, 97]⟩, .string ⟨#[97, 115, 99, 105, 105]⟩, .string ⟨#[98, 108, 97, 110, 107]⟩, .string ⟨#[99, 110, 116, 114, 108]⟩, .string ⟨#[100, 105, 103, 105, 116]⟩, .string ⟨#[103, 114, 97, 112, 104]⟩, .string ⟨#[108, 111, 119, 101, 114]⟩, .string ⟨#[112, 114, 105, 110, 116]⟩, .string ⟨#[112, 117, 110, 99, 116]⟩, .string ⟨#[115, 112, 97, 99, 101]⟩, .string ⟨#[117, 112, 112, 101, 114]⟩, .string ⟨#[119, 111, 114, 100]⟩, .string ⟨#[120, 100, 105, 103, 105, 116]⟩]
/-- Is a number from one to another one? -/
def inB (x a b : Int) : Bool := decide (a ≤ x) && decide (x ≤ b)
def refBits (x : Int) : List Bool := [inB x 48 57 || inB x 65 90 || inB x 97 122, inB x 65 90 || inB x 97 122, inB x 0 127, x == 9 || x == 32, inB x 0 31 || x == 127, inB x 48 57, inB x 33 126, inB x 97 122, inB x 32 126, inB x 33 126 && !inB x 48 57 && !inB x 65 90 && !inB x 97 122, inB x 9 13 || x == 32, inB x 65 90, inB x 48 57 || inB x 65 90 || inB x 97 122 || x == 95, inB x 48 57 || inB x 65 70 || inB x 97 102]
/-- What has a name, out of what is told for each name. -/
def refPick (s : ByteArray) : List ByteArray → List Bool → Bool × Bool
  | n :: ns, b :: bs => if n == s then (b, true) else refPick s ns bs
  | _, _ => (false, false)
def clewref05_Has.f (a0 : ByteArray) (a1 : Int) : Option (Bool × Bool) := some (refPick a0 refNames (refBits a1))

theorem refPick_at (s : ByteArray) : ∀ (ns : List ByteArray) (bs : List Bool) (kk : Nat), ns.length = bs.length → kk < ns.length → (ns.getD kk .empty == s) = true → (∀ j, j < kk → (ns.getD j .empty == s) = false) → refPick s ns bs = (bs.getD kk false, true)
  | [], _, kk, _, h, _, _ => absurd h (Nat.not_lt_zero _)
  | n :: ns, [], _, hl, _, _, _ => by simp at hl
  | n :: ns, b :: bs, 0, _, _, hp, _ => by
    have h0 : (n == s) = true := hp
    rw [refPick, if_pos h0]
    rfl
  | n :: ns, b :: bs, kk + 1, hl, h, hp, hn => by
    have h0 : (n == s) = false := hn 0 (by omega)
    rw [refPick, if_neg (by simp [h0])]
    exact refPick_at s ns bs kk (by simpa using hl) (by simpa using h) hp (fun j hj => hn (j + 1) (by omega))
theorem refPick_none (s : ByteArray) : ∀ (ns : List ByteArray) (bs : List Bool), (∀ j, j < ns.length → (ns.getD j .empty == s) = false) → refPick s ns bs = (false, false)
  | [], _, _ => rfl
  | n :: ns, [], _ => rfl
  | n :: ns, b :: bs, hn => by
    have h0 : (n == s) = false := hn 0 (by simp)
    rw [refPick, if_neg (by simp [h0])]
    exact refPick_none s ns bs (fun j hj => hn (j + 1) (by simpa using hj))

theorem inB_cases (x a b : Int) : (inB x a b = true ∧ a ≤ x ∧ x ≤ b) ∨ (inB x a b = false ∧ (x < a ∨ b < x)) := by
  unfold inB
  by_cases h1 : a ≤ x
  · by_cases h2 : x ≤ b
    · exact .inl ⟨by simp [h1, h2], h1, h2⟩
    · exact .inr ⟨by simp [h1, h2], by omega⟩
  · exact .inr ⟨by simp [h1], by omega⟩
theorem eq_cases (x a : Int) : ((x == a) = true ∧ x = a) ∨ ((x == a) = false ∧ x ≠ a) := by
  by_cases h : x = a
  · exact .inl ⟨by simp [h], h⟩
  · exact .inr ⟨by simp [h], h⟩

theorem withinC (x a b : Int) (W : World) : Calls Try.prog 64 #[.int .i64 x, .int .i64 a, .int .i64 b] W fun e w' => e = .returned (.bool (inB x a b)) ∧ Below W.heap.size W w' := by
  refine (clewref05_within.calls x a b (inB x a b) W ?_).mono ?_
  · unfold clewref05_within.f inB
    by_cases h1 : a ≤ x
    · by_cases h2 : x ≤ b
      · simp [h1, h2]
      · simp [h1, h2]
    · simp [h1]
  · rintro e w' ⟨rfl, hd⟩
    exact ⟨rfl, hd.below⟩

set_option maxHeartbeats 2000000 in
set_option maxRecDepth 100000 in
theorem names_calls (w : World) : Calls Try.prog 37 #[] w fun e w' => e = .returned (.agg cellsNames) ∧ Below w.heap.size w w' := by
  have HB0 := Aside0.mk (Below.refl w.heap.size w)
  go_enter Try.func37, Try.ntmps37
  go_wp2
  refine bodyPost_ret (results_cell_row rfl _ _ w.heap.size _ _ _ _ rfl (heap_alloc_new w _) Try.underlying46 rfl (by kernel_rfl)) rfl ?_
  exact ⟨rfl, (Below.refl _ w).alloc (Nat.le_refl _) _⟩

theorem blk_under {W W' : World} {g : Nat} {o : Obj} (h : W.heap[g]? = some o) (hb : Below W.heap.size W W') : W'.heap[g]? = some o := (hb.block g (Array.getElem?_eq_some_iff.1 h).1).trans h
theorem names_at {W : World} {g : Nat} (h : W.heap[g]? = some (.cells cellsNames 46 (0, 0))) (k : Nat) (hk : k < 14) : W.cell? ⟨g, k, none⟩ = some (.string (refNames.getD k .empty)) := by
  rw [blk_cell h]
  match k, hk with
  | 0, _ => rfl
  | 1, _ => rfl
  | 2, _ => rfl
  | 3, _ => rfl
  | 4, _ => rfl
  | 5, _ => rfl
  | 6, _ => rfl
  | 7, _ => rfl
  | 8, _ => rfl
  | 9, _ => rfl
  | 10, _ => rfl
  | 11, _ => rfl
  | 12, _ => rfl
  | 13, _ => rfl
  | k + 14, h => exact absurd h (by omega)
theorem bits_at {W : World} {g : Nat} {b0 b1 b2 b3 b4 b5 b6 b7 b8 b9 b10 b11 b12 b13 : Bool} (h : W.heap[g]? = some (.cells #[.bool b0, .bool b1, .bool b2, .bool b3, .bool b4, .bool b5, .bool b6, .bool b7, .bool b8, .bool b9, .bool b10, .bool b11, .bool b12, .bool b13] 87 (0, 0))) (k : Nat) (hk : k < 14) : W.cell? ⟨g, k, none⟩ = some (.bool ([b0, b1, b2, b3, b4, b5, b6, b7, b8, b9, b10, b11, b12, b13].getD k false)) := by
  rw [blk_cell h]
  match k, hk with
  | 0, _ => rfl
  | 1, _ => rfl
  | 2, _ => rfl
  | 3, _ => rfl
  | 4, _ => rfl
  | 5, _ => rfl
  | 6, _ => rfl
  | 7, _ => rfl
  | 8, _ => rfl
  | 9, _ => rfl
  | 10, _ => rfl
  | 11, _ => rfl
  | 12, _ => rfl
  | 13, _ => rfl
  | k + 14, h => exact absurd h (by omega)

/-- Behind the row of the answers: what is known there, without its cells. -/
theorem after_bits {B : Nat} {w0 W1 : World} {code : Code} {K : Exit → Act → World → Prop} {a : Act} {b0 b1 b2 b3 b4 b5 b6 b7 b8 b9 b10 b11 b12 b13 : Bool} {G : Nat} {o : Obj} (hb : Below B w0 W1) (hB : B ≤ W1.heap.size) (hG : W1.heap[G]? = some o)
    (h : ∀ W2 g2 bs, bs = [b0, b1, b2, b3, b4, b5, b6, b7, b8, b9, b10, b11, b12, b13] → Below B w0 W2 → W2.heap[G]? = some o → (∀ k, k < 14 → W2.cell? ⟨g2, k, none⟩ = some (.bool (bs.getD k false))) → g2 = W1.heap.size → Code.wp Try.prog code K a W2) :
    Code.wp Try.prog code K a (W1.alloc (Obj.cells #[.bool b0, .bool b1, .bool b2, .bool b3, .bool b4, .bool b5, .bool b6, .bool b7, .bool b8, .bool b9, .bool b10, .bool b11, .bool b12, .bool b13] 87)) :=
  h _ _ _ rfl (hb.alloc hB _) (blk_alloc hG _) (fun k hk => bits_at (heap_alloc_new W1 _) k hk) rfl

end Go.Proofs.Yteploglmfmhppaa.P
