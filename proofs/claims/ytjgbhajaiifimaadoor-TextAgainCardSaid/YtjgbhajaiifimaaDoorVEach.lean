/- sym.Each, by hand: for all bytes that are read the function value that it hands back gives all symbols, each with its place, as far as a round says so; nothing that was there is turned. -/
import Derived.RangeFuncNested
import Derived.RangeFuncBound
import Derived.RangeFuncCalls
import Derived.RangeFuncLeaves
import Derived.RangeFuncBox
import Derived.Shelf.Abstract
import Derived.Shelf.RegionOpen
import Derived.WalkKit
import Derived.OwnWalkIn
import Derived.TacticsInMore
import Derived.LoopNIn
import Derived.LoopIn
import Derived.Maps.AppendAt
import Derived.Test.YtjgbhajaiifimaaDoorVAt0
namespace Go.Proofs.YtjgbhajaiifimaaDoor.V0
open Go Go.Ev Go.RowKit Go.Shelf
attribute [local go_sem] Oper.semAt_some
set_option linter.unusedVariables false
set_option linter.unusedSimpArgs false
theorem v64 {n : Int} (h0 : -9223372036854775808 ≤ n) (h1 : n ≤ 9223372036854775807) : wrap64 n = n := by unfold wrap64; omega

/-- What a round that goes on keeps: what lay below, and the variable that holds the bytes. -/
def KeepB (n0 Bs : Nat) (W W' : World) : Prop := Below n0 W W' ∧ ∀ o, W.heap[Bs]? = some o → W'.heap[Bs]? = some o
theorem KeepB.trans {n0 Bs : Nat} {A B C : World} (h : KeepB n0 Bs A B) (k : KeepB n0 Bs B C) : KeepB n0 Bs A C := ⟨h.1.trans k.1, fun o ho => k.2 o (h.2 o ho)⟩
theorem KeepB.box {n0 Bs : Nat} {W W' : World} (h : KeepB n0 Bs W W') {v : Value} (hc : W.cell? ⟨Bs, 0, none⟩ = some v) : W'.cell? ⟨Bs, 0, none⟩ = some v := by
  have hlt := World.block_lt_of_cell? W _ hc
  have h1 := h.2 _ (Array.getElem?_eq_getElem hlt)
  rw [← hc]
  exact World.cell?_of_block (by rw [h1]; exact (Array.getElem?_eq_getElem hlt).symm)
theorem keepB_b {w : World} {n0 Bs : Nat} (h0 : n0 ≤ w.heap.size) (h1 : Bs < w.heap.size) (W : World) (l : Nat) (o o' : Obj) (hl : w.heap.size ≤ l) (ho : W.heap[l]? = some o) (hc : o.isCells = false) (hw : o.isWalk = false) : KeepB n0 Bs W (W.putObj l o') :=
  ⟨belowK_b (w := w) h0 W l o o' hl ho hc hw, fun o2 h2 => (grownBy_putObj' W l o').block Bs (Array.getElem?_eq_some_iff.1 h2).1 (fun e => by cases e; omega) |>.trans h2⟩

set_option maxRecDepth 100000 in
set_option maxHeartbeats 4000000 in
/-- sym.Each's closure, for every body that keeps what lay below. -/
theorem each1_in (n : Nat) (hn : 1 ≤ n) (w0 : World) (hT : TabsOk w0) (A0 : Option Addr) (c0 : Nat) (b : List Int) (hr0 : BA w0 A0 b) (hc0 : b.length ≤ c0) (hby : isBytes b = true) (hlen : b.length ≤ 140737488351232) (l Bs : Nat) (J Jx : List (Nat × Int) → World → Prop) (W : World) (hJ : AbidesFrom W.heap.size J)
    (hY : ∀ pre x W1, J pre W1 → pre.length < (eachAll b).length → YieldAt Fence.wide (n - 1) Tryd.prog l #[.int .i64 (x.1 : Int), .int .i64 x.2] W1 fun e W' =>
      (e = .returned (.bool true) ∧ J (pre ++ [x]) W' ∧ KeepB w0.heap.size Bs W1 W') ∨ (e = .returned (.bool false) ∧ Jx (pre ++ [x]) W'))
    (hb0 : Below w0.heap.size w0 W) (hBs : W.cell? ⟨Bs, 0, none⟩ = some (.slice A0 b.length c0)) (h0 : J [] W) :
    CallsIn Fence.wide n Tryd.prog 41 #[.func (.yield l) #[] #[], .pointer (some ⟨Bs, 0, none⟩)] W fun e W' => (∃ v, e = .returned v) ∧
      ((∃ ys, ys = eachAll b ∧ J ys W') ∨ (∃ pre, pre <+: eachAll b ∧ Jx pre W')) := by
  refine callsIn_of_wp Tryd.func41 rfl trivial ?_ rfl
  simp only [Tryd.ntmps41, List.size_toArray, List.length_cons, List.length_nil, Nat.reduceAdd, Nat.reduceSub, Array.replicate_succ, Array.replicate_zero, List.push_toArray, List.append_toArray, List.nil_append, List.cons_append]
  gi_wp2
  gi_loopw [3] (fun i wr => ∃ (k : Nat) (pre : List (Nat × Int)), k ≤ b.length ∧ i = .int .i64 k ∧ eachAll b = pre ++ eachL (b.length - k) b k ∧ J pre wr ∧ Below w0.heap.size w0 wr ∧ wr.cell? ⟨Bs, 0, none⟩ = some (.slice A0 b.length c0))
    (fun i _ => b.length - (intOf i).toNat)
  case atStart => exact ⟨0, [], Nat.zero_le _, rfl, rfl, h0, hb0, hBs⟩
  case round =>
    obtain ⟨k, pre, hk, rfl, hx, hJs, hbw, hBw⟩ := hrel
    by_cases hlt : k < b.length
    · have hltz : (k : Int) < (b.length : Int) := by omega
      have hs := symA_small hby k hlt
      have hnext := eachL_next hby k hlt
      have hAt := At_calls b hby hlen A0 c0 (k : Int) wr (hT.below hbw) (hr0.below hbw) hc0
      have hR0 : symR b (k : Int) = symA b k := by
        unfold symR
        rw [if_pos ⟨by omega, hltz⟩]
        rfl
      rw [hR0] at hAt
      generalize hd : symA b k = d at hAt hs hnext
      obtain ⟨x, m⟩ := d
      dsimp only at hAt hs hnext
      gi_wp2_with fail
      refine ⟨trivial, ?_⟩
      refine (callsIn_wide.2 hAt).mono ?_
      rintro e W2 ⟨rfl, hb2⟩
      have hJ2 : J pre W2 := hJ _ _ _ none hJs ⟨hb2.os, hb2.tape, hb2.output, hb2.size, fun j hj _ => hb2.block j hj⟩ (fun r e => by cases e)
      have hB2 : Below w0.heap.size w0 W2 := hbw.trans (hb2.mono hbw.size)
      have hc2 : W2.cell? ⟨Bs, 0, none⟩ = some (.slice A0 b.length c0) := (hb2.cell (p := ⟨Bs, 0, none⟩) (World.block_lt_of_cell? wr _ hBw)).trans hBw
      obtain ⟨fn, tmps, assign, body, hy, hR⟩ := hY pre (k, x) W2 hJ2 (by rw [hx, hnext]; simp)
      dsimp only at hy
      clear hAt hJs hbw hBw
      gi_wp2
      refine hR.mono ?_
      rintro e W3 (⟨rfl, hJ3, hk3⟩ | ⟨rfl, hJx3⟩)
      · have hm : wrap64 ((k : Int) + m) = ((k + m.toNat : Nat) : Int) := by
          rw [v64 (by omega) (by omega)]
          omega
        gi_wp2
        go_roundw
        case rel => exact ⟨k + m.toNat, pre ++ [(k, x)], by omega, by first | rfl | (simp; omega), by rw [hx, hnext]; simp, hJ3, hB2.trans hk3.1, hk3.box hc2⟩
        case measure => simp [intOf]; omega
      · gi_wp2
        refine bodyPost_ret (results_none rfl _ _ _) rfl ?_
        exact ⟨⟨_, rfl⟩, .inr ⟨pre ++ [(k, x)], ⟨eachL (b.length - (k + m.toNat)) b (k + m.toNat), by rw [hx, hnext]; simp⟩, hJx3⟩⟩
    · obtain rfl : k = b.length := by omega
      have hltz : ¬ (b.length : Int) < (b.length : Int) := by omega
      gi_wp2
      go_end0
      exact ⟨⟨_, rfl⟩, .inl (by simpa [eachL] using hJs)⟩

/-- sym.Each: the slice is boxed; the function value holds the box. -/
theorem each_in (n : Nat) (A0 : Option Addr) (k c0 : Nat) (w : World) :
    CallsIn Fence.wide n Tryd.prog 19 #[.slice A0 k c0] w fun e w' => e = .returned (.func (.func 41) #[] #[.pointer (some ⟨w.heap.size, 0, none⟩)]) ∧ w' = w.alloc (.cells #[.slice A0 k c0] 22) := by
  refine callsIn_of_wp Tryd.func19 rfl trivial ?_ rfl
  simp only [Tryd.ntmps19, List.size_toArray, List.length_cons, List.length_nil, Nat.reduceAdd, Nat.reduceSub, Array.replicate_succ, Array.replicate_zero, List.push_toArray, List.append_toArray, List.nil_append, List.cons_append]
  gi_wp2
  go_ret
  exact ⟨rfl, rfl⟩
/-- What sym.Each hands back gives all symbols, in order; or the first of them, where a round has said 'no more'. -/
theorem each_stops (n : Nat) (hn : 1 ≤ n) (w0 : World) (hT : TabsOk w0) (A0 : Option Addr) (c0 : Nat) (b : List Int) (hr0 : BA w0 A0 b) (hc0 : b.length ≤ c0) (hby : isBytes b = true) (hlen : b.length ≤ 140737488351232) (Bs : Nat) (w : World) (hb0 : Below w0.heap.size w0 w) (hBl : Bs < w.heap.size) (hBs : w.cell? ⟨Bs, 0, none⟩ = some (.slice A0 b.length c0)) :
    SeqStopsK Fence.wide n Tryd.prog 41 #[.pointer (some ⟨Bs, 0, none⟩)] (fun x : Nat × Int => #[Value.int .i64 (x.1 : Int), Value.int .i64 x.2]) (KeepB w0.heap.size Bs) (fun ys => ys = eachAll b) (fun pre => pre <+: eachAll b) (eachAll b).length w := fun l J Jx W hW hJ _ hY h0 =>
  each1_in n hn w0 hT A0 c0 b hr0 hc0 hby hlen l Bs J Jx W hJ hY (hb0.trans (hW.mono hb0.size)) ((hW.cell (p := ⟨Bs, 0, none⟩) hBl).trans hBs) h0
end Go.Proofs.YtjgbhajaiifimaaDoor.V0
