/- sym.At: what it answers; as a contract on memory. -/
import Derived.Test.YtjgbhajaiifimaaDoorVDec0
import Derived.Test.YtjgbhajaiifimaaDoorVSa
import Derived.Test.YtjgbhajaiifimaaDoorEc
namespace Go.Proofs.YtjgbhajaiifimaaDoor.V0
open Go Go.Ev Go.RowKit
set_option linter.unusedVariables false
set_option linter.unusedSimpArgs false
theorem dec_E (b : List Int) (hb : isBytes b = true) (hne : b ≠ []) : E C 40 [.shr 5 (b.map .int)] = some [.int (decR b).1, .int (decR b).2] := by
  refine E_given (h := gDecode 5) rfl ?_
  have h1 : (b.map Dat.int).isEmpty = false := by cases b <;> simp at hne ⊢
  simp only [gDecode, ints_map, h1, hb]
  rfl
theorem At_E (b : List Int) (hb : isBytes b = true) (hlen : b.length ≤ 140737488351232) (i : Int) : E C 16 [.shr 5 (b.map .int), .int .i64 i] = some [.int (symR b i).1, .int (symR b i).2] := by
  apply o16
  simp only [List.length_map]
  unfold symR
  by_cases h0 : i < 0
  · rw [dT h0, if_neg (by omega)]
  · rw [dF h0]
    by_cases h1 : i ≥ (b.length : Int)
    · rw [dT h1, if_neg (by omega)]
    · obtain ⟨n, rfl⟩ : ∃ n : Nat, i = (n : Int) := ⟨i.toNat, by omega⟩
      have hn : n < b.length := by omega
      have hne : b.drop n ≠ [] := fun h => by
        have := congrArg List.length h
        simp at this
        omega
      have e1 : ((b.map Dat.int).take ((b.length : Int).toNat)).drop (n : Int).toNat = (b.drop n).map .int := by
        rw [Int.toNat_natCast, Int.toNat_natCast, List.take_of_length_le (by simp), List.map_drop]
      rw [dF h1, dT (by omega), dT (by omega), dT (by omega), e1]
      rw [bT (dec_E _ (isBytes_drop hb n) hne), if_pos (show 0 ≤ ((n : Nat) : Int) ∧ ((n : Nat) : Int) < (b.length : Int) by omega), decR_eq (isBytes_drop hb n) hne]
      simp only [bn_drop, List.length_drop, Nat.add_zero, Int.toNat_natCast, rdI, getD_bn hb]
      have hs := decodeN_small (b.length - n) _ _ _ _ (bn_lt hb n) (bn_lt hb (n + 1)) (bn_lt hb (n + 2)) (bn_lt hb (n + 3))
      have hbn := bn_lt hb n
      unfold symA symN
      generalize Go.Lib.decodeN (b.length - n) (bn b n) (bn b (n + 1)) (bn b (n + 2)) (bn b (n + 3)) = d at hs ⊢
      obtain ⟨x, m⟩ := d
      dsimp only at hs ⊢
      simp only [rd0, rd1, datI]
      rw [w64 (n := ((bn b n : Nat) : Int)) (by omega) (by omega), w64 (n := 1114112 + ((bn b n : Nat) : Int)) (by omega) (by omega), w64 (n := (x : Int)) (by omega) (by omega)]
      by_cases g1 : x = 65533
      · rw [eT (by omega)]
        by_cases g2 : m ≤ 1
        · rw [dT (by omega), dT (by omega), dT (by omega), dT (by omega), if_pos ⟨g1, g2⟩]
        · rw [dF (by omega), if_neg (fun h => g2 h.2)]
      · rw [eF (by omega), if_neg (fun h => g1 h.1)]
theorem given0 : ∀ g h args ds, C.given g = some h → h args = some ds → FnR Tryd.prog C g args ds := by
  intro g h args ds hg hd
  have hg' : pickUp g givens = some h := hg
  unfold givens at hg'
  simp only [pickUp] at hg'
  cases e1 : Nat.beq g 40 with
  | true =>
    rw [e1] at hg'
    obtain rfl := Nat.eq_of_beq_eq_true e1
    obtain rfl := Option.some.inj hg'
    exact dec_ok hd
  | false =>
    rw [e1] at hg'
    simp at hg'
theorem At_calls (b : List Int) (hb : isBytes b = true) (hlen : b.length ≤ 140737488351232) (A0 : Option Addr) (c0 : Nat) (i : Int) (w : World) (hT : TabsOk w) (hr0 : BA w A0 b) (hc0 : b.length ≤ c0) :
    Calls Tryd.prog 16 #[.slice A0 b.length c0, .int .i64 i] w fun e w' => e = .returned (.tuple #[.int .i64 (symR b i).1, .int .i64 (symR b i).2]) ∧ Below w.heap.size w w' := by
  refine (calls_of_E (us := #[.slice A0 b.length c0, .int .i64 i]) (args := [.shr 5 (b.map .int), .int .i64 i]) pok given0 (globOk hT) ⟨shr_of_BA ty_u8 hr0 hc0, ⟨fun H => ⟨rfl, rfl⟩, fun _ => rfl, rfl, by simp⟩, trivial⟩ rfl rfl (At_E b hb hlen i)).mono ?_
  rintro e w' ⟨v, rfl, hbel, St', fR, Hc, hr⟩
  refine ⟨?_, hbel⟩
  obtain ⟨us, rfl, hg⟩ := (show ∃ us, v = .tuple us ∧ Gs C.T w' St' Hc us.toList fR [.int .i64 (symR b i).1, .int .i64 (symR b i).2] from hr)
  obtain ⟨us⟩ := us
  match us, hg with
  | [u1, u2], ⟨f1, f2, _, h1, f3, f4, _, h2, _⟩ =>
    have e1 : u1 = .int .i64 (symR b i).1 := h1.2
    have e2 : u2 = .int .i64 (symR b i).2 := h2.2
    rw [e1, e2]
end Go.Proofs.YtjgbhajaiifimaaDoor.V0
