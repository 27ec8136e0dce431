/- Chapter 01 in plain Lean: the symbol at a place: the program's and the document's. -/
import Derived.Test.YtjgbhajaiifimaaDoorL00
import Derived.Test.YtjgbhajaiifimaaDoorGDecode
import Derived.Test.YtjgbhajaiifimaaDoorPx1
import Derived.Test.YtjgbhajaiifimaaDoorPx2
namespace Go.Proofs.YtjgbhajaiifimaaDoor.P
open Go.RowKit Go.Proofs.YtjgbhajaiifimaaDoorW.PrintWords Go.Proofs.YtjgbhajaiifimaaDoorW.PrintLast Go.Proofs.YtjgbhajaiifimaaDoorW.PrintMore
set_option linter.unusedVariables false
set_option linter.unusedSimpArgs false

/-- The byte at a place, as a number; 0 beyond the end. -/
def bn (b : List Int) (i : Nat) : Nat := (b.getD i 0).toNat
theorem bn_lt {b : List Int} (hb : isBytes b = true) (i : Nat) : bn b i < 256 := by
  unfold bn
  by_cases hi : i < b.length
  · have hx := List.all_eq_true.1 hb b[i] (List.getElem_mem hi)
    simp only [Bool.and_eq_true, decide_eq_true_eq] at hx
    rw [List.getD_eq_getElem?_getD, List.getElem?_eq_getElem hi]
    simp only [Option.getD_some]
    omega
  · rw [List.getD_eq_getElem?_getD, List.getElem?_eq_none (by omega)]
    simp
theorem rd_bn {b : List Int} (hb : isBytes b = true) (i : Nat) : rd b (i : Int) = (bn b i : Int) := by
  unfold rd bn
  simp only [Int.toNat_natCast]
  by_cases hi : i < b.length
  · have hx := List.all_eq_true.1 hb b[i] (List.getElem_mem hi)
    simp only [Bool.and_eq_true, decide_eq_true_eq] at hx
    rw [List.getD_eq_getElem?_getD, List.getElem?_eq_getElem hi]
    simp only [Option.getD_some]
    omega
  · rw [List.getD_eq_getElem?_getD, List.getElem?_eq_none (by omega)]
    simp
theorem bn_drop (b : List Int) (n i : Nat) : bn (b.drop n) i = bn b (n + i) := by
  unfold bn
  rw [List.getD_eq_getElem?_getD, List.getD_eq_getElem?_getD, List.getElem?_drop]
theorem isBytes_drop {b : List Int} (hb : isBytes b = true) (n : Nat) : isBytes (b.drop n) = true := by
  unfold isBytes at hb ⊢
  rw [List.all_eq_true] at hb ⊢
  exact fun x hx => hb x (List.mem_of_mem_drop hx)
theorem toBA_bn {l : List Int} (hb : isBytes l = true) (j : Nat) : ((toBA l).get! j).toNat = bn l j := by
  by_cases hj : j < l.length
  · have h1 := toBA_get l hb j hj
    rw [rd_bn hb] at h1
    omega
  · have h0 : bn l j = 0 := by
      unfold bn
      rw [List.getD_eq_getElem?_getD, List.getElem?_eq_none (by omega)]
      rfl
    have h1 : (toBA l).get! j = ((l.map fun x => UInt8.ofNat x.toNat).toArray)[j]! := rfl
    rw [h0, h1, getElem!_neg _ _ (by simpa using hj)]
    rfl

/-- The symbol out of up to four bytes: what is no symbol's bytes is the byte itself. -/
def symN (n b0 b1 b2 b3 : Nat) : Int × Int :=
  if (Go.Lib.decodeN n b0 b1 b2 b3).1 = 65533 ∧ (Go.Lib.decodeN n b0 b1 b2 b3).2 ≤ 1 then (1114112 + (b0 : Int), 1) else (((Go.Lib.decodeN n b0 b1 b2 b3).1 : Int), ((Go.Lib.decodeN n b0 b1 b2 b3).2 : Int))
/-- The symbol at a place that is there, and how many bytes it has. -/
def symA (b : List Int) (n : Nat) : Int × Int := symN (b.length - n) (bn b n) (bn b (n + 1)) (bn b (n + 2)) (bn b (n + 3))
/-- The symbol at any place. -/
def symR (b : List Int) (i : Int) : Int × Int := if 0 ≤ i ∧ i < (b.length : Int) then symA b i.toNat else (0, 0)

theorem decR_eq {l : List Int} (hb : isBytes l = true) (hl : l ≠ []) : decR l = (((Go.Lib.decodeN l.length (bn l 0) (bn l 1) (bn l 2) (bn l 3)).1 : Int), ((Go.Lib.decodeN l.length (bn l 0) (bn l 1) (bn l 2) (bn l 3)).2 : Int)) := by
  have h0 : ¬ (toBA l).size = 0 := by
    rw [toBA_size]
    exact fun h => hl (List.length_eq_zero_iff.mp h)
  unfold decR Go.Lib.decodeGo
  rw [if_neg h0, Go.Lib.decode_at, toBA_size]
  simp only [Nat.sub_zero, Nat.zero_add, toBA_bn hb]
theorem decodeN_small (n b0 b1 b2 b3 : Nat) (h0 : b0 < 256) (h1 : b1 < 256) (h2 : b2 < 256) (h3 : b3 < 256) : (Go.Lib.decodeN n b0 b1 b2 b3).1 ≤ 1114111 ∧ 1 ≤ (Go.Lib.decodeN n b0 b1 b2 b3).2 ∧ (Go.Lib.decodeN n b0 b1 b2 b3).2 ≤ 4 ∧ (1 ≤ n → (Go.Lib.decodeN n b0 b1 b2 b3).2 ≤ n) := by
  unfold Go.Lib.decodeN
  repeat' split
  all_goals (dsimp only; omega)
theorem symA_small {b : List Int} (hb : isBytes b = true) (n : Nat) (hn : n < b.length) : 0 ≤ (symA b n).1 ∧ (symA b n).1 ≤ 1114367 ∧ 1 ≤ (symA b n).2 ∧ (symA b n).2 ≤ 4 ∧ (symA b n).2 ≤ (b.length : Int) - n := by
  have h := decodeN_small (b.length - n) _ _ _ _ (bn_lt hb n) (bn_lt hb (n + 1)) (bn_lt hb (n + 2)) (bn_lt hb (n + 3))
  have h0 := bn_lt hb n
  unfold symA symN
  split
  · dsimp only
    omega
  · dsimp only
    omega

theorem sym_At_eq {b : List Int} (hb : isBytes b = true) (hlen : b.length ≤ 140737488351232) (i : Int) (k : Nat) : sym_At.f (k + 1) b i = some (symR b i) := by
  unfold sym_At.f symR
  by_cases h0 : i < 0
  · rw [if_pos h0, if_neg (by omega)]
    simp only [sym_At.j0]
    rw [if_pos trivial]
  · rw [if_neg h0]
    by_cases h1 : i ≥ (b.length : Int)
    · rw [decide_eq_true h1, if_neg (by omega)]
      simp only [sym_At.j0]
      rw [if_pos trivial]
    · obtain ⟨n, rfl⟩ : ∃ n : Nat, i = (n : Int) := ⟨i.toNat, by omega⟩
      have hn : n < b.length := by omega
      rw [decide_eq_false h1, if_pos (by omega)]
      simp only [sym_At.j0, Int.toNat_natCast]
      have hne : b.drop n ≠ [] := fun h => by
        have := congrArg List.length h
        simp at this
        omega
      have hd : utf8_DecodeRune.f (b.drop n) = some (decR (b.drop n)) := by
        unfold utf8_DecodeRune.f
        rw [if_pos ⟨hne, isBytes_drop hb n⟩]
      rw [if_neg (by simp), if_pos (by omega), if_pos (by omega), hd, Option.bind_some, decR_eq (isBytes_drop hb n) hne]
      simp only [bn_drop, List.length_drop, Nat.add_zero]
      have hs := decodeN_small (b.length - n) _ _ _ _ (bn_lt hb n) (bn_lt hb (n + 1)) (bn_lt hb (n + 2)) (bn_lt hb (n + 3))
      have hbn := bn_lt hb n
      unfold symA symN
      generalize Go.Lib.decodeN (b.length - n) (bn b n) (bn b (n + 1)) (bn b (n + 2)) (bn b (n + 3)) = d at hs ⊢
      obtain ⟨x, m⟩ := d
      dsimp only at hs ⊢
      rw [rd_bn hb, w64 (n := ((bn b n : Nat) : Int)) (by omega) (by omega), w64 (n := 1114112 + ((bn b n : Nat) : Int)) (by omega) (by omega), w64 (n := (x : Int)) (by omega) (by omega)]
      by_cases g1 : x = 65533
      · by_cases g2 : m ≤ 1
        · rw [if_pos (by omega), if_pos (by omega), if_pos (by omega), if_pos ⟨g1, g2⟩]
        · rw [if_pos (by omega), if_neg (by omega), if_neg (fun h => g2 h.2)]
      · rw [if_neg (by omega), if_neg (fun h => g1 h.1)]

/-! The document's answer -/
theorem Ref_step {b : List Int} (hb : isBytes b = true) (hlen : b.length ≤ 140737488351232) (n i : Nat) (c m v : Int) (him : (i : Int) < m) (hin : n + i < b.length) (hv : 0 ≤ v ∧ v ≤ 1000000000) (hi : i < 10) (hc : 0 ≤ c ∧ c < 256) (k : Nat) :
    clewref01_At.l0 (k + 1) b (n : Int) c m v (i : Int) = if bn b (n + i) < 128 ∨ 191 < bn b (n + i) then some (1114112 + c, 1) else clewref01_At.l0 k b (n : Int) c m (v * 64 + bn b (n + i) - 128) ((i + 1 : Nat) : Int) := by
  have hx := bn_lt hb (n + i)
  have e1 : wrap64 ((n : Int) + (i : Int)) = ((n + i : Nat) : Int) := by rw [w64 (by omega) (by omega)]; omega
  simp only [clewref01_At.l0, e1, rd_bn hb]
  rw [if_pos him, if_pos (by omega), if_pos (by omega), w64 (n := ((bn b (n + i) : Nat) : Int)) (by omega) (by omega), w64 (n := 1114112 + c) (by omega) (by omega), w64 (n := v * 64) (by omega) (by omega)]
  rw [w64 (n := v * 64 + ((bn b (n + i) : Nat) : Int)) (by omega) (by omega), w64 (n := v * 64 + ((bn b (n + i) : Nat) : Int) - 128) (by omega) (by omega), w64 (n := (i : Int) + 1) (by omega) (by omega)]
  by_cases g1 : bn b (n + i) < 128
  · rw [if_pos (by omega), if_pos (.inl g1)]
  · rw [if_neg (by omega)]
    by_cases g2 : 191 < bn b (n + i)
    · rw [if_pos (by omega), if_pos (.inr g2)]
    · rw [if_neg (by omega), if_neg (by omega)]
      congr 1
/-- Is what has been put together no symbol? -/
def badV (m v : Int) : Prop := m = 2 ∧ v < 128 ∨ m = 3 ∧ v < 2048 ∨ m = 4 ∧ v < 65536 ∨ v > 1114111 ∨ v ≥ 55296 ∧ v ≤ 57343
instance (m v : Int) : Decidable (badV m v) := by unfold badV; infer_instance
theorem Ref_end (b : List Int) (n : Nat) (c m v : Int) (hc : 0 ≤ c ∧ c < 256) (hm : m = 2 ∨ m = 3 ∨ m = 4) (k : Nat) :
    clewref01_At.l0 (k + 1) b (n : Int) c m v m = if badV m v then some (1114112 + c, 1) else some (v, m) := by
  simp only [clewref01_At.l0, badV]
  rw [if_neg (by omega), w64 (n := 1114112 + c) (by omega) (by omega)]
  rcases hm with rfl | rfl | rfl
  · simp only [if_true, show ¬ ((2 : Int) = 3) by decide, show ¬ ((2 : Int) = 4) by decide, if_false, false_and, false_or, true_and]
    repeat' split
    all_goals first | rfl | (exfalso; omega)
  · simp only [if_true, show ¬ ((3 : Int) = 2) by decide, show ¬ ((3 : Int) = 4) by decide, if_false, false_and, false_or, true_and]
    repeat' split
    all_goals first | rfl | (exfalso; omega)
  · simp only [if_true, show ¬ ((4 : Int) = 2) by decide, show ¬ ((4 : Int) = 3) by decide, if_false, false_and, false_or, true_and]
    repeat' split
    all_goals first | rfl | (exfalso; omega)

theorem symN_one {n c b1 b2 b3 : Nat} (hc : c < 128) : symN n c b1 b2 b3 = ((c : Int), 1) := by
  have e : Go.Lib.decodeN n c b1 b2 b3 = (c, 1) := by
    unfold Go.Lib.decodeN
    rw [if_pos hc]
  unfold symN
  rw [e, if_neg (by dsimp only; omega)]
  rfl
theorem symN_none {n c b1 b2 b3 : Nat} (hc : (128 ≤ c ∧ c < 192) ∨ 248 ≤ c) (h : c < 256) : symN n c b1 b2 b3 = (1114112 + (c : Int), 1) := by
  have e : Go.Lib.decodeN n c b1 b2 b3 = (65533, 1) := by
    unfold Go.Lib.decodeN
    rw [if_neg (by omega), if_neg (by omega), if_neg (by omega), if_neg (by omega)]
  unfold symN
  rw [e, if_pos ⟨rfl, Nat.le_refl _⟩]
theorem symN_of {n c b1 b2 b3 : Nat} {C : Prop} [Decidable C] {v m : Nat} (e : Go.Lib.decodeN n c b1 b2 b3 = if C then (v, m) else (65533, 1)) (hm : 2 ≤ m) : symN n c b1 b2 b3 = if C then ((v : Int), (m : Int)) else (1114112 + (c : Int), 1) := by
  unfold symN
  rw [e]
  by_cases g : C
  · rw [if_pos g, if_pos g, if_neg (by dsimp only; omega)]
  · rw [if_neg g, if_neg g, if_pos ⟨rfl, Nat.le_refl _⟩]
theorem decode_two {n c b1 b2 b3 : Nat} (hc : 192 ≤ c ∧ c ≤ 223) (h1 : b1 < 256) : Go.Lib.decodeN n c b1 b2 b3 = if 1 < n ∧ 128 ≤ b1 ∧ b1 ≤ 191 ∧ 128 ≤ (c - 192) * 64 + (b1 - 128) then ((c - 192) * 64 + (b1 - 128), 2) else (65533, 1) := by
  unfold Go.Lib.decodeN
  rw [if_neg (by omega)]
  by_cases g : 1 < n ∧ b1 / 64 = 2
  · have e : c % 32 * 64 + b1 % 64 = (c - 192) * 64 + (b1 - 128) := by omega
    rw [if_pos ⟨by omega, g⟩, e]
    by_cases g2 : 128 ≤ (c - 192) * 64 + (b1 - 128)
    · rw [if_pos g2, if_pos ⟨g.1, by omega, by omega, g2⟩]
    · rw [if_neg g2, if_neg (fun h => g2 h.2.2.2)]
  · rw [if_neg (fun h => g h.2), if_neg (by omega), if_neg (by omega), if_neg (fun h => g ⟨h.1, by omega⟩)]
theorem decode_three {n c b1 b2 b3 : Nat} (hc : 224 ≤ c ∧ c ≤ 239) (h1 : b1 < 256) (h2 : b2 < 256) : Go.Lib.decodeN n c b1 b2 b3 = if 2 < n ∧ (128 ≤ b1 ∧ b1 ≤ 191) ∧ (128 ≤ b2 ∧ b2 ≤ 191) ∧ 2048 ≤ (c - 224) * 4096 + (b1 - 128) * 64 + (b2 - 128) ∧ ((c - 224) * 4096 + (b1 - 128) * 64 + (b2 - 128) < 55296 ∨ 57344 ≤ (c - 224) * 4096 + (b1 - 128) * 64 + (b2 - 128)) then ((c - 224) * 4096 + (b1 - 128) * 64 + (b2 - 128), 3) else (65533, 1) := by
  unfold Go.Lib.decodeN
  rw [if_neg (by omega), if_neg (by omega)]
  by_cases g : (1 < n ∧ b1 / 64 = 2) ∧ (2 < n ∧ b2 / 64 = 2)
  · have e : c % 16 * 4096 + b1 % 64 * 64 + b2 % 64 = (c - 224) * 4096 + (b1 - 128) * 64 + (b2 - 128) := by omega
    rw [if_pos ⟨by omega, g.1, g.2⟩, e]
    generalize hv : (c - 224) * 4096 + (b1 - 128) * 64 + (b2 - 128) = v
    by_cases g2 : v ≥ 2048 ∧ (v < 55296 ∨ (57344 ≤ v ∧ v ≤ 1114111))
    · rw [if_pos g2, if_pos ⟨g.2.1, ⟨by omega, by omega⟩, ⟨by omega, by omega⟩, g2.1, by omega⟩]
    · rw [if_neg g2, if_neg (fun h => g2 ⟨h.2.2.2.1, by omega⟩)]
  · rw [if_neg (fun h => g h.2), if_neg (by omega), if_neg (fun h => g ⟨⟨by omega, by omega⟩, h.1, by omega⟩)]
theorem decode_four {n c b1 b2 b3 : Nat} (hc : 240 ≤ c ∧ c ≤ 247) (h1 : b1 < 256) (h2 : b2 < 256) (h3 : b3 < 256) : Go.Lib.decodeN n c b1 b2 b3 = if 3 < n ∧ (128 ≤ b1 ∧ b1 ≤ 191) ∧ (128 ≤ b2 ∧ b2 ≤ 191) ∧ (128 ≤ b3 ∧ b3 ≤ 191) ∧ 65536 ≤ (c - 240) * 262144 + (b1 - 128) * 4096 + (b2 - 128) * 64 + (b3 - 128) ∧ (c - 240) * 262144 + (b1 - 128) * 4096 + (b2 - 128) * 64 + (b3 - 128) ≤ 1114111 then ((c - 240) * 262144 + (b1 - 128) * 4096 + (b2 - 128) * 64 + (b3 - 128), 4) else (65533, 1) := by
  unfold Go.Lib.decodeN
  rw [if_neg (by omega), if_neg (by omega), if_neg (by omega)]
  by_cases g : (1 < n ∧ b1 / 64 = 2) ∧ (2 < n ∧ b2 / 64 = 2) ∧ (3 < n ∧ b3 / 64 = 2)
  · have e : c % 8 * 262144 + b1 % 64 * 4096 + b2 % 64 * 64 + b3 % 64 = (c - 240) * 262144 + (b1 - 128) * 4096 + (b2 - 128) * 64 + (b3 - 128) := by omega
    rw [if_pos ⟨by omega, g.1, g.2.1, g.2.2⟩, e]
    generalize hv : (c - 240) * 262144 + (b1 - 128) * 4096 + (b2 - 128) * 64 + (b3 - 128) = v
    by_cases g2 : v ≥ 65536 ∧ (v < 55296 ∨ (57344 ≤ v ∧ v ≤ 1114111))
    · rw [if_pos g2, if_pos ⟨g.2.2.1, ⟨by omega, by omega⟩, ⟨by omega, by omega⟩, ⟨by omega, by omega⟩, g2.1, by omega⟩]
    · rw [if_neg g2, if_neg (fun h => g2 ⟨h.2.2.2.2.1, by omega⟩)]
  · rw [if_neg (fun h => g h.2), if_neg (fun h => g ⟨⟨by omega, by omega⟩, ⟨by omega, by omega⟩, h.1, by omega⟩)]
theorem Ref_eq {b : List Int} (hb : isBytes b = true) (hlen : b.length ≤ 140737488351232) (n : Nat) (hn : n < b.length) (k : Nat) : clewref01_At.f (k + 14) b (n : Int) = some (symA b n) := by
  have h0 := bn_lt hb n
  have h1 := bn_lt hb (n + 1)
  have h2 := bn_lt hb (n + 2)
  have h3 := bn_lt hb (n + 3)
  unfold clewref01_At.f symA
  rw [if_pos (by omega), if_pos (by omega), rd_bn hb, w64 (n := ((bn b n : Nat) : Int)) (by omega) (by omega)]
  -- what stands behind the tests, by the first byte
  have bad : ∀ c2 c3 : Bool, ∀ k, clewref01_At.j5 (k + 2) b (n : Int) (bn b n : Int) 0 0 = some (1114112 + (bn b n : Int), 1) := fun _ _ k => by
    simp only [clewref01_At.j5]
    rw [if_pos trivial]
    simp only [clewref01_At.j6]
    rw [if_pos trivial, w64 (by omega) (by omega)]
  have good : ∀ (m v : Int) (k : Nat), (m = 2 ∨ m = 3 ∨ m = 4) → clewref01_At.j5 (k + 2) b (n : Int) (bn b n : Int) m v = if (b.length : Int) - n < m then some (1114112 + (bn b n : Int), 1) else clewref01_At.l0 k b (n : Int) (bn b n : Int) m v ((1 : Nat) : Int) := fun m v k hm => by
    simp only [clewref01_At.j5]
    rw [if_neg (by omega), w64 (n := (b.length : Int) - n) (by omega) (by omega)]
    simp only [clewref01_At.j6]
    by_cases g : (b.length : Int) - n < m
    · rw [if_pos g, decide_eq_true g, if_pos rfl, w64 (by omega) (by omega)]
    · rw [if_neg g, decide_eq_false g, if_neg (by simp)]
      rfl
  have hsym := decodeN_small (b.length - n) _ _ _ _ h0 h1 h2 h3
  clear hsym
  by_cases c1 : bn b n < 128
  · rw [if_pos (by omega), symN_one c1]
  rw [if_neg (by omega)]
  by_cases c2 : bn b n < 192
  · rw [if_neg (by omega), symN_none (.inl ⟨by omega, c2⟩) h0]
    simp only [clewref01_At.j0, clewref01_At.j1, clewref01_At.j2, clewref01_At.j3, clewref01_At.j4]
    rw [if_neg (by simp), if_neg (by omega), if_neg (by simp), if_neg (by omega), if_neg (by simp)]
    exact bad true true (k + 7)
  rw [if_pos (by omega)]
  by_cases c3 : bn b n ≤ 223
  · rw [decide_eq_true (by omega), symN_of (decode_two ⟨by omega, c3⟩ h1) (by omega)]
    simp only [clewref01_At.j0, clewref01_At.j1, clewref01_At.j2, clewref01_At.j3, clewref01_At.j4]
    rw [if_pos trivial, if_neg (by omega), if_neg (by simp), if_neg (by omega), if_neg (by simp), w64 (n := ((bn b n : Nat) : Int) - 192) (by omega) (by omega)]
    have e := good 2 ((bn b n : Int) - 192) (k + 7) (.inl rfl)
    refine e.trans ?_
    by_cases g1 : 1 < b.length - n
    · rw [if_neg (by omega), Ref_step hb hlen n 1 _ 2 _ (by omega) (by omega) (by omega) (by omega) (by omega) (k + 6)]
      by_cases g2 : bn b (n + 1) < 128 ∨ 191 < bn b (n + 1)
      · rw [if_pos g2, if_neg (by omega)]
      · rw [if_neg g2]
        refine (Ref_end b n _ 2 _ (by omega) (.inl rfl) (k + 5)).trans ?_
        by_cases g3 : 128 ≤ (bn b n - 192) * 64 + (bn b (n + 1) - 128)
        · rw [if_neg (by unfold badV; omega), if_pos ⟨g1, by omega, by omega, g3⟩]
          congr 2
          omega
        · rw [if_pos (by unfold badV; omega), if_neg (fun h => g3 h.2.2.2)]
    · rw [if_pos (by omega), if_neg (fun h => g1 h.1)]
  rw [decide_eq_false (by omega)]
  by_cases c4 : bn b n ≤ 239
  · rw [symN_of (decode_three ⟨by omega, c4⟩ h1 h2) (by omega)]
    simp only [clewref01_At.j0, clewref01_At.j1, clewref01_At.j2, clewref01_At.j3, clewref01_At.j4]
    rw [if_neg (by simp), if_pos (by omega), decide_eq_true (by omega), if_pos (by simp), if_neg (by omega), if_neg (by simp), w64 (n := ((bn b n : Nat) : Int) - 224) (by omega) (by omega)]
    have e := good 3 ((bn b n : Int) - 224) (k + 7) (.inr (.inl rfl))
    refine e.trans ?_
    by_cases g1 : 2 < b.length - n
    · rw [if_neg (by omega), Ref_step hb hlen n 1 _ 3 _ (by omega) (by omega) (by omega) (by omega) (by omega) (k + 6)]
      by_cases g2 : bn b (n + 1) < 128 ∨ 191 < bn b (n + 1)
      · rw [if_pos g2, if_neg (by omega)]
      · rw [if_neg g2]
        refine (Ref_step hb hlen n 2 _ 3 _ (by omega) (by omega) (by omega) (by omega) (by omega) (k + 5)).trans ?_
        by_cases g4 : bn b (n + 2) < 128 ∨ 191 < bn b (n + 2)
        · rw [if_pos g4, if_neg (by omega)]
        · rw [if_neg g4]
          refine (Ref_end b n _ 3 _ (by omega) (.inr (.inl rfl)) (k + 4)).trans ?_
          by_cases g3 : 2048 ≤ (bn b n - 224) * 4096 + (bn b (n + 1) - 128) * 64 + (bn b (n + 2) - 128) ∧ ((bn b n - 224) * 4096 + (bn b (n + 1) - 128) * 64 + (bn b (n + 2) - 128) < 55296 ∨ 57344 ≤ (bn b n - 224) * 4096 + (bn b (n + 1) - 128) * 64 + (bn b (n + 2) - 128))
          · rw [if_neg (by unfold badV; omega), if_pos ⟨g1, by omega, by omega, g3⟩]
            congr 2
            omega
          · rw [if_pos (by unfold badV; omega), if_neg (fun h => g3 h.2.2.2)]
    · rw [if_pos (by omega), if_neg (fun h => g1 h.1)]
  by_cases c5 : bn b n ≤ 247
  · rw [symN_of (decode_four ⟨by omega, c5⟩ h1 h2 h3) (by omega)]
    simp only [clewref01_At.j0, clewref01_At.j1, clewref01_At.j2, clewref01_At.j3, clewref01_At.j4]
    rw [if_neg (by simp), if_pos (by omega), decide_eq_false (by omega), if_neg (by simp), if_pos (by omega), decide_eq_true (by omega), if_pos (by simp), w64 (n := ((bn b n : Nat) : Int) - 240) (by omega) (by omega)]
    have e := good 4 ((bn b n : Int) - 240) (k + 7) (.inr (.inr rfl))
    refine e.trans ?_
    by_cases g1 : 3 < b.length - n
    · rw [if_neg (by omega), Ref_step hb hlen n 1 _ 4 _ (by omega) (by omega) (by omega) (by omega) (by omega) (k + 6)]
      by_cases g2 : bn b (n + 1) < 128 ∨ 191 < bn b (n + 1)
      · rw [if_pos g2, if_neg (by omega)]
      · rw [if_neg g2]
        refine (Ref_step hb hlen n 2 _ 4 _ (by omega) (by omega) (by omega) (by omega) (by omega) (k + 5)).trans ?_
        by_cases g4 : bn b (n + 2) < 128 ∨ 191 < bn b (n + 2)
        · rw [if_pos g4, if_neg (by omega)]
        · rw [if_neg g4]
          refine (Ref_step hb hlen n 3 _ 4 _ (by omega) (by omega) (by omega) (by omega) (by omega) (k + 4)).trans ?_
          by_cases g5 : bn b (n + 3) < 128 ∨ 191 < bn b (n + 3)
          · rw [if_pos g5, if_neg (by omega)]
          · rw [if_neg g5]
            refine (Ref_end b n _ 4 _ (by omega) (.inr (.inr rfl)) (k + 3)).trans ?_
            by_cases g3 : 65536 ≤ (bn b n - 240) * 262144 + (bn b (n + 1) - 128) * 4096 + (bn b (n + 2) - 128) * 64 + (bn b (n + 3) - 128) ∧ (bn b n - 240) * 262144 + (bn b (n + 1) - 128) * 4096 + (bn b (n + 2) - 128) * 64 + (bn b (n + 3) - 128) ≤ 1114111
            · rw [if_neg (by unfold badV; omega), if_pos ⟨g1, by omega, by omega, by omega, g3⟩]
              congr 2
              omega
            · rw [if_pos (by unfold badV; omega), if_neg (fun h => g3 h.2.2.2.2)]
    · rw [if_pos (by omega), if_neg (fun h => g1 h.1)]
  · rw [symN_none (.inr (by omega)) h0]
    simp only [clewref01_At.j0, clewref01_At.j1, clewref01_At.j2, clewref01_At.j3, clewref01_At.j4]
    rw [if_neg (by simp), if_pos (by omega), decide_eq_false (by omega), if_neg (by simp), if_pos (by omega), decide_eq_false (by omega), if_neg (by simp)]
    exact bad true true (k + 7)
end Go.Proofs.YtjgbhajaiifimaaDoor.P
