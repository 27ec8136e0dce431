/- CmdBlanks: blanks and tabulators between words, ahead of them and behind them, play no part. -/
import Derived.Test.YtpfnmjpccmobpaaDoorU26t
import Derived.Test.YtpfnmjpccmobpaaDoorVXLCmdBlanks
namespace Go.Proofs.YtpfnmjpccmobpaaDoor.V
open Go Go.Ev Go.RowKit
set_option linter.unusedVariables false
set_option linter.unusedSimpArgs false
theorem words_skip : ∀ (b l : List UInt8), (∀ c, c ∈ b → isBl c = true) → wordsL (b ++ l) [] = wordsL l []
  | [], l, _ => rfl
  | c :: b, l, h => by
    show wordsL (c :: (b ++ l)) [] = _
    rw [wordsL, h c List.mem_cons_self, cond_true]
    exact words_skip b l fun d hd => h d (List.mem_cons_of_mem _ hd)
/-- What is written so far has these words, whatever blank comes next. -/
def Wrote (p : List UInt8) (done : List (List UInt8)) : Prop := ∀ c r, isBl c = true → wordsL (p ++ c :: r) [] = done ++ wordsL r []
theorem Wrote.step {p : List UInt8} {done : List (List UInt8)} (h : Wrote p done) {b w : List UInt8} (hb : ∀ c, c ∈ b → isBl c = true) (hw : NoBl w) : Wrote (p ++ 32 :: (b ++ w)) (done ++ [w]) := by
  intro c r hc
  have e : p ++ 32 :: (b ++ w) ++ c :: r = p ++ 32 :: (b ++ (w ++ c :: r)) := by simp
  rw [e, h 32 _ rfl, words_skip b _ hb, wordsL_run w _ [] hw.2, List.nil_append, wordsL, hc, cond_true, show w.isEmpty = false from List.isEmpty_eq_false_iff.2 hw.1, cond_false, List.append_assoc]
  rfl
theorem blanks_in (s : ByteArray) (bl : List Dat) (hbl : bl.length ≤ 100) (v4 : Bool) (v6 : Int) (w : List UInt8) (hw : w.length ≤ 300) (v25 : List Dat) (v26 v27 : Int) (q0 : List UInt8) (hq : q0.length ≤ 1000000) {r : R} (hr : r = some [.bool true])
    (hnext : ∀ b : List UInt8, (∀ c, c ∈ b → isBl c = true) → b.length ≤ 100 → M11_1 s bl v4 (bs (q0 ++ b ++ w)) v25 v26 (IntKind.i64.wrap (v27 + 1)) = some [.bool true]) :
    ∀ (d k : Nat) (b : List UInt8), bl.length - k = d → k ≤ bl.length → b.length ≤ k → (∀ c, c ∈ b → isBl c = true) → M11_2 s bl v4 (bs (q0 ++ b)) v6 (bs w) v25 v26 v27 bl (bl.length : Int) (k : Int) = some [.bool true] := by
  intro d
  induction d with
  | zero =>
    intro k b hd hk hb hbb
    apply M11_2_of
    rw [dF (by omega), bsZ, bsZ, dT (by simp only [List.length_append]; omega), bsA]
    exact hnext b hbb (by omega)
  | succ d ih =>
    intro k b hd hk hb hbb
    have one : ∀ c : UInt8, isBl c = true → ((bif decide ((bs (q0 ++ b)).size + (bs [c]).size ≤ 9223372036854775807) then (M11_2 s bl v4 ((bs (q0 ++ b)) ++ (bs [c])) v6 (bs w) v25 v26 v27 bl (bl.length : Int) ((k + 1 : Nat) : Int)) else none) : R) = some [.bool true] := fun c hc => by
      rw [bsZ, bsZ, dT (by simp only [List.length_append, List.length_cons, List.length_nil]; omega), bsA, List.append_assoc]
      exact ih (k + 1) (b ++ [c]) (by omega) (by omega) (by simp only [List.length_append, List.length_cons, List.length_nil]; omega) fun x hx => by
        rw [List.mem_append, List.mem_singleton] at hx
        rcases hx with hx | rfl
        · exact hbb x hx
        · exact hc
    apply M11_2_of
    rw [dT (by omega), ixT ⟨by omega, by omega⟩, show IntKind.i64.wrap ((k : Int) + 1) = ((k + 1 : Nat) : Int) from by rw [w64 (by omega) (by omega)]; omega]
    have rest := ih (k + 1) b (by omega) (by omega) (by omega) hbb
    cases ((k : Int).tmod 3 == v6.tmod 3) with
    | false => exact rest
    | true =>
      simp only [cond_true]
      cases (((rd bl (k : Int).toNat).I.tmod 2) == 0) with
      | false => exact one 32 rfl
      | true => exact one 9 rfl
theorem blanks_out (s : List UInt8) (hs : s.length ≤ 300) (bl : List Dat) (hbl : bl.length ≤ 100) (v4 : Bool) (ws : List (List UInt8)) (hws : ws = wordsL s []) : ∀ (rest done : List (List UInt8)) (p : List UInt8), ws = done ++ rest → p.length ≤ 1000 * done.length → Wrote p done →
    M11_1 (bs s) bl v4 (bs p) (strs ws) (ws.length : Int) (done.length : Int) = some [.bool true] := by
  have hin := wordsL_in s []
  rw [← hws] at hin
  intro rest
  induction rest with
  | nil =>
    intro done p h hp hW
    rw [List.append_nil] at h
    subst h
    have hwords : wordsL (p ++ [9, 32]) [] = ws := by
      have := hW 9 [32] rfl
      rw [show p ++ 9 :: [32] = p ++ [9, 32] from rfl] at this
      rw [this, show wordsL [32] [] = [] from rfl, List.append_nil]
    apply M11_1_of
    rw [dF (by omega), bT (Read_E s (by omega)), bsZ, bsZ, dT (by simp only [List.length_cons, List.length_nil]; omega), bsA, bT (Read_E _ (by simp only [List.length_append, List.length_cons, List.length_nil]; omega)), hwords, ← hws]
    simp only [beq_self_eq_true, Bool.and_self, cond_true]
  | cons w rest ih =>
    intro done p h hp hW
    have k1 : ws.length = done.length + (rest.length + 1) := by rw [h, List.length_append, List.length_cons]
    have hwin := hin.2 w (by rw [h]; simp)
    have hx : rd (strs ws) done.length = .str (bs w) := by rw [h]; exact strs_mid done w rest
    have hno : NoBl w := ⟨hwin.2.1, hwin.2.2 (fun c hc => by cases hc)⟩
    have hwl := hwin.1
    simp only [List.length_nil] at hwl
    apply M11_1_of
    rw [dT (by omega), strs_len, ixT ⟨by omega, by omega⟩, Int.toNat_natCast, hx, datS, bsZ, bsZ, dT (by simp only [List.length_cons, List.length_nil]; omega), bsA]
    have := blanks_in (bs s) bl hbl v4 (done.length : Int) w (by omega) (strs ws) (ws.length : Int) (done.length : Int) (p ++ [32]) (by simp only [List.length_append, List.length_cons, List.length_nil]; omega) (r := some [.bool true]) rfl (fun b hb hbl' => by
      rw [show IntKind.i64.wrap ((done.length : Int) + 1) = ((done.length + 1 : Nat) : Int) from by rw [w64 (by omega) (by omega)]; omega]
      have e : p ++ [32] ++ b ++ w = p ++ 32 :: (b ++ w) := by simp
      rw [e]
      have := ih (done ++ [w]) (p ++ 32 :: (b ++ w)) (by rw [h, List.append_assoc]; rfl) (by simp only [List.length_append, List.length_cons, List.length_nil]; omega) (hW.step hb hno)
      rw [List.length_append, List.length_cons, List.length_nil] at this
      exact this) bl.length 0 [] (by omega) (Nat.zero_le _) (Nat.le_refl _) (fun c hc => by cases hc)
    rw [List.append_nil] at this
    exact this
theorem CmdBlanks_pure (e0 e1 : Dat) (h0 : fitT C.T 9 9 e0) (h1 : fitT C.T 9 63 e1) : E C 11 [.str e0.S, .shr 5 e1.L] = some [.bool true] := by
  obtain ⟨s, rfl⟩ := fit_strS h0
  apply o11
  rw [bT anchor26_E]
  simp only [rd0, datB, datS]
  rw [nF rfl, bsZ]
  by_cases g1 : (s.length : Int) > 300
  · rw [dT g1]
  rw [dF g1]
  by_cases g2 : (e1.L.length : Int) > 100
  · rw [dT g2]
  rw [dF g2, bT (Words_E s (by omega))]
  simp only [rd0, datL]
  rw [strs_len]
  exact blanks_out s (by omega) e1.L (by omega) false (wordsL s []) rfl (wordsL s []) [] [] rfl (Nat.le_refl _) (fun c r hc => by
    show wordsL (c :: r) [] = [] ++ wordsL r []
    rw [wordsL, hc]
    rfl)
end Go.Proofs.YtpfnmjpccmobpaaDoor.V
