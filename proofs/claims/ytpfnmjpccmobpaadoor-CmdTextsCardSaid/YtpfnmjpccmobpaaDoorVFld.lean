/- strings.FieldsFunc at blanks and tabulators as a function that is given: over the library's contract. -/
import Derived.Test.YtpfnmjpccmobpaaDoorVCd
import Derived.Test.YtpfnmjpccmobpaaDoorUWds
import Derived.Test.YtpfnmjpccmobpaaDoorLayFld
import Derived.WalkKit
namespace Go.Proofs.YtpfnmjpccmobpaaDoor.V
open Go Go.Ev Go.RowKit Go.Shelf
set_option linter.unusedVariables false
set_option linter.unusedSimpArgs false
set_option maxRecDepth 100000
/-- A row of strings of the call's own, as a result. -/
theorem own_rowS {C : Ctx} {w' : World} {e et : TypeId} {te : TI} (hte : C.T e = some te) (hc : te.cts = [.str]) (hsz : te.size = 1) (hag : te.agg = false) {base : Nat} {v : Value} {r : List ByteArray} (h : w'.ownsRow base et 1 v r.length (r.map Value.string)) :
    ∃ (fR : List Nat) (G : Nat → Option Addr × Nat × Nat), fR.Nodup ∧ (∀ b, b ∈ fR → base ≤ b ∧ b < w'.heap.size) ∧ ∀ (St : Nat → Prop) (Hc : Gh) (d : Nat), (∀ i, Hc.hd0 d i = G i) → RelS C.T w' St Hc v fR (.own d 0 e (r.map .str)) := by
  obtain ⟨_, h⟩ := h
  rcases h with ⟨rfl, hn⟩ | ⟨g, cap, cur, rfl, hb, hh, hcap, hm, hs, ht⟩
  · have hr : r = [] := List.length_eq_zero_iff.1 hn
    subst hr
    exact ⟨[], fun _ => (none, 0, 0), List.nodup_nil, (fun b hb => by cases hb), fun St Hc d hG => ⟨by simp only [Gh.hd, hG], te, none, 0, fun h => absurd rfl h, rfl, Nat.le_refl _, .inl ⟨rfl, rfl⟩⟩⟩
  · refine ⟨[g], fun _ => (some ⟨g, 0, none⟩, r.length, cap), by simp, fun b hb' => ?_, fun St Hc d hG => ⟨by simp only [Gh.hd, hG], te, _, cap, fun _ => ⟨hte, by omega⟩, by rw [List.length_map], by rw [List.length_map]; exact hcap, .inr ⟨g, 0, cur, et, (0, 0), rfl, rfl, hh, ⟨Nat.le_refl _, fun x _ hx => by omega⟩, by rw [hs, hsz]; omega, fun i j hi hj => ?_⟩⟩⟩
    · rw [List.mem_singleton] at hb'
      subst hb'
      exact ⟨hb, (Array.getElem?_eq_some_iff.1 hh).1⟩
    · rw [List.length_map] at hi
      have hj0 : j = 0 := by omega
      subst hj0
      have hcur : cur.toList[i]? = some (.string r[i]) := by
        have : (cur.toList.take (r.length * 1))[i]? = some (.string r[i]) := by rw [ht]; simp [hi]
        rwa [List.getElem?_take_of_lt (by omega)] at this
      refine ⟨.string r[i], ?_, fun ct hct => ?_⟩
      · show w'.cell? ⟨g, 0 + i * te.size + 0, none⟩ = some (.string r[i])
        simp only [World.cell?, hh, Option.isSome_none, Bool.false_eq_true, if_false, hsz, Nat.mul_one, Nat.zero_add, Nat.add_zero]
        rw [← Array.getElem?_toList]
        exact hcur
      · rw [hc] at hct
        simp only [List.getElem?_cons_zero, Option.some.injEq] at hct
        subst hct
        refine .str ?_
        have : (cellOf te (rd (r.map Dat.str) i) 0).S = r[i] := by simp [cellOf, hag, rd, hi, Dat.S]
        rw [this]
theorem blank_calls (x : Nat) (W : World) : Calls Tryd.prog 92 #[.int .i32 (x : Int)] W fun e w' => e = .returned (.bool (blR x)) ∧ ∃ q, w' = W.drewN q := by
  unfold blR
  by_cases h1 : x = 32
  · subst h1
    go_enter Tryd.func92, Tryd.ntmps92
    go_wp2
    go_ret
    exact ⟨rfl, 0, rfl⟩
  · have h1' : ¬ ((x : Int) = 32) := by omega
    rw [beq_eq_false_iff_ne.2 h1, Bool.false_or]
    by_cases h2 : x = 9
    · subst h2
      go_enter Tryd.func92, Tryd.ntmps92
      go_wp2
      go_ret
      exact ⟨rfl, 0, rfl⟩
    · have h2' : ¬ ((x : Int) = 9) := by omega
      rw [beq_eq_false_iff_ne.2 h2]
      go_enter Tryd.func92, Tryd.ntmps92
      go_wp2
      go_ret
      refine ⟨?_, 0, rfl⟩
      show Ending.returned (Value.bool ((x : Int) == 32 || (x : Int) == 9)) = _
      rw [beq_eq_false_iff_ne.2 h1', beq_eq_false_iff_ne.2 h2']
      rfl
theorem fields_ok {args : List AV} {ds : List Dat} (h : gFields 92 args = some ds) : FnR Tryd.prog C 91 args ds := by
  refine FnOk.r ?_ (by kernel_rfl)
  unfold gFields at h
  split at h
  case h_2 => cases h
  rename_i s f
  cases hb : Nat.beq f 92 && decide (s.size ≤ 4294967296) with
  | false => rw [hb] at h; cases h
  | true =>
    rw [hb] at h
    obtain rfl := Option.some.inj h
    simp only [Bool.and_eq_true, decide_eq_true_eq] at hb
    obtain ⟨he, hlim⟩ := hb
    obtain rfl := Nat.eq_of_beq_eq_true he
    refine fnOk_of pok (by kernel_rfl) (fun j cs => by match j with | 0 => simp [geti] | 1 => simp [geti] | j + 2 => simp [geti]) fun S us H F hS hi => ?_
    have hlen : us.size = 2 := by have := hi.len; simpa using this.symm
    obtain ⟨u0, u1, rfl⟩ : ∃ u0 u1, us = #[u0, u1] := by
      obtain ⟨us⟩ := us
      match us, hlen with
      | [a, b], _ => exact ⟨a, b, rfl⟩
    have e0 : u0 = .string s := (hi.rel 0 (by simp)).2
    have e1 : u1 = .func (.func 92) #[] #[] := by
      obtain ⟨us', vs', g1, g2, g3, g4⟩ := hi.rel 1 (by simp)
      have n1 : us' = #[] := by
        obtain ⟨l⟩ := us'
        cases l with
        | nil => rfl
        | cons a l => exact g3.elim
      have n2 : vs' = #[] := by
        obtain ⟨l⟩ := vs'
        cases l with
        | nil => rfl
        | cons a l => exact g4.elim
      subst n1 n2
      exact g1
    subst e0 e1
    have hkr : C.rk 91 = [.own 9] := by kernel_rfl
    have tyS : C.T 9 = some ⟨1, 16, [.str], false, .scal⟩ := by kernel_rfl
    have eg : ∀ args w, (callFunc 92 args).run Tryd.prog w = .ok (.enter 92 args) w := enters_of Tryd.func92 (by kernel_rfl) rfl
    have hp : PredAtRunes Tryd.prog 92 #[] blR S.w0 := fun W x _ _ => blank_calls x W
    rw [hkr]
    refine Calls.mono (Any.strings_FieldsFunc_runes Tryd.laysFld 92 #[] eg blR s S.w0 hlim hp (by kernel_rfl) (by kernel_rfl)) ?_
    rintro e w' ⟨A, rfl, hA, hown, hbel⟩
    have hown' : w'.ownsRow S.w0.heap.size 9 1 (.slice (some ⟨A, 0, none⟩) (Lib.goFieldsP blR s).length (Lib.goFieldsP blR s).length) (Lib.goFieldsP blR s).length ((Lib.goFieldsP blR s).map Value.string) := hown
    obtain ⟨fR, G, k1, k2, k3⟩ := own_rowS tyS rfl rfl rfl hown'
    refine ⟨_, rfl, hbel, fR, G, k1, k2, fun Hc d hG => ?_⟩
    have hfin := k3 S.St0 Hc d hG
    have e : ((wordsL s.data.toList []).map fun w => Dat.str ⟨w.toArray⟩) = (Lib.goFieldsP blR s).map Dat.str := by
      rw [fields_words, List.map_map]
      rfl
    show RelS C.T w' S.St0 Hc _ fR (.own d 0 9 ((wordsL s.data.toList []).map fun w => Dat.str ⟨w.toArray⟩))
    rw [e]
    exact hfin
end Go.Proofs.YtpfnmjpccmobpaaDoor.V
