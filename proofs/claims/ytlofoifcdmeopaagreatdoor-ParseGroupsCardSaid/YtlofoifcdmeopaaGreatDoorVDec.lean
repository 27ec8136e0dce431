/- utf8.DecodeRune as a function that is given; what the tables hold. -/
import Derived.Test.YtlofoifcdmeopaaGreatDoorVCa
import Derived.Test.YtlofoifcdmeopaaGreatDoorLayDec
import Derived.Shelf.Unicode.DecodeSlow
namespace Go.Proofs.YtlofoifcdmeopaaGreatDoor.V
open Go Go.Ev Go.RowKit Go.Shelf
set_option linter.unusedVariables false
set_option linter.unusedSimpArgs false
set_option maxRecDepth 100000

def TabsOk (w : World) : Prop := Go.Lib.Utf8Tabs 7 8 w
theorem TabsOk.below {w w' : World} (h : TabsOk w) (hb : Below w.heap.size w w') : TabsOk w' := Go.Proofs.Utf8Tabs_below h hb
theorem ty_u8 : C.T 5 = some ⟨1, 1, [.int .u8], false, .scal⟩ := rfl
theorem ty_acc : C.T 321 = some ⟨2, 2, [.int .u8, .int .u8], true, .struct [(0, 5), (1, 5)]⟩ := rfl
theorem glob0 : C.glob 7 = some (.sref 5 firstL 0 0) := rfl
theorem glob1 : C.glob 8 = some (.sref 321 accL 0 0) := rfl
theorem firstL_rd {c : Nat} (h : c < 256) : rd firstL c = .int (Go.Lib.firstT c) := by simp [rd, firstL, h]
theorem accL_rd {i : Nat} (h : i < 16) : rd accL i = .agg [.int (Go.Lib.accLo i), .int (Go.Lib.accHi i)] := by simp [rd, accL, h]
theorem len_first : firstL.length = 256 := by simp [firstL]
theorem len_acc : accL.length = 16 := by simp [accL]
theorem tabs_of_rel {w : World} {St : Nat → Prop} (h : ∀ g v, C.glob g = some v → ∀ H, RelS C.T w St H (.pointer (some ⟨g, 0, none⟩)) [] v) : TabsOk w := by
  let H0 : Gh := ⟨fun _ _ => (none, 0, 0), fun _ => (0, 0)⟩
  have h0 := h _ _ glob0 H0
  have h1 := h _ _ glob1 H0
  obtain ⟨_, ti, b, o, k1, k2, k3, k4, k5⟩ := (show RelC C.T w St H0 _ [] (.sref _ firstL 0 0) from h0)
  rw [ty_u8, Option.some.injEq] at k1
  subst k1
  simp only [Nat.zero_mul, Nat.add_zero, Value.pointer.injEq, Option.some.injEq, Addr.mk.injEq, and_true] at k3
  obtain ⟨rfl, rfl⟩ := k3
  obtain ⟨_, ti, b, o, m1, m2, m3, m4, m5⟩ := (show RelC C.T w St H0 _ [] (.sref _ accL 0 0) from h1)
  rw [ty_acc, Option.some.injEq] at m1
  subst m1
  simp only [Nat.zero_mul, Nat.add_zero, Value.pointer.injEq, Option.some.injEq, Addr.mk.injEq, and_true] at m3
  obtain ⟨rfl, rfl⟩ := m3
  refine ⟨fun c hc => ?_, fun i hi => ⟨?_, ?_⟩⟩
  · obtain ⟨u, q1, q2⟩ := k5 c 0 (by rw [len_first]; exact hc) (by simp)
    have q3 := q2 _ rfl
    cases q3 with
    | int q3 =>
      simp only [Nat.mul_one, Nat.add_zero, Nat.zero_add] at q1
      rw [q1, q3, firstL_rd hc]
      rfl
  · obtain ⟨u, q1, q2⟩ := m5 i 0 (by rw [len_acc]; exact hi) (by simp)
    have q3 := q2 _ rfl
    cases q3 with
    | int q3 =>
      simp only [Nat.add_zero, Nat.zero_add] at q1
      rw [Nat.mul_comm, q1, q3, accL_rd hi]
      rfl
  · obtain ⟨u, q1, q2⟩ := m5 i 1 (by rw [len_acc]; exact hi) (by simp)
    have q3 := q2 _ rfl
    cases q3 with
    | int q3 =>
      simp only [Nat.zero_add] at q1
      rw [Nat.mul_comm, q1, q3, accL_rd hi]
      rfl
theorem globOk {w : World} (h : TabsOk w) : GlobOk C w := by
  obtain ⟨h1, h2⟩ := h
  have b0 := World.block_lt_of_cell? w _ (h1 0 (by omega))
  have b1 := World.block_lt_of_cell? w _ (h2 0 (by omega)).1
  intro g v hv
  have hg : (g = 7 ∧ v = .sref 5 firstL 0 0) ∨ (g = 8 ∧ v = .sref 321 accL 0 0) := by
    have hv' : pickUp g globs = some v := hv
    unfold globs at hv'
    simp only [pickUp] at hv'
    cases e1 : Nat.beq g 7 with
    | true =>
      rw [e1] at hv'
      exact .inl ⟨Nat.eq_of_beq_eq_true e1, (Option.some.inj hv').symm⟩
    | false =>
      rw [e1] at hv'
      cases e2 : Nat.beq g 8 with
      | true =>
        rw [e2] at hv'
        exact .inr ⟨Nat.eq_of_beq_eq_true e2, (Option.some.inj hv').symm⟩
      | false =>
        rw [e2] at hv'
        simp at hv'
  rcases hg with ⟨rfl, rfl⟩ | ⟨rfl, rfl⟩
  · refine ⟨fun H => ⟨rfl, _, _, 0, ty_u8, by simp, by simp, b0, fun i j hi hj => ?_⟩, fun _ => rfl, rfl, by simp⟩
    rw [len_first] at hi
    have hj0 : j = 0 := by simp at hj; omega
    subst hj0
    refine ⟨_, by simp only [Nat.mul_one, Nat.add_zero, Nat.zero_add]; exact h1 i hi, fun ct hct => ?_⟩
    simp only [List.getElem?_cons_zero, Option.some.injEq] at hct
    subst hct
    exact .int (by rw [firstL_rd hi]; rfl)
  · refine ⟨fun H => ⟨rfl, _, _, 0, ty_acc, by simp, by simp, b1, fun i j hi hj => ?_⟩, fun _ => rfl, rfl, by simp⟩
    rw [len_acc] at hi
    have hj0 : j = 0 ∨ j = 1 := by
      have : j < 2 := hj
      omega
    rcases hj0 with rfl | rfl
    · refine ⟨_, by simp only [Nat.add_zero, Nat.zero_add]; rw [Nat.mul_comm]; exact (h2 i hi).1, fun ct hct => ?_⟩
      simp only [List.getElem?_cons_zero, Option.some.injEq] at hct
      subst hct
      exact .int (by rw [accL_rd hi]; rfl)
    · refine ⟨_, by simp only [Nat.zero_add]; rw [Nat.mul_comm]; exact (h2 i hi).2, fun ct hct => ?_⟩
      simp only [List.getElem?_cons_succ, List.getElem?_cons_zero, Option.some.injEq] at hct
      subst hct
      exact .int (by rw [accL_rd hi]; rfl)
theorem dec_ok {args : List AV} {ds : List Dat} (h : gDecode 5 args = some ds) : FnR Tryz.prog C 233 args ds := by
  refine FnOk.r ?_ (by kernel_rfl)
  unfold gDecode at h
  split at h
  case h_2 => cases h
  rename_i e' l
  cases hb : Nat.beq e' 5 && (!l.isEmpty && isBytes (ints l)) with
  | false => rw [hb] at h; cases h
  | true =>
    rw [hb] at h
    obtain rfl := Option.some.inj h
    simp only [Bool.and_eq_true, Bool.not_eq_true'] at hb
    obtain ⟨he, hne, hby⟩ := hb
    obtain rfl := Nat.eq_of_beq_eq_true he
    have hne : l ≠ [] := fun e => by rw [e] at hne; simp at hne
    refine fnOk_of pok (by kernel_rfl) (fun j cs => by cases j <;> simp [geti]) fun S us H F hS hi => ?_
    have hT : TabsOk S.w0 := tabs_of_rel fun g v hv => (hS.glob g v hv).1
    have hlen : us.size = 1 := by have := hi.len; simpa using this.symm
    obtain ⟨u, rfl⟩ : ∃ u, us = #[u] := by
      obtain ⟨us⟩ := us
      match us, hlen with
      | [u], _ => exact ⟨u, rfl⟩
    obtain ⟨A, c, hu, hc, ⟨bb, o, hA, hcell⟩, _⟩ := bytes_of ty_u8 (hi.rel 0 (by simp))
    have hu : u = .slice A l.length c := hu
    subst hu
    have hni : ints l ≠ [] := fun e => hne (List.map_eq_nil_iff.1 e)
    obtain rfl := hA hni
    have hsz := toBA_size (ints l)
    have hil : (ints l).length = l.length := by simp [ints]
    have hp : ∀ j, j < (toBA (ints l)).size → S.w0.cell? ⟨bb, o + j, none⟩ = some (.int .u8 ((toBA (ints l)).get! j).toNat) := fun j hj => by
      rw [hsz] at hj
      rw [toBA_get _ hby j hj]
      exact hcell j hj
    have hcon := Any7.utf8_DecodeRune Tryz.laysDec (toBA (ints l)) bb o c S.w0 hT hp
    rw [hsz, hil] at hcon
    refine Calls.mono hcon ?_
    rintro e w' ⟨rfl, hbel⟩
    exact ⟨_, rfl, hbel, [], fun _ => (none, 0, 0), List.nodup_nil, fun b hb => by (cases hb), fun Hc d _ => ⟨_, rfl, [], [], rfl, ⟨rfl, rfl⟩, [], [], rfl, ⟨rfl, rfl⟩, rfl⟩⟩
end Go.Proofs.YtlofoifcdmeopaaGreatDoor.V
