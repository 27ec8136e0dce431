/- clewlaw05.ClassNames, by hand: for every number the call answers true; nothing that was there is turned. -/
import Derived.Test.YteploglmfmhppaaL05
import Derived.Test.YteploglmfmhppaaPx21
namespace Go.Proofs.Yteploglmfmhppaa.P
open Go.RowKit Go.Proofs.YteploglmfmhppaaW.PrintWords Go.Proofs.YteploglmfmhppaaW.PrintLast Go.Proofs.YteploglmfmhppaaW.PrintMore
set_option linter.unusedVariables false
set_option linter.unusedSimpArgs false

theorem Names_l0 : ∀ (rest pre : List S84) (k : Nat), allN = pre ++ rest → rest.length + 1 ≤ k → class_Names.l0 k (pre.map fun y => y.f0) allN (allN.length : Int) (pre.length : Int) = some refNames := by
  intro rest
  induction rest with
  | nil =>
    intro pre k hxs hk
    obtain ⟨k, rfl⟩ : ∃ j, k = j + 1 := ⟨k - 1, by simp only [List.length_nil] at hk; omega⟩
    have hl : allN.length = pre.length := by rw [hxs]; simp
    simp only [class_Names.l0]
    rw [if_neg (by omega), all_names, show allN = pre by rw [hxs]; simp]
  | cons r rest ih =>
    intro pre k hxs hk
    simp only [List.length_cons] at hk
    obtain ⟨k, rfl⟩ : ∃ j, k = j + 1 := ⟨k - 1, by omega⟩
    have hl : allN.length = pre.length + (rest.length + 1) := by rw [hxs]; simp
    have h14 := allN_length
    have hr : rd_T84 allN (pre.length : Int) = r := by rw [hxs]; simp [rd_T84]
    have hnext : allN = (pre ++ [r]) ++ rest := by rw [hxs]; simp
    have hw2 : wrap64 ((pre.length : Int) + 1) = ((pre ++ [r]).length : Int) := by
      rw [w64 (by omega) (by omega)]
      simp
    have hm : (pre.map fun y => y.f0) ++ [r.f0] = (pre ++ [r]).map fun y => y.f0 := by simp
    simp only [class_Names.l0, hr, hw2, hm]
    rw [if_pos (by omega), if_pos (by omega), if_pos (by omega), if_pos (by rw [List.length_map]; omega)]
    exact ih (pre ++ [r]) k hnext (by omega)
theorem Names_eq : class_Names.f 20 = some refNames := by
  unfold class_Names.f
  rw [allN_eq, Option.bind_some]
  exact Names_l0 allN [] 20 rfl (by rw [allN_length]; omega)
theorem named_each (k : Nat) (hk : k < 14) : (namedR (refNames.getD k .empty)).2 = true ∧ 0 < (namedR (refNames.getD k .empty)).1.length := by
  match k, hk with
  | 0, _ => exact ⟨by decide +kernel, by decide +kernel⟩
  | 1, _ => exact ⟨by decide +kernel, by decide +kernel⟩
  | 2, _ => exact ⟨by decide +kernel, by decide +kernel⟩
  | 3, _ => exact ⟨by decide +kernel, by decide +kernel⟩
  | 4, _ => exact ⟨by decide +kernel, by decide +kernel⟩
  | 5, _ => exact ⟨by decide +kernel, by decide +kernel⟩
  | 6, _ => exact ⟨by decide +kernel, by decide +kernel⟩
  | 7, _ => exact ⟨by decide +kernel, by decide +kernel⟩
  | 8, _ => exact ⟨by decide +kernel, by decide +kernel⟩
  | 9, _ => exact ⟨by decide +kernel, by decide +kernel⟩
  | 10, _ => exact ⟨by decide +kernel, by decide +kernel⟩
  | 11, _ => exact ⟨by decide +kernel, by decide +kernel⟩
  | 12, _ => exact ⟨by decide +kernel, by decide +kernel⟩
  | 13, _ => exact ⟨by decide +kernel, by decide +kernel⟩
  | k + 14, h => exact absurd h (by omega)

def clewlaw05_ClassNames.f (k : Nat) (a0 : Int) : Option Bool := some true
theorem ClassNames_pure (a0 : Int) (_ : (Lit.int .i64 a0).wf = true) : ∃ k, clewlaw05_ClassNames.f k a0 = some true := ⟨0, rfl⟩

/-- The names, one behind the other, from a place on. -/
def NamesAt (W : World) (ad : Addr) : Prop := ∀ k, k < 14 → W.cell? (ad.add k) = some (.string (refNames.getD k .empty))
theorem NamesAt.below {W W' : World} {ad : Addr} (h : NamesAt W ad) (hb : Below W.heap.size W W') : NamesAt W' ad := fun k hk => by
  have h1 := h k hk
  exact (hb.cell (World.block_lt_of_cell? W _ h1)).trans h1
theorem NamesAt.alloc {W : World} {ad : Addr} (h : NamesAt W ad) (o : Obj) : NamesAt (W.alloc o) ad := h.below ((Below.refl _ W).alloc (Nat.le_refl _) o)
theorem classNames14 (W : World) : Calls Try.prog 36 #[] W fun e w' => ∃ ad c1, e = .returned (.slice (some ad) 14 c1) ∧ NamesAt w' ad ∧ Below W.heap.size W w' := by
  refine (class_Names.calls 20 refNames W Names_eq).mono ?_
  rintro e w' ⟨v, rfl, hr, hb⟩
  obtain ⟨A1, c1, rfl, hc1, hC1⟩ := Kd.R_reads hr
  have h14 : refNames.length = 14 := rfl
  rw [h14] at hC1 ⊢
  obtain ⟨ad, rfl, _⟩ := Kd.at_string hC1 0 (by omega) (by omega)
  refine ⟨ad, c1, rfl, fun k hk => ?_, hb⟩
  obtain ⟨ad2, he, hx⟩ := Kd.at_string hC1 (k : Int) (by omega) (by omega)
  obtain rfl := Option.some.inj he
  exact hx
theorem classNamedAt (k : Nat) (hk : k < 14) (W : World) : Calls Try.prog 38 #[.string (refNames.getD k .empty)] W fun e w' => ∃ A1 c1, ∃ n : Nat, e = .returned (.tuple #[.slice A1 n c1, .bool true]) ∧ 0 < n ∧ Below W.heap.size W w' := by
  obtain ⟨h1, h2⟩ := named_each k hk
  refine (class_Named.calls (refNames.getD k .empty) (namedR (refNames.getD k .empty)).1 (namedR (refNames.getD k .empty)).2 W rfl).mono ?_
  rintro e w' ⟨v, rfl, hv, hb⟩
  obtain ⟨A1, c1, rfl, _, _⟩ := hv
  rw [h1]
  exact ⟨A1, c1, _, rfl, h2, hb⟩

set_option maxHeartbeats 8000000 in
set_option maxRecDepth 100000 in
theorem clewlaw05_ClassNames.calls (k : Nat) (a0 : Int) (r : Bool) (w : World) (h : clewlaw05_ClassNames.f k a0 = some r) :
    Calls Try.prog 11 #[.int .i64 a0] w fun e w' => e = .returned (.bool r) ∧ Below w.heap.size w w' := by
  obtain rfl : true = r := Option.some.inj h
  clear h
  obtain ⟨K1, h1⟩ := anchor05_ev
  have han := fun W => clewlaw05_anchor.calls K1 true W (h1 K1 (Nat.le_refl _))
  have hnm := classNames14
  have href := names_calls
  unfold cellsNames at href
  clear h1
  have HB := Aside0.mk (Below.refl w.heap.size w)
  rcases (by omega : a0 < 0 ∨ 13 < a0 ∨ (0 ≤ a0 ∧ a0 ≤ 13)) with hc | hc | hc
  · go_enter Try.func11, Try.ntmps11
    go_wp2_with (first | ((with_reducible refine (han _).mono ?_); rintro e w1 ⟨rfl, hb⟩; have n0_ := Aside0.mk (below_step (by repeat (first | (with_reducible first | exact HB.out | apply below_alloc | apply pw_below_drewN | apply below_drew1) | exact HB.out)) hb); clear HB; have HB := n0_; (try (have m0_ := Aside0.mk (NamesAt.below HC.out hb); clear HC; have HC := m0_; clear m0_)); clear n0_ hb) | ((with_reducible refine (hnm _).mono ?_); rintro e w1 ⟨ad1, c1, rfl, hC1, hb⟩; have n0_ := Aside0.mk (below_step (by repeat (first | (with_reducible first | exact HB.out | apply below_alloc | apply pw_below_drewN | apply below_drew1) | exact HB.out)) hb); clear HB; have HB := n0_; (try (have m0_ := Aside0.mk (NamesAt.below HC.out hb); clear HC; have HC := m0_; clear m0_)); clear n0_ hb; have HC := Aside0.mk hC1; clear hC1) | ((with_reducible refine (href _).mono ?_); rintro e w1 ⟨rfl, hb⟩; have n0_ := Aside0.mk (below_step (by repeat (first | (with_reducible first | exact HB.out | apply below_alloc | apply pw_below_drewN | apply below_drew1) | exact HB.out)) hb); clear HB; have HB := n0_; (try (have m0_ := Aside0.mk (NamesAt.below HC.out hb); clear HC; have HC := m0_; clear m0_)); clear n0_ hb))
    go_ret
    exact ⟨rfl, HB.out.alloc HB.out.size _⟩
  · go_enter Try.func11, Try.ntmps11
    go_wp2_with (first | ((with_reducible refine (han _).mono ?_); rintro e w1 ⟨rfl, hb⟩; have n0_ := Aside0.mk (below_step (by repeat (first | (with_reducible first | exact HB.out | apply below_alloc | apply pw_below_drewN | apply below_drew1) | exact HB.out)) hb); clear HB; have HB := n0_; (try (have m0_ := Aside0.mk (NamesAt.below HC.out hb); clear HC; have HC := m0_; clear m0_)); clear n0_ hb) | ((with_reducible refine (hnm _).mono ?_); rintro e w1 ⟨ad1, c1, rfl, hC1, hb⟩; have n0_ := Aside0.mk (below_step (by repeat (first | (with_reducible first | exact HB.out | apply below_alloc | apply pw_below_drewN | apply below_drew1) | exact HB.out)) hb); clear HB; have HB := n0_; (try (have m0_ := Aside0.mk (NamesAt.below HC.out hb); clear HC; have HC := m0_; clear m0_)); clear n0_ hb; have HC := Aside0.mk hC1; clear hC1) | ((with_reducible refine (href _).mono ?_); rintro e w1 ⟨rfl, hb⟩; have n0_ := Aside0.mk (below_step (by repeat (first | (with_reducible first | exact HB.out | apply below_alloc | apply pw_below_drewN | apply below_drew1) | exact HB.out)) hb); clear HB; have HB := n0_; (try (have m0_ := Aside0.mk (NamesAt.below HC.out hb); clear HC; have HC := m0_; clear m0_)); clear n0_ hb))
    go_ret
    exact ⟨rfl, HB.out.alloc HB.out.size _⟩
  · obtain ⟨kk, rfl⟩ : ∃ kk : Nat, a0 = (kk : Int) := ⟨a0.toNat, by omega⟩
    have hkk : kk < 14 := by omega
    have hc1 : ¬ (kk : Int) < 0 := by omega
    have hc2 : ¬ (kk : Int) > 13 := by omega
    have hnd := classNamedAt kk hkk
    generalize hs : refNames.getD kk .empty = s at hnd
    have HS := Aside0.mk hs
    clear hs hc
    go_enter Try.func11, Try.ntmps11
    go_wp2_with (first | ((with_reducible refine (han _).mono ?_); rintro e w1 ⟨rfl, hb⟩; have n0_ := Aside0.mk (below_step (by repeat (first | (with_reducible first | exact HB.out | apply below_alloc | apply pw_below_drewN | apply below_drew1) | exact HB.out)) hb); clear HB; have HB := n0_; (try (have m0_ := Aside0.mk (NamesAt.below HC.out hb); clear HC; have HC := m0_; clear m0_)); clear n0_; clear hb) | ((with_reducible refine (hnm _).mono ?_); rintro e w2 ⟨ad1, c1, rfl, hC1, hb⟩; have n0_ := Aside0.mk (below_step (by repeat (first | (with_reducible first | exact HB.out | apply below_alloc | apply pw_below_drewN | apply below_drew1) | exact HB.out)) hb); clear HB; have HB := n0_; (try (have m0_ := Aside0.mk (NamesAt.below HC.out hb); clear HC; have HC := m0_; clear m0_)); clear n0_; clear hb; have HC := Aside0.mk hC1; clear hC1) | ((with_reducible refine (href _).mono ?_); rintro e w3 ⟨rfl, hb⟩; have n0_ := Aside0.mk (below_step (by repeat (first | (with_reducible first | exact HB.out | apply below_alloc | apply pw_below_drewN | apply below_drew1) | exact HB.out)) hb); clear HB; have HB := n0_; (try (have m0_ := Aside0.mk (NamesAt.below HC.out hb); clear HC; have HC := m0_; clear m0_)); clear n0_; clear hb; have hq := fun o => (NamesAt.alloc HC.out o) kk hkk; rw [HS.out] at hq) | ((with_reducible refine (hnd _).mono ?_); rintro e w4 ⟨A2, c2, n2, rfl, hn2, hb⟩; clear hq; have hx1 := (NamesAt.below (NamesAt.alloc HC.out _) hb) kk hkk; rw [HS.out] at hx1; have hx2 := names_at (blk_under (heap_alloc_new _ _) hb) kk hkk; rw [HS.out] at hx2; have n0_ := Aside0.mk (below_step (by repeat (first | (with_reducible first | exact HB.out | apply below_alloc | apply pw_below_drewN | apply below_drew1) | exact HB.out)) hb); clear HB HC; have HB := n0_; clear n0_ hb))
    have hltz : (kk : Int) < 14 := by omega
    have hss : (s.toList == s.toList) = true := by simp
    have hn0 : decide ((n2 : Int) > 0) = true := decide_eq_true (by omega)
    refine start_ (n := 17) (S := fun w' => w'.cell? (ad1.add kk) = some (.string s) ∧ w'.cell? ⟨w3.heap.size, kk, none⟩ = some (.string s)) (ds := []) #[false, false, false, false, false, false, false, false, false, false, false, false, false, false, false, false, false] (by kernel_rfl) rfl rfl ⟨hx1, hx2⟩ (fun hHeld => ?_)
    refine pure_ (i := 0) (N := some 33) (v := ?_) (a' := ?_) #[true, false, false, false, false, false, false, false, false, false, false, false, false, false, false, false, false] rfl rfl (by kernel_rfl) (fun _ _ _ h => h) (Or.inl ⟨by rfl, ?_⟩) ?_ ?_
    rotate_left
    · intro w'
      go_simp
      with_reducible rfl
    rotate_left
    · simp only [Act.put, List.setIfInBounds_toArray, List.set_cons_zero, List.set_cons_succ, i64_w, i32_w]
      rfl
    refine pure_ (i := 1) (N := some 34) (v := ?_) (a' := ?_) #[true, true, false, false, false, false, false, false, false, false, false, false, false, false, false, false, false] rfl rfl (by kernel_rfl) (fun _ _ _ h => h) (Or.inl ⟨by rfl, ?_⟩) ?_ ?_
    rotate_left
    · intro w'
      go_simp
      with_reducible rfl
    rotate_left
    · simp only [Act.put, List.setIfInBounds_toArray, List.set_cons_zero, List.set_cons_succ, i64_w, i32_w]
      rfl
    refine pure_ (i := 2) (N := some 35) (v := ?_) (a' := ?_) #[true, true, true, false, false, false, false, false, false, false, false, false, false, false, false, false, false] rfl rfl (by kernel_rfl) (fun _ _ _ h => h) (Or.inl ⟨by rfl, ?_⟩) ?_ ?_
    rotate_left
    · intro w'
      go_simp
      with_reducible rfl
    rotate_left
    · simp only [Act.put, List.setIfInBounds_toArray, List.set_cons_zero, List.set_cons_succ, i64_w, i32_w]
      rfl
    refine pure_ (i := 4) (N := some 37) (v := ?_) (a' := ?_) #[true, true, true, false, true, false, false, false, false, false, false, false, false, false, false, false, false] rfl rfl (by kernel_rfl) (fun _ _ _ h => h) (Or.inl ⟨by rfl, ?_⟩) ?_ ?_
    rotate_left
    · intro w'
      go_simp
      with_reducible rfl
    rotate_left
    · simp only [Act.put, List.setIfInBounds_toArray, List.set_cons_zero, List.set_cons_succ, i64_w, i32_w]
      rfl
    refine pure_ (i := 5) (N := some 38) (v := ?_) (a' := ?_) #[true, true, true, false, true, true, false, false, false, false, false, false, false, false, false, false, false] rfl rfl (by kernel_rfl) (fun _ _ _ h => h) (Or.inl ⟨by rfl, ?_⟩) ?_ ?_
    rotate_left
    · intro w'
      go_simp
      with_reducible rfl
    rotate_left
    · simp only [Act.put, List.setIfInBounds_toArray, List.set_cons_zero, List.set_cons_succ, i64_w, i32_w]
      rfl
    refine take_ (i := 3) (N := some 36) (v := ?_) (a' := ?_) #[true, true, true, true, true, true, false, false, false, false, false, false, false, false, false, false, false] rfl rfl (by kernel_rfl) (fun _ _ _ h => h) (Or.inl ⟨by rfl, ?_⟩) hHeld ?_ ?_
    rotate_left
    · rintro w' ⟨s0, s1⟩
      go_simp
      with_reducible rfl
    rotate_left
    · simp only [Act.put, List.setIfInBounds_toArray, List.set_cons_zero, List.set_cons_succ, i64_w, i32_w]
      rfl
    refine take_ (i := 6) (N := some 39) (v := ?_) (a' := ?_) #[true, true, true, true, true, true, true, false, false, false, false, false, false, false, false, false, false] rfl rfl (by kernel_rfl) (fun _ _ _ h => h) (Or.inl ⟨by rfl, ?_⟩) hHeld ?_ ?_
    rotate_left
    · rintro w' ⟨s0, s1⟩
      go_simp
      with_reducible rfl
    rotate_left
    · simp only [Act.put, List.setIfInBounds_toArray, List.set_cons_zero, List.set_cons_succ, i64_w, i32_w]
      rfl
    refine pure_ (i := 7) (N := some 40) (v := ?_) (a' := ?_) #[true, true, true, true, true, true, true, true, false, false, false, false, false, false, false, false, false] rfl rfl (by kernel_rfl) (fun _ _ _ h => h) (Or.inl ⟨by rfl, ?_⟩) ?_ ?_
    rotate_left
    · intro w'
      go_simp
      with_reducible rfl
    rotate_left
    · simp only [Act.put, List.setIfInBounds_toArray, List.set_cons_zero, List.set_cons_succ, i64_w, i32_w]
      rfl
    refine pure_ (i := 8) (N := some 41) (v := ?_) (a' := ?_) #[true, true, true, true, true, true, true, true, true, false, false, false, false, false, false, false, false] rfl rfl (by kernel_rfl) (fun _ _ _ h => h) (Or.inl ⟨by rfl, ?_⟩) ?_ ?_
    rotate_left
    · intro w'
      go_simp
      with_reducible rfl
    rotate_left
    · simp only [Act.put, List.setIfInBounds_toArray, List.set_cons_zero, List.set_cons_succ, i64_w, i32_w]
      rfl
    refine pure_ (i := 9) (N := some 42) (v := ?_) (a' := ?_) #[true, true, true, true, true, true, true, true, true, true, false, false, false, false, false, false, false] rfl rfl (by kernel_rfl) (fun _ _ _ h => h) (Or.inl ⟨by rfl, ?_⟩) ?_ ?_
    rotate_left
    · intro w'
      go_simp
      with_reducible rfl
    rotate_left
    · simp only [Act.put, List.setIfInBounds_toArray, List.set_cons_zero, List.set_cons_succ, i64_w, i32_w]
      rfl
    refine pure_ (i := 10) (N := some 43) (v := ?_) (a' := ?_) #[true, true, true, true, true, true, true, true, true, true, true, false, false, false, false, false, false] rfl rfl (by kernel_rfl) (fun _ _ _ h => h) (Or.inl ⟨by rfl, ?_⟩) ?_ ?_
    rotate_left
    · intro w'
      go_simp
      with_reducible rfl
    rotate_left
    · simp only [Act.put, List.setIfInBounds_toArray, List.set_cons_zero, List.set_cons_succ, i64_w, i32_w]
      rfl
    refine pure_ (i := 11) (N := some 44) (v := ?_) (a' := ?_) #[true, true, true, true, true, true, true, true, true, true, true, true, false, false, false, false, false] rfl rfl (by kernel_rfl) (fun _ _ _ h => h) (Or.inl ⟨by rfl, ?_⟩) ?_ ?_
    rotate_left
    · intro w'
      go_simp
      with_reducible rfl
    rotate_left
    · simp only [Act.put, List.setIfInBounds_toArray, List.set_cons_zero, List.set_cons_succ, i64_w, i32_w]
      rfl
    refine pure_ (i := 12) (N := some 45) (v := ?_) (a' := ?_) #[true, true, true, true, true, true, true, true, true, true, true, true, true, false, false, false, false] rfl rfl (by kernel_rfl) (fun _ _ _ h => h) (Or.inl ⟨by rfl, ?_⟩) ?_ ?_
    rotate_left
    · intro w'
      go_simp
      with_reducible rfl
    rotate_left
    · simp only [Act.put, List.setIfInBounds_toArray, List.set_cons_zero, List.set_cons_succ, i64_w, i32_w]
      rfl
    refine pure_ (i := 13) (N := some 46) (v := ?_) (a' := ?_) #[true, true, true, true, true, true, true, true, true, true, true, true, true, true, false, false, false] rfl rfl (by kernel_rfl) (fun _ _ _ h => h) (Or.inl ⟨by rfl, ?_⟩) ?_ ?_
    rotate_left
    · intro w'
      go_simp
      with_reducible rfl
    rotate_left
    · simp only [Act.put, List.setIfInBounds_toArray, List.set_cons_zero, List.set_cons_succ, i64_w, i32_w]
      rfl
    refine pure_ (i := 14) (N := some 47) (v := ?_) (a' := ?_) #[true, true, true, true, true, true, true, true, true, true, true, true, true, true, true, false, false] rfl rfl (by kernel_rfl) (fun _ _ _ h => h) (Or.inl ⟨by rfl, ?_⟩) ?_ ?_
    rotate_left
    · intro w'
      go_simp
      with_reducible rfl
    rotate_left
    · simp only [Act.put, List.setIfInBounds_toArray, List.set_cons_zero, List.set_cons_succ, i64_w, i32_w]
      rfl
    refine pure_ (i := 15) (N := some 48) (v := ?_) (a' := ?_) #[true, true, true, true, true, true, true, true, true, true, true, true, true, true, true, true, false] rfl rfl (by kernel_rfl) (fun _ _ _ h => h) (Or.inl ⟨by rfl, ?_⟩) ?_ ?_
    rotate_left
    · intro w'
      go_simp
      with_reducible rfl
    rotate_left
    · simp only [Act.put, List.setIfInBounds_toArray, List.set_cons_zero, List.set_cons_succ, i64_w, i32_w]
      rfl
    refine pure_ (i := 16) (N := some 2) (v := ?_) (a' := ?_) #[true, true, true, true, true, true, true, true, true, true, true, true, true, true, true, true, true] rfl rfl (by kernel_rfl) (fun _ _ _ h => h) (Or.inl ⟨by rfl, ?_⟩) ?_ ?_
    rotate_left
    · intro w'
      go_simp
      with_reducible rfl
    rotate_left
    · simp only [Act.put, List.setIfInBounds_toArray, List.set_cons_zero, List.set_cons_succ, i64_w, i32_w]
      rfl
    refine done_ (by kernel_rfl) ?_

    try go_wp2
    go_ret
    exact ⟨by simp, by repeat (first | (with_reducible first | exact HB.out | apply below_alloc | apply pw_below_drewN | apply below_drew1) | exact HB.out)⟩
end Go.Proofs.Yteploglmfmhppaa.P
