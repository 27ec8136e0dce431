/- class.Named, by hand: for every name the call answers the set that has the name, and whether there is one; nothing that was there is turned. -/
import Derived.Test.YteploglmfmhppaaPx17
import Derived.Shelf.Abstract
import Derived.Laws.StructEq
namespace Go.Proofs.Yteploglmfmhppaa.P
open Go.RowKit Go.Shelf Go.Proofs.YteploglmfmhppaaW.PrintWords Go.Proofs.YteploglmfmhppaaW.PrintLast Go.Proofs.YteploglmfmhppaaW.PrintMore
set_option linter.unusedVariables false
set_option linter.unusedSimpArgs false

/-- All sets with names. -/
def allN : List S84 := class_all.f.getD []
theorem allN_eq : class_all.f = some allN := rfl
theorem allN_length : allN.length = 14 := rfl
/-- The set with a name, and whether there is one. -/
def namedR (s : ByteArray) : List S42 × Bool := match allN.find? (fun x => x.f0 == s) with
  | some x => (x.f1, true)
  | none => ([], false)
def class_Named.f (a0 : ByteArray) : Option (List S42 × Bool) := some (namedR a0)

theorem findN_at {α : Type} (p : α → Bool) : ∀ (l : List α) (kk : Nat) (z : α), kk < l.length → p (l.getD kk z) = true → (∀ j, j < kk → p (l.getD j z) = false) → l.find? p = some (l.getD kk z)
  | [], kk, z, h, _, _ => absurd h (Nat.not_lt_zero _)
  | a :: l, 0, z, _, hp, _ => by
    have : p a = true := hp
    simp [List.find?, this]
  | a :: l, kk + 1, z, h, hp, hn => by
    have h0 : p a = false := hn 0 (by omega)
    have ih := findN_at p l kk z (by simpa using h) hp (fun j hj => hn (j + 1) (by omega))
    simp only [List.find?, h0]
    exact ih
theorem findN_none {α : Type} (p : α → Bool) : ∀ (l : List α) (z : α), (∀ j, j < l.length → p (l.getD j z) = false) → l.find? p = none
  | [], _, _ => rfl
  | a :: l, z, hn => by
    have h0 : p a = false := hn 0 (by simp)
    simp only [List.find?, h0]
    exact findN_none p l z (fun j hj => hn (j + 1) (by simpa using hj))

/-- What is asked of a closure that tells of a set with a name: its second cell plays no part. -/
def TellsN (g : Nat) (lb : Array Value) (p : S84 → Bool) (w : World) : Prop :=
  ∀ (W : World) (x : S84) (v : Value), Below w.heap.size w W → Calls Try.prog g (#[.agg #[.string x.f0, v]] ++ lb) W fun e w' => e = .returned (.bool (p x)) ∧ Below w.heap.size w w'

set_option maxHeartbeats 2000000 in
theorem indexFuncN (p : S84 → Bool) (g : Nat) (lb : Array Value) (eg : ∀ args w, (callFunc g args).run Try.prog w = .ok (.enter g args) w) (A0 : Option Addr) (c0 : Nat) (l0 : List S84) (w : World)
    (hr0 : Kd.C k84 w A0 l0.length l0) (hbig : l0.length ≤ 9223372036854775807) (hp : TellsN g lb p w) :
    Calls Try.prog 62 #[.slice A0 l0.length c0, .func (.func g) #[] lb] w fun e w' => (∃ i : Int, e = .returned (.int .i64 i) ∧ ((i = -1 ∧ l0.find? p = none) ∨ ∃ kk : Nat, i = (kk : Int) ∧ kk < l0.length ∧ l0.find? p = some (rd_T84 l0 (kk : Int)))) ∧ Below w.heap.size w w' := by
  have HR := Aside0.mk hr0
  have HP := Aside0.mk hp
  clear hr0 hp
  go_enter Try.func62, Try.ntmps62
  go_wp2
  go_loopg [5, 8] l0.length (fun gg _ s8 wr => ∃ kk : Nat, kk ≤ l0.length ∧ l0.length - kk ≤ gg ∧ s8 = .int .i64 kk ∧ Aside0 (Below w.heap.size w wr) ∧ Aside0 (∀ j, j < kk → p (rd_T84 l0 (j : Int)) = false))
  case atStart => exact ⟨0, Nat.zero_le _, by omega, rfl, ⟨Below.refl _ w⟩, ⟨fun j hj => absurd hj (Nat.not_lt_zero _)⟩⟩
  case round =>
    obtain ⟨kk, hkk, hg, rfl, BW, AL⟩ := hrel
    by_cases hlt : kk < l0.length
    · have hltz : (kk : Int) < (l0.length : Int) := by omega
      obtain ⟨ad, A1, c1, rfl, hx0, hx1, _, _⟩ := at_T84 (Kd.C_below HR.out BW.out) (kk : Int) (by omega) hltz
      simp only [Int.toNat_natCast] at hx0 hx1
      have hcall := HP.out wr (rd_T84 l0 (kk : Int)) (.slice A1 (rd_T84 l0 (kk : Int)).f1.length c1) BW.out
      generalize hy : rd_T84 l0 (kk : Int) = y at hx0 hx1 hcall
      have HY := Aside0.mk hy
      clear hy HP
      cases hq : p y with
      | true =>
        rw [hq] at hcall
        have HQ := Aside0.mk hq
        clear hq
        go_wp2_with ((with_reducible refine hcall.mono ?_); rintro e w' ⟨rfl, hb'⟩)
        go_ret
        refine ⟨⟨(kk : Int), rfl, .inr ⟨kk, rfl, hlt, ?_⟩⟩, hb'⟩
        exact findN_at (z := z84) p l0 kk hlt (show p (rd_T84 l0 (kk : Int)) = true by rw [HY.out]; exact HQ.out) AL.out
      | false =>
        rw [hq] at hcall
        have HQ := Aside0.mk hq
        clear hq
        go_wp2_with ((with_reducible refine hcall.mono ?_); rintro e w' ⟨rfl, hb'⟩)
        go_roundg (l0.length - (kk + 1))
        case measure => omega
        case rel =>
          refine ⟨kk + 1, by omega, by omega, by go_num, ⟨hb'⟩, ⟨fun j hj => ?_⟩⟩
          by_cases e : j = kk
          · subst e
            rw [HY.out]; exact HQ.out
          · exact AL.out j (by omega)
    · have : kk = l0.length := by omega
      subst this
      have hltz : ¬ (l0.length : Int) < (l0.length : Int) := by omega
      go_wp2
      go_ret
      have hnone := findN_none p l0 z84 AL.out
      exact ⟨⟨-1, rfl, .inl ⟨rfl, by simpa using hnone⟩⟩, BW.out⟩

/-- The closure of class.Named: the name lies in a variable of the call's. -/
theorem tellsNamed (s : ByteArray) (B : Nat) (w : World) (hB : B < w.heap.size) (hcell : w.cell? ⟨B, 0, none⟩ = some (.string s)) : TellsN 63 #[.pointer (some ⟨B, 0, none⟩)] (fun x => x.f0 == s) w := fun W x v hb => by
  have hc : W.cell? ⟨B, 0, none⟩ = some (.string s) := (hb.cell (p := ⟨B, 0, none⟩) hB).trans hcell
  have hBW : B < W.heap.size := Nat.lt_of_lt_of_le hB hb.size
  have hne : B ≠ W.heap.size := by omega
  show Calls Try.prog 63 #[.agg #[.string x.f0, v], .pointer (some ⟨B, 0, none⟩)] W _
  clear hcell hB
  obtain ⟨a, b⟩ := x
  dsimp only
  have HB := Aside0.mk hb
  clear hb
  go_enter Try.func63, Try.ntmps63
  go_wp2
  all_goals (go_ret; refine ⟨?_, HB.out.alloc HB.out.size _⟩; simp [beq_toListBytes])

/-- An element of a row that is read: its set's cell, and what it leads to. -/
theorem namedAt {W : World} {ok : Nat → Prop} {A : Option Addr} {L : List S84} (h : Kd.F k84 W ok A L.length L) (kk : Nat) (hlt : kk < L.length) {y : S84} (hy : rd_T84 L (kk : Int) = y) :
    ∃ ad A1 c1, A = some ad ∧ W.cell? ⟨(ad.add (kk * 2)).block, (ad.add (kk * 2)).off + 1, none⟩ = some (.slice A1 y.f1.length c1) ∧ y.f1.length ≤ c1 ∧ Kd.F k42 W ok A1 y.f1.length y.f1 := by
  obtain ⟨ad, c, rfl, hcl, hK, hcc, _⟩ := Kd.F_get h z84 (kk : Int) (by omega) (by omega)
  have hy2 : L.getD (kk : Int).toNat z84 = y := hy
  rw [hy2] at hK
  obtain ⟨A1, c1, rfl, hl, hF⟩ := k84_openF hK
  have h1 := hcc 1 _ rfl
  rw [add_field _ _ 1 (by omega)] at h1
  exact ⟨ad, A1, c1, rfl, h1, hl, hF⟩

set_option maxHeartbeats 2000000 in
theorem class_Named.calls (a0 : ByteArray) (r1 : List S42) (r2 : Bool) (w : World) (h : class_Named.f a0 = some (r1, r2)) :
    Calls Try.prog 38 #[.string a0] w fun e w' => ∃ v0_ : Value, e = .returned (.tuple #[v0_, .bool r2]) ∧ Kd.V k42 42 w' w.heap.size (fun k_ => (w.heap.size ≤ k_)) v0_ r1 ∧ Below w.heap.size w w' := by
  have hn : namedR a0 = (r1, r2) := Option.some.inj h
  clear h
  have HN := Aside0.mk hn
  clear hn
  have hb0 : Below w.heap.size w (w.alloc (.cells #[.string a0] 9)) := (Below.refl _ w).alloc (Nat.le_refl _) _
  have hcell0 : (w.alloc (.cells #[.string a0] 9)).cell? ⟨w.heap.size, 0, none⟩ = some (.string a0) := by simp
  have hall := class_all.calls allN (w.alloc (.cells #[.string a0] 9)) allN_eq
  have hsz0 : w.heap.size < (w.alloc (.cells #[.string a0] 9)).heap.size := by simp
  have HB0 := Aside0.mk hb0
  have HC0 := Aside0.mk hcell0
  have HS0 := Aside0.mk hsz0
  have HA := Aside0.mk hall
  clear hb0 hcell0 hall hsz0
  go_enter Try.func38, Try.ntmps38
  go_wp2_with ((with_reducible refine HA.out.mono ?_); rintro e w1 ⟨v1, rfl, hn1, hb1⟩; have N1 := Aside0.mk hn1; have B1 := Aside0.mk hb1; clear hn1 hb1 HA)
  obtain ⟨A1, c1, rfl, hc1, hC1⟩ := Kd.N_reads N1.out
  have hF := Kd.N_F N1.out
  have hlt1 : w.heap.size < w1.heap.size := Nat.lt_of_lt_of_le HS0.out B1.out.size
  have hcell1 : w1.cell? ⟨w.heap.size, 0, none⟩ = some (.string a0) := (B1.out.cell (p := ⟨w.heap.size, 0, none⟩) HS0.out).trans HC0.out
  have hw1 : Below w.heap.size w w1 := HB0.out.trans (B1.out.mono (Nat.le_of_lt HS0.out))
  have hidx := indexFuncN (fun x => x.f0 == a0) 63 #[.pointer (some ⟨w.heap.size, 0, none⟩)] (enters_of Try.func63 (by kernel_rfl) rfl) A1 c1 allN w1 hC1 (by rw [allN_length]; omega) (tellsNamed a0 w.heap.size w1 hlt1 hcell1)
  have HF := Aside0.mk hF
  have HW1 := Aside0.mk hw1
  have HL1 := Aside0.mk hlt1
  clear hlt1 hcell1 hC1 hF hw1 HC0 N1
  cases hfind : allN.find? (fun x => x.f0 == a0) with
  | none =>
    have hidx' : Calls Try.prog 62 #[.slice A1 allN.length c1, .func (.func 63) #[] #[.pointer (some ⟨w.heap.size, 0, none⟩)]] w1 fun e w' => e = .returned (.int .i64 (-1)) ∧ Below w1.heap.size w1 w' := by
      refine hidx.mono ?_
      rintro e w2 ⟨⟨i, rfl, hi⟩, hb⟩
      rcases hi with ⟨rfl, _⟩ | ⟨kk, _, _, hsome⟩
      · exact ⟨rfl, hb⟩
      · rw [hfind] at hsome
        cases hsome
    have HI := Aside0.mk hidx'
    have hr : ([], false) = (r1, r2) := by
      rw [← HN.out, namedR, hfind]
    obtain ⟨rfl, rfl⟩ := Prod.mk.inj hr
    clear hidx hidx' hfind HN hr
    have hlen := allN_length
    generalize allN = L at HI HF hlen
    go_wp2_with ((with_reducible refine HI.out.mono ?_); rintro e w2 ⟨rfl, hb2⟩)
    go_ret2
    exact ⟨_, rfl, Kd.V_nil _ _ _ _ _, HW1.out.trans (hb2.mono (Nat.le_of_lt HL1.out))⟩
  | some y =>
    have hidx' : Calls Try.prog 62 #[.slice A1 allN.length c1, .func (.func 63) #[] #[.pointer (some ⟨w.heap.size, 0, none⟩)]] w1 fun e w' => (∃ kk : Nat, e = .returned (.int .i64 (kk : Int)) ∧ kk < allN.length ∧ rd_T84 allN (kk : Int) = y) ∧ Below w1.heap.size w1 w' := by
      refine hidx.mono ?_
      rintro e w2 ⟨⟨i, rfl, hi⟩, hb⟩
      rcases hi with ⟨_, hnone⟩ | ⟨kk, rfl, hlt, hsome⟩
      · rw [hfind] at hnone
        cases hnone
      · rw [hfind] at hsome
        exact ⟨⟨kk, rfl, hlt, (Option.some.inj hsome).symm⟩, hb⟩
    have HI := Aside0.mk hidx'
    have hr : (y.f1, true) = (r1, r2) := by
      rw [← HN.out, namedR, hfind]
    obtain ⟨rfl, rfl⟩ := Prod.mk.inj hr
    clear hidx hidx' hfind HN hr
    have hlen := allN_length
    generalize allN = L at HI HF hlen
    go_wp2_with fail
    with_reducible refine HI.out.mono ?_
    rintro e w2 ⟨⟨kk, rfl, hlt, hy⟩, hb2⟩
    obtain ⟨ad, A2, c2, rfl, hx1, hle, hF2⟩ := namedAt (Kd.F_below HF.out hb2) kk hlt hy
    have HF2 := Aside0.mk hF2
    have HLE := Aside0.mk hle
    have HB2 := Aside0.mk hb2
    clear hF2 hle hy hb2
    have hk14 : kk < 14 := by omega
    have hk0 : ¬ (kk : Int) < 0 := by omega
    go_wp2
    go_ret2
    exact ⟨_, rfl, Kd.V_mk HLE.out (Kd.F_mono HF2.out (fun k hk => Nat.le_trans (below_size HB0.out) hk)), HW1.out.trans (HB2.out.mono (Nat.le_of_lt HL1.out))⟩
end Go.Proofs.Yteploglmfmhppaa.P
