/- utf8.DecodeRune, by the shelf's contract: for every list of bytes that is read and holds some, the call answers what the model's own reader answers; nothing that was there is turned. -/
import Derived.Test.YtjgbhajaiifimaaDoorPx0
import Derived.Test.YtjgbhajaiifimaaDoorLayDec
namespace Go.Proofs.YtjgbhajaiifimaaDoor.P
open Go.RowKit Go.Shelf Go.Proofs.YtjgbhajaiifimaaDoorW.PrintWords Go.Proofs.YtjgbhajaiifimaaDoorW.PrintLast Go.Proofs.YtjgbhajaiifimaaDoorW.PrintMore
set_option linter.unusedVariables false
set_option linter.unusedSimpArgs false

/-- The numbers of a list, as bytes. -/
def toBA (l : List Int) : ByteArray := ⟨(l.map fun x => UInt8.ofNat x.toNat).toArray⟩
/-- Are all numbers of a list bytes? -/
def isBytes (l : List Int) : Bool := l.all fun x => decide (0 ≤ x) && decide (x < 256)
def decR (l : List Int) : Int × Int := (((Go.Lib.decodeGo (toBA l)).1 : Int), ((Go.Lib.decodeGo (toBA l)).2 : Int))
def utf8_DecodeRune.f (l0 : List Int) : Option (Int × Int) := if l0 ≠ [] ∧ isBytes l0 = true then some (decR l0) else none

theorem toBA_size (l : List Int) : (toBA l).size = l.length := by
  show (l.map fun x => UInt8.ofNat x.toNat).toArray.size = l.length
  simp
theorem toBA_get (l : List Int) (hb : isBytes l = true) (j : Nat) (hj : j < l.length) : (((toBA l).get! j).toNat : Int) = rd l (j : Int) := by
  have hx := List.all_eq_true.1 hb l[j] (List.getElem_mem hj)
  simp only [Bool.and_eq_true, decide_eq_true_eq] at hx
  rw [Utf8W.get!_of_lt _ _ (by rw [toBA_size]; exact hj)]
  have h1 : (toBA l)[j]'(by rw [toBA_size]; exact hj) = UInt8.ofNat (l[j]).toNat := by
    have e : (toBA l)[j]'(by rw [toBA_size]; exact hj) = ((l.map fun x => UInt8.ofNat x.toNat).toArray)[j]'(by simpa using hj) := rfl
    rw [e]
    simp
  have h2 : rd l (j : Int) = l[j] := by simp [rd, List.getD_eq_getElem?_getD, List.getElem?_eq_getElem hj]
  rw [h1, h2, UInt8.toNat_ofNat']
  omega

theorem utf8_DecodeRune.calls (A0 : Option Addr) (c0 : Nat) (l0 : List Int) (r1 r2 : Int) (w : World) (hT_ : TabsOk w) (hr0 : Kd.C (Kd.int .u8) w A0 l0.length l0) (hc0 : l0.length ≤ c0) (h : utf8_DecodeRune.f l0 = some (r1, r2)) :
    Calls Tryd.prog 40 #[.slice A0 l0.length c0] w fun e w' => e = .returned (.tuple #[.int .i32 r1, .int .i64 r2]) ∧ Below w.heap.size w w' := by
  unfold utf8_DecodeRune.f at h
  split at h
  case isFalse => cases h
  case isTrue hl =>
  obtain ⟨hne, hb⟩ := hl
  obtain ⟨rfl, rfl⟩ := Prod.mk.inj (Option.some.inj h)
  have hpos : 0 < l0.length := List.length_pos_iff.mpr hne
  obtain ⟨ad, rfl, h0⟩ := Kd.at_int hr0 0 (by omega) (by omega)
  have hspot : ad.spot = none := by
    have h0' : w.cell? ad = some (.int .u8 (rd l0 0)) := h0
    unfold World.cell? at h0'
    split at h0'
    · split at h0'
      · cases h0'
      · rename_i hs
        simpa using hs
    · cases h0'
  obtain ⟨b, off, sp⟩ := ad
  obtain rfl : sp = none := hspot
  have hsz := toBA_size l0
  have hp : ∀ j, j < (toBA l0).size → w.cell? ⟨b, off + j, none⟩ = some (.int .u8 ((toBA l0).get! j).toNat) := fun j hj => by
    rw [hsz] at hj
    obtain ⟨ad2, he, hx⟩ := Kd.at_int hr0 (j : Int) (by omega) (by omega)
    obtain rfl := Option.some.inj he
    rw [toBA_get l0 hb j hj, ← hx]
    simp only [Int.toNat_natCast, Addr.add]
    split
    · subst_vars
      rfl
    · rfl
  have hc := Any7.utf8_DecodeRune Tryd.laysDec (toBA l0) b off c0 w hT_ hp
  rw [hsz] at hc
  exact hc
end Go.Proofs.YtjgbhajaiifimaaDoor.P
