/-
  DERIVED: THE SHELF's CONTRACTS AT THIS DUMP, IN PLAIN WORDS (tools/lay-plain.mjs out of 'YtlofoifcdmeopaaGreatDoorLayDecScr.lean', which tools/lay-shelf.mjs wrote): THE SAME DECLARATIONS UNDER THE SAME NAMES: 'import', 'namespace', 'open', 'def', 'theorem' AND NOTHING ELSE: no command of the shelf's: FOR A HAND-IN. Each laying: the table of numbers ('.._ren') and one theorem, a field a fact of the dump's own or the kernel's comparison; each contract: ONE APPLICATION.
-/
import Derived.Shelf.Spec.DecodeRune
import Derived.Ground.Names7Prog
import Derived.Test.YtlofoifcdmeopaaGreatDoorProg
namespace Go.Proofs
open Go.Shelf
def Tryz.laysDec_ren : Go.Shelf.Ren := ⟨fun | 32 => 233 | 49 => 257 | n => n, fun | 30 => 44 | 21 => 21 | 3 => 3 | 0 => 0 | 5 => 5 | 4 => 4 | 33 => 276 | 66 => 319 | 25 => 188 | 69 => 322 | 68 => 321 | n => n, fun | 2 => 7 | 3 => 8 | n => n⟩
theorem Tryz.laysDec : Go.Proofs.Lays7.n32 Tryz.prog Tryz.laysDec_ren := {
  mixed := by kernel_rfl
  f32 := Tryz.func233.trans (congrArg some (by kernel_rfl))
  f49 := Tryz.func257.trans (congrArg some (by kernel_rfl))
  t0 := Tryz.underlying0
  a0 := Tryz.isAgg0
  z0 := Tryz.sizeOf0
  v0 := Tryz.zeroValue0
  i0 := by kernel_rfl
  t3 := Tryz.underlying3
  a3 := Tryz.isAgg3
  z3 := Tryz.sizeOf3
  v3 := Tryz.zeroValue3
  i3 := by kernel_rfl
  t4 := Tryz.underlying4
  a4 := Tryz.isAgg4
  z4 := Tryz.sizeOf4
  v4 := Tryz.zeroValue4
  i4 := by kernel_rfl
  t5 := Tryz.underlying5
  a5 := Tryz.isAgg5
  z5 := Tryz.sizeOf5
  v5 := Tryz.zeroValue5
  i5 := by kernel_rfl
  t21 := Tryz.underlying21
  a21 := Tryz.isAgg21
  z21 := Tryz.sizeOf21
  v21 := Tryz.zeroValue21
  i21 := by kernel_rfl
  t25 := Tryz.underlying188
  a25 := Tryz.isAgg188
  z25 := Tryz.sizeOf188
  v25 := Tryz.zeroValue188
  i25 := by kernel_rfl
  t30 := Tryz.underlying44
  a30 := Tryz.isAgg44
  z30 := Tryz.sizeOf44
  v30 := Tryz.zeroValue44
  i30 := by kernel_rfl
  t33 := Tryz.underlying276
  a33 := Tryz.isAgg276
  z33 := Tryz.sizeOf276
  v33 := Tryz.zeroValue276
  i33 := by kernel_rfl
  t66 := Tryz.underlying319
  a66 := Tryz.isAgg319
  z66 := Tryz.sizeOf319
  t68 := Tryz.underlying321
  a68 := Tryz.isAgg321
  z68 := Tryz.sizeOf321
  v68 := Tryz.zeroValue321
  i68 := by kernel_rfl
  t69 := Tryz.underlying322
  a69 := Tryz.isAgg322
  z69 := Tryz.sizeOf322
  v69 := Tryz.zeroValue322
  i69 := by kernel_rfl
  g2 := by kernel_rfl
  g3 := by kernel_rfl }
end Go.Proofs
