/-
  DERIVED: THE SHELF's CONTRACTS AT THIS DUMP, IN PLAIN WORDS (tools/lay-plain.mjs out of 'YtpfnmjpccmobpaaDoorLaySortRScr.lean', which tools/lay-shelf.mjs wrote): THE SAME DECLARATIONS UNDER THE SAME NAMES: 'import', 'namespace', 'open', 'def', 'theorem' AND NOTHING ELSE: no command of the shelf's: FOR A HAND-IN. Each laying: the table of numbers ('.._ren') and one theorem, a field a fact of the dump's own or the kernel's comparison; each contract: ONE APPLICATION.
-/
import Derived.Shelf.SlSortCmp.NoneTotal
import Derived.Ground.SlsfProg
import Derived.Test.YtpfnmjpccmobpaaDoorProg
namespace Go.Proofs
open Go.Shelf
def Tryd.laySortR_ren : Go.Shelf.Ren := ⟨fun | 6 => 152 | 15 => 175 | 14 => 174 | 28 => 196 | 29 => 178 | 20 => 188 | 21 => 189 | 22 => 190 | 23 => 191 | 24 => 192 | 25 => 193 | 26 => 194 | 27 => 195 | 46 => 204 | 47 => 205 | 48 => 206 | 49 => 207 | 50 => 208 | 57 => 210 | n => n, fun | 22 => 55 | 24 => 122 | 25 => 224 | 3 => 3 | 39 => 174 | 0 => 0 | 53 => 204 | 55 => 186 | 4 => 4 | 46 => 253 | 45 => 252 | 50 => 196 | 5 => 5 | 9 => 9 | 66 => 268 | 70 => 272 | 76 => 276 | 77 => 72 | n => n, fun | n => n⟩
theorem Tryd.laySortR : Go.Proofs.SlLaysF0.n6 Tryd.prog Tryd.laySortR_ren := {
  mixed := by kernel_rfl
  f6 := ⟨Tryd.f152.name, by decide, Tryd.func152.trans (congrArg some (by kernel_rfl))⟩
  f14 := ⟨Tryd.f174.name, by decide, Tryd.func174.trans (congrArg some (by kernel_rfl))⟩
  f15 := Tryd.func175.trans (congrArg some (by kernel_rfl))
  f20 := ⟨Tryd.f188.name, by decide, Tryd.func188.trans (congrArg some (by kernel_rfl))⟩
  f21 := ⟨Tryd.f189.name, by decide, Tryd.func189.trans (congrArg some (by kernel_rfl))⟩
  f22 := ⟨Tryd.f190.name, by decide, Tryd.func190.trans (congrArg some (by kernel_rfl))⟩
  f23 := ⟨Tryd.f191.name, by decide, Tryd.func191.trans (congrArg some (by kernel_rfl))⟩
  f24 := ⟨Tryd.f192.name, by decide, Tryd.func192.trans (congrArg some (by kernel_rfl))⟩
  f25 := ⟨Tryd.f193.name, by decide, Tryd.func193.trans (congrArg some (by kernel_rfl))⟩
  f26 := ⟨Tryd.f194.name, by decide, Tryd.func194.trans (congrArg some (by kernel_rfl))⟩
  f27 := ⟨Tryd.f195.name, by decide, Tryd.func195.trans (congrArg some (by kernel_rfl))⟩
  f28 := Tryd.func196.trans (congrArg some (by kernel_rfl))
  f29 := Tryd.func178.trans (congrArg some (by kernel_rfl))
  f46 := ⟨Tryd.f204.name, by decide, Tryd.func204.trans (congrArg some (by kernel_rfl))⟩
  f47 := Tryd.func205.trans (congrArg some (by kernel_rfl))
  f48 := Tryd.func206.trans (congrArg some (by kernel_rfl))
  f49 := ⟨Tryd.f207.name, by decide, Tryd.func207.trans (congrArg some (by kernel_rfl))⟩
  f50 := ⟨Tryd.f208.name, by decide, Tryd.func208.trans (congrArg some (by kernel_rfl))⟩
  f57 := ⟨Tryd.f210.name, by decide, Tryd.func210.trans (congrArg some (by kernel_rfl))⟩
  t0 := Tryd.underlying0
  a0 := Tryd.isAgg0
  z0 := Tryd.sizeOf0
  v0 := Tryd.zeroValue0
  t3 := Tryd.underlying3
  a3 := Tryd.isAgg3
  z3 := Tryd.sizeOf3
  v3 := Tryd.zeroValue3
  t4 := Tryd.underlying4
  a4 := Tryd.isAgg4
  z4 := Tryd.sizeOf4
  v4 := Tryd.zeroValue4
  t5 := Tryd.underlying5
  a5 := Tryd.isAgg5
  z5 := Tryd.sizeOf5
  v5 := Tryd.zeroValue5
  t9 := Tryd.underlying9
  a9 := Tryd.isAgg9
  z9 := Tryd.sizeOf9
  v9 := Tryd.zeroValue9
  t22 := Tryd.underlying55
  a22 := Tryd.isAgg55
  z22 := Tryd.sizeOf55
  v22 := Tryd.zeroValue55
  t25 := Tryd.underlying224
  a25 := Tryd.isAgg224
  z25 := Tryd.sizeOf224
  v25 := Tryd.zeroValue224
  t39 := Tryd.underlying174
  a39 := Tryd.isAgg174
  z39 := Tryd.sizeOf174
  v39 := Tryd.zeroValue174
  t45 := Tryd.underlying252
  a45 := Tryd.isAgg252
  z45 := Tryd.sizeOf252
  v45 := Tryd.zeroValue252
  t46 := Tryd.underlying253
  a46 := Tryd.isAgg253
  z46 := Tryd.sizeOf253
  v46 := Tryd.zeroValue253
  t50 := Tryd.underlying196
  a50 := Tryd.isAgg196
  z50 := Tryd.sizeOf196
  v50 := Tryd.zeroValue196
  t53 := Tryd.underlying204
  a53 := Tryd.isAgg204
  z53 := Tryd.sizeOf204
  v53 := Tryd.zeroValue204
  t55 := Tryd.underlying186
  a55 := Tryd.isAgg186
  z55 := Tryd.sizeOf186
  v55 := Tryd.zeroValue186
  t66 := Tryd.underlying268
  a66 := Tryd.isAgg268
  z66 := Tryd.sizeOf268
  v66 := Tryd.zeroValue268
  t70 := Tryd.underlying272
  a70 := Tryd.isAgg272
  z70 := Tryd.sizeOf272
  v70 := Tryd.zeroValue272
  t76 := Tryd.underlying276
  a76 := Tryd.isAgg276
  z76 := Tryd.sizeOf276
  v76 := Tryd.zeroValue276
  t77 := Tryd.underlying72
  a77 := Tryd.isAgg72
  z77 := Tryd.sizeOf72
  v77 := Tryd.zeroValue72 }
end Go.Proofs
