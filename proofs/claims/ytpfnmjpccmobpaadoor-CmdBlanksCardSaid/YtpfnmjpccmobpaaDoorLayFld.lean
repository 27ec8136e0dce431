/-
  DERIVED: THE SHELF's CONTRACTS AT THIS DUMP, IN PLAIN WORDS (tools/lay-plain.mjs out of 'YtpfnmjpccmobpaaDoorLayFldScr.lean', which tools/lay-shelf.mjs wrote): THE SAME DECLARATIONS UNDER THE SAME NAMES: 'import', 'namespace', 'open', 'def', 'theorem' AND NOTHING ELSE: no command of the shelf's: FOR A HAND-IN. Each laying: the table of numbers ('.._ren') and one theorem, a field a fact of the dump's own or the kernel's comparison; each contract: ONE APPLICATION.
-/
import Derived.Shelf.Strings.FieldsFuncAny
import Derived.Ground.NamesProg
import Derived.Test.YtpfnmjpccmobpaaDoorProg
namespace Go.Proofs
open Go.Shelf
def Tryd.laysFld_ren : Go.Shelf.Ren := ⟨fun | 229 => 91 | n => n, fun | 9 => 9 | 40 => 151 | 31 => 31 | 152 => 183 | 3 => 3 | 0 => 0 | 4 => 4 | 21 => 21 | 154 => 185 | n => n, fun | n => n⟩
theorem Tryd.laysFld : Go.Proofs.Lays.n229 Tryd.prog Tryd.laysFld_ren := {
  mixed := by kernel_rfl
  f229 := Tryd.func91.trans (congrArg some (by kernel_rfl))
  t0 := Tryd.underlying0
  a0 := Tryd.isAgg0
  z0 := Tryd.sizeOf0
  v0 := Tryd.zeroValue0
  t3 := Tryd.underlying3
  a3 := Tryd.isAgg3
  z3 := Tryd.sizeOf3
  v3 := Tryd.zeroValue3
  t4 := Tryd.underlying4
  a4 := Tryd.isAgg4
  z4 := Tryd.sizeOf4
  v4 := Tryd.zeroValue4
  t9 := Tryd.underlying9
  a9 := Tryd.isAgg9
  z9 := Tryd.sizeOf9
  v9 := Tryd.zeroValue9
  t21 := Tryd.underlying21
  a21 := Tryd.isAgg21
  z21 := Tryd.sizeOf21
  v21 := Tryd.zeroValue21
  t31 := Tryd.underlying31
  a31 := Tryd.isAgg31
  z31 := Tryd.sizeOf31
  v31 := Tryd.zeroValue31
  t40 := Tryd.underlying151
  a40 := Tryd.isAgg151
  z40 := Tryd.sizeOf151
  v40 := Tryd.zeroValue151
  t152 := Tryd.underlying183
  a152 := Tryd.isAgg183
  z152 := Tryd.sizeOf183
  v152 := Tryd.zeroValue183
  t154 := Tryd.underlying185
  a154 := Tryd.isAgg185
  z154 := Tryd.sizeOf185
  v154 := Tryd.zeroValue185 }
end Go.Proofs
