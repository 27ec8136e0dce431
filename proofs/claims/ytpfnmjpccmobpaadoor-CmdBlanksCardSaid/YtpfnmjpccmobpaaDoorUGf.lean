/- Functions that are given: a line's words, numbers of decimal digits. -/
import Derived.Test.YtpfnmjpccmobpaaDoorEc
import Derived.Lib.FieldsP
import Derived.Lib.AtoiAll
namespace Go.Ev
open Go
set_option linter.unusedVariables false
set_option linter.unusedSimpArgs false
def isBl (c : UInt8) : Bool := c == 32 || c == 9
/-- A line's words; what has come of the one that is read. -/
def wordsL : List UInt8 → List UInt8 → List (List UInt8)
  | [], cur => bif cur.isEmpty then [] else [cur]
  | c :: l, cur => bif isBl c then (bif cur.isEmpty then wordsL l [] else cur :: wordsL l []) else wordsL l (cur ++ [c])
/-- strings.FieldsFunc at blanks and tabulators -/
def gFields (g : FuncId) : List AV → Option (List Dat)
  | [.str s, .clo f [] []] => bif Nat.beq f g && decide (s.size ≤ 4294967296) then some [.list ((wordsL s.data.toList []).map fun w => .str ⟨w.toArray⟩)] else none
  | _ => none
/-- A number that is written in decimal digits. -/
def numB : List UInt8 → Nat → Option Nat
  | [], a => some a
  | c :: l, a => if 48 ≤ c.toNat ∧ c.toNat ≤ 57 ∧ a * 10 + (c.toNat - 48) ≤ 2147483647 then numB l (a * 10 + (c.toNat - 48)) else none
def numL (l : List UInt8) : Option Nat := bif l.isEmpty then none else numB l 0
def gNum : List AV → Option (List Dat)
  | [.str s] => bif decide (s.size ≤ 281474976710656) then some (match numL s.data.toList with | some n => [.int (n : Int), .int 0] | none => [.int 0, .int 61]) else none
  | _ => none
/-- A variable that holds an error, or nil. -/
def ifaceO (o : Obj) : Prop := ∃ cs t f v, o = .cells cs t f ∧ cs[0]? = some v ∧ (v = .nilIface ∨ ∃ te pe, v = .iface te pe)
end Go.Ev
