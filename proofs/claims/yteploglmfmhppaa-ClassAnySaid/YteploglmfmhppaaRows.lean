/-
  No cell of these rows narrows 'for every input' (looked for: loops, veiled, ifaces, maps, wideKeys, modest, calm, conditions, laid).
  DERIVED. THE GIVEN ROWS OF THIS SEAT. 13 by the template 'for every input the law returns true; each argument reads behind the call as it read before'; 0 by the template 'total and deterministic' (their statements: YteploglmfmhppaaTotals.lean).
  GIVEN WITH THE SEED: the statements are not yours to turn. If you find one false, say at which input.
  Laid BY PROGRAM, IN A SANDBOX (cutbox-rows.mjs): the forced cells as the released guide's own fill.sh prints them over the translation 4154a4ed9018b43b… (all of the seat's roots in one cut). By AI agents, Wed Nov 11 2026. No macro, syntax, notation, axiom, sorry.
-/
import Derived.Test.YteploglmfmhppaaChecked
import GoSem.Claim
import GoSem.ClaimJoined
import GoSem.ClaimMapViews
import Derived.JoinedTies
import Derived.KernelRfl
namespace Go.Proofs.Yteploglmfmhppaa
/- THE CELL 'sum', in the pinned program and in every row, IS THE sha256 OF THE DUMP (.gsa) THAT YteploglmfmhppaaProg.lean LOADS. Nothing in Lean hashes anything: it is a label: what it is worth is what the hold of that sum in a sandbox is worth. -/
noncomputable def Try.pinned : Pinned := { name := "yteploglmfmhppaa", sum := "4154a4ed9018b43bfee9d6aa7cdda76be770a7e4b0d88e215bebd1cb65fd0b4e", checked := Try.checked }
namespace Rows
def none {H : Type} : Left H := { results := [], args := [] }

/-- 'clewlaw03.FoldOrbits': WHATEVER THE INPUT: true; the input reads as it did. -/
def foldOrbitsSpec : ChangeSpec := { name := "foldOrbits", fn := fun _ => fun
  | [d] => { results := [.lit (.bool true)], args := [d] }
  | _ => none }
def foldOrbitsRow : OpenClaim := { program := "yteploglmfmhppaa", sum := "4154a4ed9018b43bfee9d6aa7cdda76be770a7e4b0d88e215bebd1cb65fd0b4e", func := "clew/clewlaw03.FoldOrbits", spec := "foldOrbits", recurses := true, apart := false }
def FoldOrbitsSaid : Prop := foldOrbitsRow.holds Try.pinned (OpenSpec.ofChange foldOrbitsSpec)

/-- ITS FALSE NEIGHBOUR: 'it returns false'. Refute it at one input. -/
def foldOrbitsWrong : ChangeSpec := { name := "foldOrbits", fn := fun _ => fun
  | [d] => { results := [.lit (.bool false)], args := [d] }
  | _ => none }
def FoldOrbitsWrongFalsely : Prop := foldOrbitsRow.holds Try.pinned (OpenSpec.ofChange foldOrbitsWrong)

/-- 'clewlaw03.FoldShares': WHATEVER THE INPUT: true; the input reads as it did. -/
def foldSharesSpec : ChangeSpec := { name := "foldShares", fn := fun _ => fun
  | [d] => { results := [.lit (.bool true)], args := [d] }
  | _ => none }
def foldSharesRow : OpenClaim := { program := "yteploglmfmhppaa", sum := "4154a4ed9018b43bfee9d6aa7cdda76be770a7e4b0d88e215bebd1cb65fd0b4e", func := "clew/clewlaw03.FoldShares", spec := "foldShares", recurses := true, apart := false }
def FoldSharesSaid : Prop := foldSharesRow.holds Try.pinned (OpenSpec.ofChange foldSharesSpec)

/-- ITS FALSE NEIGHBOUR: 'it returns false'. Refute it at one input. -/
def foldSharesWrong : ChangeSpec := { name := "foldShares", fn := fun _ => fun
  | [d] => { results := [.lit (.bool false)], args := [d] }
  | _ => none }
def FoldSharesWrongFalsely : Prop := foldSharesRow.holds Try.pinned (OpenSpec.ofChange foldSharesWrong)

/-- 'clewlaw03.FoldSame': WHATEVER THE INPUT: true; the input reads as it did. -/
def foldSameSpec : ChangeSpec := { name := "foldSame", fn := fun _ => fun
  | [d1, d2, d3] => { results := [.lit (.bool true)], args := [d1, d2, d3] }
  | _ => none }
def foldSameRow : OpenClaim := { program := "yteploglmfmhppaa", sum := "4154a4ed9018b43bfee9d6aa7cdda76be770a7e4b0d88e215bebd1cb65fd0b4e", func := "clew/clewlaw03.FoldSame", spec := "foldSame", recurses := true, apart := false }
def FoldSameSaid : Prop := foldSameRow.holds Try.pinned (OpenSpec.ofChange foldSameSpec)

/-- ITS FALSE NEIGHBOUR: 'it returns false'. Refute it at one input. -/
def foldSameWrong : ChangeSpec := { name := "foldSame", fn := fun _ => fun
  | [d1, d2, d3] => { results := [.lit (.bool false)], args := [d1, d2, d3] }
  | _ => none }
def FoldSameWrongFalsely : Prop := foldSameRow.holds Try.pinned (OpenSpec.ofChange foldSameWrong)

/-- 'clewlaw02.RsetMakes': WHATEVER THE INPUT: true; the input reads as it did. -/
def rsetMakesSpec : ChangeSpec := { name := "rsetMakes", fn := fun _ => fun
  | [d] => { results := [.lit (.bool true)], args := [d] }
  | _ => none }
def rsetMakesRow : OpenClaim := { program := "yteploglmfmhppaa", sum := "4154a4ed9018b43bfee9d6aa7cdda76be770a7e4b0d88e215bebd1cb65fd0b4e", func := "clew/clewlaw02.RsetMakes", spec := "rsetMakes", unfollowed := true, recurses := true, apart := false }
def RsetMakesSaid : Prop := rsetMakesRow.holds Try.pinned (OpenSpec.ofChange rsetMakesSpec)

/-- ITS FALSE NEIGHBOUR: 'it returns false'. Refute it at one input. -/
def rsetMakesWrong : ChangeSpec := { name := "rsetMakes", fn := fun _ => fun
  | [d] => { results := [.lit (.bool false)], args := [d] }
  | _ => none }
def RsetMakesWrongFalsely : Prop := rsetMakesRow.holds Try.pinned (OpenSpec.ofChange rsetMakesWrong)

/-- 'clewlaw02.RsetHas': WHATEVER THE INPUT: true; the input reads as it did. -/
def rsetHasSpec : ChangeSpec := { name := "rsetHas", fn := fun _ => fun
  | [d1, d2] => { results := [.lit (.bool true)], args := [d1, d2] }
  | _ => none }
def rsetHasRow : OpenClaim := { program := "yteploglmfmhppaa", sum := "4154a4ed9018b43bfee9d6aa7cdda76be770a7e4b0d88e215bebd1cb65fd0b4e", func := "clew/clewlaw02.RsetHas", spec := "rsetHas", unfollowed := true, recurses := true, apart := false }
def RsetHasSaid : Prop := rsetHasRow.holds Try.pinned (OpenSpec.ofChange rsetHasSpec)

/-- ITS FALSE NEIGHBOUR: 'it returns false'. Refute it at one input. -/
def rsetHasWrong : ChangeSpec := { name := "rsetHas", fn := fun _ => fun
  | [d1, d2] => { results := [.lit (.bool false)], args := [d1, d2] }
  | _ => none }
def RsetHasWrongFalsely : Prop := rsetHasRow.holds Try.pinned (OpenSpec.ofChange rsetHasWrong)

/-- 'clewlaw02.RsetJoins': WHATEVER THE INPUT: true; the input reads as it did. -/
def rsetJoinsSpec : ChangeSpec := { name := "rsetJoins", fn := fun _ => fun
  | [d1, d2] => { results := [.lit (.bool true)], args := [d1, d2] }
  | _ => none }
def rsetJoinsRow : OpenClaim := { program := "yteploglmfmhppaa", sum := "4154a4ed9018b43bfee9d6aa7cdda76be770a7e4b0d88e215bebd1cb65fd0b4e", func := "clew/clewlaw02.RsetJoins", spec := "rsetJoins", unfollowed := true, recurses := true, apart := false }
def RsetJoinsSaid : Prop := rsetJoinsRow.holds Try.pinned (OpenSpec.ofChange rsetJoinsSpec)

/-- ITS FALSE NEIGHBOUR: 'it returns false'. Refute it at one input. -/
def rsetJoinsWrong : ChangeSpec := { name := "rsetJoins", fn := fun _ => fun
  | [d1, d2] => { results := [.lit (.bool false)], args := [d1, d2] }
  | _ => none }
def RsetJoinsWrongFalsely : Prop := rsetJoinsRow.holds Try.pinned (OpenSpec.ofChange rsetJoinsWrong)

/-- 'clewlaw02.RsetOf': WHATEVER THE INPUT: true; the input reads as it did. -/
def rsetOfSpec : ChangeSpec := { name := "rsetOf", fn := fun _ => fun
  | [d1, d2] => { results := [.lit (.bool true)], args := [d1, d2] }
  | _ => none }
def rsetOfRow : OpenClaim := { program := "yteploglmfmhppaa", sum := "4154a4ed9018b43bfee9d6aa7cdda76be770a7e4b0d88e215bebd1cb65fd0b4e", func := "clew/clewlaw02.RsetOf", spec := "rsetOf", unfollowed := true, recurses := true, apart := false }
def RsetOfSaid : Prop := rsetOfRow.holds Try.pinned (OpenSpec.ofChange rsetOfSpec)

/-- ITS FALSE NEIGHBOUR: 'it returns false'. Refute it at one input. -/
def rsetOfWrong : ChangeSpec := { name := "rsetOf", fn := fun _ => fun
  | [d1, d2] => { results := [.lit (.bool false)], args := [d1, d2] }
  | _ => none }
def RsetOfWrongFalsely : Prop := rsetOfRow.holds Try.pinned (OpenSpec.ofChange rsetOfWrong)

/-- 'clewlaw02.RsetCounts': WHATEVER THE INPUT: true; the input reads as it did. -/
def rsetCountsSpec : ChangeSpec := { name := "rsetCounts", fn := fun _ => fun
  | [d1, d2] => { results := [.lit (.bool true)], args := [d1, d2] }
  | _ => none }
def rsetCountsRow : OpenClaim := { program := "yteploglmfmhppaa", sum := "4154a4ed9018b43bfee9d6aa7cdda76be770a7e4b0d88e215bebd1cb65fd0b4e", func := "clew/clewlaw02.RsetCounts", spec := "rsetCounts", unfollowed := true, recurses := true, apart := false }
def RsetCountsSaid : Prop := rsetCountsRow.holds Try.pinned (OpenSpec.ofChange rsetCountsSpec)

/-- ITS FALSE NEIGHBOUR: 'it returns false'. Refute it at one input. -/
def rsetCountsWrong : ChangeSpec := { name := "rsetCounts", fn := fun _ => fun
  | [d1, d2] => { results := [.lit (.bool false)], args := [d1, d2] }
  | _ => none }
def RsetCountsWrongFalsely : Prop := rsetCountsRow.holds Try.pinned (OpenSpec.ofChange rsetCountsWrong)

/-- 'clewlaw05.ClassNames': WHATEVER THE INPUT: true; the input reads as it did. -/
def classNamesSpec : ChangeSpec := { name := "classNames", fn := fun _ => fun
  | [d] => { results := [.lit (.bool true)], args := [d] }
  | _ => none }
def classNamesRow : OpenClaim := { program := "yteploglmfmhppaa", sum := "4154a4ed9018b43bfee9d6aa7cdda76be770a7e4b0d88e215bebd1cb65fd0b4e", func := "clew/clewlaw05.ClassNames", spec := "classNames", unfollowed := true, recurses := true, apart := false }
def ClassNamesSaid : Prop := classNamesRow.holds Try.pinned (OpenSpec.ofChange classNamesSpec)

/-- ITS FALSE NEIGHBOUR: 'it returns false'. Refute it at one input. -/
def classNamesWrong : ChangeSpec := { name := "classNames", fn := fun _ => fun
  | [d] => { results := [.lit (.bool false)], args := [d] }
  | _ => none }
def ClassNamesWrongFalsely : Prop := classNamesRow.holds Try.pinned (OpenSpec.ofChange classNamesWrong)

/-- 'clewlaw05.ClassNamed': WHATEVER THE INPUT: true; the input reads as it did. -/
def classNamedSpec : ChangeSpec := { name := "classNamed", fn := fun _ => fun
  | [d1, d2] => { results := [.lit (.bool true)], args := [d1, d2] }
  | _ => none }
def classNamedRow : OpenClaim := { program := "yteploglmfmhppaa", sum := "4154a4ed9018b43bfee9d6aa7cdda76be770a7e4b0d88e215bebd1cb65fd0b4e", func := "clew/clewlaw05.ClassNamed", spec := "classNamed", unfollowed := true, recurses := true, apart := false }
def ClassNamedSaid : Prop := classNamedRow.holds Try.pinned (OpenSpec.ofChange classNamedSpec)

/-- ITS FALSE NEIGHBOUR: 'it returns false'. Refute it at one input. -/
def classNamedWrong : ChangeSpec := { name := "classNamed", fn := fun _ => fun
  | [d1, d2] => { results := [.lit (.bool false)], args := [d1, d2] }
  | _ => none }
def ClassNamedWrongFalsely : Prop := classNamedRow.holds Try.pinned (OpenSpec.ofChange classNamedWrong)

/-- 'clewlaw05.ClassOf': WHATEVER THE INPUT: true; the input reads as it did. -/
def classOfSpec : ChangeSpec := { name := "classOf", fn := fun _ => fun
  | [d1, d2] => { results := [.lit (.bool true)], args := [d1, d2] }
  | _ => none }
def classOfRow : OpenClaim := { program := "yteploglmfmhppaa", sum := "4154a4ed9018b43bfee9d6aa7cdda76be770a7e4b0d88e215bebd1cb65fd0b4e", func := "clew/clewlaw05.ClassOf", spec := "classOf", unfollowed := true, recurses := true, apart := false }
def ClassOfSaid : Prop := classOfRow.holds Try.pinned (OpenSpec.ofChange classOfSpec)

/-- ITS FALSE NEIGHBOUR: 'it returns false'. Refute it at one input. -/
def classOfWrong : ChangeSpec := { name := "classOf", fn := fun _ => fun
  | [d1, d2] => { results := [.lit (.bool false)], args := [d1, d2] }
  | _ => none }
def ClassOfWrongFalsely : Prop := classOfRow.holds Try.pinned (OpenSpec.ofChange classOfWrong)

/-- 'clewlaw05.ClassAny': WHATEVER THE INPUT: true; the input reads as it did. -/
def classAnySpec : ChangeSpec := { name := "classAny", fn := fun _ => fun
  | [d1, d2] => { results := [.lit (.bool true)], args := [d1, d2] }
  | _ => none }
def classAnyRow : OpenClaim := { program := "yteploglmfmhppaa", sum := "4154a4ed9018b43bfee9d6aa7cdda76be770a7e4b0d88e215bebd1cb65fd0b4e", func := "clew/clewlaw05.ClassAny", spec := "classAny", unfollowed := true, recurses := true, apart := false }
def ClassAnySaid : Prop := classAnyRow.holds Try.pinned (OpenSpec.ofChange classAnySpec)

/-- ITS FALSE NEIGHBOUR: 'it returns false'. Refute it at one input. -/
def classAnyWrong : ChangeSpec := { name := "classAny", fn := fun _ => fun
  | [d1, d2] => { results := [.lit (.bool false)], args := [d1, d2] }
  | _ => none }
def ClassAnyWrongFalsely : Prop := classAnyRow.holds Try.pinned (OpenSpec.ofChange classAnyWrong)

/-- 'clewlaw03.FoldCloses': WHATEVER THE INPUT: true; the input reads as it did. -/
def foldClosesSpec : ChangeSpec := { name := "foldCloses", fn := fun _ => fun
  | [d1, d2] => { results := [.lit (.bool true)], args := [d1, d2] }
  | _ => none }
def foldClosesRow : OpenClaim := { program := "yteploglmfmhppaa", sum := "4154a4ed9018b43bfee9d6aa7cdda76be770a7e4b0d88e215bebd1cb65fd0b4e", func := "clew/clewlaw03.FoldCloses", spec := "foldCloses", unfollowed := true, recurses := true, apart := false }
def FoldClosesSaid : Prop := foldClosesRow.holds Try.pinned (OpenSpec.ofChange foldClosesSpec)

/-- ITS FALSE NEIGHBOUR: 'it returns false'. Refute it at one input. -/
def foldClosesWrong : ChangeSpec := { name := "foldCloses", fn := fun _ => fun
  | [d1, d2] => { results := [.lit (.bool false)], args := [d1, d2] }
  | _ => none }
def FoldClosesWrongFalsely : Prop := foldClosesRow.holds Try.pinned (OpenSpec.ofChange foldClosesWrong)

/- THE SECOND FORM. 'bulk': how many values and letters a reading holds, each counted each time it is reached (what is shared counts as often as it is met; a slice's spare places count too). A statement '..UptoSaid' is the law's where the arguments, and the package variables that the reading takes, are together of bulk at most 1048576: NARROWER than '..Said'. Prove '..Said' where nothing that the law and all that it calls make is longer than what came in: it says more and counts as full. Else prove '..UptoSaid'. A law counts once. -/
mutual
def uptoBulk {H : Type} : DataW H → Nat
  | .lit (.string bytes) => bytes.length + 1
  | .lit _ => 1
  | .nil => 1
  | .ptr d => uptoBulk d + 1
  | .slice elems spare => uptoBulkAll elems + uptoBulkAll spare + 1
  | .agg parts => uptoBulkAll parts + 1
  | .iface _ d => uptoBulk d + 1
  | .map entries => uptoBulkEntries entries + 1
  | .held _ => 1
def uptoBulkAll {H : Type} : List (DataW H) → Nat
  | [] => 0
  | d :: r => uptoBulk d + uptoBulkAll r
def uptoBulkEntries {H : Type} : List (Lit × DataW H) → Nat
  | [] => 0
  | x :: r => uptoBulkEntry x + uptoBulkEntries r
def uptoBulkEntry {H : Type} : Lit × DataW H → Nat
  | (.string bytes, d) => bytes.length + uptoBulk d + 1
  | (_, d) => uptoBulk d + 1
 end
def uptoSmall : (H : Type) → List (DataW H) → Bool := fun _ ds => decide (uptoBulkAll ds ≤ 1048576)
def OpenSpec.upto (s : _root_.Go.ChangeSpec) : _root_.Go.OpenSpec := { _root_.Go.OpenSpec.ofChange s with cond := some uptoSmall }

/-- 'clewlaw03.FoldOrbits', WHERE WHAT IT READS IS OF BULK AT MOST 1048576: true; the input reads as it did. -/
def foldOrbitsUptoRow : OpenClaim := { program := "yteploglmfmhppaa", sum := "4154a4ed9018b43bfee9d6aa7cdda76be770a7e4b0d88e215bebd1cb65fd0b4e", func := "clew/clewlaw03.FoldOrbits", spec := "foldOrbits", recurses := true, apart := false, narrowed := true }
def FoldOrbitsUptoSaid : Prop := foldOrbitsUptoRow.holds Try.pinned (OpenSpec.upto foldOrbitsSpec)

/-- 'clewlaw03.FoldShares', WHERE WHAT IT READS IS OF BULK AT MOST 1048576: true; the input reads as it did. -/
def foldSharesUptoRow : OpenClaim := { program := "yteploglmfmhppaa", sum := "4154a4ed9018b43bfee9d6aa7cdda76be770a7e4b0d88e215bebd1cb65fd0b4e", func := "clew/clewlaw03.FoldShares", spec := "foldShares", recurses := true, apart := false, narrowed := true }
def FoldSharesUptoSaid : Prop := foldSharesUptoRow.holds Try.pinned (OpenSpec.upto foldSharesSpec)

/-- 'clewlaw03.FoldSame', WHERE WHAT IT READS IS OF BULK AT MOST 1048576: true; the input reads as it did. -/
def foldSameUptoRow : OpenClaim := { program := "yteploglmfmhppaa", sum := "4154a4ed9018b43bfee9d6aa7cdda76be770a7e4b0d88e215bebd1cb65fd0b4e", func := "clew/clewlaw03.FoldSame", spec := "foldSame", recurses := true, apart := false, narrowed := true }
def FoldSameUptoSaid : Prop := foldSameUptoRow.holds Try.pinned (OpenSpec.upto foldSameSpec)

/-- 'clewlaw02.RsetMakes', WHERE WHAT IT READS IS OF BULK AT MOST 1048576: true; the input reads as it did. -/
def rsetMakesUptoRow : OpenClaim := { program := "yteploglmfmhppaa", sum := "4154a4ed9018b43bfee9d6aa7cdda76be770a7e4b0d88e215bebd1cb65fd0b4e", func := "clew/clewlaw02.RsetMakes", spec := "rsetMakes", unfollowed := true, recurses := true, apart := false, narrowed := true }
def RsetMakesUptoSaid : Prop := rsetMakesUptoRow.holds Try.pinned (OpenSpec.upto rsetMakesSpec)

/-- 'clewlaw02.RsetHas', WHERE WHAT IT READS IS OF BULK AT MOST 1048576: true; the input reads as it did. -/
def rsetHasUptoRow : OpenClaim := { program := "yteploglmfmhppaa", sum := "4154a4ed9018b43bfee9d6aa7cdda76be770a7e4b0d88e215bebd1cb65fd0b4e", func := "clew/clewlaw02.RsetHas", spec := "rsetHas", unfollowed := true, recurses := true, apart := false, narrowed := true }
def RsetHasUptoSaid : Prop := rsetHasUptoRow.holds Try.pinned (OpenSpec.upto rsetHasSpec)

/-- 'clewlaw02.RsetJoins', WHERE WHAT IT READS IS OF BULK AT MOST 1048576: true; the input reads as it did. -/
def rsetJoinsUptoRow : OpenClaim := { program := "yteploglmfmhppaa", sum := "4154a4ed9018b43bfee9d6aa7cdda76be770a7e4b0d88e215bebd1cb65fd0b4e", func := "clew/clewlaw02.RsetJoins", spec := "rsetJoins", unfollowed := true, recurses := true, apart := false, narrowed := true }
def RsetJoinsUptoSaid : Prop := rsetJoinsUptoRow.holds Try.pinned (OpenSpec.upto rsetJoinsSpec)

/-- 'clewlaw02.RsetOf', WHERE WHAT IT READS IS OF BULK AT MOST 1048576: true; the input reads as it did. -/
def rsetOfUptoRow : OpenClaim := { program := "yteploglmfmhppaa", sum := "4154a4ed9018b43bfee9d6aa7cdda76be770a7e4b0d88e215bebd1cb65fd0b4e", func := "clew/clewlaw02.RsetOf", spec := "rsetOf", unfollowed := true, recurses := true, apart := false, narrowed := true }
def RsetOfUptoSaid : Prop := rsetOfUptoRow.holds Try.pinned (OpenSpec.upto rsetOfSpec)

/-- 'clewlaw02.RsetCounts', WHERE WHAT IT READS IS OF BULK AT MOST 1048576: true; the input reads as it did. -/
def rsetCountsUptoRow : OpenClaim := { program := "yteploglmfmhppaa", sum := "4154a4ed9018b43bfee9d6aa7cdda76be770a7e4b0d88e215bebd1cb65fd0b4e", func := "clew/clewlaw02.RsetCounts", spec := "rsetCounts", unfollowed := true, recurses := true, apart := false, narrowed := true }
def RsetCountsUptoSaid : Prop := rsetCountsUptoRow.holds Try.pinned (OpenSpec.upto rsetCountsSpec)

/-- 'clewlaw05.ClassNames', WHERE WHAT IT READS IS OF BULK AT MOST 1048576: true; the input reads as it did. -/
def classNamesUptoRow : OpenClaim := { program := "yteploglmfmhppaa", sum := "4154a4ed9018b43bfee9d6aa7cdda76be770a7e4b0d88e215bebd1cb65fd0b4e", func := "clew/clewlaw05.ClassNames", spec := "classNames", unfollowed := true, recurses := true, apart := false, narrowed := true }
def ClassNamesUptoSaid : Prop := classNamesUptoRow.holds Try.pinned (OpenSpec.upto classNamesSpec)

/-- 'clewlaw05.ClassNamed', WHERE WHAT IT READS IS OF BULK AT MOST 1048576: true; the input reads as it did. -/
def classNamedUptoRow : OpenClaim := { program := "yteploglmfmhppaa", sum := "4154a4ed9018b43bfee9d6aa7cdda76be770a7e4b0d88e215bebd1cb65fd0b4e", func := "clew/clewlaw05.ClassNamed", spec := "classNamed", unfollowed := true, recurses := true, apart := false, narrowed := true }
def ClassNamedUptoSaid : Prop := classNamedUptoRow.holds Try.pinned (OpenSpec.upto classNamedSpec)

/-- 'clewlaw05.ClassOf', WHERE WHAT IT READS IS OF BULK AT MOST 1048576: true; the input reads as it did. -/
def classOfUptoRow : OpenClaim := { program := "yteploglmfmhppaa", sum := "4154a4ed9018b43bfee9d6aa7cdda76be770a7e4b0d88e215bebd1cb65fd0b4e", func := "clew/clewlaw05.ClassOf", spec := "classOf", unfollowed := true, recurses := true, apart := false, narrowed := true }
def ClassOfUptoSaid : Prop := classOfUptoRow.holds Try.pinned (OpenSpec.upto classOfSpec)

/-- 'clewlaw05.ClassAny', WHERE WHAT IT READS IS OF BULK AT MOST 1048576: true; the input reads as it did. -/
def classAnyUptoRow : OpenClaim := { program := "yteploglmfmhppaa", sum := "4154a4ed9018b43bfee9d6aa7cdda76be770a7e4b0d88e215bebd1cb65fd0b4e", func := "clew/clewlaw05.ClassAny", spec := "classAny", unfollowed := true, recurses := true, apart := false, narrowed := true }
def ClassAnyUptoSaid : Prop := classAnyUptoRow.holds Try.pinned (OpenSpec.upto classAnySpec)

/-- 'clewlaw03.FoldCloses', WHERE WHAT IT READS IS OF BULK AT MOST 1048576: true; the input reads as it did. -/
def foldClosesUptoRow : OpenClaim := { program := "yteploglmfmhppaa", sum := "4154a4ed9018b43bfee9d6aa7cdda76be770a7e4b0d88e215bebd1cb65fd0b4e", func := "clew/clewlaw03.FoldCloses", spec := "foldCloses", unfollowed := true, recurses := true, apart := false, narrowed := true }
def FoldClosesUptoSaid : Prop := foldClosesUptoRow.holds Try.pinned (OpenSpec.upto foldClosesSpec)

end Rows
end Go.Proofs.Yteploglmfmhppaa
