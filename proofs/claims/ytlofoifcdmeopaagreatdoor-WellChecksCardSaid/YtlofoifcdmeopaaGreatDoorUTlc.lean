/- A right tree's kids stand behind their parents. -/
import Derived.Test.YtlofoifcdmeopaaGreatDoorUTen
namespace Go.Proofs.YtlofoifcdmeopaaGreatDoor.V
open Go Go.Ev Go.RowKit
set_option linter.unusedVariables false
set_option linter.unusedSimpArgs false
theorem Laid.kid {t : Tr} (h : Laid t) {p : Nat} (hp : p < t.ns.length) {k : Int} (hk : k ∈ t.ns[p].kids) : ∃ m : Nat, k = (m : Int) ∧ p < m ∧ m < t.ns.length := endK_kids t.ns _ 0 h.all p hp (Nat.zero_le _) hp k hk
end Go.Proofs.YtlofoifcdmeopaaGreatDoor.V
