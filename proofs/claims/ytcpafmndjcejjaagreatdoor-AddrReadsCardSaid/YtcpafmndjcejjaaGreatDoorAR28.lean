/-
  The reference's HideOf = hidP. Condition: at most twenty reports, bits of right numbers.
-/
import Derived.Test.YtcpafmndjcejjaaGreatDoorAR27
import Derived.Test.YtcpafmndjcejjaaGreatDoorAR25
set_option linter.unusedVariables false
namespace Go.Proofs.YtcpafmndjcejjaaGreatDoor
open Go.RowKit Go
set_option linter.unusedVariables false
def hqS (n : Nat) (_ : World) (n' : Nat) (_ : World) : Prop := n ≤ n' ∧ n' ≤ 1
end Go.Proofs.YtcpafmndjcejjaaGreatDoor
