/-
  kit.Number: a numeral of at most so many digits, with a sign.
-/
import Derived.Test.YteccghdegckjhaaGreatDoorTD21
set_option linter.unusedVariables false
namespace Go.Proofs.YteccghdegckjhaaGreatDoor
open Go.RowKit Go Go.Sort
set_option linter.unusedVariables false
/-- a number of 0 to 255, as it is written -/
def d255 (s : List UInt8) : Option Nat := if numL s = true ∧ decV s ≤ 255 then some (decV s) else none
end Go.Proofs.YteccghdegckjhaaGreatDoor
