/-
  Strings that a generator makes: Changed, AddrString.
-/
import Derived.Test.YteccghdegckjhaaGreatDoorTD32
import Derived.Test.YteccghdegckjhaaGreatDoorTD17
import Derived.Test.YteccghdegckjhaaGreatDoorTD2
import Derived.Test.YteccghdegckjhaaGreatDoorTD3
set_option linter.unusedVariables false
namespace Go.Proofs.YteccghdegckjhaaGreatDoor
open Go.RowKit Go Go.Sort
set_option linter.unusedVariables false
end Go.Proofs.YteccghdegckjhaaGreatDoor
