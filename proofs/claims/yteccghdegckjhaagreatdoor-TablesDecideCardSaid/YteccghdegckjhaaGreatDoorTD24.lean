/-
  Decimal numerals, in plain words: digits of a number in a row of so many places; sums digit by digit.
-/
import Derived.Lib.ItoaNum
import Derived.Lib.Repeat
set_option linter.unusedVariables false
namespace Go.Proofs.YteccghdegckjhaaGreatDoor
open Go Go.Lib
set_option linter.unusedVariables false
end Go.Proofs.YteccghdegckjhaaGreatDoor
