/-
  Decimal numerals without leading zeros: read and written.
-/
import Derived.Test.YteccghdegckjhaaGreatDoorTD24
import Derived.Lib.Atoi
import Derived.Lib.AtoiAll
import Derived.Lib.Strings
set_option linter.unusedVariables false
namespace Go.Proofs.YteccghdegckjhaaGreatDoor
open Go Go.Lib
set_option linter.unusedVariables false

def isDg (b : UInt8) : Bool := decide (48 ≤ b.toNat ∧ b.toNat ≤ 57)
def decV (d : List UInt8) : Nat := d.foldl (fun a b => a * 10 + (b.toNat - 48)) 0
/-- a numeral: digits, the first of them no 0 if there are more -/
def numL (d : List UInt8) : Bool := !d.isEmpty && d.all isDg && (d.head? != some 48 || d == [48])
end Go.Proofs.YteccghdegckjhaaGreatDoor
