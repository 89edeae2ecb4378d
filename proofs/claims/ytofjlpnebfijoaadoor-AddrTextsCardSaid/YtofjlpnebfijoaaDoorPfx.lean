/-
  Prefixes: CheckPrefix.
-/
import Derived.Test.YtofjlpnebfijoaaDoorSpan
import Derived.BigQuiet
namespace Go.Proofs.YtofjlpnebfijoaaDoor
open Go.RowKit Go
set_option linter.unusedVariables false

def pFault (six : Bool) (hi lo : Nat) (bits : Int) : Int :=
  if aFault six hi lo ≠ 0 then 3 else if outB bits 0 (lenN six) = true then 1 else if mHi six hi bits.toNat ≠ hi ∨ mLo six lo bits.toNat ≠ lo then 3 else 0
end Go.Proofs.YtofjlpnebfijoaaDoor
