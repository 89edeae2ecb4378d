/-
  The reference's firstOf and lastOf: the digits of an address, low bits struck or filled.
-/
import Derived.Test.YtofjlpnebfijoaaDoorWv
namespace Go.Proofs.YtofjlpnebfijoaaDoor
open Go.RowKit Go
set_option linter.unusedVariables false
end Go.Proofs.YtofjlpnebfijoaaDoor
