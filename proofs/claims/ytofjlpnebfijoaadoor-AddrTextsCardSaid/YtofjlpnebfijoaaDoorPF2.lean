/-
  The reference's PrefixFault and MaskOf.
-/
import Derived.Test.YtofjlpnebfijoaaDoorWEq
namespace Go.Proofs.YtofjlpnebfijoaaDoor
open Go.RowKit Go
set_option linter.unusedVariables false

def vP (six : Bool) (hi lo : Nat) (bits : Int) : Value := .agg #[.bool six, .int .u64 (hi : Int), .int .u64 (lo : Int), .int .i64 bits]
end Go.Proofs.YtofjlpnebfijoaaDoor
