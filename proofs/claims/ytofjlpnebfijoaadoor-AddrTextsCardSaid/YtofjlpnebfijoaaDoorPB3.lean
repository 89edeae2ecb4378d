/-
  Prefixes of the program: addr.Inside, Common.
-/
import Derived.Test.YtofjlpnebfijoaaDoorPB2
namespace Go.Proofs.YtofjlpnebfijoaaDoor
open Go.RowKit Go
set_option linter.unusedVariables false
def comN (six : Bool) (hi lo : Nat) (bits : Int) (h2 l2 : Nat) (b2 : Int) : Nat := down (sameN six hi lo h2 l2) (min bits.toNat b2.toNat)
def comC (six : Bool) (hi lo : Nat) (N : Nat) : Array Value := #[.bool six, .int .u64 ((mHi six hi N : Nat) : Int), .int .u64 ((mLo six lo N : Nat) : Int), .int .i64 (N : Int)]
end Go.Proofs.YtofjlpnebfijoaaDoor
