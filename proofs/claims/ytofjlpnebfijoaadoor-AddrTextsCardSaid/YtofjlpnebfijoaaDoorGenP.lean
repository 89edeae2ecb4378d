/-
  Generators of prefixes: RightPrefix, Prefix.
-/
import Derived.Test.YtofjlpnebfijoaaDoorPF2
namespace Go.Proofs.YtofjlpnebfijoaaDoor
open Go.RowKit Go
set_option linter.unusedVariables false

def U64N (x : Nat) : Prop := x < 18446744073709551616
theorem mHi_lt {six : Bool} {hi n : Nat} (h : U64N hi) : U64N (mHi six hi n) := Nat.lt_of_le_of_lt (Nat.sub_le _ _) h
theorem mLo_lt {six : Bool} {lo n : Nat} (h : U64N lo) : U64N (mLo six lo n) := Nat.lt_of_le_of_lt (Nat.sub_le _ _) h
theorem nat_of_U64 {x : Int} (h : U64 x) : ∃ n : Nat, x = (n : Int) ∧ U64N n := by
  obtain ⟨n, rfl⟩ := Int.eq_ofNat_of_zero_le h.1
  have h1 := h.2
  exact ⟨n, rfl, by unfold U64N; omega⟩
theorem Gen.below0 {b m : Nat} {u v w : World} (h : Gen b u v m) (k : Below v.heap.size v w) (hb : b < v.heap.size) : Gen b u w m := h.below k h.g.size hb
end Go.Proofs.YtofjlpnebfijoaaDoor
