/-
  The address of a wide number.
-/
import Derived.Test.YtofjlpnebfijoaaDoorFirst
namespace Go.Proofs.YtofjlpnebfijoaaDoor
open Go.RowKit Go
set_option linter.unusedVariables false

/-- the number of k digits from place o on -/
def PS (f : Nat → Nat) (o : Nat) : Nat → Nat
  | 0 => 0
  | k + 1 => PS f o k + f (o + k) * 2 ^ (16 * k)
theorem PS_lt (f : Nat → Nat) (hf : ∀ d, f d < 65536) (o : Nat) : ∀ k, PS f o k < 2 ^ (16 * k)
  | 0 => by simp [PS]
  | k + 1 => by
    have h1 := PS_lt f hf o k
    have h2 := hf (o + k)
    have e : 2 ^ (16 * (k + 1)) = 65536 * 2 ^ (16 * k) := by rw [Nat.mul_add, Nat.pow_add, Nat.mul_comm]
    unfold PS
    rw [e]
    have h3 : f (o + k) * 2 ^ (16 * k) ≤ 65535 * 2 ^ (16 * k) := Nat.mul_le_mul_right _ (by omega)
    omega
theorem PS_four (f : Nat → Nat) (o : Nat) : PS f o 4 = f o + 65536 * (f (o + 1) + 65536 * (f (o + 2) + 65536 * f (o + 3))) := by
  simp only [PS, Nat.add_zero, Nat.mul_zero, Nat.pow_zero, Nat.mul_one, Nat.zero_add, Nat.reduceMul, Nat.reducePow]
  omega
theorem shl_cast (x s : Nat) (hx : x < 65536) (hs : s ≤ 48) : IntKind.u64.wrap ((x : Int) * 2 ^ s) = ((x * 2 ^ s : Nat) : Int) := by
  have e : (x : Int) * 2 ^ s = ((x * 2 ^ s : Nat) : Int) := by rw [Int.natCast_mul, Int.natCast_pow]; rfl
  have h1 : x * 2 ^ s ≤ 65535 * 2 ^ 48 := Nat.mul_le_mul (by omega) (Nat.pow_le_pow_right (by decide) hs)
  rw [e, IntKind.wrap_u64]
  generalize x * 2 ^ s = y at *
  omega
end Go.Proofs.YtofjlpnebfijoaaDoor
