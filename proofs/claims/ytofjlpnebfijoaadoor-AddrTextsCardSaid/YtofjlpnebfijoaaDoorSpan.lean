/-
  Addresses with their first bits alone: low, Length, Masked, Filled.
-/
import Derived.Test.YtofjlpnebfijoaaDoorPure
import Derived.Test.YtofjlpnebfijoaaDoorRegion
namespace Go.Proofs.YtofjlpnebfijoaaDoor
open Go.RowKit Go
set_option linter.unusedVariables false

def lowLo (n : Nat) : Nat := if 64 ≤ n then 18446744073709551615 else 2 ^ n - 1
def lowHi (n : Nat) : Nat := if 128 ≤ n then 18446744073709551615 else if 64 < n then 2 ^ (n - 64) - 1 else 0
theorem pow_lt64 {n : Nat} (h : n < 64) : 2 ^ n < 18446744073709551616 ∧ 1 ≤ 2 ^ n :=
  ⟨Nat.pow_lt_pow_right (by decide) h, Nat.one_le_two_pow⟩
theorem low_wrap (k : Nat) (h : k < 64) : IntKind.u64.wrap (IntKind.u64.wrap ((2 : Int) ^ k) - 1) = ((2 ^ k - 1 : Nat) : Int) := by
  obtain ⟨h1, h2⟩ := pow_lt64 h
  have e : (2 : Int) ^ k = ((2 ^ k : Nat) : Int) := by rw [Int.natCast_pow]; rfl
  rw [e, IntKind.wrap_u64, IntKind.wrap_u64]
  omega
/-- an address as the program has it -/
def vA (six : Bool) (hi lo : Nat) : Value := .agg #[.bool six, .int .u64 (hi : Int), .int .u64 (lo : Int)]
def lenN (six : Bool) : Nat := if six = true then 128 else 32
theorem andNot_low (x k : Nat) (hx : x < 18446744073709551616) (hk : k ≤ 64) : bits .andNot .u64 (x : Int) ((2 ^ k - 1 : Nat) : Int) = ((x - x % 2 ^ k : Nat) : Int) := by
  have key : (BitVec.ofNat 64 x &&& ~~~ BitVec.ofNat 64 (2 ^ k - 1)).toNat = x - x % 2 ^ k := by
    have e : x - x % 2 ^ k = (x >>> k) <<< k := by
      rw [Nat.shiftLeft_eq, Nat.shiftRight_eq_div_pow, Nat.mul_comm]
      have := Nat.div_add_mod x (2 ^ k)
      omega
    rw [e]
    refine Nat.eq_of_testBit_eq fun i => ?_
    rw [BitVec.testBit_toNat, BitVec.getLsbD_and, BitVec.getLsbD_not, BitVec.getLsbD_ofNat, BitVec.getLsbD_ofNat, Nat.testBit_shiftLeft, Nat.testBit_shiftRight, Nat.testBit_two_pow_sub_one]
    by_cases hi : i < 64
    · by_cases hik : i < k
      · simp [hi, hik]
        intro h
        omega
      · have h3 : k + (i - k) = i := by omega
        simp [hi, hik, h3]
        omega
    · have h4 : x.testBit i = false := Nat.testBit_lt_two_pow (Nat.lt_of_lt_of_le hx (Nat.pow_le_pow_right (n := 2) (by decide) (by omega : 64 ≤ i)))
      have h5 : k ≤ i := by omega
      have h3 : k + (i - k) = i := by omega
      simp [hi, h3, h4]
  have o1 : BitVec.ofInt 64 (x : Int) = BitVec.ofNat 64 x := BitVec.ofInt_natCast ..
  have o2 : BitVec.ofInt 64 ((2 ^ k - 1 : Nat) : Int) = BitVec.ofNat 64 (2 ^ k - 1) := BitVec.ofInt_natCast ..
  show IntKind.u64.wrap ((BitVec.ofInt 64 (x : Int) &&& ~~~ BitVec.ofInt 64 ((2 ^ k - 1 : Nat) : Int)).toNat : Nat) = _
  rw [o1, o2, key, IntKind.wrap_u64]
  omega
theorem or_low (x k : Nat) (hx : x < 18446744073709551616) (hk : k ≤ 64) : bits .or .u64 (x : Int) ((2 ^ k - 1 : Nat) : Int) = ((x - x % 2 ^ k + (2 ^ k - 1) : Nat) : Int) := by
  have hp : 2 ^ k ≤ 2 ^ 64 := Nat.pow_le_pow_right (by decide) hk
  have h1 := Nat.one_le_two_pow (n := k)
  have hlt : x - x % 2 ^ k + (2 ^ k - 1) < 2 ^ 64 := by
    obtain ⟨c, hc⟩ : ∃ c, 2 ^ 64 = 2 ^ k * c := ⟨2 ^ (64 - k), by rw [← Nat.pow_add]; congr 1; omega⟩
    have hd := Nat.div_add_mod x (2 ^ k)
    have hq : x / 2 ^ k < c := by
      rw [Nat.div_lt_iff_lt_mul (by omega), Nat.mul_comm, ← hc]
      exact hx
    have hq2 : 2 ^ k * (x / 2 ^ k) + 2 ^ k ≤ 2 ^ k * c := by
      have := Nat.mul_le_mul_left (2 ^ k) (show x / 2 ^ k + 1 ≤ c by omega)
      rw [Nat.mul_add, Nat.mul_one] at this
      exact this
    omega
  have key : (BitVec.ofNat 64 x ||| BitVec.ofNat 64 (2 ^ k - 1)).toNat = x - x % 2 ^ k + (2 ^ k - 1) := by
    have e : x - x % 2 ^ k + (2 ^ k - 1) = 2 ^ k * (x / 2 ^ k) ||| (2 ^ k - 1) := by
      rw [← Nat.two_pow_add_eq_or_of_lt (by omega)]
      have := Nat.div_add_mod x (2 ^ k)
      omega
    rw [e, BitVec.toNat_or, BitVec.toNat_ofNat, BitVec.toNat_ofNat, Nat.mod_eq_of_lt (by omega : x < 2 ^ 64), Nat.mod_eq_of_lt (by omega : 2 ^ k - 1 < 2 ^ 64)]
    refine Nat.eq_of_testBit_eq fun i => ?_
    rw [Nat.testBit_or, Nat.testBit_or, Nat.testBit_two_pow_sub_one, Nat.testBit_two_pow_mul]
    by_cases hik : i < k
    · simp [hik]
    · have h3 : i - k + k = i := by omega
      simp [hik, Nat.testBit_div_two_pow, h3]
      omega
  have o1 : BitVec.ofInt 64 (x : Int) = BitVec.ofNat 64 x := BitVec.ofInt_natCast ..
  have o2 : BitVec.ofInt 64 ((2 ^ k - 1 : Nat) : Int) = BitVec.ofNat 64 (2 ^ k - 1) := BitVec.ofInt_natCast ..
  show IntKind.u64.wrap ((BitVec.ofInt 64 (x : Int) ||| BitVec.ofInt 64 ((2 ^ k - 1 : Nat) : Int)).toNat : Nat) = _
  rw [o1, o2, key, IntKind.wrap_u64]
  omega
theorem lowHi_eq (k : Nat) (h : k ≤ 128) : lowHi k = 2 ^ (k - 64) - 1 := by
  unfold lowHi
  split
  · obtain rfl : k = 128 := by omega
    rfl
  · split
    · rfl
    · rw [show k - 64 = 0 by omega]
theorem lowLo_eq (k : Nat) : lowLo k = 2 ^ (min k 64) - 1 := by
  unfold lowLo
  split
  · rw [Nat.min_eq_right (by omega)]
  · rw [Nat.min_eq_left (by omega)]
def mHi (six : Bool) (hi n : Nat) : Nat := hi - hi % 2 ^ (lenN six - n - 64)
def mLo (six : Bool) (lo n : Nat) : Nat := lo - lo % 2 ^ (min (lenN six - n) 64)
def fHi (six : Bool) (hi n : Nat) : Nat := mHi six hi n + (2 ^ (lenN six - n - 64) - 1)
def fLo (six : Bool) (lo n : Nat) : Nat := mLo six lo n + (2 ^ (min (lenN six - n) 64) - 1)
theorem lenN_le (six : Bool) : lenN six ≤ 128 := by cases six <;> decide
end Go.Proofs.YtofjlpnebfijoaaDoor
