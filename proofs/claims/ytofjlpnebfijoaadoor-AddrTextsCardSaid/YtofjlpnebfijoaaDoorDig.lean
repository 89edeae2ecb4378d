/-
  Numbers in digits of 2^16: low bits struck or filled, digit by digit.
-/
import Derived.Lib.Hide
import Derived.WalkKit
namespace Go.Proofs.YtofjlpnebfijoaaDoor
open Go
set_option linter.unusedVariables false

def clr (x k : Nat) : Nat := x - x % 2 ^ k
def fil (x k : Nat) : Nat := x - x % 2 ^ k + (2 ^ k - 1)
theorem clr_zero (x : Nat) : clr x 0 = x := by simp [clr, Nat.mod_one]
theorem fil_zero (x : Nat) : fil x 0 = x := by simp [fil, Nat.mod_one]
theorem mod_low (x y k : Nat) (hk : k ≤ 16) : (x + 65536 * y) % 2 ^ k = x % 2 ^ k := by
  have e : 65536 = 2 ^ k * 2 ^ (16 - k) := by rw [← Nat.pow_add, show k + (16 - k) = 16 by omega]
  rw [e, Nat.mul_assoc, Nat.add_mul_mod_self_left]
theorem mod_high (x y k : Nat) (hx : x < 65536) (hk : 16 ≤ k) : (x + 65536 * y) % 2 ^ k = x + 65536 * (y % 2 ^ (k - 16)) := by
  have e : 2 ^ k = 65536 * 2 ^ (k - 16) := by rw [show 65536 = 2 ^ 16 from rfl, ← Nat.pow_add, show 16 + (k - 16) = k by omega]
  rw [e, Nat.mod_mul, Nat.add_mul_mod_self_left, Nat.mod_eq_of_lt hx, Nat.add_mul_div_left _ _ (by decide : 0 < 65536), Nat.div_eq_of_lt hx, Nat.zero_add]
theorem clr_join (x y k m : Nat) (hx : x < 65536) : clr (x + 65536 * y) (min k (16 + m)) = clr x (min k 16) + 65536 * clr y (min (k - 16) m) := by
  unfold clr
  rcases Nat.le_total k 16 with h | h
  · rw [Nat.min_eq_left (by omega : k ≤ 16 + m), Nat.min_eq_left h, show k - 16 = 0 by omega, Nat.zero_min, mod_low x y k h, Nat.pow_zero, Nat.mod_one]
    have := Nat.mod_le x (2 ^ k)
    omega
  · rw [mod_high x y _ hx (by omega), Nat.min_eq_right h, Nat.mod_eq_of_lt hx, show min k (16 + m) - 16 = min (k - 16) m by omega, Nat.mul_sub]
    omega
theorem fil_join (x y k m : Nat) (hx : x < 65536) : fil (x + 65536 * y) (min k (16 + m)) = fil x (min k 16) + 65536 * fil y (min (k - 16) m) := by
  unfold fil
  rcases Nat.le_total k 16 with h | h
  · rw [Nat.min_eq_left (by omega : k ≤ 16 + m), Nat.min_eq_left h, show k - 16 = 0 by omega, Nat.zero_min, mod_low x y k h, Nat.pow_zero, Nat.mod_one]
    have := Nat.mod_le x (2 ^ k)
    omega
  · have e : min k (16 + m) = 16 + min (k - 16) m := by omega
    rw [mod_high x y _ hx (by omega), Nat.min_eq_right h, Nat.mod_eq_of_lt hx, show min k (16 + m) - 16 = min (k - 16) m by omega, e, Nat.pow_add]
    have h1 := Nat.mod_le y (2 ^ (min (k - 16) m))
    have h2 := Nat.one_le_two_pow (n := min (k - 16) m)
    omega
/-- four digits -/
theorem digits4 (n : Nat) (hn : n < 18446744073709551616) : n = n % 65536 + 65536 * (n / 65536 % 65536 + 65536 * (n / 4294967296 % 65536 + 65536 * (n / 281474976710656 % 65536))) := by omega
theorem clr_digits (n k : Nat) (hn : n < 18446744073709551616) :
    clr n (min k 64) = clr (n % 65536) (min k 16) + 65536 * (clr (n / 65536 % 65536) (min (k - 16) 16) + 65536 * (clr (n / 4294967296 % 65536) (min (k - 32) 16) + 65536 * clr (n / 281474976710656 % 65536) (min (k - 48) 16))) := by
  have h0 : n % 65536 < 65536 := Nat.mod_lt _ (by decide)
  have h1 : n / 65536 % 65536 < 65536 := Nat.mod_lt _ (by decide)
  have h2 : n / 4294967296 % 65536 < 65536 := Nat.mod_lt _ (by decide)
  have e := digits4 n hn
  generalize n % 65536 = x0 at *
  generalize n / 65536 % 65536 = x1 at *
  generalize n / 4294967296 % 65536 = x2 at *
  generalize n / 281474976710656 % 65536 = x3 at *
  subst e
  rw [show (64 : Nat) = 16 + 48 from rfl, clr_join _ _ _ _ h0, show (48 : Nat) = 16 + 32 from rfl, clr_join _ _ _ _ h1, show (32 : Nat) = 16 + 16 from rfl, clr_join _ _ _ _ h2]
  simp only [Nat.sub_sub, Nat.reduceAdd]
theorem fil_digits (n k : Nat) (hn : n < 18446744073709551616) :
    fil n (min k 64) = fil (n % 65536) (min k 16) + 65536 * (fil (n / 65536 % 65536) (min (k - 16) 16) + 65536 * (fil (n / 4294967296 % 65536) (min (k - 32) 16) + 65536 * fil (n / 281474976710656 % 65536) (min (k - 48) 16))) := by
  have h0 : n % 65536 < 65536 := Nat.mod_lt _ (by decide)
  have h1 : n / 65536 % 65536 < 65536 := Nat.mod_lt _ (by decide)
  have h2 : n / 4294967296 % 65536 < 65536 := Nat.mod_lt _ (by decide)
  have e := digits4 n hn
  generalize n % 65536 = x0 at *
  generalize n / 65536 % 65536 = x1 at *
  generalize n / 4294967296 % 65536 = x2 at *
  generalize n / 281474976710656 % 65536 = x3 at *
  subst e
  rw [show (64 : Nat) = 16 + 48 from rfl, fil_join _ _ _ _ h0, show (48 : Nat) = 16 + 32 from rfl, fil_join _ _ _ _ h1, show (32 : Nat) = 16 + 16 from rfl, fil_join _ _ _ _ h2]
  simp only [Nat.sub_sub, Nat.reduceAdd]
theorem clr_le (x k : Nat) : clr x k ≤ x := Nat.sub_le _ _
theorem clr_shift (x k : Nat) : clr x k = (x >>> k) <<< k := by
  unfold clr
  rw [Nat.shiftLeft_eq, Nat.shiftRight_eq_div_pow, Nat.mul_comm]
  have := Nat.div_add_mod x (2 ^ k)
  omega
theorem clr_tb (x k i : Nat) : (clr x k).testBit i = (decide (k ≤ i) && x.testBit i) := by
  rw [clr_shift, Nat.testBit_shiftLeft, Nat.testBit_shiftRight]
  by_cases h : k ≤ i
  · simp [h, show k + (i - k) = i by omega]
  · simp [h]
theorem fil_or (x k : Nat) : fil x k = clr x k ||| (2 ^ k - 1) := by
  have h1 := Nat.one_le_two_pow (n := k)
  unfold fil clr
  have hd := Nat.div_add_mod x (2 ^ k)
  have e : x - x % 2 ^ k = 2 ^ k * (x / 2 ^ k) := by omega
  rw [e, ← Nat.two_pow_add_eq_or_of_lt (by omega)]
theorem fil_tb (x k i : Nat) : (fil x k).testBit i = (decide (i < k) || x.testBit i) := by
  rw [fil_or, Nat.testBit_or, clr_tb, Nat.testBit_two_pow_sub_one]
  by_cases h : i < k
  · simp [h]
  · simp [h, Nat.not_lt.1 h]
theorem fil_lt (x k : Nat) (hx : x < 65536) (hk : k ≤ 16) : fil x k < 65536 := by
  have hp : 2 ^ k ≤ 2 ^ 16 := Nat.pow_le_pow_right (by decide) hk
  have h1 := Nat.one_le_two_pow (n := k)
  rw [fil_or]
  exact Nat.or_lt_two_pow (n := 16) (Nat.lt_of_le_of_lt (clr_le x k) hx) (by omega)
theorem andNot_bit (x j : Nat) (hx : x < 65536) (hj : j < 16) : bits .andNot .i64 ((clr x j : Nat) : Int) ((2 ^ j : Nat) : Int) = ((clr x (j + 1) : Nat) : Int) := by
  have h64 : (65536 : Nat) < 2 ^ 64 := by decide
  have hc := clr_le x j
  have hc2 := clr_le x (j + 1)
  have hpj : 2 ^ j < 2 ^ 64 := Nat.pow_lt_pow_right (by decide) (by omega)
  have key : (BitVec.ofNat 64 (clr x j) &&& ~~~ BitVec.ofNat 64 (2 ^ j)).toNat = clr x (j + 1) := by
    refine Nat.eq_of_testBit_eq fun i => ?_
    rw [BitVec.testBit_toNat, BitVec.getLsbD_and, BitVec.getLsbD_not, BitVec.getLsbD_ofNat, BitVec.getLsbD_ofNat, clr_tb, clr_tb, Nat.testBit_two_pow]
    by_cases hi : i < 64
    · by_cases h1 : j = i
      · subst h1; simp [show ¬ j + 1 ≤ j by omega]
      · by_cases h2 : j ≤ i
        · simp [hi, h1, h2, show j + 1 ≤ i by omega]
        · simp [h2, show ¬ j + 1 ≤ i by omega]
    · have h4 : x.testBit i = false := Nat.testBit_lt_two_pow (Nat.lt_of_lt_of_le hx (by rw [show 65536 = 2 ^ 16 from rfl]; exact Nat.pow_le_pow_right (by decide) (by omega)))
      simp [hi, h4]
  have o1 : BitVec.ofInt 64 ((clr x j : Nat) : Int) = BitVec.ofNat 64 (clr x j) := BitVec.ofInt_natCast ..
  have o2 : BitVec.ofInt 64 ((2 ^ j : Nat) : Int) = BitVec.ofNat 64 (2 ^ j) := BitVec.ofInt_natCast ..
  show IntKind.i64.wrap ((BitVec.ofInt 64 ((clr x j : Nat) : Int) &&& ~~~ BitVec.ofInt 64 ((2 ^ j : Nat) : Int)).toNat : Nat) = _
  rw [o1, o2, key, IntKind.wrap_i64]
  omega
theorem or_bit (x j : Nat) (hx : x < 65536) (hj : j < 16) : bits .or .i64 ((fil x j : Nat) : Int) ((2 ^ j : Nat) : Int) = ((fil x (j + 1) : Nat) : Int) := by
  have h64 : (65536 : Nat) < 2 ^ 64 := by decide
  have hc := fil_lt x j hx (by omega)
  have hc2 := fil_lt x (j + 1) hx (by omega)
  have hpj : 2 ^ j < 2 ^ 64 := Nat.pow_lt_pow_right (by decide) (by omega)
  have key : (BitVec.ofNat 64 (fil x j) ||| BitVec.ofNat 64 (2 ^ j)).toNat = fil x (j + 1) := by
    rw [BitVec.toNat_or, BitVec.toNat_ofNat, BitVec.toNat_ofNat, Nat.mod_eq_of_lt (by omega), Nat.mod_eq_of_lt hpj]
    refine Nat.eq_of_testBit_eq fun i => ?_
    rw [Nat.testBit_or, fil_tb, fil_tb, Nat.testBit_two_pow]
    by_cases h1 : j = i
    · subst h1; simp
    · by_cases h2 : i < j
      · simp [h2, show i < j + 1 by omega]
      · simp [h1, h2, show ¬ i < j + 1 by omega]
  have o1 : BitVec.ofInt 64 ((fil x j : Nat) : Int) = BitVec.ofNat 64 (fil x j) := BitVec.ofInt_natCast ..
  have o2 : BitVec.ofInt 64 ((2 ^ j : Nat) : Int) = BitVec.ofNat 64 (2 ^ j) := BitVec.ofInt_natCast ..
  show IntKind.i64.wrap ((BitVec.ofInt 64 ((fil x j : Nat) : Int) ||| BitVec.ofInt 64 ((2 ^ j : Nat) : Int)).toNat : Nat) = _
  rw [o1, o2, key, IntKind.wrap_i64]
  omega
/-- `a | b << k` where a has k bits -/
theorem or_join (a b k : Nat) (ha : a < 2 ^ k) (hk : k ≤ 48) (hb : b < 65536) : bits .or .u64 (a : Int) ((b * 2 ^ k : Nat) : Int) = ((a + b * 2 ^ k : Nat) : Int) := by
  have hp : 2 ^ k ≤ 2 ^ 48 := Nat.pow_le_pow_right (by decide) hk
  have hp1 := Nat.one_le_two_pow (n := k)
  have hbk : b * 2 ^ k ≤ 65535 * 2 ^ 48 := Nat.mul_le_mul (by omega) hp
  have hbk2 : a + b * 2 ^ k < 2 ^ 64 := by
    have : 65535 * 2 ^ 48 + 2 ^ 48 ≤ 2 ^ 64 := by decide
    omega
  have key : (BitVec.ofNat 64 a ||| BitVec.ofNat 64 (b * 2 ^ k)).toNat = a + b * 2 ^ k := by
    rw [BitVec.toNat_or, BitVec.toNat_ofNat, BitVec.toNat_ofNat, Nat.mod_eq_of_lt (by omega), Nat.mod_eq_of_lt (by omega), Nat.or_comm, Nat.mul_comm b, ← Nat.two_pow_add_eq_or_of_lt ha]
    omega
  have o1 : BitVec.ofInt 64 (a : Int) = BitVec.ofNat 64 a := BitVec.ofInt_natCast ..
  have o2 : BitVec.ofInt 64 ((b * 2 ^ k : Nat) : Int) = BitVec.ofNat 64 (b * 2 ^ k) := BitVec.ofInt_natCast ..
  show IntKind.u64.wrap ((BitVec.ofInt 64 (a : Int) ||| BitVec.ofInt 64 ((b * 2 ^ k : Nat) : Int)).toNat : Nat) = _
  rw [o1, o2, key, IntKind.wrap_u64]
  omega
/-- digit d at round i -/
theorem clr_at (x i d : Nat) (h : i / 16 = d) : clr x (min (i - 16 * d) 16) = clr x (i % 16) := by
  congr 1; omega
theorem clr_next (x i d : Nat) (h : i / 16 = d) : clr x (min (i + 1 - 16 * d) 16) = clr x (i % 16 + 1) := by
  congr 1; omega
theorem clr_else (x i d : Nat) (h : i / 16 ≠ d) : clr x (min (i + 1 - 16 * d) 16) = clr x (min (i - 16 * d) 16) := by
  congr 1; omega
theorem fil_at (x i d : Nat) (h : i / 16 = d) : fil x (min (i - 16 * d) 16) = fil x (i % 16) := by
  congr 1; omega
theorem fil_next (x i d : Nat) (h : i / 16 = d) : fil x (min (i + 1 - 16 * d) 16) = fil x (i % 16 + 1) := by
  congr 1; omega
theorem fil_else (x i d : Nat) (h : i / 16 ≠ d) : fil x (min (i + 1 - 16 * d) 16) = fil x (min (i - 16 * d) 16) := by
  congr 1; omega
end Go.Proofs.YtofjlpnebfijoaaDoor
