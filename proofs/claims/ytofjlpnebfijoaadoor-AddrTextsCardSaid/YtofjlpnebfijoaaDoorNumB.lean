/-
  Addresses as numbers: comparing digit by digit; what a prefix holds, whether one lies in another, what two have in common.
-/
import Derived.Test.YtofjlpnebfijoaaDoorPFault
namespace Go.Proofs.YtofjlpnebfijoaaDoor
open Go
set_option linter.unusedVariables false

/-! ### Digits -/
def PW (F : Nat → Nat) : Nat → Nat
  | 0 => 0
  | k + 1 => PW F k + F k * 65536 ^ k
theorem PW_lt {F : Nat → Nat} (h : ∀ d, F d < 65536) : ∀ k, PW F k < 65536 ^ k
  | 0 => by simp [PW]
  | k + 1 => by
    have h1 := PW_lt h k
    have h2 := h k
    have h3 : F k * 65536 ^ k ≤ 65535 * 65536 ^ k := Nat.mul_le_mul_right _ (by omega)
    rw [PW, Nat.pow_succ]
    omega
theorem PW_digit {F G : Nat → Nat} (hF : ∀ d, F d < 65536) {i : Nat} (h : F i < G i) : PW F (i + 1) < PW G (i + 1) := by
  have h1 := PW_lt hF i
  have h2 : (F i + 1) * 65536 ^ i ≤ G i * 65536 ^ i := Nat.mul_le_mul_right _ h
  rw [Nat.add_mul, Nat.one_mul] at h2
  simp only [PW]
  omega
theorem PW_above {F G : Nat → Nat} {i : Nat} : ∀ k, (∀ j, i ≤ j → j < i + k → F j = G j) → PW F (i + k) + PW G i = PW G (i + k) + PW F i
  | 0, _ => by simp only [Nat.add_zero]; omega
  | k + 1, h => by
    have h1 := PW_above k fun j h1 h2 => h j h1 (by omega)
    have h2 := h (i + k) (by omega) (by omega)
    rw [← Nat.add_assoc, PW, PW, h2]
    omega
/-- compared -/
def cN (a b : Nat) : Int := if a < b then -1 else if b < a then 1 else 0
theorem cN_le (a b : Nat) : (cN a b ≤ 0) ↔ a ≤ b := by unfold cN; split <;> (try split) <;> omega
theorem cmp_top {F G : Nat → Nat} (hF : ∀ d, F d < 65536) (hG : ∀ d, G d < 65536) {i : Nat} (hi : i < 9) (hab : ∀ j, i < j → j < 9 → F j = G j) (hne : F i ≠ G i) : cN (PW F 9) (PW G 9) = if F i < G i then -1 else 1 := by
  have h1 := PW_above (F := F) (G := G) (i := i + 1) (9 - (i + 1)) fun j h1 h2 => hab j (by omega) (by omega)
  rw [show i + 1 + (9 - (i + 1)) = 9 by omega] at h1
  unfold cN
  rcases Nat.lt_or_ge (F i) (G i) with h | h
  · have := PW_digit hF h
    rw [if_pos h, if_pos (show PW F 9 < PW G 9 by omega)]
  · have := PW_digit hG (show G i < F i by omega)
    rw [if_neg (show ¬ F i < G i by omega), if_neg (show ¬ PW F 9 < PW G 9 by omega), if_pos (show PW G 9 < PW F 9 by omega)]
theorem PW_congr {F G : Nat → Nat} : ∀ k, (∀ j, j < k → F j = G j) → PW F k = PW G k
  | 0, _ => rfl
  | k + 1, h => by rw [PW, PW, PW_congr k fun j hj => h j (by omega), h k (by omega)]
theorem cN_same (a : Nat) : cN a a = 0 := by unfold cN; rw [if_neg (Nat.lt_irrefl a), if_neg (Nat.lt_irrefl a)]
theorem cmp_same {F G : Nat → Nat} (hab : ∀ j, j < 9 → F j = G j) : cN (PW F 9) (PW G 9) = 0 := by
  rw [PW_congr 9 hab, cN_same]
def dv (six : Bool) (f : Nat → Nat) (d : Nat) : Nat := if d < 8 then f d else if six = true then 1 else 0
theorem dv_lt {six : Bool} {f : Nat → Nat} (h : ∀ d, f d < 65536) (d : Nat) : dv six f d < 65536 := by
  unfold dv; split
  · exact h d
  · split <;> decide
def numA (six : Bool) (hi lo : Nat) : Nat := (if six = true then 1 else 0) * 2 ^ 128 + hi * 2 ^ 64 + lo
theorem PW_num (six : Bool) (f : Nat → Nat) : PW (dv six f) 9 = numA six (PS f 4 4) (PS f 0 4) := by
  rw [PS_four, PS_four]
  simp only [PW, dv, numA, Nat.reduceLT, Nat.reducePow, Nat.reduceAdd, if_true, Nat.zero_add, Nat.mul_one, Nat.lt_irrefl, if_false]
  omega
/-! ### Masks of whole numbers -/
theorem big_low (x y k : Nat) (hk : k ≤ 64) : (x + 2 ^ 64 * y) % 2 ^ k = x % 2 ^ k := by
  have e : 2 ^ 64 = 2 ^ k * 2 ^ (64 - k) := by rw [← Nat.pow_add, show k + (64 - k) = 64 by omega]
  rw [e, Nat.mul_assoc, Nat.add_mul_mod_self_left]
theorem big_high (x y k : Nat) (hx : x < 2 ^ 64) (hk : 64 ≤ k) : (x + 2 ^ 64 * y) % 2 ^ k = x + 2 ^ 64 * (y % 2 ^ (k - 64)) := by
  have e : 2 ^ k = 2 ^ 64 * 2 ^ (k - 64) := by rw [← Nat.pow_add, show 64 + (k - 64) = k by omega]
  rw [e, Nat.mod_mul, Nat.add_mul_mod_self_left, Nat.mod_eq_of_lt hx, Nat.add_mul_div_left _ _ (by decide : 0 < 2 ^ 64), Nat.div_eq_of_lt hx, Nat.zero_add]
theorem clr_big (hi lo k : Nat) (hl : lo < 2 ^ 64) (hk : k ≤ 128) : clr hi (min (k - 64) 64) * 2 ^ 64 + clr lo (min k 64) = clr (hi * 2 ^ 64 + lo) k := by
  unfold clr
  rw [show hi * 2 ^ 64 + lo = lo + 2 ^ 64 * hi by omega]
  rcases Nat.le_total k 64 with h | h
  · rw [big_low lo hi k h, Nat.min_eq_left h, show k - 64 = 0 by omega, Nat.zero_min, Nat.pow_zero, Nat.mod_one]
    have := Nat.mod_le lo (2 ^ k)
    omega
  · rw [big_high lo hi k hl h, Nat.min_eq_right h, Nat.min_eq_left (by omega), Nat.mod_eq_of_lt hl]
    have := Nat.mod_le hi (2 ^ (k - 64))
    omega
theorem fil_big (hi lo k : Nat) (hl : lo < 2 ^ 64) (hk : k ≤ 128) : fil hi (min (k - 64) 64) * 2 ^ 64 + fil lo (min k 64) = fil (hi * 2 ^ 64 + lo) k := by
  unfold fil
  rw [show hi * 2 ^ 64 + lo = lo + 2 ^ 64 * hi by omega]
  rcases Nat.le_total k 64 with h | h
  · rw [big_low lo hi k h, Nat.min_eq_left h, show k - 64 = 0 by omega, Nat.zero_min, Nat.pow_zero, Nat.mod_one]
    have := Nat.mod_le lo (2 ^ k)
    omega
  · have e : 2 ^ k = 2 ^ 64 * 2 ^ (k - 64) := by rw [← Nat.pow_add, show 64 + (k - 64) = k by omega]
    rw [big_high lo hi k hl h, Nat.min_eq_right h, Nat.min_eq_left (by omega), Nat.mod_eq_of_lt hl, e]
    have := Nat.mod_le hi (2 ^ (k - 64))
    have := Nat.one_le_two_pow (n := k - 64)
    omega
/-! ### Prefixes -/
/-- a right address -/
def AOK (six : Bool) (hi lo : Nat) : Prop := hi < 2 ^ 64 ∧ lo < 2 ^ 64 ∧ (six = false → hi = 0 ∧ lo < 2 ^ 32)
/-- a right prefix of n bits -/
def POK (six : Bool) (hi lo n : Nat) : Prop := AOK six hi lo ∧ n ≤ lenN six ∧ mHi six hi n = hi ∧ mLo six lo n = lo
def xA (hi lo : Nat) : Nat := hi * 2 ^ 64 + lo
theorem xA_inj {h1 l1 h2 l2 : Nat} (a : l1 < 2 ^ 64) (b : l2 < 2 ^ 64) : xA h1 l1 = xA h2 l2 ↔ (h1 = h2 ∧ l1 = l2) := by
  unfold xA
  constructor
  · intro h; omega
  · rintro ⟨rfl, rfl⟩; rfl
theorem mask_x (six : Bool) (hi lo n : Nat) (hl : lo < 2 ^ 64) : xA (mHi six hi n) (mLo six lo n) = clr (xA hi lo) (lenN six - n) := by
  rw [mHi_clr, mLo_clr]
  exact clr_big hi lo (lenN six - n) hl (by have := lenN_le six; omega)
theorem fill_x (six : Bool) (hi lo n : Nat) (hl : lo < 2 ^ 64) : xA (fHi six hi n) (fLo six lo n) = fil (xA hi lo) (lenN six - n) := by
  rw [fHi_fil, fLo_fil]
  exact fil_big hi lo (lenN six - n) hl (by have := lenN_le six; omega)
theorem numA_x (six : Bool) (hi lo : Nat) : numA six hi lo = (if six = true then 1 else 0) * 2 ^ 128 + xA hi lo := by
  unfold numA xA; omega
theorem AOK.lt {six : Bool} {hi lo : Nat} (h : AOK six hi lo) : xA hi lo < 2 ^ 128 ∧ (six = false → xA hi lo < 2 ^ 32) := by
  obtain ⟨h1, h2, h3⟩ := h
  unfold xA
  refine ⟨by omega, fun e => ?_⟩
  obtain ⟨h4, h5⟩ := h3 e
  omega
theorem POK.x {six : Bool} {hi lo n : Nat} (h : POK six hi lo n) : clr (xA hi lo) (lenN six - n) = xA hi lo := by
  rw [← mask_x six hi lo n h.1.2.1, h.2.2.1, h.2.2.2]
theorem mLo_lt2 (six : Bool) (lo n : Nat) (h : lo < 2 ^ 64) : mLo six lo n < 2 ^ 64 := Nat.lt_of_le_of_lt (Nat.sub_le _ _) h
/-- what the reference asks: from the first to the last -/
def holdsB (s : Bool) (h l n : Nat) (s2 : Bool) (h2 l2 : Nat) : Bool := decide (numA s h l ≤ numA s2 h2 l2) && decide (numA s2 h2 l2 ≤ numA s (fHi s h n) (fLo s l n))
/-- what the program asks -/
def conB (s : Bool) (h l n : Nat) (s2 : Bool) (h2 l2 : Nat) : Bool := decide (s = s2) && decide (mHi s2 h2 n = h ∧ mLo s2 l2 n = l)
theorem clr_iff (x y k : Nat) (hx : clr x k = x) : (x ≤ y ∧ y ≤ fil x k) ↔ clr y k = x := by
  have hp := Nat.one_le_two_pow (n := k)
  have e1 : fil x k = x + (2 ^ k - 1) := by unfold fil; unfold clr at hx; omega
  rw [e1]
  have hx0 : x % 2 ^ k = 0 := by
    unfold clr at hx
    have := Nat.mod_le x (2 ^ k)
    omega
  unfold clr
  have hdx := Nat.div_add_mod x (2 ^ k)
  have hdy := Nat.div_add_mod y (2 ^ k)
  have hmy := Nat.mod_lt y (show 0 < 2 ^ k by omega)
  rw [hx0] at hdx
  generalize 2 ^ k = P at *
  generalize x / P = a at *
  generalize y / P = b at *
  generalize y % P = r at *
  constructor
  · rintro ⟨h1, h2⟩
    have hab : a = b := by
      rcases Nat.lt_trichotomy a b with h | h | h
      · have : P * (a + 1) ≤ P * b := Nat.mul_le_mul_left _ h
        rw [Nat.mul_add, Nat.mul_one] at this
        omega
      · exact h
      · have : P * (b + 1) ≤ P * a := Nat.mul_le_mul_left _ h
        rw [Nat.mul_add, Nat.mul_one] at this
        omega
    subst hab
    omega
  · intro h
    omega
theorem fil_lt32 (x k : Nat) (hx : x < 2 ^ 32) (hk : k ≤ 32) : fil x k < 2 ^ 34 := by
  have : 2 ^ k ≤ 2 ^ 32 := Nat.pow_le_pow_right (by decide) hk
  unfold fil
  omega
theorem hold_eq {s : Bool} {h l n : Nat} {s2 : Bool} {h2 l2 : Nat} (hp : POK s h l n) (ha : AOK s2 h2 l2) : holdsB s h l n s2 h2 l2 = conB s h l n s2 h2 l2 := by
  have hx := hp.x
  have hpl := hp.1.lt
  have hal := ha.lt
  have hfx := fill_x s h l n hp.1.2.1
  unfold holdsB conB
  rw [numA_x, numA_x, numA_x, hfx]
  rw [Bool.eq_iff_iff]
  simp only [Bool.and_eq_true, decide_eq_true_eq]
  by_cases e : s = s2
  · subst e
    have h3 := clr_iff (xA h l) (xA h2 l2) (lenN s - n) hx
    have h4 := mask_x s h2 l2 n ha.2.1
    have h5 := xA_inj (h1 := mHi s h2 n) (h2 := h) (mLo_lt2 s l2 n ha.2.1) hp.1.2.1
    rw [h4] at h5
    constructor
    · rintro ⟨h6, h7⟩
      exact ⟨rfl, h5.1 (h3.1 ⟨by omega, by omega⟩)⟩
    · rintro ⟨_, h6⟩
      have := h3.2 (h5.2 h6)
      omega
  · refine ⟨fun ⟨h6, h7⟩ => ?_, fun h6 => absurd h6.1 e⟩
    cases s
    · cases s2
      · exact absurd rfl e
      · have h8 := fil_lt32 (xA h l) (lenN false - n) (hpl.2 rfl) (by show 32 - n ≤ 32; omega)
        simp at h7
        omega
    · cases s2
      · have h8 := hal.2 rfl
        simp at h6
        omega
      · exact absurd rfl e
theorem fHi_lt (six : Bool) (hi n : Nat) (h : hi < 2 ^ 64) : fHi six hi n < 2 ^ 64 := by
  rw [fHi_fil, fil_or]
  refine Nat.or_lt_two_pow (Nat.lt_of_le_of_lt (clr_le _ _) h) ?_
  have : 2 ^ min (lenN six - n - 64) 64 ≤ 2 ^ 64 := Nat.pow_le_pow_right (by decide) (Nat.min_le_right _ _)
  have := Nat.one_le_two_pow (n := min (lenN six - n - 64) 64)
  omega
theorem fLo_lt (six : Bool) (lo n : Nat) (h : lo < 2 ^ 64) : fLo six lo n < 2 ^ 64 := by
  rw [fLo_fil, fil_or]
  refine Nat.or_lt_two_pow (Nat.lt_of_le_of_lt (clr_le _ _) h) ?_
  have : 2 ^ min (lenN six - n) 64 ≤ 2 ^ 64 := Nat.pow_le_pow_right (by decide) (Nat.min_le_right _ _)
  have := Nat.one_le_two_pow (n := min (lenN six - n) 64)
  omega
/-- the last address of a right prefix is right -/
theorem POK.last {six : Bool} {hi lo n : Nat} (h : POK six hi lo n) : AOK six (fHi six hi n) (fLo six lo n) := by
  refine ⟨fHi_lt _ _ _ h.1.1, fLo_lt _ _ _ h.1.2.1, fun e => ?_⟩
  subst e
  obtain ⟨h1, h2⟩ := h.1.2.2 rfl
  subst h1
  have hn : n ≤ 32 := h.2.1
  constructor
  · rw [fHi_fil]
    have : min (lenN false - n - 64) 64 = 0 := by show min (32 - n - 64) 64 = 0; omega
    rw [this, fil_zero]
  · rw [fLo_fil, fil_or]
    have hk : min (lenN false - n) 64 ≤ 32 := by show min (32 - n) 64 ≤ 32; omega
    have h3 : 2 ^ min (lenN false - n) 64 ≤ 2 ^ 32 := Nat.pow_le_pow_right (by decide) hk
    have := Nat.one_le_two_pow (n := min (lenN false - n) 64)
    exact Nat.or_lt_two_pow (Nat.lt_of_le_of_lt (clr_le _ _) h2) (by omega)
def insB (s : Bool) (h l n : Nat) (s2 : Bool) (h2 l2 n2 : Nat) : Bool := decide (n2 ≤ n) && conB s2 h2 l2 n2 s h l
def withinB (s : Bool) (h l n : Nat) (s2 : Bool) (h2 l2 n2 : Nat) : Bool := holdsB s2 h2 l2 n2 s h l && holdsB s2 h2 l2 n2 s (fHi s h n) (fLo s l n)
theorem pow_le_of {a b : Nat} (h : 2 ^ a ≤ 2 ^ b) : a ≤ b := by
  rcases Nat.lt_or_ge b a with h1 | h1
  · have := Nat.pow_lt_pow_right (a := 2) (by decide) h1
    omega
  · exact h1
theorem clr_mono (x j k : Nat) (h : j ≤ k) : clr (clr x j) k = clr x k := by
  refine Nat.eq_of_testBit_eq fun i => ?_
  rw [clr_tb, clr_tb, clr_tb]
  by_cases h1 : k ≤ i
  · simp [h1, show j ≤ i by omega]
  · simp [h1]
theorem clr_fil (x j k : Nat) (h : j ≤ k) : clr (fil x j) k = clr x k := by
  refine Nat.eq_of_testBit_eq fun i => ?_
  rw [clr_tb, fil_tb, clr_tb]
  by_cases h1 : k ≤ i
  · simp [h1, show ¬ i < j by omega]
  · simp [h1]
theorem ins_eq {s : Bool} {h l n : Nat} {s2 : Bool} {h2 l2 n2 : Nat} (hp : POK s h l n) (hq : POK s2 h2 l2 n2) : withinB s h l n s2 h2 l2 n2 = insB s h l n s2 h2 l2 n2 := by
  unfold withinB insB
  rw [hold_eq hq hp.1, hold_eq hq hp.last]
  unfold conB
  by_cases e : s2 = s
  · subst e
    have x1 := mask_x s2 h l n2 hp.1.2.1
    have x2 := mask_x s2 (fHi s2 h n) (fLo s2 l n) n2 hp.last.2.1
    rw [fill_x s2 h l n hp.1.2.1] at x2
    have i1 := xA_inj (h1 := mHi s2 h n2) (h2 := h2) (mLo_lt2 s2 l n2 hp.1.2.1) hq.1.2.1
    have i2 := xA_inj (h1 := mHi s2 (fHi s2 h n) n2) (h2 := h2) (mLo_lt2 s2 (fLo s2 l n) n2 hp.last.2.1) hq.1.2.1
    rw [x1] at i1
    rw [x2] at i2
    have hxp := hp.x
    have hxq := hq.x
    have hn := hp.2.1
    have hn2 := hq.2.1
    rw [Bool.eq_iff_iff]
    simp only [Bool.and_eq_true, decide_eq_true_eq, true_and]
    constructor
    · rintro ⟨h3, h4⟩
      have h5 := i1.2 h3
      have h6 := i2.2 h4
      refine ⟨?_, h3⟩
      have h7 := (clr_iff (xA h2 l2) (xA h l) (lenN s2 - n2) hxq).2 h5
      have h8 := (clr_iff (xA h2 l2) (fil (xA h l) (lenN s2 - n)) (lenN s2 - n2) hxq).2 h6
      have e1 : fil (xA h l) (lenN s2 - n) = xA h l + (2 ^ (lenN s2 - n) - 1) := by unfold fil; unfold clr at hxp; omega
      have e2 : fil (xA h2 l2) (lenN s2 - n2) = xA h2 l2 + (2 ^ (lenN s2 - n2) - 1) := by unfold fil; unfold clr at hxq; omega
      have p1 := Nat.one_le_two_pow (n := lenN s2 - n)
      have p2 := Nat.one_le_two_pow (n := lenN s2 - n2)
      have := pow_le_of (a := lenN s2 - n) (b := lenN s2 - n2) (by omega)
      omega
    · rintro ⟨h3, h4⟩
      refine ⟨h4, i2.1 ?_⟩
      rw [clr_fil _ _ _ (by omega)]
      exact i1.2 h4
  · simp [e]
/-! ### What two prefixes have in common -/
def down (E : Nat → Bool) : Nat → Nat
  | 0 => 0
  | n + 1 => if E (n + 1) = true then n + 1 else down E n
theorem down_hit {E : Nat → Bool} {n : Nat} (h : E n = true) : down E n = n := by
  cases n with
  | zero => rfl
  | succ n => rw [down, if_pos h]
theorem down_miss {E : Nat → Bool} {n : Nat} (h : E (n + 1) = false) : down E (n + 1) = down E n := by rw [down, if_neg (by rw [h]; decide)]
/-- the first n bits are the same -/
def sameN (s : Bool) (h l h2 l2 n : Nat) : Bool := decide (mHi s h n = mHi s h2 n ∧ mLo s l n = mLo s l2 n)
theorem mask_pok {s : Bool} {h l : Nat} (ha : AOK s h l) {n : Nat} (hn : n ≤ lenN s) : POK s (mHi s h n) (mLo s l n) n := by
  refine ⟨⟨Nat.lt_of_le_of_lt (Nat.sub_le _ _) ha.1, mLo_lt2 _ _ _ ha.2.1, fun e => ?_⟩, hn, ?_, ?_⟩
  · obtain ⟨h1, h2⟩ := ha.2.2 e
    exact ⟨by unfold mHi; rw [h1]; simp, Nat.lt_of_le_of_lt (Nat.sub_le _ _) h2⟩
  · rw [mHi_clr, mHi_clr, clr_mono _ _ _ (Nat.le_refl _)]
  · rw [mLo_clr, mLo_clr, clr_mono _ _ _ (Nat.le_refl _)]
theorem same_within {s : Bool} {h l : Nat} {h2 l2 n2 n : Nat} (hp : AOK s h l) (hq : POK s h2 l2 n2) (hn : n ≤ n2) (hl : n ≤ lenN s) :
    withinB s h2 l2 n2 s (mHi s h n) (mLo s l n) n = sameN s h l h2 l2 n := by
  rw [ins_eq hq (mask_pok hp hl)]
  unfold insB conB sameN
  rw [decide_eq_true hn, decide_eq_true rfl, Bool.true_and, Bool.true_and, decide_eq_decide]
  constructor <;> rintro ⟨a, b⟩ <;> exact ⟨a.symm, b.symm⟩
theorem same_zero {s : Bool} {h l h2 l2 : Nat} (hp : AOK s h l) (hq : AOK s h2 l2) : sameN s h l h2 l2 0 = true := by
  have z : ∀ {h l}, AOK s h l → mHi s h 0 = 0 ∧ mLo s l 0 = 0 := fun {h l} ha => by
    rw [mHi_clr, mLo_clr]
    cases s
    · obtain ⟨h1, h2⟩ := ha.2.2 rfl
      subst h1
      have e : min (lenN false - 0) 64 = 32 := by show min (32 - 0) 64 = 32; rfl
      rw [e]
      exact ⟨by simp [clr], by unfold clr; omega⟩
    · have e : min (lenN true - 0) 64 = 64 := by show min (128 - 0) 64 = 64; rfl
      have e2 : min (lenN true - 0 - 64) 64 = 64 := by show min (128 - 0 - 64) 64 = 64; rfl
      rw [e, e2]
      have h1 := ha.1
      have h2 := ha.2.1
      exact ⟨by unfold clr; omega, by unfold clr; omega⟩
  unfold sameN
  obtain ⟨a, b⟩ := z hp
  obtain ⟨a', b'⟩ := z hq
  rw [a, b, a', b']
  decide
end Go.Proofs.YtofjlpnebfijoaaDoor
