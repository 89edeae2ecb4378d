/-
  Two wide numbers compared.
  The reference's PrefixFault and MaskOf.
  Prefixes and addresses compared: equal ones.
  Addresses as numbers: comparing digit by digit; what a prefix holds, whether one lies in another, what two have in common.
  Generators of prefixes: RightPrefix, Prefix.
  Prefixes of the program: span.Last, Contains, Inside; addr.Mask, Last, Contains, Inside.
  Prefixes of sites: Via, ViaOf, Site, SiteOf.
  Prefixes of the program: addr.Last, Contains, Inside, Common, checkPrefixes.
-/
import Derived.Test.YtippolfmljfleaaGreatDoorRT2
import Derived.ChangeKeysEq
import Derived.Laws.StructEq
import Derived.StillTailTactics
set_option linter.unusedVariables false
namespace Go.Proofs.YtippolfmljfleaaGreatDoor
open Go.RowKit Go
set_option linter.unusedVariables false
end Go.Proofs.YtippolfmljfleaaGreatDoor

namespace Go.Proofs.YtippolfmljfleaaGreatDoor
open Go.RowKit Go
set_option linter.unusedVariables false

def vP (six : Bool) (hi lo : Nat) (bits : Int) : Value := .agg #[.bool six, .int .u64 (hi : Int), .int .u64 (lo : Int), .int .i64 bits]
set_option maxRecDepth 100000 in
set_option maxHeartbeats 2000000 in
theorem maskOf_any (six : Bool) (hi lo n : Nat) (w : World) (h1 : hi < 18446744073709551616) (h2 : lo < 18446744073709551616) (hn : n ≤ 128) :
    Calls Tryz.prog 51 #[vA six hi lo, .int .i64 (n : Int)] w (Ret (vP six (mHi six hi n) (mLo six lo n) (n : Int)) w) := by
  have hln := lenN_le six
  have HF := Lib.hid fun wx => firstOf_any six hi lo n (lenN six - n) wx h1 h2 (by omega) (by omega) (by omega)
  have HW := Lib.hid fun wx => wideAddr_any six (clrF hi lo (lenN six - n)) wx (clrF_lt hi lo _)
  rw [clr_lo hi lo _ h2, clr_hi hi lo _ h1, ← mHi_clr, ← mLo_clr] at HW
  generalize wv six (clrF hi lo (lenN six - n)) = WF at *
  generalize mHi six hi n = mh at *
  generalize mLo six lo n = ml at *
  unfold vA at HF HW ⊢
  unfold vP
  have HR0 : Blk ((w.alloc (.cells #[.bool six, .int .u64 (hi : Int), .int .u64 (lo : Int)] 41 (0, 0))).alloc (.cells #[.bool false, .int .u64 0, .int .u64 0, .int .i64 0] 54 (0, 0))) (w.heap.size + 1) 54 #[.bool false, .int .u64 0, .int .u64 0, .int .i64 0] := by
    have := Blk.new (w.alloc (.cells #[.bool six, .int .u64 (hi : Int), .int .u64 (lo : Int)] 41 (0, 0))) 54 #[.bool false, .int .u64 0, .int .u64 0, .int .i64 0]
    rw [World.size_alloc] at this
    exact this
  have HR := Lib.hid HR0
  have HB : Hid (Below w.heap.size w ((w.alloc (.cells #[.bool six, .int .u64 (hi : Int), .int .u64 (lo : Int)] 41 (0, 0))).alloc (.cells #[.bool false, .int .u64 0, .int .u64 0, .int .i64 0] 54 (0, 0)))) := Lib.hid (below_alloc (below_alloc (Below.refl _ _) _) _)
  clear HR0
  go_enter Tryz.func51, Tryz.ntmps51
  go_wp2_with fail
  refine (HF.out _).mono ?_
  rintro e w2 ⟨rfl, hb⟩
  have HR2 := Lib.hid (HR.out.below hb HR.out.lt)
  have HB2 := Lib.hid (HB.out.trans (hb.mono HB.out.size))
  clear hb HR HB HF
  go_wp2_with fail
  refine (HW.out _).mono ?_
  rintro e w3 ⟨rfl, hb⟩
  have HR3 := Lib.hid (HR2.out.below hb HR2.out.lt)
  have HB3 := Lib.hid (HB2.out.trans (hb.mono HB2.out.size))
  clear hb HR2 HB2 HW
  have r0 := HR3.out.cell 0
  have r1 := HR3.out.cell 1
  have r2 := HR3.out.cell 2
  have r3 := HR3.out.cell 3
  have rf := HR3.out.free
  simp at r0 r1 r2 r3
  go_wp2_with fail
  refine bodyPost_ret (v := .agg #[.bool six, .int .u64 (mh : Int), .int .u64 (ml : Int), .int .i64 (n : Int)]) (by simp [results, Tryz.results51, go_sem, r0, r1, r2, r3]) rfl ⟨rfl, ?_⟩
  repeat refine Below.setCell ?_ (by first | (simp; omega) | simp) _
  exact HB3.out
end Go.Proofs.YtippolfmljfleaaGreatDoor

namespace Go.Proofs.YtippolfmljfleaaGreatDoor
open Go.RowKit Go
set_option linter.unusedVariables false
end Go.Proofs.YtippolfmljfleaaGreatDoor

namespace Go.Proofs.YtippolfmljfleaaGreatDoor
open Go
set_option linter.unusedVariables false

/-! ### Digits -/
def PW (F : Nat → Nat) : Nat → Nat
  | 0 => 0
  | k + 1 => PW F k + F k * 65536 ^ k
theorem PW_lt {F : Nat → Nat} (h : ∀ d, F d < 65536) : ∀ k, PW F k < 65536 ^ k
  | 0 => by simp [PW]
  | k + 1 => by
    have h1 := PW_lt h k
    have h2 := h k
    have h3 : F k * 65536 ^ k ≤ 65535 * 65536 ^ k := Nat.mul_le_mul_right _ (by omega)
    rw [PW, Nat.pow_succ]
    omega
theorem PW_digit {F G : Nat → Nat} (hF : ∀ d, F d < 65536) {i : Nat} (h : F i < G i) : PW F (i + 1) < PW G (i + 1) := by
  have h1 := PW_lt hF i
  have h2 : (F i + 1) * 65536 ^ i ≤ G i * 65536 ^ i := Nat.mul_le_mul_right _ h
  rw [Nat.add_mul, Nat.one_mul] at h2
  simp only [PW]
  omega
theorem PW_above {F G : Nat → Nat} {i : Nat} : ∀ k, (∀ j, i ≤ j → j < i + k → F j = G j) → PW F (i + k) + PW G i = PW G (i + k) + PW F i
  | 0, _ => by simp only [Nat.add_zero]; omega
  | k + 1, h => by
    have h1 := PW_above k fun j h1 h2 => h j h1 (by omega)
    have h2 := h (i + k) (by omega) (by omega)
    rw [← Nat.add_assoc, PW, PW, h2]
    omega
/-- compared -/
def cN (a b : Nat) : Int := if a < b then -1 else if b < a then 1 else 0
theorem cmp_top {F G : Nat → Nat} (hF : ∀ d, F d < 65536) (hG : ∀ d, G d < 65536) {i : Nat} (hi : i < 9) (hab : ∀ j, i < j → j < 9 → F j = G j) (hne : F i ≠ G i) : cN (PW F 9) (PW G 9) = if F i < G i then -1 else 1 := by
  have h1 := PW_above (F := F) (G := G) (i := i + 1) (9 - (i + 1)) fun j h1 h2 => hab j (by omega) (by omega)
  rw [show i + 1 + (9 - (i + 1)) = 9 by omega] at h1
  unfold cN
  rcases Nat.lt_or_ge (F i) (G i) with h | h
  · have := PW_digit hF h
    rw [if_pos h, if_pos (show PW F 9 < PW G 9 by omega)]
  · have := PW_digit hG (show G i < F i by omega)
    rw [if_neg (show ¬ F i < G i by omega), if_neg (show ¬ PW F 9 < PW G 9 by omega), if_pos (show PW G 9 < PW F 9 by omega)]
theorem PW_congr {F G : Nat → Nat} : ∀ k, (∀ j, j < k → F j = G j) → PW F k = PW G k
  | 0, _ => rfl
  | k + 1, h => by rw [PW, PW, PW_congr k fun j hj => h j (by omega), h k (by omega)]
theorem cN_same (a : Nat) : cN a a = 0 := by unfold cN; rw [if_neg (Nat.lt_irrefl a), if_neg (Nat.lt_irrefl a)]
theorem cmp_same {F G : Nat → Nat} (hab : ∀ j, j < 9 → F j = G j) : cN (PW F 9) (PW G 9) = 0 := by
  rw [PW_congr 9 hab, cN_same]
def dv (six : Bool) (f : Nat → Nat) (d : Nat) : Nat := if d < 8 then f d else if six = true then 1 else 0
theorem dv_lt {six : Bool} {f : Nat → Nat} (h : ∀ d, f d < 65536) (d : Nat) : dv six f d < 65536 := by
  unfold dv; split
  · exact h d
  · split <;> decide
def numA (six : Bool) (hi lo : Nat) : Nat := (if six = true then 1 else 0) * 2 ^ 128 + hi * 2 ^ 64 + lo
theorem PW_num (six : Bool) (f : Nat → Nat) : PW (dv six f) 9 = numA six (PS f 4 4) (PS f 0 4) := by
  rw [PS_four, PS_four]
  simp only [PW, dv, numA, Nat.reduceLT, Nat.reducePow, Nat.reduceAdd, if_true, Nat.zero_add, Nat.mul_one, Nat.lt_irrefl, if_false]
  omega
/-! ### Masks of whole numbers -/
theorem big_low (x y k : Nat) (hk : k ≤ 64) : (x + 2 ^ 64 * y) % 2 ^ k = x % 2 ^ k := by
  have e : 2 ^ 64 = 2 ^ k * 2 ^ (64 - k) := by rw [← Nat.pow_add, show k + (64 - k) = 64 by omega]
  rw [e, Nat.mul_assoc, Nat.add_mul_mod_self_left]
theorem big_high (x y k : Nat) (hx : x < 2 ^ 64) (hk : 64 ≤ k) : (x + 2 ^ 64 * y) % 2 ^ k = x + 2 ^ 64 * (y % 2 ^ (k - 64)) := by
  have e : 2 ^ k = 2 ^ 64 * 2 ^ (k - 64) := by rw [← Nat.pow_add, show 64 + (k - 64) = k by omega]
  rw [e, Nat.mod_mul, Nat.add_mul_mod_self_left, Nat.mod_eq_of_lt hx, Nat.add_mul_div_left _ _ (by decide : 0 < 2 ^ 64), Nat.div_eq_of_lt hx, Nat.zero_add]
theorem clr_big (hi lo k : Nat) (hl : lo < 2 ^ 64) (hk : k ≤ 128) : clr hi (min (k - 64) 64) * 2 ^ 64 + clr lo (min k 64) = clr (hi * 2 ^ 64 + lo) k := by
  unfold clr
  rw [show hi * 2 ^ 64 + lo = lo + 2 ^ 64 * hi by omega]
  rcases Nat.le_total k 64 with h | h
  · rw [big_low lo hi k h, Nat.min_eq_left h, show k - 64 = 0 by omega, Nat.zero_min, Nat.pow_zero, Nat.mod_one]
    have := Nat.mod_le lo (2 ^ k)
    omega
  · rw [big_high lo hi k hl h, Nat.min_eq_right h, Nat.min_eq_left (by omega), Nat.mod_eq_of_lt hl]
    have := Nat.mod_le hi (2 ^ (k - 64))
    omega
/-! ### Prefixes -/
/-- a right address -/
def AOK (six : Bool) (hi lo : Nat) : Prop := hi < 2 ^ 64 ∧ lo < 2 ^ 64 ∧ (six = false → hi = 0 ∧ lo < 2 ^ 32)
/-- a right prefix of n bits -/
def POK (six : Bool) (hi lo n : Nat) : Prop := AOK six hi lo ∧ n ≤ lenN six ∧ mHi six hi n = hi ∧ mLo six lo n = lo
def xA (hi lo : Nat) : Nat := hi * 2 ^ 64 + lo
theorem mask_x (six : Bool) (hi lo n : Nat) (hl : lo < 2 ^ 64) : xA (mHi six hi n) (mLo six lo n) = clr (xA hi lo) (lenN six - n) := by
  rw [mHi_clr, mLo_clr]
  exact clr_big hi lo (lenN six - n) hl (by have := lenN_le six; omega)
theorem numA_x (six : Bool) (hi lo : Nat) : numA six hi lo = (if six = true then 1 else 0) * 2 ^ 128 + xA hi lo := by
  unfold numA xA; omega
theorem AOK.lt {six : Bool} {hi lo : Nat} (h : AOK six hi lo) : xA hi lo < 2 ^ 128 ∧ (six = false → xA hi lo < 2 ^ 32) := by
  obtain ⟨h1, h2, h3⟩ := h
  unfold xA
  refine ⟨by omega, fun e => ?_⟩
  obtain ⟨h4, h5⟩ := h3 e
  omega
theorem POK.x {six : Bool} {hi lo n : Nat} (h : POK six hi lo n) : clr (xA hi lo) (lenN six - n) = xA hi lo := by
  rw [← mask_x six hi lo n h.1.2.1, h.2.2.1, h.2.2.2]
theorem fHi_lt (six : Bool) (hi n : Nat) (h : hi < 2 ^ 64) : fHi six hi n < 2 ^ 64 := by
  rw [fHi_fil, fil_or]
  refine Nat.or_lt_two_pow (Nat.lt_of_le_of_lt (clr_le _ _) h) ?_
  have : 2 ^ min (lenN six - n - 64) 64 ≤ 2 ^ 64 := Nat.pow_le_pow_right (by decide) (Nat.min_le_right _ _)
  have := Nat.one_le_two_pow (n := min (lenN six - n - 64) 64)
  omega
theorem fLo_lt (six : Bool) (lo n : Nat) (h : lo < 2 ^ 64) : fLo six lo n < 2 ^ 64 := by
  rw [fLo_fil, fil_or]
  refine Nat.or_lt_two_pow (Nat.lt_of_le_of_lt (clr_le _ _) h) ?_
  have : 2 ^ min (lenN six - n) 64 ≤ 2 ^ 64 := Nat.pow_le_pow_right (by decide) (Nat.min_le_right _ _)
  have := Nat.one_le_two_pow (n := min (lenN six - n) 64)
  omega
/-- the last address of a right prefix is right -/
theorem POK.last {six : Bool} {hi lo n : Nat} (h : POK six hi lo n) : AOK six (fHi six hi n) (fLo six lo n) := by
  refine ⟨fHi_lt _ _ _ h.1.1, fLo_lt _ _ _ h.1.2.1, fun e => ?_⟩
  subst e
  obtain ⟨h1, h2⟩ := h.1.2.2 rfl
  subst h1
  have hn : n ≤ 32 := h.2.1
  constructor
  · rw [fHi_fil]
    have : min (lenN false - n - 64) 64 = 0 := by show min (32 - n - 64) 64 = 0; omega
    rw [this, fil_zero]
  · rw [fLo_fil, fil_or]
    have hk : min (lenN false - n) 64 ≤ 32 := by show min (32 - n) 64 ≤ 32; omega
    have h3 : 2 ^ min (lenN false - n) 64 ≤ 2 ^ 32 := Nat.pow_le_pow_right (by decide) hk
    have := Nat.one_le_two_pow (n := min (lenN false - n) 64)
    exact Nat.or_lt_two_pow (Nat.lt_of_le_of_lt (clr_le _ _) h2) (by omega)
/-! ### What two prefixes have in common -/
def down (E : Nat → Bool) : Nat → Nat
  | 0 => 0
  | n + 1 => if E (n + 1) = true then n + 1 else down E n
end Go.Proofs.YtippolfmljfleaaGreatDoor

namespace Go.Proofs.YtippolfmljfleaaGreatDoor
open Go.RowKit Go
set_option linter.unusedVariables false

def U64N (x : Nat) : Prop := x < 18446744073709551616
theorem mHi_lt {six : Bool} {hi n : Nat} (h : U64N hi) : U64N (mHi six hi n) := Nat.lt_of_le_of_lt (Nat.sub_le _ _) h
theorem mLo_lt {six : Bool} {lo n : Nat} (h : U64N lo) : U64N (mLo six lo n) := Nat.lt_of_le_of_lt (Nat.sub_le _ _) h
theorem nat_of_U64 {x : Int} (h : U64 x) : ∃ n : Nat, x = (n : Int) ∧ U64N n := by
  obtain ⟨n, rfl⟩ := Int.eq_ofNat_of_zero_le h.1
  have h1 := h.2
  exact ⟨n, rfl, by unfold U64N; omega⟩
theorem Gen.below0 {b m : Nat} {u v w : World} (h : Gen b u v m) (k : Below v.heap.size v w) (hb : b < v.heap.size) : Gen b u w m := h.below k h.g.size hb
end Go.Proofs.YtippolfmljfleaaGreatDoor

namespace Go.Proofs.YtippolfmljfleaaGreatDoor
open Go.RowKit Go
set_option linter.unusedVariables false
end Go.Proofs.YtippolfmljfleaaGreatDoor

namespace Go.Proofs.YtippolfmljfleaaGreatDoor
open Go.RowKit Go
set_option linter.unusedVariables false
end Go.Proofs.YtippolfmljfleaaGreatDoor

namespace Go.Proofs.YtippolfmljfleaaGreatDoor
open Go.RowKit Go
set_option linter.unusedVariables false
end Go.Proofs.YtippolfmljfleaaGreatDoor
