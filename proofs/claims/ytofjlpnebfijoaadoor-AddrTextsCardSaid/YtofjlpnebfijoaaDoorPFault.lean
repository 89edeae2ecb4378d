/-
  The reference's prefixes: PrefixFault, MaskOf, LastOf.
-/
import Derived.Test.YtofjlpnebfijoaaDoorWAddr
import Derived.Test.YtofjlpnebfijoaaDoorPfx
namespace Go.Proofs.YtofjlpnebfijoaaDoor
open Go.RowKit Go
set_option linter.unusedVariables false

theorem clrF_lt (hi lo k d : Nat) : clrF hi lo k d < 65536 := Nat.lt_of_le_of_lt (clr_le _ _) (dg_lt _ _ _)
theorem filF_lt (hi lo k d : Nat) : filF hi lo k d < 65536 := fil_lt _ _ (dg_lt _ _ _) (Nat.min_le_right _ _)
theorem clr_lo (hi lo k : Nat) (h : lo < 18446744073709551616) : PS (clrF hi lo k) 0 4 = clr lo (min k 64) := by
  rw [PS_four, clr_digits lo k h]
  rfl
theorem clr_hi (hi lo k : Nat) (h : hi < 18446744073709551616) : PS (clrF hi lo k) 4 4 = clr hi (min (k - 64) 64) := by
  rw [PS_four, clr_digits hi (k - 64) h]
  simp only [clrF, dg, Nat.reduceAdd, Nat.reduceMul, Nat.sub_sub]
theorem fil_lo (hi lo k : Nat) (h : lo < 18446744073709551616) : PS (filF hi lo k) 0 4 = fil lo (min k 64) := by
  rw [PS_four, fil_digits lo k h]
  rfl
theorem fil_hi (hi lo k : Nat) (h : hi < 18446744073709551616) : PS (filF hi lo k) 4 4 = fil hi (min (k - 64) 64) := by
  rw [PS_four, fil_digits hi (k - 64) h]
  simp only [filF, dg, Nat.reduceAdd, Nat.reduceMul, Nat.sub_sub]
theorem mHi_clr (six : Bool) (hi n : Nat) : mHi six hi n = clr hi (min (lenN six - n - 64) 64) := by
  unfold mHi clr
  rw [Nat.min_eq_left (by have := lenN_le six; omega)]
theorem mLo_clr (six : Bool) (lo n : Nat) : mLo six lo n = clr lo (min (lenN six - n) 64) := rfl
theorem fHi_fil (six : Bool) (hi n : Nat) : fHi six hi n = fil hi (min (lenN six - n - 64) 64) := by
  unfold fHi mHi fil
  rw [Nat.min_eq_left (by have := lenN_le six; omega)]
theorem fLo_fil (six : Bool) (lo n : Nat) : fLo six lo n = fil lo (min (lenN six - n) 64) := rfl
/-- digits tell the number -/
theorem PS_dg_lo (hi lo : Nat) (h : lo < 18446744073709551616) : PS (dg hi lo) 0 4 = lo := by
  rw [PS_four]; exact (digits4 lo h).symm
theorem PS_dg_hi (hi lo : Nat) (h : hi < 18446744073709551616) : PS (dg hi lo) 4 4 = hi := by
  rw [PS_four]; exact (digits4 hi h).symm
theorem PS_congr {f g : Nat → Nat} (h : ∀ d, d < 8 → f d = g d) : PS f 0 4 = PS g 0 4 ∧ PS f 4 4 = PS g 4 4 := by
  rw [PS_four, PS_four, PS_four, PS_four]
  rw [h 0 (by decide), h (0 + 1) (by decide), h (0 + 2) (by decide), h (0 + 3) (by decide), h 4 (by decide), h (4 + 1) (by decide), h (4 + 2) (by decide), h (4 + 3) (by decide)]
  exact ⟨rfl, rfl⟩
theorem PS_inj {f g : Nat → Nat} (hf : ∀ d, f d < 65536) (hg : ∀ d, g d < 65536) (h0 : PS f 0 4 = PS g 0 4) (h4 : PS f 4 4 = PS g 4 4) : ∀ d, d < 8 → f d = g d := by
  rw [PS_four, PS_four] at h0 h4
  simp only [Nat.zero_add, Nat.reduceAdd] at h0 h4
  have f0 := hf 0; have f1 := hf 1; have f2 := hf 2; have f3 := hf 3; have f4 := hf 4; have f5 := hf 5; have f6 := hf 6; have f7 := hf 7
  have g0 := hg 0; have g1 := hg 1; have g2 := hg 2; have g3 := hg 3; have g4 := hg 4; have g5 := hg 5; have g6 := hg 6; have g7 := hg 7
  intro d hd
  rcases lt8 hd with rfl | rfl | rfl | rfl | rfl | rfl | rfl | rfl <;> omega
theorem wv_inj {six : Bool} {f g : Nat → Nat} : wv six f = wv six g ↔ ∀ d, d < 8 → f d = g d := by
  refine ⟨fun h => ?_, wv_congr⟩
  unfold wv at h
  simp only [Array.mk.injEq, List.cons.injEq, Value.int.injEq, true_and, and_true] at h
  intro d hd
  rcases lt8 hd with rfl | rfl | rfl | rfl | rfl | rfl | rfl | rfl <;> omega
/-- masked is as it was, digit by digit or whole -/
theorem first_same (six : Bool) (hi lo n : Nat) (h1 : hi < 18446744073709551616) (h2 : lo < 18446744073709551616) :
    (wv six (clrF hi lo (lenN six - n)) = wv six (dg hi lo)) ↔ (mHi six hi n = hi ∧ mLo six lo n = lo) := by
  rw [wv_inj, mHi_clr, mLo_clr, ← clr_lo hi lo _ h2, ← clr_hi hi lo _ h1]
  constructor
  · intro h
    obtain ⟨e0, e4⟩ := PS_congr h
    exact ⟨e4.trans (PS_dg_hi hi lo h1), e0.trans (PS_dg_lo hi lo h2)⟩
  · intro ⟨e4, e0⟩
    exact PS_inj (clrF_lt hi lo _) (dg_lt hi lo) (e0.trans (PS_dg_lo hi lo h2).symm) (e4.trans (PS_dg_hi hi lo h1).symm)
end Go.Proofs.YtofjlpnebfijoaaDoor
