/-
  Decimal numerals, in plain words: digits of a number in a row of so many places; sums digit by digit.
-/
import Derived.Lib.ItoaNum
import Derived.Lib.Repeat
set_option linter.unusedVariables false
namespace Go.Proofs.YtcpafmndjcejjaaGreatDoor
open Go Go.Lib
set_option linter.unusedVariables false

/-- the last n decimal digits of x, the first ahead -/
def dgs : Nat → Nat → List UInt8
  | 0, _ => []
  | n + 1, x => Lib.dg x n :: dgs n x
theorem dgs_snoc : ∀ n x, dgs (n + 1) x = dgs n (x / 10) ++ [Lib.dg x 0]
  | 0, x => rfl
  | n + 1, x => by
    have h := dgs_snoc n x
    rw [dgs, h, dgs, dg_succ]
    rfl
theorem decDigits_dgs (u : Nat) : decDigits u = dgs (nDigits u) u := by
  induction u using Nat.strongRecOn with
  | _ u ih =>
    by_cases h : u < 10
    · rw [decDigits, dif_pos h, nDigits_small h]
      simp [dgs, Lib.dg, Nat.mod_eq_of_lt h]
    · rw [decDigits, dif_neg h, nDigits_big h, ih (u / 10) (by omega), dgs_snoc]
      simp [Lib.dg]
theorem pow_nDigits_le {u : Nat} (h : u ≠ 0) : 10 ^ (nDigits u - 1) ≤ u := by
  induction u using Nat.strongRecOn with
  | _ u ih =>
    by_cases h2 : u < 10
    · rw [nDigits_small h2]; simp; omega
    · rw [nDigits_big h2]
      have h3 := ih (u / 10) (by omega) (by omega)
      have h4 := nDigits_pos (u / 10)
      obtain ⟨q, hq⟩ : ∃ q, nDigits (u / 10) = q + 1 := ⟨nDigits (u / 10) - 1, by omega⟩
      rw [hq] at h3 ⊢
      simp only [Nat.add_sub_cancel] at h3 ⊢
      rw [Nat.pow_succ]
      omega
/-- decDigits by a row of places that holds the number -/
theorem dec_of_dgs {n x : Nat} (h1 : x < 10 ^ n) (h2 : nDigits x = n) : dgs n x = decDigits x := by rw [decDigits_dgs, h2]
theorem nDigits_lt {x n : Nat} (hn : 1 ≤ n) (h : x < 10 ^ n) : nDigits x ≤ n := by
  by_cases h0 : x = 0
  · subst h0; rw [nDigits_small (by decide)]; exact hn
  · have h1 := pow_nDigits_le h0
    have h3 : 10 ^ (nDigits x - 1) < 10 ^ n := by omega
    have h4 := (Nat.pow_lt_pow_iff_right (by decide : 1 < 10)).1 h3
    omega
theorem dg_val (x k : Nat) : (Lib.dg x k).toNat = 48 + x / 10 ^ k % 10 := by
  unfold Lib.dg
  have : x / 10 ^ k % 10 < 10 := Nat.mod_lt _ (by decide)
  simp
  omega
end Go.Proofs.YtcpafmndjcejjaaGreatDoor
