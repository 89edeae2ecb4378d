/-
  How many blocks a span has at most, plain.
-/
import Derived.Test.YtaeieigdibanlaaGreatDoorST6
set_option linter.unusedVariables false
namespace Go.Proofs.YtaeieigdibanlaaGreatDoor
open Go
set_option linter.unusedVariables false

theorem blks_down {L y : Nat} : ∀ j x, j ≤ L → 2 ^ j ∣ x → y + 1 - x < 2 ^ j → (blks L x y).length ≤ j
  | 0, x, _, _, h => by
    rw [blks_stop (by simp at h; omega)]
    exact Nat.le_refl _
  | j + 1, x, hj, hd, h => by
    have hd' : 2 ^ j ∣ x := Nat.dvd_trans (Nat.pow_dvd_pow 2 (Nat.le_succ j)) hd
    rcases Nat.lt_or_ge (y + 1 - x) (2 ^ j) with hlt | hge
    · exact Nat.le_succ_of_le (blks_down j x (by omega) hd' hlt)
    · have hp := two_pos j
      have hxy : x ≤ y := by omega
      have hg := gB_ok (L := L) hxy
      have h1 := gB_top (L := L) (x := x) (y := y) (j := j) (by omega) hd' (by omega)
      have h2 : L - gB L x y < j + 1 := by
        rcases Nat.lt_or_ge (L - gB L x y) (j + 1) with h3 | h3
        · exact h3
        · have := Nat.pow_le_pow_right (n := 2) (by decide) h3
          have := hg.fits
          omega
      have hk : L - gB L x y = j := by omega
      rw [blks_step hxy, hk, List.length_cons]
      rw [Nat.pow_succ] at h
      exact Nat.succ_le_succ (blks_down j (x + 2 ^ j) (by omega) (Nat.dvd_add hd' (Nat.dvd_refl _)) (by omega))
theorem blks_up {L y F : Nat} (hF : y < F + 2 ^ L) : ∀ m j x, L - j = m → j ≤ L → F ≤ x → 2 ^ j ∣ x → (blks L x y).length ≤ (L - j) + L + 1 := by
  intro m
  induction m using Nat.strongRecOn with
  | _ m ih =>
    intro j x hm hj hx hd
    rcases Nat.lt_or_ge (y + 1 - x) (2 ^ j) with hlt | hge
    · have := blks_down j x hj hd hlt; omega
    · have hp := two_pos j
      have hxy : x ≤ y := by omega
      have hg := gB_ok (L := L) hxy
      have h1 := gB_top (L := L) (x := x) (y := y) (j := j) hj hd (by omega)
      have hd1 := hg.dvd
      have hf1 := hg.fits
      rw [blks_step hxy, List.length_cons]
      generalize hk : L - gB L x y = k at *
      have hkL : k ≤ L := by omega
      have hp2 := two_pos k
      rcases Nat.lt_or_ge k L with hkl | hkl
      · by_cases ha : 2 ^ (k + 1) ∣ x
        · have hnf : ¬ x + (2 ^ (k + 1) - 1) ≤ y := fun h => by
            have := gB_top (L := L) (x := x) (y := y) (j := k + 1) (by omega) ha h
            omega
          rw [Nat.pow_succ] at hnf
          have := blks_down (L := L) (y := y) k (x + 2 ^ k) hkL (Nat.dvd_add hd1 (Nat.dvd_refl _)) (by omega)
          omega
        · have hd2 : 2 ^ (k + 1) ∣ x + 2 ^ k := by
            obtain ⟨a, rfl⟩ := hd1
            rcases Nat.mod_two_eq_zero_or_one a with h0 | h0
            · exfalso
              obtain ⟨b, rfl⟩ := Nat.dvd_of_mod_eq_zero h0
              exact ha ⟨b, by rw [Nat.pow_succ, Nat.mul_assoc]⟩
            · refine ⟨(a + 1) / 2, ?_⟩
              have : a + 1 = 2 * ((a + 1) / 2) := by omega
              rw [Nat.pow_succ, Nat.mul_assoc, ← this, Nat.mul_add, Nat.mul_one]
          have := ih (L - (k + 1)) (by omega) (k + 1) (x + 2 ^ k) rfl (by omega) (by omega) hd2
          omega
      · obtain rfl : k = L := by omega
        rw [blks_stop (by omega)]
        simp
theorem blks_len {p : Sp} (h : VR p) : (blks (LN p.1) p.1 p.2).length ≤ 257 := by
  have key : ∀ L F, L ≤ 128 → p.2 < F + 2 ^ L → F ≤ p.1 → (blks L p.1 p.2).length ≤ 257 := fun L F hL h1 h2 => by
    have := blks_up h1 L 0 p.1 rfl (Nat.zero_le _) h2 (by rw [Nat.pow_zero]; exact Nat.one_dvd _)
    omega
  unfold LN
  rcases h.a.cases with ⟨a, _, _, d⟩ | ⟨a, b, _⟩
  · have hn : ¬ 2 ^ 128 ≤ p.1 := of_decide_eq_false a
    rw [if_neg hn]
    refine key 32 0 (by decide) ?_ (Nat.zero_le _)
    rcases h.b.cases with ⟨a', _, _, d'⟩ | ⟨a', _⟩
    · omega
    · rw [h.s, a'] at a; cases a
  · have hn : 2 ^ 128 ≤ p.1 := of_decide_eq_true a
    rw [if_pos hn]
    refine key 128 (2 ^ 128) (by decide) ?_ hn
    rcases h.b with hb | ⟨_, hb⟩
    · have := h.le
      have : (2 : Nat) ^ 32 ≤ 2 ^ 128 := by decide
      omega
    · have : (2 : Nat) ^ 129 = 2 ^ 128 + 2 ^ 128 := by decide
      omega
theorem allB_crude : ∀ {S : List Sp}, (∀ p ∈ S, VR p) → (allB S).length ≤ 257 * S.length
  | [], _ => Nat.zero_le _
  | p :: S, h => by
    have h1 := blks_len (h p (List.mem_cons_self ..))
    have h2 := allB_crude (S := S) fun q hq => h q (List.mem_cons_of_mem _ hq)
    unfold allB at h2 ⊢
    rw [List.flatMap_cons, List.length_append, List.length_cons]
    omega
/-- each block of a right range is a right prefix -/
theorem blk_vn {p : Sp} (h : VR p) {x : Nat} (h1 : p.1 ≤ x) (h2 : x ≤ p.2) : VN x ∧ LN x = LN p.1 ∧ sixN x = sixN p.1 := by
  have e32 : (2 : Nat) ^ 32 ≤ 2 ^ 128 := by decide
  rcases h.a.cases with ⟨a, _, _, d⟩ | ⟨a, b, _⟩
  · have hn : ¬ 2 ^ 128 ≤ p.1 := of_decide_eq_false a
    rcases h.b.cases with ⟨a', _, _, d'⟩ | ⟨a', _⟩
    · have hx : ¬ 2 ^ 128 ≤ x := by omega
      refine ⟨.inl (by omega), ?_, ?_⟩
      · unfold LN; rw [if_neg hx, if_neg hn]
      · rw [a]; exact decide_eq_false hx
    · rw [h.s, a'] at a; cases a
  · have hn : 2 ^ 128 ≤ p.1 := of_decide_eq_true a
    have hx : 2 ^ 128 ≤ x := by omega
    refine ⟨.inr ⟨hx, ?_⟩, ?_, ?_⟩
    · rcases h.b with hb | ⟨_, hb⟩ <;> omega
    · unfold LN; rw [if_pos hx, if_pos hn]
    · rw [a]; exact decide_eq_true hx
end Go.Proofs.YtaeieigdibanlaaGreatDoor
