/-
  Decimal numerals without leading zeros: read and written.
-/
import Derived.Test.YtcpafmndjcejjaaGreatDoorAR13
import Derived.Lib.Atoi
import Derived.Lib.AtoiAll
import Derived.Lib.Strings
set_option linter.unusedVariables false
namespace Go.Proofs.YtcpafmndjcejjaaGreatDoor
open Go Go.Lib
set_option linter.unusedVariables false

def isDg (b : UInt8) : Bool := decide (48 ≤ b.toNat ∧ b.toNat ≤ 57)
def decV (d : List UInt8) : Nat := d.foldl (fun a b => a * 10 + (b.toNat - 48)) 0
theorem decFrom_all : ∀ (d : List UInt8) (acc : Nat), d.all isDg = true → decFrom acc d = some (d.foldl (fun a b => a * 10 + (b.toNat - 48)) acc)
  | [], acc, _ => rfl
  | b :: d, acc, h => by
    rw [List.all_cons, Bool.and_eq_true] at h
    have hb := h.1
    unfold isDg at hb
    have hv : digitVal b = some (b.toNat - 48) := by unfold digitVal; rw [if_pos (by simpa using hb)]
    simp only [decFrom, hv]
    rw [decFrom_all d _ h.2]
    rfl
theorem decV_snoc (d : List UInt8) (b : UInt8) : decV (d ++ [b]) = decV d * 10 + (b.toNat - 48) := by
  unfold decV
  rw [List.foldl_append]
  rfl
theorem dg_of {b : UInt8} {v : Nat} (h : isDg b = true) : dg (v * 10 + (b.toNat - 48)) 0 = b := by
  unfold isDg at h
  have h : 48 ≤ b.toNat ∧ b.toNat ≤ 57 := by simpa using h
  unfold dg
  apply UInt8.toNat.inj
  rw [UInt8.toNat_ofNat']
  simp
  omega
theorem decV_dgs : ∀ (n : Nat) (d : List UInt8), d.length = n → d.all isDg = true → decV d < 10 ^ n ∧ dgs n (decV d) = d
  | 0, d, h, _ => by
    have : d = [] := List.eq_nil_of_length_eq_zero h
    subst this
    exact ⟨by decide, rfl⟩
  | n + 1, d, h, ha => by
    rcases List.eq_nil_or_concat d with rfl | ⟨e, b, rfl⟩
    · simp at h
    · rw [List.concat_eq_append] at h ha ⊢
      rw [List.length_append, List.length_singleton] at h
      rw [List.all_append, Bool.and_eq_true] at ha
      have hb : isDg b = true := by simpa using ha.2
      obtain ⟨h1, h2⟩ := decV_dgs n e (by omega) ha.1
      rw [decV_snoc]
      have hb' := hb
      unfold isDg at hb'
      have hb' : 48 ≤ b.toNat ∧ b.toNat ≤ 57 := by simpa using hb'
      refine ⟨by rw [Nat.pow_succ]; omega, ?_⟩
      rw [dgs_snoc, dg_of hb, show (decV e * 10 + (b.toNat - 48)) / 10 = decV e by omega, h2]
/-- a numeral: digits, the first of them no 0 if there are more -/
def numL (d : List UInt8) : Bool := !d.isEmpty && d.all isDg && (d.head? != some 48 || d == [48])
theorem decV_lead {b : UInt8} {d : List UInt8} (h : isDg b = true) (hb : b ≠ 48) : 10 ^ d.length ≤ decV (b :: d) := by
  have key : ∀ (d : List UInt8) (acc : Nat), acc * 10 ^ d.length ≤ d.foldl (fun a b => a * 10 + (b.toNat - 48)) acc := by
    intro d
    induction d with
    | nil => intro acc; simp
    | cons x d ih =>
      intro acc
      rw [List.foldl_cons, List.length_cons, Nat.pow_succ]
      refine Nat.le_trans ?_ (ih _)
      rw [Nat.add_mul, Nat.mul_assoc acc 10, Nat.mul_comm 10]
      exact Nat.le_add_right _ _
  have h1 := key d (b.toNat - 48)
  have h2 : 1 ≤ b.toNat - 48 := by
    unfold isDg at h
    have h : 48 ≤ b.toNat ∧ b.toNat ≤ 57 := by simpa using h
    have : b.toNat ≠ 48 := fun e => hb (UInt8.toNat.inj e)
    omega
  refine Nat.le_trans ?_ (show (b.toNat - 48) * 10 ^ d.length ≤ decV (b :: d) by
    unfold decV
    rw [List.foldl_cons, Nat.zero_mul, Nat.zero_add]
    exact h1)
  calc 10 ^ d.length = 1 * 10 ^ d.length := (Nat.one_mul _).symm
    _ ≤ _ := Nat.mul_le_mul_right _ h2
/-- a numeral is what its number is written as -/
theorem numL_dec {d : List UInt8} (h : numL d = true) : decDigits (decV d) = d := by
  unfold numL at h
  rw [Bool.and_eq_true, Bool.and_eq_true] at h
  obtain ⟨⟨h1, h2⟩, h3⟩ := h
  cases d with
  | nil => simp at h1
  | cons b d =>
    obtain ⟨h4, h5⟩ := decV_dgs (d.length + 1) (b :: d) rfl h2
    have hb : isDg b = true := by rw [List.all_cons, Bool.and_eq_true] at h2; exact h2.1
    have hn : nDigits (decV (b :: d)) = d.length + 1 := by
      by_cases e : b = 48
      · subst e
        have : d = [] := by simpa using h3
        subst this
        exact nDigits_small (by decide)
      · exact nDigits_unique _ _ (decV_lead hb e) h4
    rw [← dec_of_dgs (n := d.length + 1) h4 hn]
    exact h5
theorem dg_isDg (x j : Nat) : isDg (dg x j) = true := by
  unfold isDg
  rw [dg_val]
  simp
  omega
theorem dec_all (u : Nat) : (decDigits u).all isDg = true := by
  rw [decDigits_eq, List.all_map]
  simp [dg_isDg]
theorem dec_ne (u : Nat) : decDigits u ≠ [] := fun h => by
  have := decDigits_length u
  rw [h] at this
  have h1 := nDigits_pos u
  simp at this
  omega
theorem dec_decV (u : Nat) : decV (decDigits u) = u := by
  have h1 := lt_pow_nDigits u
  have h2 := decDigits_length u
  have key : ∀ (n x : Nat), x < 10 ^ n → decV (dgs n x) = x := by
    intro n
    induction n with
    | zero => intro x hx; simp at hx; subst hx; rfl
    | succ n ih =>
      intro x hx
      rw [dgs_snoc, decV_snoc, ih (x / 10) (by rw [Nat.pow_succ] at hx; omega), dg_val]
      simp
      omega
  rw [decDigits_dgs]
  exact key _ _ h1
theorem dec_numL (u : Nat) : numL (decDigits u) = true := by
  unfold numL
  rw [dec_all, Bool.and_true, Bool.and_eq_true]
  refine ⟨by cases e : decDigits u with
    | nil => exact absurd e (dec_ne u)
    | cons _ _ => rfl, ?_⟩
  by_cases h : u < 10
  · rw [decDigits_one h]
    by_cases h0 : u = 0
    · subst h0; rfl
    · have : UInt8.ofNat (48 + u) ≠ 48 := fun e => by
        have := congrArg UInt8.toNat e
        rw [UInt8.toNat_ofNat'] at this
        simp at this
        omega
      rw [Bool.or_eq_true]
      refine .inl (bne_iff_ne.2 fun e => this ?_)
      injection e
  · have hn : 2 ≤ nDigits u := by rw [nDigits_big h]; have := nDigits_pos (u / 10); omega
    have hp := pow_nDigits_le (u := u) (by omega)
    have e : (decDigits u).head? = some (dg u (nDigits u - 1)) := by
      rw [decDigits_eq]
      obtain ⟨m, hm⟩ : ∃ m, nDigits u = m + 1 := ⟨nDigits u - 1, by omega⟩
      rw [hm, List.range_succ_eq_map]
      rfl
    rw [e]
    have hd : dg u (nDigits u - 1) ≠ 48 := fun e => by
      have h1 := congrArg UInt8.toNat e
      rw [dg_val] at h1
      have h2 : u / 10 ^ (nDigits u - 1) % 10 = 0 := by
        have : (48 : UInt8).toNat = 48 := rfl
        omega
      have h3 : u / 10 ^ (nDigits u - 1) < 10 := by
        rw [Nat.div_lt_iff_lt_mul (Nat.pow_pos (by decide))]
        have := lt_pow_nDigits u
        rw [show nDigits u = nDigits u - 1 + 1 by omega, Nat.pow_succ] at this
        omega
      have h4 : 1 ≤ u / 10 ^ (nDigits u - 1) := (Nat.le_div_iff_mul_le (Nat.pow_pos (by decide))).2 (by omega)
      omega
    simp [hd]
/-- what a numeral is as a number -/
theorem atoi_num {d : List UInt8} (h : numL d = true) : atoi d = some (decV d : Int) := by
  have hh := h
  unfold numL at h
  rw [Bool.and_eq_true, Bool.and_eq_true] at h
  obtain ⟨⟨h1, h2⟩, h3⟩ := h
  cases d with
  | nil => simp at h1
  | cons b d =>
    have hb : isDg b = true := by rw [List.all_cons, Bool.and_eq_true] at h2; exact h2.1
    unfold isDg at hb
    have hb : 48 ≤ b.toNat ∧ b.toNat ≤ 57 := by simpa using hb
    have n1 : (b == 45) = false := beq_eq_false_iff_ne.2 fun e => by subst e; simp at hb
    have n2 : (b == 43) = false := beq_eq_false_iff_ne.2 fun e => by subst e; simp at hb
    unfold atoi
    simp only [n1, n2]
    unfold decNat
    rw [decFrom_all _ _ h2]
    rfl
end Go.Proofs.YtcpafmndjcejjaaGreatDoor
