/-
  kit.Number: a numeral of at most so many digits, with a sign.
-/
import Derived.Test.YtcpafmndjcejjaaGreatDoorAR16
set_option linter.unusedVariables false
namespace Go.Proofs.YtcpafmndjcejjaaGreatDoor
open Go.RowKit Go Go.Sort
set_option linter.unusedVariables false

/-- the digits of a numeral with a sign -/
def sgnD (s : List UInt8) : List UInt8 := Lib.trimPrefix s [45]
def numOk (s : List UInt8) (most : Nat) : Bool := !(sgnD s).isEmpty && decide ((sgnD s).length ≤ most) && ((sgnD s).head? != some 48 || s == [48]) && (sgnD s).all isDg
def numV (s : List UInt8) : Int := if s.head? = some 45 then -(decV (sgnD s) : Int) else (decV (sgnD s) : Int)
theorem sgnD_neg (r : List UInt8) : sgnD (45 :: r) = r := by simp [sgnD, Lib.trimPrefix, Lib.hasPrefix, List.isPrefixOf]
theorem sgnD_pos {s : List UInt8} (h : s.head? ≠ some 45) : sgnD s = s := by
  unfold sgnD Lib.trimPrefix Lib.hasPrefix
  cases s with
  | nil => rfl
  | cons b l =>
    rw [if_neg]
    simp [List.isPrefixOf]
    intro e
    exact h (by rw [← e]; rfl)
theorem sgnD_len (s : List UInt8) : s.length ≤ (sgnD s).length + 1 := by
  by_cases h : s.head? = some 45
  · cases s with
    | nil => simp
    | cons b r =>
      have : b = 45 := by simpa using h
      subst this
      rw [sgnD_neg]; simp
  · rw [sgnD_pos h]; omega
theorem numOk_atoi {s : List UInt8} {most : Nat} (h : numOk s most = true) : Lib.atoi s = some (numV s) := by
  unfold numOk at h
  rw [Bool.and_eq_true, Bool.and_eq_true, Bool.and_eq_true] at h
  obtain ⟨⟨⟨h1, h2⟩, h3⟩, h4⟩ := h
  by_cases hh : s.head? = some 45
  · cases s with
    | nil => simp at hh
    | cons b r =>
      have : b = 45 := by simpa using hh
      subst this
      unfold numV
      rw [if_pos hh]
      rw [sgnD_neg] at *
      show Option.map (fun (m : Nat) => -(m : Int)) (Lib.decNat r) = _
      unfold Lib.decNat
      rw [if_neg (by simpa using h1), decFrom_all _ _ h4]
      rfl
  · unfold numV
    rw [if_neg hh]
    rw [sgnD_pos hh] at *
    refine atoi_num ?_
    unfold numL
    rw [h1, h4, Bool.true_and, Bool.true_and]
    exact h3
theorem numL_ne45 {s : List UInt8} (h : numL s = true) : s.head? ≠ some 45 := fun e => by
  unfold numL at h
  rw [Bool.and_eq_true, Bool.and_eq_true] at h
  cases s with
  | nil => simp at e
  | cons b r =>
    have : b = 45 := by simpa using e
    subst this
    have := h.1.2
    rw [List.all_cons, Bool.and_eq_true] at this
    have h2 := this.1
    unfold isDg at h2
    simp at h2
/-- a number of 0 to 255, as it is written -/
def d255 (s : List UInt8) : Option Nat := if numL s = true ∧ decV s ≤ 255 then some (decV s) else none
theorem numOk_255 (s : List UInt8) : (numOk s 3 && decide (0 ≤ numV s) && decide (numV s ≤ 255)) = (d255 s).isSome ∧ (∀ n, d255 s = some n → numV s = (n : Int)) := by
  by_cases hh : s.head? = some 45
  · have hn : ¬ numL s = true := fun h => numL_ne45 h hh
    have hd : d255 s = none := if_neg fun h => hn h.1
    rw [hd]
    refine ⟨?_, fun n h => by cases h⟩
    by_cases ho : numOk s 3 = true
    · rw [ho, Bool.true_and]
      have hneg : ¬ 0 ≤ numV s := fun h0 => by
        unfold numOk at ho
        rw [Bool.and_eq_true, Bool.and_eq_true, Bool.and_eq_true] at ho
        obtain ⟨⟨⟨h1, h2⟩, h3⟩, h4⟩ := ho
        cases s with
        | nil => simp at hh
        | cons b r =>
          have : b = 45 := by simpa using hh
          subst this
          unfold numV at h0
          rw [if_pos hh] at h0
          rw [sgnD_neg] at *
          cases r with
          | nil => simp at h1
          | cons c r =>
            rw [List.all_cons, Bool.and_eq_true] at h4
            have hc : c ≠ 48 := by simpa using h3
            have := decV_lead (d := r) h4.1 hc
            have := Nat.pow_pos (n := r.length) (show 0 < 10 by decide)
            omega
      rw [decide_eq_false hneg]; rfl
    · rw [eq_false_of_ne_true ho]; rfl
  · have hs := sgnD_pos hh
    have hv : numV s = (decV s : Int) := by unfold numV; rw [if_neg hh, hs]
    rw [hv]
    have ho : numOk s 3 = (numL s && decide (s.length ≤ 3)) := by
      unfold numOk numL
      rw [hs]
      cases s.isEmpty <;> cases (decide (s.length ≤ 3)) <;> cases (s.head? != some 48 || s == [48]) <;> cases (s.all isDg) <;> rfl
    rw [ho]
    unfold d255
    by_cases hn : numL s = true
    · by_cases h2 : decV s ≤ 255
      · rw [if_pos ⟨hn, h2⟩]
        have h3 : s.length ≤ 3 := by
          have := congrArg List.length (numL_dec hn)
          rw [Lib.decDigits_length] at this
          have := nDigits_lt (x := decV s) (n := 3) (by decide) (by omega)
          omega
        refine ⟨?_, fun n h => by injection h with h; rw [h]⟩
        rw [hn, decide_eq_true h3, decide_eq_true (by omega : (0 : Int) ≤ (decV s : Int)), decide_eq_true (by omega : (decV s : Int) ≤ 255)]
        rfl
      · rw [if_neg fun h => h2 h.2]
        refine ⟨?_, fun n h => by cases h⟩
        rw [decide_eq_false (by omega : ¬ (decV s : Int) ≤ 255), Bool.and_false]; rfl
    · rw [if_neg fun h => hn h.1, eq_false_of_ne_true hn]
      exact ⟨rfl, fun n h => by cases h⟩
theorem parseUint_all : ∀ (l : List UInt8) (acc : Nat), l.all isDg = true → l.foldl (fun a b => a * 10 + (b.toNat - 48)) acc < 1000000000000000000 → Lib.parseUint10 acc l = .ok (l.foldl (fun a b => a * 10 + (b.toNat - 48)) acc)
  | [], acc, _, _ => rfl
  | b :: l, acc, h, hb => by
    have key : ∀ (d : List UInt8) (acc : Nat), acc ≤ d.foldl (fun a b => a * 10 + (b.toNat - 48)) acc := by
      intro d
      induction d with
      | nil => intro acc; exact Nat.le_refl _
      | cons x d ih =>
        intro acc
        rw [List.foldl_cons]
        have := ih (acc * 10 + (x.toNat - 48))
        omega
    rw [List.all_cons, Bool.and_eq_true] at h
    have hd := h.1
    unfold isDg at hd
    have hd : 48 ≤ b.toNat ∧ b.toNat ≤ 57 := by simpa using hd
    rw [List.foldl_cons] at hb ⊢
    have := key l (acc * 10 + (b.toNat - 48))
    unfold Lib.parseUint10
    rw [if_pos hd, if_neg (by omega), if_neg (by omega)]
    exact parseUint_all l _ h.2 hb
theorem atoiAll_num {s : List UInt8} (h : numL s = true) (hs : decV s < 1000000000000000000) : Lib.atoiAll s = .ok (decV s : Int) := by
  have h45 := numL_ne45 h
  have hh := h
  unfold numL at h
  rw [Bool.and_eq_true, Bool.and_eq_true] at h
  obtain ⟨⟨h1, h2⟩, h3⟩ := h
  cases s with
  | nil => simp at h1
  | cons b r =>
    have hb : isDg b = true := by rw [List.all_cons, Bool.and_eq_true] at h2; exact h2.1
    unfold isDg at hb
    have hb : 48 ≤ b.toNat ∧ b.toNat ≤ 57 := by simpa using hb
    have hp := parseUint_all (b :: r) 0 h2 hs
    unfold Lib.atoiAll
    simp only
    rw [if_neg (by omega : ¬ (b.toNat = 43 ∨ b.toNat = 45))]
    unfold Lib.parseMag
    rw [if_neg (by simp), hp]
    show (if _ then _ else if _ then _ else _) = _
    have hs' : (b :: r).foldl (fun a b => a * 10 + (b.toNat - 48)) 0 < 1000000000000000000 := hs
    rw [if_neg (by omega), if_neg (by omega), if_neg (by omega)]
    rfl
/-- what the reference's four asks of a word -/
theorem atoi_255 (s : List UInt8) : (∀ n, d255 s = some n → Lib.atoiAll s = .ok (n : Int) ∧ Lib.decDigits n = s ∧ n ≤ 255) ∧ (d255 s = none → ∀ v, Lib.atoiAll s = .ok v → 0 ≤ v → v ≤ 255 → Lib.decDigits v.toNat ≠ s) := by
  unfold d255
  refine ⟨fun n h => ?_, fun h v hv h0 h1 e => ?_⟩
  · by_cases hc : numL s = true ∧ decV s ≤ 255
    · rw [if_pos hc] at h
      injection h with h
      subst h
      exact ⟨atoiAll_num hc.1 (by omega), numL_dec hc.1, hc.2⟩
    · rw [if_neg hc] at h; cases h
  · by_cases hc : numL s = true ∧ decV s ≤ 255
    · rw [if_pos hc] at h; cases h
    · refine hc ⟨by rw [← e]; exact dec_numL _, ?_⟩
      rw [← e, dec_decV]; omega
end Go.Proofs.YtcpafmndjcejjaaGreatDoor
