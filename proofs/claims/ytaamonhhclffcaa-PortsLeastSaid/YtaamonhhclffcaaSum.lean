/-
  The sum of bytes: filter.Sum and the reference's CheckSumOf are the same function of the bytes.
-/
import Derived.Test.YtaamonhhclffcaaPure
namespace Go.Proofs.Ytaamonhhclffcaa
open Go.RowKit
set_option linter.unusedVariables false

/-- a slice of bytes that can be read -/
structure RdB (w : World) (ad : Option Addr) (bs : List UInt8) : Prop where
  small : bs.length ≤ 140737488351232
  cell : ∀ i, i < bs.length → ∃ g o, ad = some ⟨g, o, none⟩ ∧ g < w.heap.size ∧ w.cell? ⟨g, o + i, none⟩ = some (.int .u8 ((bs.getD i 0).toNat : Int))

def sumB : List UInt8 → Bool → Nat
  | [], _ => 0
  | c :: l, true => c.toNat * 256 + sumB l false
  | c :: l, false => c.toNat + sumB l true
def foldSum (n : Nat) : Nat := if n = 0 then 0 else (n - 1) % 65535 + 1

theorem sumB_le : ∀ (l : List UInt8) (e : Bool), sumB l e ≤ 65280 * l.length
  | [], _ => by simp [sumB]
  | c :: l, true => by have := sumB_le l false; have := c.toNat_lt; simp only [sumB, List.length_cons]; omega
  | c :: l, false => by have := sumB_le l true; have := c.toNat_lt; simp only [sumB, List.length_cons]; omega
theorem sumB_snoc : ∀ (l : List UInt8) (e : Bool) (c : UInt8), sumB (l ++ [c]) e = sumB l e + if (decide (l.length % 2 = 0)) = e then c.toNat * 256 else c.toNat
  | [], true, c => by simp [sumB]
  | [], false, c => by simp [sumB]
  | d :: l, true, c => by
    simp only [List.cons_append, sumB, sumB_snoc l false c, List.length_cons]
    have h1 : (l.length % 2 = 0) ↔ ¬ ((l.length + 1) % 2 = 0) := by omega
    by_cases h : l.length % 2 = 0
    · have h2 := h1.1 h; simp [h, h2]; omega
    · have h2 : (l.length + 1) % 2 = 0 := by omega
      simp [h, h2]; omega
  | d :: l, false, c => by
    simp only [List.cons_append, sumB, sumB_snoc l true c, List.length_cons]
    by_cases h : l.length % 2 = 0
    · have h2 : ¬ (l.length + 1) % 2 = 0 := by omega
      simp [h, h2]; omega
    · have h2 : (l.length + 1) % 2 = 0 := by omega
      simp [h, h2]; omega
theorem sumB_take (bs : List UInt8) (k : Nat) (hk : k < bs.length) : sumB (bs.take (k + 1)) true = sumB (bs.take k) true + if k % 2 = 0 then (bs.getD k 0).toNat * 256 else (bs.getD k 0).toNat := by
  rw [List.take_succ_eq_append_getElem hk, sumB_snoc, List.length_take, Nat.min_eq_left (by omega)]
  simp [List.getD, List.getElem?_eq_getElem hk]
theorem foldSum_step (n : Nat) (h : 65535 < n) : foldSum (n / 65536 + n % 65536) = foldSum n := by
  unfold foldSum
  have h1 : n / 65536 + n % 65536 ≠ 0 := by omega
  rw [if_neg h1, if_neg (by omega)]
  omega
theorem foldSum_small (n : Nat) (h : n ≤ 65535) : foldSum n = n := by unfold foldSum; split <;> omega
theorem foldSum_le (n : Nat) : foldSum n ≤ 65535 := by unfold foldSum; split <;> omega

theorem i64_and65535 (n : Int) : bits .and .i64 n 65535 = n % 65536 := by
  have h127 : (BitVec.ofInt 64 65535).toNat = 2 ^ 16 - 1 := by decide
  have key : (BitVec.ofInt 64 n &&& BitVec.ofInt 64 65535).toNat = (n % ((2 ^ 64 : Nat) : Int)).toNat % 2 ^ 16 := by
    rw [BitVec.toNat_and, BitVec.toNat_ofInt, h127, Nat.and_two_pow_sub_one_eq_mod]
  show IntKind.i64.wrap ((BitVec.ofInt 64 n &&& BitVec.ofInt 64 65535).toNat : Nat) = n % 65536
  rw [key, IntKind.wrap_i64]
  omega

set_option maxRecDepth 100000 in
set_option maxHeartbeats 1000000 in
theorem sum_any (ad : Option Addr) (c : Nat) (bs : List UInt8) (w : World) (h : RdB w ad bs) :
    Calls Try.prog 26 #[.slice ad bs.length c] w fun e w' => e = .returned (.int .i64 (65535 - (foldSum (sumB bs true) : Int))) ∧ w = w' := by
  have hs := h.small
  generalize hn : bs.length = n
  rw [hn] at hs
  have Hn := Lib.hid hn
  clear hn
  go_enter Try.func26, Try.ntmps26
  go_wp2
  go_loop [3, 8] (fun t i => ∃ k : Nat, k ≤ n ∧ i = .int .i64 k ∧ t = .int .i64 (sumB (bs.take k) true)) (fun _ i => n - (intOf i).toNat)
  case atStart => exact ⟨0, Nat.zero_le _, rfl, by simp [sumB]⟩
  case round =>
    obtain ⟨k, hk, rfl, rfl⟩ := hrel
    by_cases hlt : k < n
    · obtain ⟨g, o, had, hg, hc⟩ := h.cell k (by rw [Hn.out]; exact hlt)
      have hsm := sumB_take bs k (by rw [Hn.out]; exact hlt)
      have hb : sumB (bs.take k) true ≤ 65280 * k := by have := sumB_le (bs.take k) true; have h2 := List.length_take_le k bs; omega
      have hcb := (bs.getD k 0).toNat_lt
      generalize (bs.getD k 0).toNat = x at hc hsm hcb
      generalize sumB (bs.take k) true = s at hsm hb ⊢
      have Hs := Lib.hid hsm
      clear hsm
      subst had
      go_wp2
      all_goals
        refine ⟨⟨k + 1, by omega, by go_num, ?_⟩, by simp [intOf]; omega⟩
        rw [Hs.out]
        have hpar : (((k : Int) % 2 == 0) = true ∧ k % 2 = 0) ∨ (((k : Int) % 2 == 0) = false ∧ ¬ k % 2 = 0) := by
          by_cases h2 : k % 2 = 0
          · exact .inl ⟨by simp; omega, h2⟩
          · exact .inr ⟨by simp; omega, h2⟩
        rcases hpar with ⟨h2, h3⟩ | ⟨h2, h3⟩ <;> simp_all
    · obtain rfl : k = n := by omega
      have he : bs.take k = bs := List.take_of_length_le (by rw [Hn.out]; exact Nat.le_refl _)
      rw [he]
      have hb := sumB_le bs true
      rw [Hn.out] at hb
      obtain ⟨s, hs⟩ : ∃ s, s = sumB bs true := ⟨_, rfl⟩
      rw [← hs] at hb ⊢
      have Hs := Lib.hid hs
      clear he h hs
      go_wp2
      go_loop [3] (fun t => ∃ m : Nat, m ≤ s ∧ foldSum m = foldSum s ∧ t = .int .i64 m) (fun t => (intOf t).toNat)
      case atStart => exact ⟨s, Nat.le_refl _, rfl, rfl⟩
      case round =>
        obtain ⟨m, hm, hf, rfl⟩ := hrel
        have HF := Lib.hid hf
        clear hf
        have ha := i64_and65535 (m : Int)
        by_cases hgt : 65535 < m
        · go_wp2
          refine ⟨⟨m / 65536 + m % 65536, by omega, by rw [foldSum_step m hgt, HF.out], by simp⟩, by simp [intOf]; omega⟩
        · go_wp2
          go_ret
          exact ⟨by rw [← Hs.out, ← HF.out, foldSum_small m (by omega)]; rfl, rfl⟩

theorem ckSum_step (s x : Nat) (hx : x ≤ 65535) : (s % 65535 + x) % 65535 = (s + x) % 65535 := by omega
theorem ck_fold (s : Nat) : foldSum s = if s % 65535 = 0 ∧ 0 < s then 65535 else s % 65535 := by
  unfold foldSum; split <;> split <;> omega

set_option maxRecDepth 100000 in
set_option maxHeartbeats 1000000 in
theorem checkSumOf_any (ad : Option Addr) (c : Nat) (bs : List UInt8) (w : World) (h : RdB w ad bs) :
    Calls Try.prog 27 #[.slice ad bs.length c] w fun e w' => e = .returned (.int .i64 (65535 - (foldSum (sumB bs true) : Int))) ∧ w = w' := by
  have hs := h.small
  generalize hn : bs.length = n
  rw [hn] at hs
  have Hn := Lib.hid hn
  clear hn
  go_enter Try.func27, Try.ntmps27
  go_wp2
  go_loop [3, 4, 9] (fun t a i => ∃ k : Nat, k ≤ n ∧ i = .int .i64 k ∧ t = .int .i64 ((sumB (bs.take k) true % 65535 : Nat) : Int) ∧ a = .bool (decide (0 < sumB (bs.take k) true))) (fun _ _ i => n - (intOf i).toNat)
  case atStart => exact ⟨0, Nat.zero_le _, rfl, by simp [sumB], by simp [sumB]⟩
  case round =>
    obtain ⟨k, hk, rfl, rfl, rfl⟩ := hrel
    by_cases hlt : k < n
    · obtain ⟨g, o, had, hg, hc⟩ := h.cell k (by rw [Hn.out]; exact hlt)
      have hsm := sumB_take bs k (by rw [Hn.out]; exact hlt)
      have hb : sumB (bs.take k) true ≤ 65280 * k := by have := sumB_le (bs.take k) true; have h2 := List.length_take_le k bs; omega
      have hcb := (bs.getD k 0).toNat_lt
      generalize (bs.getD k 0).toNat = x at hc hsm hcb
      generalize sumB (bs.take k) true = s at hsm hb ⊢
      have Hs := Lib.hid hsm
      clear hsm
      subst had
      by_cases hs0 : 0 < s
      all_goals go_wp2
      all_goals
        refine ⟨⟨k + 1, by omega, by go_num, ?_⟩, by simp [intOf]; omega⟩
        rw [Hs.out]
        have h2 : k % 2 = 0 ∨ k % 2 = 1 := by omega
        rcases h2 with h2 | h2
        · simp only [h2, Nat.sub_zero, Nat.mul_one, if_true]
          rw [show ((x : Int) * 2 ^ 8) = ((x * 256 : Nat) : Int) by omega, IntWalk.wrap64_in ((x * 256 : Nat) : Int) (by omega), IntWalk.wrap64_in _ (by omega)]
          refine ⟨congrArg (Value.int .i64) ?_, ?_⟩
          · rw [Int.tmod_eq_emod_of_nonneg (by omega)]; omega
          · simp <;> omega
        · simp only [h2, Nat.sub_self, Nat.mul_zero, Nat.one_ne_zero, if_false]
          rw [show ((x : Int) * 2 ^ 0) = ((x : Nat) : Int) by omega, IntWalk.wrap64_in (x : Int) (by omega), IntWalk.wrap64_in _ (by omega)]
          refine ⟨congrArg (Value.int .i64) ?_, ?_⟩
          · rw [Int.tmod_eq_emod_of_nonneg (by omega)]; omega
          · simp <;> omega
    · obtain rfl : k = n := by omega
      have he : bs.take k = bs := List.take_of_length_le (by rw [Hn.out]; exact Nat.le_refl _)
      rw [he]
      have hck := ck_fold (sumB bs true)
      obtain ⟨s, hs⟩ : ∃ s, s = sumB bs true := ⟨_, rfl⟩
      rw [← hs] at hck ⊢
      have Hs := Lib.hid hs
      have Hck := Lib.hid hck
      clear he h hs hck
      have hs65 : s % 65535 < 65535 := Nat.mod_lt _ (by decide)
      by_cases h0 : s % 65535 = 0
      · by_cases h1 : 0 < s
        · go_wp2
          all_goals (go_ret; refine ⟨?_, rfl⟩; rw [← Hs.out, Hck.out]; simp [h0, h1] <;> omega)
        · go_wp2
          all_goals (go_ret; refine ⟨?_, rfl⟩; rw [← Hs.out, Hck.out]; simp [h0, h1] <;> omega)
      · go_wp2
        all_goals (go_ret; refine ⟨?_, rfl⟩; rw [← Hs.out, Hck.out]; simp [h0] <;> omega)
end Go.Proofs.Ytaamonhhclffcaa
