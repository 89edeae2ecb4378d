/-
  The law PrefixBits, plain: what the program's methods answer is what the reference's calls give, where the fault is none.
-/
import Derived.Test.YtaamonhhclffcaaDoorPB4
import Derived.Test.YtaamonhhclffcaaDoorAddressed
import Derived.Test.YtaamonhhclffcaaDoorPEq
import Derived.Test.YtaamonhhclffcaaDoorGenP
import Derived.Deep.Cut
namespace Go.Proofs.YtaamonhhclffcaaDoor
open Go.RowKit Go
set_option linter.unusedVariables false

theorem Gen.toBelow3 {b m : Nat} {w u v : World} (h : Gen b u v m) (hw : Below w.heap.size w u) (hb : w.heap.size ≤ b) : Below w.heap.size w v :=
  ⟨h.g.os.trans hw.os, h.g.tape.trans hw.tape, h.g.output.trans hw.output, Nat.le_trans hw.size h.g.size, fun i hi => (h.g.block i (Nat.lt_of_lt_of_le hi hw.size) (by intro e; injection e; omega)).trans (hw.block i hi)⟩
theorem firstE_two (a b : Int) : firstE [a, b] = twoF a b := by
  unfold twoF
  by_cases h : a ≠ 0
  · simp [firstE, h]
  · have h : a = 0 := by simpa using h
    subst h
    by_cases h2 : b ≠ 0
    · simp [firstE, h2]
    · have h2 : b = 0 := by simpa using h2
      simp [firstE, h2]
theorem mask_two (six : Bool) (hi lo : Nat) (bits : Int) : maskF six hi lo bits = twoF (aFault six hi lo) (if outB bits 0 (lenN six : Nat) = true then 1 else 0) := rfl
theorem con_two (six : Bool) (hi lo : Nat) (bits : Int) (s2 : Bool) (h2 l2 : Nat) : conF six hi lo bits s2 h2 l2 = twoF (pFault six hi lo bits) (aFault s2 h2 l2) := rfl
theorem com_two (six : Bool) (hi lo : Nat) (bits : Int) (s2 : Bool) (h2 l2 : Nat) (b2 : Int) : comF six hi lo bits s2 h2 l2 b2 = twoF (twoF (pFault six hi lo bits) (pFault s2 h2 l2 b2)) (if six ≠ s2 then 10 else 0) := rfl
theorem maskR_form (six : Bool) (hi lo : Nat) (bits : Int) (h1 : U64N hi) (h2 : U64N lo) : ∃ (rs : Bool) (rh rl rb : Int), maskR six hi lo bits = #[.bool rs, .int .u64 rh, .int .u64 rl, .int .i64 rb] ∧
    (maskF six hi lo bits = 0 → ∀ wx, Calls Tryd.prog 25 #[vA six hi lo, .int .i64 bits] wx (Ret (.agg #[.bool rs, .int .u64 rh, .int .u64 rl, .int .i64 rb]) wx)) := by
  unfold maskR
  by_cases h : maskF six hi lo bits = 0
  · rw [if_pos h]
    refine ⟨_, _, _, _, rfl, fun _ wx => ?_⟩
    rw [mask_two] at h
    obtain ⟨-, h3⟩ := twoF_zero h
    have h4 : 0 ≤ bits ∧ bits ≤ (lenN six : Nat) := by
      by_cases h5 : outB bits 0 (lenN six : Nat) = true
      · rw [if_pos h5] at h3; cases h3
      · unfold outB at h5; simp at h5; omega
    obtain ⟨n, rfl⟩ := Int.eq_ofNat_of_zero_le h4.1
    have := lenN_le six
    exact maskOf_any six hi lo n wx h1 h2 (by omega)
  · rw [if_neg h]
    exact ⟨_, _, _, _, rfl, fun h2 => absurd h2 h⟩
theorem lastR_form (six : Bool) (hi lo : Nat) (bits : Int) (h1 : U64N hi) (h2 : U64N lo) : ∃ (rs : Bool) (rh rl : Int), lastR six hi lo bits = #[.bool rs, .int .u64 rh, .int .u64 rl] ∧
    (pFault six hi lo bits = 0 → ∀ wx, Calls Tryd.prog 33 #[vP six hi lo bits] wx (Ret (.agg #[.bool rs, .int .u64 rh, .int .u64 rl]) wx)) := by
  unfold lastR
  by_cases h : pFault six hi lo bits = 0
  · rw [if_pos h]
    refine ⟨_, _, _, rfl, fun _ wx => ?_⟩
    obtain ⟨n, rfl, hn⟩ := pFault_nat h
    exact lastOfA_any six hi lo n wx h1 h2 hn
  · rw [if_neg h]
    exact ⟨_, _, _, rfl, fun h2 => absurd h2 h⟩
theorem conR_form (six : Bool) (hi lo : Nat) (bits : Int) (s2 : Bool) (h2 l2 : Nat) (a1 : U64N hi) (a2 : U64N lo) (a3 : U64N h2) (a4 : U64N l2) (h : conF six hi lo bits s2 h2 l2 = 0) (wx : World) :
    Calls Tryd.prog 34 #[vP six hi lo bits, vA s2 h2 l2] wx (Ret (.bool (conR six hi lo bits s2 h2 l2)) wx) := by
  unfold conR
  rw [if_pos h]
  rw [con_two] at h
  obtain ⟨h3, h4⟩ := twoF_zero h
  obtain ⟨n, rfl, hn⟩ := pFault_nat h3
  have := holds_any six hi lo n s2 h2 l2 wx a1 a2 a3 a4 hn
  rw [hold_eq (pFault_pok h3 a1 a2) (aFault_ok h4 a3 a4)] at this
  exact this
theorem insR_form (six : Bool) (hi lo : Nat) (bits : Int) (s2 : Bool) (h2 l2 : Nat) (b2 : Int) (a1 : U64N hi) (a2 : U64N lo) (a3 : U64N h2) (a4 : U64N l2) (h : insF six hi lo bits s2 h2 l2 b2 = 0) (wx : World) :
    Calls Tryd.prog 35 #[vP six hi lo bits, vP s2 h2 l2 b2] wx (Ret (.bool (insR six hi lo bits s2 h2 l2 b2)) wx) := by
  unfold insR
  rw [if_pos h]
  obtain ⟨h3, h4⟩ := twoF_zero h
  obtain ⟨n, rfl, hn⟩ := pFault_nat h3
  obtain ⟨m, rfl, hm⟩ := pFault_nat h4
  have := within_any six hi lo n s2 h2 l2 m wx a1 a2 a3 a4 hn hm
  rw [ins_eq (pFault_pok h3 a1 a2) (pFault_pok h4 a3 a4)] at this
  exact this
theorem comR_form (six : Bool) (hi lo : Nat) (bits : Int) (s2 : Bool) (h2 l2 : Nat) (b2 : Int) (a1 : U64N hi) (a2 : U64N lo) (a3 : U64N h2) (a4 : U64N l2) : ∃ (rs : Bool) (rh rl rb : Int), comR six hi lo bits s2 h2 l2 b2 = #[.bool rs, .int .u64 rh, .int .u64 rl, .int .i64 rb] ∧
    (comF six hi lo bits s2 h2 l2 b2 = 0 → ∀ wx, Calls Tryd.prog 36 #[vP six hi lo bits, vP s2 h2 l2 b2] wx (Ret (.agg #[.bool rs, .int .u64 rh, .int .u64 rl, .int .i64 rb]) wx)) ∧
    (comF six hi lo bits s2 h2 l2 b2 ≠ 0 → rs = false ∧ rh = 0 ∧ rl = 0 ∧ rb = 0) := by
  unfold comR
  by_cases h : comF six hi lo bits s2 h2 l2 b2 = 0
  · rw [if_pos h]
    unfold comC
    refine ⟨_, _, _, _, rfl, fun _ wx => ?_, fun h2 => absurd h h2⟩
    rw [com_two] at h
    obtain ⟨h6, h5⟩ := twoF_zero h
    obtain ⟨h3, h4⟩ := twoF_zero h6
    have hs : six = s2 := by
      by_cases e : six = s2
      · exact e
      · rw [if_pos e] at h5; cases h5
    subst hs
    obtain ⟨n, rfl, hn⟩ := pFault_nat h3
    obtain ⟨m, rfl, hm⟩ := pFault_nat h4
    have := commonOf_any six hi lo n h2 l2 m wx (pFault_pok h3 a1 a2) (pFault_pok h4 a3 a4)
    unfold comC at this
    unfold comN
    rw [Int.toNat_natCast, Int.toNat_natCast]
    exact this
  · rw [if_neg h]
    exact ⟨_, _, _, _, rfl, fun h2 => absurd h2 h, fun _ => ⟨rfl, rfl, rfl, rfl⟩⟩
end Go.Proofs.YtaamonhhclffcaaDoor
