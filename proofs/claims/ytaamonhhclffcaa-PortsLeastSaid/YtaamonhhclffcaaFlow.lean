/-
  Flows: view.FlowFault and the reference's FlowFault are the same function; Back and BackOf.
-/
import Derived.Test.YtaamonhhclffcaaPure
namespace Go.Proofs.Ytaamonhhclffcaa
open Go.RowKit
set_option linter.unusedVariables false

def badPort (p n : Int) : Bool := outB n 0 65535 || (n != 0 && !hasPorts p)
theorem badPort_yes {p n : Int} (h : hasPorts p = true) : badPort p n = outB n 0 65535 := by simp [badPort, h]
theorem badPort_no {p n : Int} (h : hasPorts p = false) : badPort p n = outB n 0 0 := by
  simp only [badPort, h, outB, Bool.not_false, Bool.and_true]
  rw [Bool.eq_iff_iff]
  simp
  omega
def flowFault (f : FV) : Int :=
  if outB f.p 1 255 = true then 1
  else if aFault f.s1 f.h1 f.l1 ≠ 0 then aFault f.s1 f.h1 f.l1
  else if aFault f.s2 f.h2 f.l2 ≠ 0 then aFault f.s2 f.h2 f.l2
  else if f.s1 ≠ f.s2 then 10
  else if badPort f.p f.fp = true ∨ badPort f.p f.tp = true then 1 else 0

theorem idxA0 (s1 : Bool) (h1 l1 : Int) (s2 : Bool) (h2 l2 : Int) (w : World) : (Instr.index 85 (.agg #[.bool s1, .int .u64 h1, .int .u64 l1, .bool s2, .int .u64 h2, .int .u64 l2]) (.int .i64 0)).run Try.prog w = .ok (.agg #[.bool s1, .int .u64 h1, .int .u64 l1]) w := by kernel_rfl
theorem idxA1 (s1 : Bool) (h1 l1 : Int) (s2 : Bool) (h2 l2 : Int) (w : World) : (Instr.index 85 (.agg #[.bool s1, .int .u64 h1, .int .u64 l1, .bool s2, .int .u64 h2, .int .u64 l2]) (.int .i64 1)).run Try.prog w = .ok (.agg #[.bool s2, .int .u64 h2, .int .u64 l2]) w := by kernel_rfl
theorem idxI0 (x y : Int) (w : World) : (Instr.index 109 (.agg #[.int .i64 x, .int .i64 y]) (.int .i64 0)).run Try.prog w = .ok (.int .i64 x) w := by kernel_rfl
theorem idxI1 (x y : Int) (w : World) : (Instr.index 109 (.agg #[.int .i64 x, .int .i64 y]) (.int .i64 1)).run Try.prog w = .ok (.int .i64 y) w := by kernel_rfl

set_option maxRecDepth 100000 in
set_option maxHeartbeats 1000000 in
theorem vFlowFault_any (f : FV) (w : World) (h : f.ok) : Calls Try.prog 51 #[.agg f.cells] w (Ret (.int .i64 (flowFault f)) w) := by
  obtain ⟨p, s1, h1, l1, s2, h2, l2, fp, tp⟩ := f
  obtain ⟨hp, b1, b2, b3, b4, hf, ht⟩ := h
  simp only [FV.cells]
  have i0 := idxA0
  have i1 := idxA1
  have j0 := idxI0
  have j1 := idxI1
  have HB := Lib.hid (And.intro b1 (And.intro b2 (And.intro b3 b4)))
  clear b1 b2 b3 b4
  go_enter Try.func51, Try.ntmps51
  go_wp2_with (go_at_call 55; refine (outside_any _ _ _ _).mono ?_; rintro e w' ⟨rfl, rfl⟩)
  · go_ret
    exact ⟨by simp [flowFault, *], (Below.refl _ _).alloc (Nat.le_refl _) _⟩
  · refine wp_loop_rounds 3 ?_
    rw [rounds_succ]
    go_wp2_with (first | rw [rounds_succ] | (go_at_call 61; refine (checkAddr_any _ _ _ _ (by first | exact HB.out.1 | exact HB.out.2.2.1) (by first | exact HB.out.2.1 | exact HB.out.2.2.2)).mono ?_; rintro e w' ⟨rfl, o, rfl⟩))
    · go_ret; exact ⟨by simp_all [flowFault], by repeat (first | exact Below.refl _ _ | apply below_alloc | apply below_drewN)⟩
    · go_ret; exact ⟨by simp_all [flowFault], by repeat (first | exact Below.refl _ _ | apply below_alloc | apply below_drewN)⟩
    · go_ret; exact ⟨by simp_all [flowFault], by repeat (first | exact Below.refl _ _ | apply below_alloc | apply below_drewN)⟩
    · refine wp_loop_rounds 3 ?_
      rw [rounds_succ]
      go_wp2_with (first | rw [rounds_succ] | (go_at_call 55; refine (outside_any _ _ _ _).mono ?_; rintro e w' ⟨rfl, rfl⟩) | (go_at_call 93; refine (hasPorts_any _ _).mono ?_; rintro e w' ⟨rfl, rfl⟩))
      all_goals (go_ret; refine ⟨?_, by repeat (first | exact Below.refl _ _ | apply below_alloc | apply below_drewN)⟩)
      all_goals (clear i0 i1 j0 j1; simp_all [flowFault, badPort])
set_option maxRecDepth 100000 in
set_option maxHeartbeats 1000000 in
theorem qFlowFault_any (f : FV) (w : World) (h : f.ok) : Calls Try.prog 11 #[.agg f.cells] w (Ret (.int .i64 (flowFault f)) w) := by
  obtain ⟨p, s1, h1, l1, s2, h2, l2, fp, tp⟩ := f
  obtain ⟨hp, b1, b2, b3, b4, hf, ht⟩ := h
  simp only [FV.cells]
  have HB := Lib.hid (And.intro b1 (And.intro b2 (And.intro b3 b4)))
  clear b1 b2 b3 b4
  go_enter Try.func11, Try.ntmps11
  go_wp2_with (go_at_call 53; refine (in_any _ _ _ _).mono ?_; rintro e w' ⟨rfl, rfl⟩)
  · go_ret
    exact ⟨by simp_all [flowFault, inB_out], by repeat (first | exact Below.refl _ _ | apply below_alloc | apply below_drewN)⟩
  · refine wp_loop_rounds 3 ?_
    rw [rounds_succ]
    go_wp2_with (first | rw [rounds_succ] | (go_at_call 54; refine (addrFault_any _ _ _ _ (by first | exact HB.out.1 | exact HB.out.2.2.1) (by first | exact HB.out.2.1 | exact HB.out.2.2.2)).mono ?_; rintro e w' ⟨rfl, o, rfl⟩) | (go_at_call 53; refine (in_any _ _ _ _).mono ?_; rintro e w' ⟨rfl, rfl⟩))
    all_goals (go_ret; refine ⟨?_, by repeat (first | exact Below.refl _ _ | apply below_alloc | apply below_drewN)⟩)
    all_goals clear HB
    all_goals by_cases hP : hasPorts p = true
    all_goals first
      | (have hb := fun n => badPort_yes (n := n) hP; simp_all [flowFault, inB_out, hasPorts]; done)
      | (have hb := fun n => badPort_no (n := n) (Bool.eq_false_iff.2 hP); simp_all [flowFault, inB_out, hasPorts]; done)
end Go.Proofs.Ytaamonhhclffcaa
