/-
  Packets: the small functions of both sides: the protocol's number, flags, kinds, places of sums.
-/
import Derived.Test.YtakjopbdkkcnlaaPR3
set_option linter.unusedVariables false
namespace Go.Proofs.Ytakjopbdkkcnlaa
open Go.RowKit Go
set_option linter.unusedVariables false

set_option maxRecDepth 100000 in
set_option maxHeartbeats 1000000 in
theorem wire_any (x : NP) (v : Value) (w : World) (hx : x.fit) : Calls Try.prog 95 #[.agg (x.pv v).cells] w (Ret (.int .i64 ((codeN x : Nat) : Int)) w) := by
 obtain ⟨s1, h1, l1, s2, h2, l2, hops, proto, fp, tp, syn, fin, rst, has, seq, ack, reply, id⟩ := x
 have hp := hx.proto
 clear hx
 simp only [NP.pv, PV.cells, codeN] at hp ⊢
 rcases hp with rfl | rfl | rfl <;> cases s1
 all_goals
  go_enter Try.func95, Try.ntmps95
  go_wp2
  go_ret
  exact ⟨rfl, by repeat (first | exact Below.refl _ _ | apply below_alloc | apply below_drewN)⟩
set_option maxRecDepth 100000 in
set_option maxHeartbeats 1000000 in
theorem sumAt_any (p : Nat) (w : World) (hp : p = 1 ∨ p = 6 ∨ p = 17) : Calls Try.prog 73 #[.int .i64 (p : Int)] w (Ret (.int .i64 ((sumAtN p : Nat) : Int)) w) := by
 rcases hp with rfl | rfl | rfl
 all_goals
  go_enter Try.func73, Try.ntmps73
  go_wp2
  go_ret
  exact ⟨rfl, by repeat (first | exact Below.refl _ _ | apply below_alloc | apply below_drewN)⟩
set_option maxRecDepth 100000 in
set_option maxHeartbeats 1000000 in
theorem kindOf_any (x : NP) (v : Value) (w : World) : Calls Try.prog 103 #[.agg (x.pv v).cells] w (Ret (encB (b8 (kindN x))) w) := by
 obtain ⟨s1, h1, l1, s2, h2, l2, hops, proto, fp, tp, syn, fin, rst, has, seq, ack, reply, id⟩ := x
 simp only [NP.pv, PV.cells, kindN]
 cases s1 <;> cases reply
 all_goals
  go_enter Try.func103, Try.ntmps103
  go_wp2
  go_ret
  exact ⟨rfl, by repeat (first | exact Below.refl _ _ | apply below_alloc | apply below_drewN)⟩
set_option maxRecDepth 100000 in
set_option maxHeartbeats 4000000 in
theorem flags_any (x : NP) (v : Value) (w : World) : Calls Try.prog 102 #[.agg (x.pv v).cells] w (Ret (encB (b8 (flagN x))) w) := by
 obtain ⟨s1, h1, l1, s2, h2, l2, hops, proto, fp, tp, syn, fin, rst, has, seq, ack, reply, id⟩ := x
 simp only [NP.pv, PV.cells, flagN]
 cases fin <;> cases syn <;> cases rst <;> cases has
 all_goals
  go_enter Try.func102, Try.ntmps102
  go_wp2
  refine wp_loop_rounds 7 ?_
  rw [rounds_succ]
  go_wp2_with (rw [rounds_succ])
  go_ret
  refine ⟨?_, by repeat (first | exact Below.refl _ _ | apply below_alloc | apply below_drewN)⟩
  simp_all
  rfl
set_option maxRecDepth 100000 in
set_option maxHeartbeats 1000000 in
theorem qcode_any (x : NP) (v : Value) (w : World) (hx : x.fit) : Calls Try.prog 67 #[.agg (x.pv v).cells] w (Ret (.int .i64 ((codeN x : Nat) : Int)) w) := by
 obtain ⟨s1, h1, l1, s2, h2, l2, hops, proto, fp, tp, syn, fin, rst, has, seq, ack, reply, id⟩ := x
 have hp := hx.proto
 clear hx
 simp only [NP.pv, PV.cells, codeN] at hp ⊢
 rcases hp with rfl | rfl | rfl <;> cases s1
 all_goals
  go_enter Try.func67, Try.ntmps67
  go_wp2
  go_ret
  exact ⟨rfl, by repeat (first | exact Below.refl _ _ | apply below_alloc | apply below_drewN)⟩
theorem bit_any (c : Bool) (n : Int) (w : World) : Calls Try.prog 98 #[.bool c, .int .u8 n] w (Ret (.int .u8 (if c = true then n else 0)) w) := by
 cases c
 all_goals
  go_enter Try.func98, Try.ntmps98
  go_wp2
  go_ret
  exact ⟨rfl, by repeat (first | exact Below.refl _ _ | apply below_alloc | apply below_drewN)⟩
end Go.Proofs.Ytakjopbdkkcnlaa
