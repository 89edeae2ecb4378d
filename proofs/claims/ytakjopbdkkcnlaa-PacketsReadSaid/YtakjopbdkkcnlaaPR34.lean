/-
  Packets: CheckPacket and the reference's PacketFault are the same function of the packet.
-/
import Derived.Test.YtakjopbdkkcnlaaPR3
import Derived.Test.YtakjopbdkkcnlaaPR33
import Derived.BigQuiet
set_option linter.unusedVariables false
namespace Go.Proofs.Ytakjopbdkkcnlaa
open Go.RowKit Go
set_option linter.unusedVariables false

def unusedB (x : PV) : Bool :=
 (x.proto == 1 && (x.fp != 0 || x.tp != 0)) || (x.proto != 6 && (x.syn || x.fin || x.rst || x.has || x.ack != 0)) || (x.proto != 6 && x.proto != 1 && x.seq != 0) || (x.proto != 1 && (x.reply || x.id != 0))
set_option maxRecDepth 100000 in
set_option maxHeartbeats 4000000 in
theorem unused_any (x : PV) (w : World) : Calls Try.prog 63 #[.agg x.cells] w (Ret (.bool (unusedB x)) w) := by
 have HP : Hid (PBlk (w.alloc (.cells x.cells 45 (0, 0))) w.heap.size x) := Lib.hid (Blk.new w _ _)
 have HB : Hid (Below w.heap.size w (w.alloc (.cells x.cells 45 (0, 0)))) := Lib.hid (below_alloc (Below.refl _ _) _)
 go_enter Try.func63, Try.ntmps63
 go_upto_region 1 with fail
 generalize w.alloc (.cells x.cells 45 (0, 0)) = w1 at *
 generalize hP0 : w.heap.size = P0 at *
 have HP0 := Lib.hid hP0
 clear hP0
 obtain ⟨-, -, -, -, -, -, -, c7, c8, c9, c10, c11, c12, c13, c14, c15, c16, c17, -, f0⟩ := PBlk.cells HP.out
 clear HP
 have hproto : x.proto = 1 ∨ x.proto = 6 ∨ ((x.proto == 1) = false ∧ (x.proto == 6) = false) := by
  by_cases h1 : x.proto = 1
  ·exact .inl h1
  ·by_cases h6 : x.proto = 6
   ·exact .inr (.inl h6)
   ·exact .inr (.inr ⟨by simpa using h1, by simpa using h6⟩)
 have hU := Lib.hid (show unusedB x = ((x.proto == 1 && (x.fp != 0 || x.tp != 0)) || (x.proto != 6 && (x.syn || x.fin || x.rst || x.has || x.ack != 0)) || (x.proto != 6 && x.proto != 1 && x.seq != 0) || (x.proto != 1 && (x.reply || x.id != 0))) from rfl)
 generalize x.proto = proto at *
 generalize x.fp = fp at *
 generalize x.tp = tp at *
 generalize x.syn = syn at *
 generalize x.fin = fin at *
 generalize x.rst = rst at *
 generalize x.has = has at *
 generalize x.seq = seq at *
 generalize x.ack = ack at *
 generalize x.reply = reply at *
 generalize x.id = id at *
 rcases hproto with rfl | rfl | ⟨h1, h6⟩
 all_goals
  go_quiet (fail)
  go_wp2_with fail
 all_goals (go_ret; refine ⟨?_, by (have hP0 := HP0.out; subst hP0; repeat (first | exact HB.out | apply below_drewN))⟩; refine congrArg (fun b => Ending.returned (Value.bool b)) ?_; rw [hU.out]; clear hU; first | (simp_all; done) | (rw [Bool.eq_iff_iff]; simp_all; done))
theorem fhasPorts_any (p : Int) (w : World) : Calls Try.prog 97 #[.int .i64 p] w fun e w' => e = .returned (.bool (hasPorts p)) ∧ w = w' := by
 go_enter Try.func97, Try.ntmps97
 go_wp2
 all_goals (go_ret; exact ⟨by simp_all [hasPorts], rfl⟩)
theorem isKnown_any (p : Int) (w : World) : Calls Try.prog 62 #[.int .i64 p] w fun e w' => e = .returned (.bool (p == 1 || hasPorts p)) ∧ w = w' := by
 go_enter Try.func62, Try.ntmps62
 go_wp2_with (go_at_call 97; refine (fhasPorts_any _ _).mono ?_; rintro e w' ⟨rfl, rfl⟩)
 all_goals (go_ret; refine ⟨?_, rfl⟩; simp_all)

theorem gen_world {P : Program} {c : Code} {Q : Exit → Act → World → Prop} {a : Act} {w : World} (R : World → Prop) (hw : R w) (h : ∀ w', R w' → c.wp P Q a w') : c.wp P Q a w := h w hw

def pktFault (x : PV) (n : Nat) : Int :=
 if aFault x.s1 x.h1 x.l1 ≠ 0 then aFault x.s1 x.h1 x.l1
 else if aFault x.s2 x.h2 x.l2 ≠ 0 then aFault x.s2 x.h2 x.l2
 else if x.s1 ≠ x.s2 then 10
 else if outB x.hops 0 255 = true then 1
 else if (x.proto == 1 || hasPorts x.proto) = false then 4
 else if outB x.fp 0 65535 = true ∨ outB x.tp 0 65535 = true then 1
 else if outB x.seq 0 4294967295 = true ∨ outB x.ack 0 4294967295 = true ∨ outB x.id 0 65535 = true ∨ (x.proto = 1 ∧ 65535 < x.seq) then 1
 else if unusedB x = true ∨ (x.ack ≠ 0 ∧ x.has = false) then 3
 else if 1400 < n then 2 else 0

end Go.Proofs.Ytakjopbdkkcnlaa
