/-
  Packets: CheckPacket.
-/
import Derived.Test.YthebgfnaomgcnaaGreatFT9
import Derived.BigQuiet
set_option linter.unusedVariables false
set_option maxRecDepth 100000
set_option maxHeartbeats 4000000
namespace Go.Proofs.YthebgfnaomgcnaaGreat
open Go.RowKit Go
theorem checkPacket_any (x : PV) (pa : Option Addr) (n pc : Nat) (w : World) (hx : x.ok) (hp : x.pay = .slice pa n pc) : Calls Tryz.prog 43 #[.agg x.cells] w (Ret (.int .i64 (pktFault x n)) w) := by
 have HP : Hid (PBlk (w.alloc (.cells x.cells 52 (0,0))) w.heap.size x) := Lib.hid (Blk.new w _ _)
 have HB : Hid (Below w.heap.size w (w.alloc (.cells x.cells 52 (0,0)))) := Lib.hid (below_alloc (Below.refl _ _) _)
 have HU := Lib.hid hx
 have hlt : w.heap.size < (w.alloc (.cells x.cells 52 (0,0))).heap.size := by simp
 have i0 := idxA0
 have i1 := idxA1
 clear hx
 go_enter Tryz.func43,Tryz.ntmps43
 go_upto_region 1 with fail
 generalize w.alloc (.cells x.cells 52 (0,0)) = w1 at *
 generalize hP0 : w.heap.size = P0 at *
 have HP0 := Lib.hid hP0
 clear hP0
 obtain ⟨c0,c1,c2,c3,c4,c5,c6,c7,c8,c9,c10,c11,c12,c13,c14,c15,c16,c17,c18,f0⟩ := PBlk.cells HP.out
 rw [hp] at c18
 go_wp2_with fail
 refine wp_loop_rounds 3 ?_
 rw [rounds_succ]
 go_upto_region 8 with (first | rw [rounds_succ] | (go_at_call 80;refine (checkAddr_any _ _ _ _ (by first | exact HU.out.1 | exact HU.out.2.2.1) (by first | exact HU.out.2.1 | exact HU.out.2.2.2.1)).mono ?_;rintro e w' ⟨rfl,o,rfl⟩))
 ·go_wp2_with fail
  have hP0 := HP0.out
  subst hP0
  go_ret
  refine ⟨by simp_all [pktFault],HB.out.trans (Below.mono (by repeat (first | exact Below.refl _ _ | apply below_alloc)) (by omega))⟩
 ·go_wp2_with fail
  have hP0 := HP0.out
  subst hP0
  go_ret
  refine ⟨by simp_all [pktFault],HB.out.trans (Below.mono (by repeat (first | exact Below.refl _ _ | apply below_alloc)) (by omega))⟩
 ·refine gen_world (fun wx => Below w1.heap.size w1 wx) (by repeat (first | exact Below.refl _ _ | apply below_alloc)) ?_
  intro wx hbx
  clear c0 c1 c2 c3 c4 c5 c6 c7 c8 c9 c10 c11 c12 c13 c14 c15 c16 c17 c18 f0 i0 i1
  have HPx := Lib.hid (Blk.below HP.out hbx hlt)
  have HBx := Lib.hid (HB.out.trans (hbx.mono (Nat.le_of_lt hlt)))
  have hlx : P0 < wx.heap.size := Nat.lt_of_lt_of_le hlt hbx.size
  clear hbx
  obtain ⟨c0,c1,c2,c3,c4,c5,c6,c7,c8,c9,c10,c11,c12,c13,c14,c15,c16,c17,c18,f0⟩ := PBlk.cells HPx.out
  rw [hp] at c18
  have Hproto : x.proto = 1 ∨ x.proto = 6 ∨ x.proto = 17 ∨ ((x.proto == 1) = false ∧ hasPorts x.proto = false) := by
   by_cases h1 : x.proto = 1
   ·exact .inl h1
   ·by_cases h6 : x.proto = 6
    ·exact .inr (.inl h6)
    ·by_cases h17 : x.proto = 17
     ·exact .inr (.inr (.inl h17))
     ·exact .inr (.inr (.inr ⟨by simpa using h1,by simp [hasPorts,h6,h17]⟩))
  rcases Hproto with h | h | h | ⟨h,h'⟩
  all_goals
   try rw [h] at c7
   go_upto_region 19 with (first | (go_at_call 30;refine (outside_any _ _ _ _).mono ?_;rintro e w' ⟨rfl,rfl⟩) | (go_at_call 81;refine (isKnown_any _ _).mono ?_;rintro e w' ⟨rfl,rfl⟩))
  all_goals first
   | (go_wp2_with fail
      have hP0 := HP0.out
      subst hP0
      go_ret
      refine ⟨?_,by first | exact HBx.out | exact HBx.out.drewN _⟩
      simp_all [pktFault,hasPorts]
      done)
   | skip
  all_goals
   go_wp2_with (refine wpList_load_row rfl 52 (.tmp 1) rfl P0 rfl 52 x.cells (0,0) _ HPx.out Tryz.underlying52 rfl (by kernel_rfl) ?_)
   refine (unused_any x _).mono ?_
   rintro e w2 ⟨rfl,hb⟩
   have HP2 := Blk.below HPx.out hb hlx
   have HB2 := Lib.hid (HBx.out.trans (hb.mono (Nat.le_of_lt hlx)))
   clear hb c0 c1 c2 c3 c4 c5 c6 c7 c8 c9 c10 c11 c12 c13 c14 c15 c16 c17 c18 f0 HPx HBx HP HB
   obtain ⟨-, -, -, -, -, -, -, -, -, -, -, -, -,c13, -,c15, -, -,c18,f0⟩ := PBlk.cells HP2
   rw [hp] at c18
   clear HP2
   go_wp2_with fail
  all_goals
   have hP0 := HP0.out
   subst hP0
   go_ret
   refine ⟨?_,by first | exact HB2.out | exact HB2.out.drewN _⟩
   simp_all [pktFault,hasPorts] <;> first | omega | ((repeat' split) <;> omega)
end Go.Proofs.YthebgfnaomgcnaaGreat
