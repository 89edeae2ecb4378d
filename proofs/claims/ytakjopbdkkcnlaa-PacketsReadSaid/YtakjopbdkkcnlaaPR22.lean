/-
  The head of a packet, as the reference reads it, whatever the bytes.
  What the reference's reader of packets needs of the others: brought together.
-/
import Derived.Test.YtakjopbdkkcnlaaPR20
import Derived.Test.YtakjopbdkkcnlaaPR21
import Derived.Test.YtakjopbdkkcnlaaPR16
set_option linter.unusedVariables false
namespace Go.Proofs.Ytakjopbdkkcnlaa
open Go.RowKit Go
set_option linter.unusedVariables false


set_option maxRecDepth 100000 in
set_option maxHeartbeats 4000000 in
theorem headRead_s (w : World) (L : List UInt8) (v : Value) (hR : Rb w.heap.size w v L) (h20 : L.length < 20) :
  Calls Try.prog 77 #[v] w fun e w' => HeadR L w e w' := by
 obtain ⟨ad, c, rfl, -⟩ := hR
 have He : Hid (headE L 3 15 4 = 3) := Lib.hid (by unfold headE; rw [if_pos h20])
 generalize L.length = nb at *
 have hz : (nb : Int) < 20 := by omega
 have HP1 : Hid (PBlk ((w.alloc (.cells ZC 45 (0, 0))).alloc (.cells ZC 45 (0, 0))) (w.heap.size + 1) PV.zero) := Lib.hid (by have := Blk.new (w.alloc (.cells ZC 45 (0, 0))) 45 PV.zero.cells; rw [World.size_alloc] at this; exact this)
 have HA1 : Hid (PBlk ((w.alloc (.cells ZC 45 (0, 0))).alloc (.cells ZC 45 (0, 0))) w.heap.size PV.zero) := Lib.hid (Blk.alloc (Blk.new w _ _) _)
 have HB1 : Hid (Below w.heap.size w ((w.alloc (.cells ZC 45 (0, 0))).alloc (.cells ZC 45 (0, 0)))) := Lib.hid (below_alloc (below_alloc (Below.refl _ _) _) _)
 go_enter Try.func77, Try.ntmps77
 go_upto_region 3 with fail
 generalize ((w.alloc (.cells ZC 45 (0, 0))).alloc (.cells ZC 45 (0, 0))) = w1 at *
 go_wp2_with (first | (refine wpList_load_row rfl 45 (.tmp 5) rfl (w.heap.size + 1) rfl 45 PV.zero.cells (0, 0) _ HP1.out Try.underlying45 rfl (by kernel_rfl) ?_) | (refine wpList_store_row rfl 45 (.tmp 2) (.tmp 12) rfl w.heap.size PV.zero.cells rfl rfl 45 PV.zero.cells HA1.out (by kernel_rfl) rfl (PV.one _ rfl) ?_))
 refine bodyPost_ret (v := .tuple #[.agg PV.zero.cells, .int .i64 0, .int .i64 3]) (results_cr3 Try.results77 _ _ w.heap.size 45 PV.zero.cells (0, 0) _ rfl (setRow_heap _ _ _ _ _ _ HA1.out) Try.underlying45 rfl (by kernel_rfl) rfl rfl) rfl ?_
 exact HeadR.bad (k := 3) (below_setRow HB1.out (Nat.le_refl _) _) (He.out) (by decide) PV.zero rfl rfl

set_option maxRecDepth 100000 in
set_option maxHeartbeats 4000000 in
theorem headRead_o (w : World) (g o c nb : Nat) (L : List UInt8) (hR : Rb w.heap.size w (.slice (some ⟨g, o, none⟩) nb c) L) (h20 : 20 ≤ nb) (hL : L.length ≤ 1400) (h69 : ub L 0 ≠ 69) (h96 : ub L 0 ≠ 96) :
  Calls Try.prog 77 #[.slice (some ⟨g, o, none⟩) nb c] w fun e w' => HeadR L w e w' := by
 obtain ⟨hn, hc1, hc2⟩ := hR.len
 have Hn : Hid (L.length = nb) := Lib.hid hn.symm
 rw [hn.symm] at hc1 hL
 have hcn : nb ≤ c := hc1
 have HR := Lib.hid hR
 have He : Hid (headE L 3 15 4 = 4) := Lib.hid (by
  unfold headE
  rw [if_neg (by rw [Hn.out]; omega), if_neg (show ¬ L.getD 0 0 = 69 from h69), if_neg (show ¬ L.getD 0 0 = 96 from h96)])
 have hk1 : ¬ (((ub L 0).toNat : Int) = 69) := fun e => h69 (UInt8.toNat_inj.1 (Int.ofNat.inj e))
 have hk2 : ¬ (((ub L 0).toNat : Int) = 96) := fun e => h96 (UInt8.toNat_inj.1 (Int.ofNat.inj e))
 clear hR hn hc1 h69 h96
 have HP1 : Hid (PBlk ((w.alloc (.cells ZC 45 (0, 0))).alloc (.cells ZC 45 (0, 0))) (w.heap.size + 1) PV.zero) := Lib.hid (by have := Blk.new (w.alloc (.cells ZC 45 (0, 0))) 45 PV.zero.cells; rw [World.size_alloc] at this; exact this)
 have HA1 : Hid (PBlk ((w.alloc (.cells ZC 45 (0, 0))).alloc (.cells ZC 45 (0, 0))) w.heap.size PV.zero) := Lib.hid (Blk.alloc (Blk.new w _ _) _)
 have HB1 : Hid (Below w.heap.size w ((w.alloc (.cells ZC 45 (0, 0))).alloc (.cells ZC 45 (0, 0)))) := Lib.hid (below_alloc (below_alloc (Below.refl _ _) _) _)
 have hnb20 : ¬ ((nb : Int) < 20) := by omega
 go_enter Try.func77, Try.ntmps77
 go_upto_region 4 with fail
 generalize ((w.alloc (.cells ZC 45 (0, 0))).alloc (.cells ZC 45 (0, 0))) = w1 at *
 have HR1 := Lib.hid (HR.out.below HB1.out)
 have cb : w1.cell? ⟨g, o, none⟩ = some (.int .u8 ((ub L 0).toNat : Int)) := HR1.out.get 0 (by have := Hn.out; omega)
 generalize (ub L 0).toNat = k at *
 go_wp2_with (first | (refine wpList_load_row rfl 45 (.tmp 5) rfl (w.heap.size + 1) rfl 45 PV.zero.cells (0, 0) _ HP1.out Try.underlying45 rfl (by kernel_rfl) ?_) | (refine wpList_store_row rfl 45 (.tmp 2) (.tmp 85) rfl w.heap.size PV.zero.cells rfl rfl 45 PV.zero.cells HA1.out (by kernel_rfl) rfl (PV.one _ rfl) ?_))
 refine bodyPost_ret (v := .tuple #[.agg PV.zero.cells, .int .i64 0, .int .i64 4]) (results_cr3 Try.results77 _ _ w.heap.size 45 PV.zero.cells (0, 0) _ rfl (setRow_heap _ _ _ _ _ _ HA1.out) Try.underlying45 rfl (by kernel_rfl) rfl rfl) rfl ?_
 exact HeadR.bad (k := 4) (below_setRow HB1.out (Nat.le_refl _) _) (He.out) (by decide) PV.zero rfl rfl

theorem headRead_any (w : World) (L : List UInt8) (v : Value) (hR : Rb w.heap.size w v L) (hL : L.length ≤ 1400) : Calls Try.prog 77 #[v] w fun e w' => HeadR L w e w' := by
 by_cases h20 : L.length < 20
 ·exact headRead_s w L v hR h20
 ·obtain ⟨g, o, c, rfl, -⟩ := hR.form (by omega)
  by_cases h69 : ub L 0 = 69
  ·exact headRead_4 w g o c _ L hR (by omega) hL h69
  by_cases h96 : ub L 0 = 96
  ·exact headRead_6 w g o c _ L hR (by omega) hL h96
  ·exact headRead_o w g o c _ L hR (by omega) hL h69 h96
end Go.Proofs.Ytakjopbdkkcnlaa

namespace Go.Proofs.Ytakjopbdkkcnlaa
open Go.RowKit Go
end Go.Proofs.Ytakjopbdkkcnlaa
