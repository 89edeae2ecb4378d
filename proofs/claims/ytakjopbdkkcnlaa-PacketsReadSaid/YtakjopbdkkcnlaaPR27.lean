/-
  A packet is read by the reference, whatever its bytes.
  A part of a packet is read, whatever its protocol.
-/
import Derived.Test.YtakjopbdkkcnlaaPR23
import Derived.Test.YtakjopbdkkcnlaaPR24
import Derived.Test.YtakjopbdkkcnlaaPR25
import Derived.Test.YtakjopbdkkcnlaaPR26
import Derived.Test.YtakjopbdkkcnlaaPR28
import Derived.Test.YtakjopbdkkcnlaaPR29
import Derived.Test.YtakjopbdkkcnlaaPR30
import Derived.Test.YtakjopbdkkcnlaaPR31
import Derived.Test.YtakjopbdkkcnlaaPR32
import Derived.Test.YtakjopbdkkcnlaaPR34
set_option linter.unusedVariables false
namespace Go.Proofs.Ytakjopbdkkcnlaa
open Go.RowKit Go
set_option linter.unusedVariables false

set_option maxRecDepth 100000 in
set_option maxHeartbeats 4000000 in
theorem packetRead_e (w : World) (L : List UInt8) (v : Value) (hR : Rb w.heap.size w v L) (hL : L.length ≤ 1400) (he : headE L 3 15 4 ≠ 0) :
  Calls Try.prog 30 #[v] w fun e w' => PktR L w e w' := by
 obtain ⟨k, hk⟩ : ∃ k, headE L 3 15 4 = k := ⟨_, rfl⟩
 rw [hk] at he
 have Hk := Lib.hid hk
 have hkz : ¬ ((k : Int) = 0) := by omega
 have HR := Lib.hid hR
 have HRw : Hid (Rb (w.alloc (.cells ZC 45 (0, 0))).heap.size (w.alloc (.cells ZC 45 (0, 0))) v L) := Lib.hid ((hR.below (below_alloc (Below.refl _ _) _)).mono (by simp))
 have HA1 : Hid (PBlk (w.alloc (.cells ZC 45 (0, 0))) w.heap.size PV.zero) := Lib.hid (Blk.new w _ _)
 have HB1 : Hid (Below w.heap.size w (w.alloc (.cells ZC 45 (0, 0)))) := Lib.hid (below_alloc (Below.refl _ _) _)
 clear hR hk
 go_enter Try.func30, Try.ntmps30
 go_wp2_with fail
 generalize w.alloc (.cells ZC 45 (0, 0)) = w1 at *
 have hsz1 := Blk.lt HA1.out
 refine (headRead_any w1 L v HRw.out hL).mono ?_
 rintro e w2 ⟨hB2, ⟨h0, -⟩ | ⟨-, x, hx, rfl⟩⟩
 ·exact absurd h0 (by rw [Hk.out]; exact he)
 rw [Hk.out]
 have hone : x.cells.all (·.oneCell') = true := PV.one _ (by rw [hx]; rfl)
 have Hone := Lib.hid hone
 have HB2 := Lib.hid (HB1.out.trans (hB2.mono (by omega)))
 have HA2 : Hid (PBlk w2 w.heap.size PV.zero) := Lib.hid (Blk.below HA1.out hB2 hsz1)
 have hsz2 := Blk.lt HA2.out
 clear hB2 HA1 HB1 hone hx
 have HPz : Hid (PBlk (w2.alloc (.cells ZC 45 (0, 0))) w2.heap.size PV.zero) := Lib.hid (Blk.new w2 _ _)
 have HAz : Hid (PBlk (w2.alloc (.cells ZC 45 (0, 0))) w.heap.size PV.zero) := Lib.hid (Blk.alloc HA2.out _)
 have HBz : Hid (Below w.heap.size w (w2.alloc (.cells ZC 45 (0, 0)))) := Lib.hid (below_alloc HB2.out _)
 go_upto_region 3 with (refine wpList_store_row rfl 45 (.tmp 4) (.tmp 17) rfl w2.heap.size x.cells rfl rfl 45 PV.zero.cells HPz.out (by kernel_rfl) rfl Hone.out ?_)
 have HA3 : Hid (PBlk ((w2.alloc (.cells ZC 45 (0, 0))).setRow w2.heap.size x.cells) w.heap.size PV.zero) := Lib.hid (Blk.setRow HAz.out (by omega) _)
 have HB3 : Hid (Below w.heap.size w ((w2.alloc (.cells ZC 45 (0, 0))).setRow w2.heap.size x.cells)) := Lib.hid (below_setRow HBz.out (by omega) _)
 clear HPz HAz HBz HA2 HB2
 generalize (w2.alloc (.cells ZC 45 (0, 0))).setRow w2.heap.size x.cells = w3 at *
 go_wp2_with (refine wpList_store_row rfl 45 (.tmp 2) (.tmp 22) rfl w.heap.size PV.zero.cells rfl rfl 45 PV.zero.cells HA3.out (by kernel_rfl) rfl (PV.zero.one rfl) ?_)
 refine bodyPost_ret (v := .tuple #[.agg PV.zero.cells, .int .i64 ((k : Nat) : Int)]) (results_cr2 Try.results30 _ _ w.heap.size 45 PV.zero.cells (0, 0) _ rfl (setRow_heap _ _ _ _ _ _ HA3.out) Try.underlying45 rfl (by kernel_rfl) rfl) rfl ?_
 exact PktR.bad (k := k) (below_setRow HB3.out (Nat.le_refl _) _) (rdE_head Hk.out he) he rfl
theorem packetRead_any (w : World) (L : List UInt8) (v : Value) (hR : Rb w.heap.size w v L) (hL : L.length ≤ 1400) : Calls Try.prog 30 #[v] w fun e w' => PktR L w e w' := by
 by_cases he : headE L 3 15 4 = 0
 ·have hok := head_ok L 3 15 4 (by decide) (by decide) (by decide) he
  obtain ⟨g, o, c, rfl, -⟩ := hR.form (by have := hok.2.2.1; omega)
  by_cases hl : (rdBody L).length < leastN (headX L).proto
  ·rcases hok.1.proto with h | h | h
   ·rw [h] at hl; exact packetRead_S1 w g o c _ L hR hL he h hl
   ·rw [h] at hl; exact packetRead_S6 w g o c _ L hR hL he h hl
   ·rw [h] at hl; exact packetRead_S17 w g o c _ L hR hL he h hl
  ·rcases hok.1.proto with h | h | h
   ·rw [h] at hl
    have h8 : leastN 1 = 8 := rfl
    rw [h8] at hl
    exact packetRead_I w g o c _ L hR hL he h (by omega)
   ·rw [h] at hl
    have h8 : leastN 6 = 20 := rfl
    rw [h8] at hl
    exact packetRead_T w g o c _ L hR hL he h (by omega)
   ·rw [h] at hl
    have h8 : leastN 17 = 8 := rfl
    rw [h8] at hl
    exact packetRead_U w g o c _ L hR hL he h (by omega)
 ·exact packetRead_e w L v hR hL he
end Go.Proofs.Ytakjopbdkkcnlaa

namespace Go.Proofs.Ytakjopbdkkcnlaa
open Go.RowKit Go
set_option linter.unusedVariables false

theorem readPart_any (w : World) (P B g o c nb : Nat) (D : List UInt8) (x : NP) (hx : x.fit) (pv0 : Value) (hS : RS w P B (.slice (some ⟨g, o, none⟩) nb c) D (x.pv pv0) w) (hD : D.length ≤ 1400) :
  Calls Try.prog 72 #[.pointer (some ⟨P, 0, none⟩), .slice (some ⟨g, o, none⟩) nb c] w fun e w' => PartR x D w P B (.slice (some ⟨g, o, none⟩) nb c) e w' := by
 rcases hx.proto with h | h | h
 ·exact readPart_I w P B g o c nb D x hx h pv0 hS hD
 ·exact readPart_T w P B g o c nb D x hx h pv0 hS hD
 ·exact readPart_U w P B g o c nb D x hx h pv0 hS hD
end Go.Proofs.Ytakjopbdkkcnlaa
