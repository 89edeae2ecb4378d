/-
  A packet whose part is too short, read by the reference.
-/
import Derived.Test.YtakjopbdkkcnlaaPR22
set_option linter.unusedVariables false
namespace Go.Proofs.Ytakjopbdkkcnlaa
open Go.RowKit Go
set_option linter.unusedVariables false


set_option maxRecDepth 100000 in
set_option maxHeartbeats 16000000 in
theorem packetRead_S6 (w : World) (g o c nb : Nat) (L : List UInt8) (hR : Rb w.heap.size w (.slice (some ⟨g, o, none⟩) nb c) L) (hL : L.length ≤ 1400) (he : headE L 3 15 4 = 0) (hp : (headX L).proto = 6) (hnd : (rdBody L).length < 20) :
  Calls Try.prog 30 #[.slice (some ⟨g, o, none⟩) nb c] w fun e w' => PktR L w e w' := by
 obtain ⟨hn, hc1, hc2⟩ := hR.len
 have Hn : Hid (L.length = nb) := Lib.hid hn.symm
 rw [hn.symm] at hc1 hL
 have hcn : nb ≤ c := hc1
 have HR := Lib.hid hR
 have hok := head_ok L 3 15 4 (by decide) (by decide) (by decide) he
 have hat : headAt L ≤ nb := by rw [← Hn.out]; exact hok.2.1
 have hat2 : headAt L ≤ 40 := by unfold headAt; split <;> omega
 have hxf := hok.1
 have He := Lib.hid he
 clear hR hn hc1 hok he
 have HA1 : Hid (PBlk (w.alloc (.cells ZC 45 (0, 0))) w.heap.size PV.zero) := Lib.hid (Blk.new w _ _)
 have HB1 : Hid (Below w.heap.size w (w.alloc (.cells ZC 45 (0, 0)))) := Lib.hid (below_alloc (Below.refl _ _) _)
 go_enter Try.func30, Try.ntmps30
 go_wp2_with fail
 generalize w.alloc (.cells ZC 45 (0, 0)) = w1 at *
 have hsz1 := Blk.lt HA1.out
 refine (headRead_any w1 L _ ((HR.out.below HB1.out).mono (by omega)) (by rw [Hn.out]; omega)).mono ?_
 rintro e w2 ⟨hB2, ⟨-, rfl⟩ | ⟨h0, -⟩⟩
 rotate_left
 ·exact absurd He.out h0
 obtain ⟨x, hx⟩ : ∃ x, headX L = x := ⟨_, rfl⟩
 obtain ⟨D, hD⟩ : ∃ D, rdBody L = D := ⟨_, rfl⟩
 obtain ⟨at', ha⟩ : ∃ a, headAt L = a := ⟨_, rfl⟩
 rw [hx] at hp hxf
 rw [hD] at hnd
 rw [hx, ha]
 rw [ha] at hat hat2
 have HX := Lib.hid hx
 have HDd : Hid (D = L.drop at') := Lib.hid (by rw [← hD, ← ha]; rfl)
 have HD := Lib.hid hD
 have HB2 := Lib.hid (HB1.out.trans (hB2.mono (by omega)))
 have HA2 : Hid (PBlk w2 w.heap.size PV.zero) := Lib.hid (Blk.below HA1.out hB2 hsz1)
 have hsz2 := Blk.lt HA2.out
 clear hB2 hx hD ha HA1 HB1
 have HPz : Hid (PBlk (w2.alloc (.cells ZC 45 (0, 0))) w2.heap.size PV.zero) := Lib.hid (Blk.new w2 _ _)
 have HAz : Hid (PBlk (w2.alloc (.cells ZC 45 (0, 0))) w.heap.size PV.zero) := Lib.hid (Blk.alloc HA2.out _)
 have HBz : Hid (Below w.heap.size w (w2.alloc (.cells ZC 45 (0, 0)))) := Lib.hid (below_alloc HB2.out _)
 have hone : (x.pv (.slice none 0 0)).cells.all (·.oneCell') = true := PV.one _ rfl
 go_upto_region 4 with (refine wpList_store_row rfl 45 (.tmp 4) (.tmp 17) rfl w2.heap.size (x.pv (.slice none 0 0)).cells rfl rfl 45 PV.zero.cells HPz.out (by kernel_rfl) rfl hone ?_)
 have HP3 : Hid (PBlk ((w2.alloc (.cells ZC 45 (0, 0))).setRow w2.heap.size (x.pv (.slice none 0 0)).cells) w2.heap.size (x.pv (.slice none 0 0))) := Lib.hid (PBlk.store HPz.out (x.pv (.slice none 0 0)))
 have HA3 : Hid (PBlk ((w2.alloc (.cells ZC 45 (0, 0))).setRow w2.heap.size (x.pv (.slice none 0 0)).cells) w.heap.size PV.zero) := Lib.hid (Blk.setRow HAz.out (by omega) _)
 have HB3 : Hid (Below w.heap.size w ((w2.alloc (.cells ZC 45 (0, 0))).setRow w2.heap.size (x.pv (.slice none 0 0)).cells)) := Lib.hid (below_setRow HBz.out (by omega) _)
 clear HPz HAz HBz HA2 HB2 hone
 generalize (w2.alloc (.cells ZC 45 (0, 0))).setRow w2.heap.size (x.pv (.slice none 0 0)).cells = w3 at *
 have hsz3 := Blk.lt HP3.out
 generalize hPw : w2.heap.size = P at *
 have HR3 := Lib.hid (HR.out.below HB3.out)
 obtain ⟨o2, ho2⟩ := subV_go g o c at' nb
 have hrd := HR3.out.sub at' (nb - at') (by rw [Hn.out]; omega)
 rw [show at' + (nb - at') = nb by omega, ho2, show sb L at' (nb - at') = D by rw [HDd.out, ← Hn.out]; exact sb_all L at'] at hrd
 go_upto_region 5 with (refine wpList_op1 rfl (Op1.slice_l (l := at') (.tmp 24) (.tmp 25) rfl rfl rfl (by omega) ?_))
 have hcd : nb - at' ≤ c - at' := by omega
 have hnd2 : nb - at' ≤ 1400 := by omega
 have hDl : D.length = nb - at' := by rw [HDd.out, List.length_drop, Hn.out]
 rw [hDl] at hnd
 have Hd0 := Lib.hid hDl
 clear hDl ho2
 generalize nb - at' = nd at *
 generalize c - at' = cd at *
 have Hd : Hid (D.length = nd) := Hd0
 have HS3 : Hid (RS w3 P w.heap.size (.slice (some ⟨g, o2, none⟩) nd cd) D (x.pv (.slice none 0 0)) w3) := Lib.hid ⟨World.grownBy.refl _ _, HP3.out, hrd, by omega, by omega⟩
 clear hrd HP3 Hd0
 have hndz : ((nd : Int) < 20) := by omega
 have Hnd := Lib.hid hnd
 clear hnd
 have c7 : w3.cell? ⟨P, 7, none⟩ = some (.int .i64 6) := by
  obtain ⟨-, -, -, -, -, -, -, c7, -⟩ := PBlk.cells HS3.out.p
  refine c7.trans (congrArg (fun z => some (Value.int .i64 z)) ?_)
  show ((x.proto : Nat) : Int) = 6
  rw [hp]; rfl
 have Hsh : Hid (¬ prtOk x D) := Lib.hid fun h => by
  have h1 := h.1
  rw [hp, Hd.out, show leastN 6 = 20 from rfl] at h1
  have := Hnd.out
  omega
 have HAr := Lib.hid (grown_blk HS3.out.g HA3.out (by omega))
 go_wp2_with (refine wpList_store_row rfl 45 (.tmp 2) (.tmp 34) rfl w.heap.size PV.zero.cells rfl rfl 45 PV.zero.cells HAr.out (by kernel_rfl) rfl (PV.zero.one rfl) ?_)
 refine bodyPost_ret (v := .tuple #[.agg PV.zero.cells, .int .i64 3]) (results_cr2 Try.results30 _ _ w.heap.size 45 PV.zero.cells (0, 0) _ rfl (setRow_heap _ _ _ _ _ _ HAr.out) Try.underlying45 rfl (by kernel_rfl) rfl) rfl ?_
 exact PktR.bad (k := 3) (below_setRow (grown_to_below HB3.out HS3.out.g (by omega) (by omega)) (Nat.le_refl _) _) (rdE_part He.out (by rw [HX.out, HD.out]; exact Hsh.out)) (by decide) rfl

set_option maxRecDepth 100000 in
set_option maxHeartbeats 16000000 in
theorem packetRead_S17 (w : World) (g o c nb : Nat) (L : List UInt8) (hR : Rb w.heap.size w (.slice (some ⟨g, o, none⟩) nb c) L) (hL : L.length ≤ 1400) (he : headE L 3 15 4 = 0) (hp : (headX L).proto = 17) (hnd : (rdBody L).length < 8) :
  Calls Try.prog 30 #[.slice (some ⟨g, o, none⟩) nb c] w fun e w' => PktR L w e w' := by
 obtain ⟨hn, hc1, hc2⟩ := hR.len
 have Hn : Hid (L.length = nb) := Lib.hid hn.symm
 rw [hn.symm] at hc1 hL
 have hcn : nb ≤ c := hc1
 have HR := Lib.hid hR
 have hok := head_ok L 3 15 4 (by decide) (by decide) (by decide) he
 have hat : headAt L ≤ nb := by rw [← Hn.out]; exact hok.2.1
 have hat2 : headAt L ≤ 40 := by unfold headAt; split <;> omega
 have hxf := hok.1
 have He := Lib.hid he
 clear hR hn hc1 hok he
 have HA1 : Hid (PBlk (w.alloc (.cells ZC 45 (0, 0))) w.heap.size PV.zero) := Lib.hid (Blk.new w _ _)
 have HB1 : Hid (Below w.heap.size w (w.alloc (.cells ZC 45 (0, 0)))) := Lib.hid (below_alloc (Below.refl _ _) _)
 go_enter Try.func30, Try.ntmps30
 go_wp2_with fail
 generalize w.alloc (.cells ZC 45 (0, 0)) = w1 at *
 have hsz1 := Blk.lt HA1.out
 refine (headRead_any w1 L _ ((HR.out.below HB1.out).mono (by omega)) (by rw [Hn.out]; omega)).mono ?_
 rintro e w2 ⟨hB2, ⟨-, rfl⟩ | ⟨h0, -⟩⟩
 rotate_left
 ·exact absurd He.out h0
 obtain ⟨x, hx⟩ : ∃ x, headX L = x := ⟨_, rfl⟩
 obtain ⟨D, hD⟩ : ∃ D, rdBody L = D := ⟨_, rfl⟩
 obtain ⟨at', ha⟩ : ∃ a, headAt L = a := ⟨_, rfl⟩
 rw [hx] at hp hxf
 rw [hD] at hnd
 rw [hx, ha]
 rw [ha] at hat hat2
 have HX := Lib.hid hx
 have HDd : Hid (D = L.drop at') := Lib.hid (by rw [← hD, ← ha]; rfl)
 have HD := Lib.hid hD
 have HB2 := Lib.hid (HB1.out.trans (hB2.mono (by omega)))
 have HA2 : Hid (PBlk w2 w.heap.size PV.zero) := Lib.hid (Blk.below HA1.out hB2 hsz1)
 have hsz2 := Blk.lt HA2.out
 clear hB2 hx hD ha HA1 HB1
 have HPz : Hid (PBlk (w2.alloc (.cells ZC 45 (0, 0))) w2.heap.size PV.zero) := Lib.hid (Blk.new w2 _ _)
 have HAz : Hid (PBlk (w2.alloc (.cells ZC 45 (0, 0))) w.heap.size PV.zero) := Lib.hid (Blk.alloc HA2.out _)
 have HBz : Hid (Below w.heap.size w (w2.alloc (.cells ZC 45 (0, 0)))) := Lib.hid (below_alloc HB2.out _)
 have hone : (x.pv (.slice none 0 0)).cells.all (·.oneCell') = true := PV.one _ rfl
 go_upto_region 4 with (refine wpList_store_row rfl 45 (.tmp 4) (.tmp 17) rfl w2.heap.size (x.pv (.slice none 0 0)).cells rfl rfl 45 PV.zero.cells HPz.out (by kernel_rfl) rfl hone ?_)
 have HP3 : Hid (PBlk ((w2.alloc (.cells ZC 45 (0, 0))).setRow w2.heap.size (x.pv (.slice none 0 0)).cells) w2.heap.size (x.pv (.slice none 0 0))) := Lib.hid (PBlk.store HPz.out (x.pv (.slice none 0 0)))
 have HA3 : Hid (PBlk ((w2.alloc (.cells ZC 45 (0, 0))).setRow w2.heap.size (x.pv (.slice none 0 0)).cells) w.heap.size PV.zero) := Lib.hid (Blk.setRow HAz.out (by omega) _)
 have HB3 : Hid (Below w.heap.size w ((w2.alloc (.cells ZC 45 (0, 0))).setRow w2.heap.size (x.pv (.slice none 0 0)).cells)) := Lib.hid (below_setRow HBz.out (by omega) _)
 clear HPz HAz HBz HA2 HB2 hone
 generalize (w2.alloc (.cells ZC 45 (0, 0))).setRow w2.heap.size (x.pv (.slice none 0 0)).cells = w3 at *
 have hsz3 := Blk.lt HP3.out
 generalize hPw : w2.heap.size = P at *
 have HR3 := Lib.hid (HR.out.below HB3.out)
 obtain ⟨o2, ho2⟩ := subV_go g o c at' nb
 have hrd := HR3.out.sub at' (nb - at') (by rw [Hn.out]; omega)
 rw [show at' + (nb - at') = nb by omega, ho2, show sb L at' (nb - at') = D by rw [HDd.out, ← Hn.out]; exact sb_all L at'] at hrd
 go_upto_region 5 with (refine wpList_op1 rfl (Op1.slice_l (l := at') (.tmp 24) (.tmp 25) rfl rfl rfl (by omega) ?_))
 have hcd : nb - at' ≤ c - at' := by omega
 have hnd2 : nb - at' ≤ 1400 := by omega
 have hDl : D.length = nb - at' := by rw [HDd.out, List.length_drop, Hn.out]
 rw [hDl] at hnd
 have Hd0 := Lib.hid hDl
 clear hDl ho2
 generalize nb - at' = nd at *
 generalize c - at' = cd at *
 have Hd : Hid (D.length = nd) := Hd0
 have HS3 : Hid (RS w3 P w.heap.size (.slice (some ⟨g, o2, none⟩) nd cd) D (x.pv (.slice none 0 0)) w3) := Lib.hid ⟨World.grownBy.refl _ _, HP3.out, hrd, by omega, by omega⟩
 clear hrd HP3 Hd0
 have hndz : ((nd : Int) < 8) := by omega
 have Hnd := Lib.hid hnd
 clear hnd
 have c7 : w3.cell? ⟨P, 7, none⟩ = some (.int .i64 17) := by
  obtain ⟨-, -, -, -, -, -, -, c7, -⟩ := PBlk.cells HS3.out.p
  refine c7.trans (congrArg (fun z => some (Value.int .i64 z)) ?_)
  show ((x.proto : Nat) : Int) = 17
  rw [hp]; rfl
 have Hsh : Hid (¬ prtOk x D) := Lib.hid fun h => by
  have h1 := h.1
  rw [hp, Hd.out, show leastN 17 = 8 from rfl] at h1
  have := Hnd.out
  omega
 have HAr := Lib.hid (grown_blk HS3.out.g HA3.out (by omega))
 go_wp2_with (refine wpList_store_row rfl 45 (.tmp 2) (.tmp 34) rfl w.heap.size PV.zero.cells rfl rfl 45 PV.zero.cells HAr.out (by kernel_rfl) rfl (PV.zero.one rfl) ?_)
 refine bodyPost_ret (v := .tuple #[.agg PV.zero.cells, .int .i64 3]) (results_cr2 Try.results30 _ _ w.heap.size 45 PV.zero.cells (0, 0) _ rfl (setRow_heap _ _ _ _ _ _ HAr.out) Try.underlying45 rfl (by kernel_rfl) rfl) rfl ?_
 exact PktR.bad (k := 3) (below_setRow (grown_to_below HB3.out HS3.out.g (by omega) (by omega)) (Nat.le_refl _) _) (rdE_part He.out (by rw [HX.out, HD.out]; exact Hsh.out)) (by decide) rfl

set_option maxRecDepth 100000 in
set_option maxHeartbeats 16000000 in
theorem packetRead_S1 (w : World) (g o c nb : Nat) (L : List UInt8) (hR : Rb w.heap.size w (.slice (some ⟨g, o, none⟩) nb c) L) (hL : L.length ≤ 1400) (he : headE L 3 15 4 = 0) (hp : (headX L).proto = 1) (hnd : (rdBody L).length < 8) :
  Calls Try.prog 30 #[.slice (some ⟨g, o, none⟩) nb c] w fun e w' => PktR L w e w' := by
 obtain ⟨hn, hc1, hc2⟩ := hR.len
 have Hn : Hid (L.length = nb) := Lib.hid hn.symm
 rw [hn.symm] at hc1 hL
 have hcn : nb ≤ c := hc1
 have HR := Lib.hid hR
 have hok := head_ok L 3 15 4 (by decide) (by decide) (by decide) he
 have hat : headAt L ≤ nb := by rw [← Hn.out]; exact hok.2.1
 have hat2 : headAt L ≤ 40 := by unfold headAt; split <;> omega
 have hxf := hok.1
 have He := Lib.hid he
 clear hR hn hc1 hok he
 have HA1 : Hid (PBlk (w.alloc (.cells ZC 45 (0, 0))) w.heap.size PV.zero) := Lib.hid (Blk.new w _ _)
 have HB1 : Hid (Below w.heap.size w (w.alloc (.cells ZC 45 (0, 0)))) := Lib.hid (below_alloc (Below.refl _ _) _)
 go_enter Try.func30, Try.ntmps30
 go_wp2_with fail
 generalize w.alloc (.cells ZC 45 (0, 0)) = w1 at *
 have hsz1 := Blk.lt HA1.out
 refine (headRead_any w1 L _ ((HR.out.below HB1.out).mono (by omega)) (by rw [Hn.out]; omega)).mono ?_
 rintro e w2 ⟨hB2, ⟨-, rfl⟩ | ⟨h0, -⟩⟩
 rotate_left
 ·exact absurd He.out h0
 obtain ⟨x, hx⟩ : ∃ x, headX L = x := ⟨_, rfl⟩
 obtain ⟨D, hD⟩ : ∃ D, rdBody L = D := ⟨_, rfl⟩
 obtain ⟨at', ha⟩ : ∃ a, headAt L = a := ⟨_, rfl⟩
 rw [hx] at hp hxf
 rw [hD] at hnd
 rw [hx, ha]
 rw [ha] at hat hat2
 have HX := Lib.hid hx
 have HDd : Hid (D = L.drop at') := Lib.hid (by rw [← hD, ← ha]; rfl)
 have HD := Lib.hid hD
 have HB2 := Lib.hid (HB1.out.trans (hB2.mono (by omega)))
 have HA2 : Hid (PBlk w2 w.heap.size PV.zero) := Lib.hid (Blk.below HA1.out hB2 hsz1)
 have hsz2 := Blk.lt HA2.out
 clear hB2 hx hD ha HA1 HB1
 have HPz : Hid (PBlk (w2.alloc (.cells ZC 45 (0, 0))) w2.heap.size PV.zero) := Lib.hid (Blk.new w2 _ _)
 have HAz : Hid (PBlk (w2.alloc (.cells ZC 45 (0, 0))) w.heap.size PV.zero) := Lib.hid (Blk.alloc HA2.out _)
 have HBz : Hid (Below w.heap.size w (w2.alloc (.cells ZC 45 (0, 0)))) := Lib.hid (below_alloc HB2.out _)
 have hone : (x.pv (.slice none 0 0)).cells.all (·.oneCell') = true := PV.one _ rfl
 go_upto_region 4 with (refine wpList_store_row rfl 45 (.tmp 4) (.tmp 17) rfl w2.heap.size (x.pv (.slice none 0 0)).cells rfl rfl 45 PV.zero.cells HPz.out (by kernel_rfl) rfl hone ?_)
 have HP3 : Hid (PBlk ((w2.alloc (.cells ZC 45 (0, 0))).setRow w2.heap.size (x.pv (.slice none 0 0)).cells) w2.heap.size (x.pv (.slice none 0 0))) := Lib.hid (PBlk.store HPz.out (x.pv (.slice none 0 0)))
 have HA3 : Hid (PBlk ((w2.alloc (.cells ZC 45 (0, 0))).setRow w2.heap.size (x.pv (.slice none 0 0)).cells) w.heap.size PV.zero) := Lib.hid (Blk.setRow HAz.out (by omega) _)
 have HB3 : Hid (Below w.heap.size w ((w2.alloc (.cells ZC 45 (0, 0))).setRow w2.heap.size (x.pv (.slice none 0 0)).cells)) := Lib.hid (below_setRow HBz.out (by omega) _)
 clear HPz HAz HBz HA2 HB2 hone
 generalize (w2.alloc (.cells ZC 45 (0, 0))).setRow w2.heap.size (x.pv (.slice none 0 0)).cells = w3 at *
 have hsz3 := Blk.lt HP3.out
 generalize hPw : w2.heap.size = P at *
 have HR3 := Lib.hid (HR.out.below HB3.out)
 obtain ⟨o2, ho2⟩ := subV_go g o c at' nb
 have hrd := HR3.out.sub at' (nb - at') (by rw [Hn.out]; omega)
 rw [show at' + (nb - at') = nb by omega, ho2, show sb L at' (nb - at') = D by rw [HDd.out, ← Hn.out]; exact sb_all L at'] at hrd
 go_upto_region 5 with (refine wpList_op1 rfl (Op1.slice_l (l := at') (.tmp 24) (.tmp 25) rfl rfl rfl (by omega) ?_))
 have hcd : nb - at' ≤ c - at' := by omega
 have hnd2 : nb - at' ≤ 1400 := by omega
 have hDl : D.length = nb - at' := by rw [HDd.out, List.length_drop, Hn.out]
 rw [hDl] at hnd
 have Hd0 := Lib.hid hDl
 clear hDl ho2
 generalize nb - at' = nd at *
 generalize c - at' = cd at *
 have Hd : Hid (D.length = nd) := Hd0
 have HS3 : Hid (RS w3 P w.heap.size (.slice (some ⟨g, o2, none⟩) nd cd) D (x.pv (.slice none 0 0)) w3) := Lib.hid ⟨World.grownBy.refl _ _, HP3.out, hrd, by omega, by omega⟩
 clear hrd HP3 Hd0
 have hndz : ((nd : Int) < 8) := by omega
 have Hnd := Lib.hid hnd
 clear hnd
 have c7 : w3.cell? ⟨P, 7, none⟩ = some (.int .i64 1) := by
  obtain ⟨-, -, -, -, -, -, -, c7, -⟩ := PBlk.cells HS3.out.p
  refine c7.trans (congrArg (fun z => some (Value.int .i64 z)) ?_)
  show ((x.proto : Nat) : Int) = 1
  rw [hp]; rfl
 have Hsh : Hid (¬ prtOk x D) := Lib.hid fun h => by
  have h1 := h.1
  rw [hp, Hd.out, show leastN 1 = 8 from rfl] at h1
  have := Hnd.out
  omega
 have HAr := Lib.hid (grown_blk HS3.out.g HA3.out (by omega))
 go_wp2_with (refine wpList_store_row rfl 45 (.tmp 2) (.tmp 34) rfl w.heap.size PV.zero.cells rfl rfl 45 PV.zero.cells HAr.out (by kernel_rfl) rfl (PV.zero.one rfl) ?_)
 refine bodyPost_ret (v := .tuple #[.agg PV.zero.cells, .int .i64 3]) (results_cr2 Try.results30 _ _ w.heap.size 45 PV.zero.cells (0, 0) _ rfl (setRow_heap _ _ _ _ _ _ HAr.out) Try.underlying45 rfl (by kernel_rfl) rfl) rfl ?_
 exact PktR.bad (k := 3) (below_setRow (grown_to_below HB3.out HS3.out.g (by omega) (by omega)) (Nat.le_refl _) _) (rdE_part He.out (by rw [HX.out, HD.out]; exact Hsh.out)) (by decide) rfl
end Go.Proofs.Ytakjopbdkkcnlaa
