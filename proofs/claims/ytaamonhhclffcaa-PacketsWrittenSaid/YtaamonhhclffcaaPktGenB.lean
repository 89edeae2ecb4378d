/-
  The generator Packet.
-/
import Derived.Test.YtaamonhhclffcaaPktGenA
import Derived.Test.YtaamonhhclffcaaByteSet
namespace Go.Proofs.Ytaamonhhclffcaa
open Go.RowKit Go
set_option linter.unusedVariables false

theorem odd_gen3 (b m : Nat) (low high : Int) (w : World) (h : Strm w b m) (hm : m + 2 < 1099511627776) (hl : -4398046511104 ≤ low ∧ low ≤ 4398046511104) (hh : -4398046511104 ≤ high ∧ high ≤ 4398046511104) :
    Calls Try.prog 34 #[.pointer (some ⟨b, 0, none⟩), .int .i64 low, .int .i64 high] w fun e w' => ∃ k : Int, e = .returned (.int .i64 k) ∧ Gen b w w' (m + 2) := by
  go_enter Try.func34, Try.ntmps34
  go_wp2_with fail
  refine (flip_gen b m _ _ h (by omega) (by omega)).mono ?_
  rintro e w1 ⟨k, rfl, hg⟩
  cases k
  · go_wp2_with fail
    refine (range_gen b (m + 1) _ _ _ hg.s (by omega) (by omega) (by omega)).mono ?_
    rintro e w2 ⟨k, rfl, _, hg2⟩
    go_wp2_with fail
    go_ret; exact ⟨_, rfl, hg.trans hg2⟩
  · go_wp2_with fail
    refine (pick_gen b (m + 1) w1.heap.size 0 6 6 [low - 1, high + 1, low, high, -1099511627776, 1099511627776] _ (hg.s.alloc _) (by omega) (by omega) (rdInts_new w1 _ _ _ rfl) (by have := hg.s.lt; omega)).mono ?_
    rintro e w2 ⟨k, rfl, _, hg2⟩
    go_wp2_with fail
    go_ret; exact ⟨_, rfl, (hg.alloc _).trans hg2⟩

set_option maxRecDepth 100000 in
set_option maxHeartbeats 2000000 in
theorem packet_gen (b m : Nat) (w : World) (h : Strm w b m) (hm : m + 4000 < 1099511627776) :
    Calls Try.prog 16 #[.pointer (some ⟨b, 0, none⟩)] w fun e w' => ∃ (x : PV) (L : List UInt8), e = .returned (.agg x.cells) ∧ x.ok ∧ OwnB w' w.heap.size x.pay L ∧ L.length ≤ 20 ∧ Gen b w w' (m + 2120) := by
  have hblt := h.lt
  go_enter Try.func16, Try.ntmps16
  go_wp2_with fail
  refine (rightPacket_gen b m _ (h.alloc _) (by omega)).mono ?_
  rintro e w1 ⟨x, L, rfl, hok, hO, hL, hg⟩
  have HL := Lib.hid hL
  have HO := Lib.hid (OwnB.weak (B' := w.heap.size) hO (by simp))
  have hA1 : PBlk w1 w.heap.size PV.zero := Blk.keep (Blk.new w _ _) hg.g (by omega)
  have hG1 : Gen b w w1 (m + 2102) := ((Gen.start h).alloc _).trans hg
  have hltA : w.heap.size < w1.heap.size := hA1.lt
  have hPG : PG b w (m + 2102) w.heap.size w1.heap.size PV.zero (w1.alloc (.cells PV.zero.cells 45 (0, 0))) := ⟨Blk.new w1 _ _, hA1.alloc _, hG1.alloc _, ⟨by simp [PV.zero, U64], by simp [PV.zero, U64], by simp [PV.zero, U64], by simp [PV.zero, U64], rfl⟩, hblt, by omega, by omega, Nat.le_refl _, by omega⟩
  replace HO := Lib.hid (HO.out.alloc (.cells PV.zero.cells 45 (0, 0)))
  clear hO hL hg hA1 hG1
  have HPG := Lib.hid hPG
  have Hok := Lib.hid hok
  clear hPG hok
  go_wp2_with (refine wpList_store_row rfl 45 (.tmp 3) (.tmp 5) rfl w1.heap.size x.cells rfl rfl 45 _ HPG.out.f (by kernel_rfl) rfl (x.one Hok.out.2.2.2.2) ?_)
  have HP := Lib.hid (HPG.out.store x Hok.out)
  replace HO := Lib.hid (HO.out.setRow HPG.out.f x.cells)
  have hs3 : ((w1.alloc (.cells PV.zero.cells 45 (0, 0))).setRow w1.heap.size x.cells) = (w1.alloc (.cells PV.zero.cells 45 (0, 0))).setRow w1.heap.size x.cells := rfl
  generalize hF : w1.heap.size = F at *
  clear HPG Hok hs3
  obtain ⟨w3, hw3⟩ : ∃ w3, (w1.alloc (.cells PV.zero.cells 45 (0, 0))).setRow F x.cells = w3 := ⟨_, rfl⟩
  rw [hw3] at HP HO
  have hw3' : (w1.alloc (.cells #[.bool false, .int .u64 0, .int .u64 0, .bool false, .int .u64 0, .int .u64 0, .int .i64 0, .int .i64 0, .int .i64 0, .int .i64 0, .bool false, .bool false, .bool false, .bool false, .int .i64 0, .int .i64 0, .bool false, .int .i64 0, .slice none 0 0] 45 (0, 0))).setRow F x.cells = w3 := hw3
  rw [hw3']
  clear hw3 hw3' hltA hF
  go_wp2_with fail
  refine (flip_gen b _ _ _ HP.out.g.s (by omega) (by omega)).mono ?_
  rintro e w4 ⟨k, rfl, hg⟩
  replace HO := Lib.hid (HO.out.gen hg hblt)
  replace HP := Lib.hid (HP.out.step hg)
  clear hg
  cases k
  · go_wp2_with (first | (refine wpList_load_row rfl 45 (.tmp 3) rfl F rfl 45 x.cells (0, 0) _ HP.out.f Try.underlying45 rfl (by kernel_rfl) ?_) | (refine wpList_store_row rfl 45 (.tmp 2) (.tmp 47) rfl w.heap.size x.cells rfl rfl 45 _ HP.out.a (by kernel_rfl) rfl (x.one HP.out.ok.2.2.2.2) ?_))
    refine bodyPost_ret (v := .agg x.cells) (results_cell_row Try.results16 _ _ w.heap.size 45 x.cells (0, 0) _ rfl (setRow_heap _ _ _ _ _ _ HP.out.a) Try.underlying45 rfl (by kernel_rfl)) rfl ⟨x, L, rfl, HP.out.ok, HO.out.setRow HP.out.a _, HL.out, Gen.setRow (HP.out.g.mono (by omega)) (Nat.le_refl _) hblt _⟩
  · go_wp2_with fail
    refine (next_gen b _ _ _ HP.out.g.s (by omega) (by omega)).mono ?_
    rintro e w5 ⟨k2, rfl, hbr, hg⟩
    replace HO := Lib.hid (HO.out.gen hg hblt)
    replace HP := Lib.hid (HP.out.step hg)
    clear hg
    clear hbr
    go_upto_block 0 with fail
    go_cut [] (fun wx => ∃ x : PV, PG b w (m + 2110) w.heap.size F x wx ∧ OwnB wx w.heap.size x.pay L)
    case first =>
      obtain ⟨c0, c1, c2, c3, c4, c5, c6, c7, c8, c9, c10, c11, c12, c13, c14, c15, c16, c17, c18, f0⟩ := PBlk.cells HP.out.f
      go_wp2_with fail
      all_goals clear c0 c1 c2 c3 c4 c5 c6 c7 c8 c9 c10 c11 c12 c13 c14 c15 c16 c17 c18 f0
      · refine (raw_gen b _ _ HP.out.g.s (by omega)).mono ?_
        rintro e w6 ⟨six, hi, lo, rfl, ⟨u1, u2⟩, hg⟩
        replace HO := Lib.hid (HO.out.gen hg hblt)
        replace HP := Lib.hid (HP.out.step hg)
        clear hg
        obtain ⟨c0, c1, c2, c3, c4, c5, c6, c7, c8, c9, c10, c11, c12, c13, c14, c15, c16, c17, c18, f0⟩ := PBlk.cells HP.out.f
        unfold vAddr
        go_wp2_with fail
        clear c0 c1 c2 c3 c4 c5 c6 c7 c8 c9 c10 c11 c12 c13 c14 c15 c16 c17 c18 f0
        have HO2 := Lib.hid (((HO.out.setCell HP.out.f 0 (.bool six)).setCell (PBlk.set_s1 HP.out.f six) 1 (.int .u64 hi)).setCell (PBlk.set_h1 (PBlk.set_s1 HP.out.f six) hi) 2 (.int .u64 lo))
        replace HP := Lib.hid (HP.out.set_from six hi lo u1 u2)
        go_meet
        case rel => exact ⟨_, HP.out.mono (by omega), HO2.out⟩
      · refine (odd_gen3 b _ _ _ _ HP.out.g.s (by omega) (by omega) (by omega)).mono ?_
        rintro e w6 ⟨k6, rfl, hg⟩
        replace HO := Lib.hid (HO.out.gen hg hblt)
        replace HP := Lib.hid (HP.out.step hg)
        clear hg
        obtain ⟨c0, c1, c2, c3, c4, c5, c6, c7, c8, c9, c10, c11, c12, c13, c14, c15, c16, c17, c18, f0⟩ := PBlk.cells HP.out.f
        go_wp2_with fail
        clear c0 c1 c2 c3 c4 c5 c6 c7 c8 c9 c10 c11 c12 c13 c14 c15 c16 c17 c18 f0
        have HO2 := Lib.hid (HO.out.setCell HP.out.f 6 (.int .i64 k6))
        replace HP := Lib.hid (HP.out.set_hops k6)
        go_meet
        case rel => exact ⟨_, HP.out.mono (by omega), HO2.out⟩
      · refine (pick_ints b _ _ _ _ _ _ HP.out.g.s ?h1 ?h2 ?h3 ?h4 ?h5).mono ?_
        case h1 => first | rfl | simp
        case h2 => omega
        case h3 => rfl
        case h4 => decide
        case h5 => rfl
        rintro e w6 ⟨k6, rfl, hg⟩
        replace HO := Lib.hid (HO.out.gen hg hblt)
        replace HP := Lib.hid (HP.out.step hg)
        clear hg
        obtain ⟨c0, c1, c2, c3, c4, c5, c6, c7, c8, c9, c10, c11, c12, c13, c14, c15, c16, c17, c18, f0⟩ := PBlk.cells HP.out.f
        go_wp2_with fail
        clear c0 c1 c2 c3 c4 c5 c6 c7 c8 c9 c10 c11 c12 c13 c14 c15 c16 c17 c18 f0
        have HO2 := Lib.hid (HO.out.setCell HP.out.f 7 (.int .i64 k6))
        replace HP := Lib.hid (HP.out.set_proto k6)
        go_meet
        case rel => exact ⟨_, HP.out.mono (by omega), HO2.out⟩
      · refine (odd_gen3 b _ _ _ _ HP.out.g.s (by omega) (by omega) (by omega)).mono ?_
        rintro e w6 ⟨k6, rfl, hg⟩
        replace HO := Lib.hid (HO.out.gen hg hblt)
        replace HP := Lib.hid (HP.out.step hg)
        clear hg
        obtain ⟨c0, c1, c2, c3, c4, c5, c6, c7, c8, c9, c10, c11, c12, c13, c14, c15, c16, c17, c18, f0⟩ := PBlk.cells HP.out.f
        go_wp2_with fail
        clear c0 c1 c2 c3 c4 c5 c6 c7 c8 c9 c10 c11 c12 c13 c14 c15 c16 c17 c18 f0
        have HO2 := Lib.hid (HO.out.setCell HP.out.f 9 (.int .i64 k6))
        replace HP := Lib.hid (HP.out.set_tp k6)
        go_meet
        case rel => exact ⟨_, HP.out.mono (by omega), HO2.out⟩
      · refine (odd_gen3 b _ _ _ _ HP.out.g.s (by omega) (by omega) (by omega)).mono ?_
        rintro e w6 ⟨k6, rfl, hg⟩
        replace HO := Lib.hid (HO.out.gen hg hblt)
        replace HP := Lib.hid (HP.out.step hg)
        clear hg
        go_wp2_with fail
        refine (odd_gen3 b _ _ _ _ HP.out.g.s (by omega) (by omega) (by omega)).mono ?_
        rintro e w7 ⟨k7, rfl, hg⟩
        replace HO := Lib.hid (HO.out.gen hg hblt)
        replace HP := Lib.hid (HP.out.step hg)
        clear hg
        obtain ⟨c0, c1, c2, c3, c4, c5, c6, c7, c8, c9, c10, c11, c12, c13, c14, c15, c16, c17, c18, f0⟩ := PBlk.cells HP.out.f
        go_wp2_with fail
        clear c0 c1 c2 c3 c4 c5 c6 c7 c8 c9 c10 c11 c12 c13 c14 c15 c16 c17 c18 f0
        have HO2 := Lib.hid ((HO.out.setCell HP.out.f 14 (.int .i64 k6)).setCell (PBlk.set_seq HP.out.f k6) 15 (.int .i64 k7))
        replace HP := Lib.hid (HP.out.set_seq k6 |>.set_ack k7)
        go_meet
        case rel => exact ⟨_, HP.out.mono (by omega), HO2.out⟩
      · refine (odd_gen3 b _ _ _ _ HP.out.g.s (by omega) (by omega) (by omega)).mono ?_
        rintro e w6 ⟨k6, rfl, hg⟩
        replace HO := Lib.hid (HO.out.gen hg hblt)
        replace HP := Lib.hid (HP.out.step hg)
        clear hg
        obtain ⟨c0, c1, c2, c3, c4, c5, c6, c7, c8, c9, c10, c11, c12, c13, c14, c15, c16, c17, c18, f0⟩ := PBlk.cells HP.out.f
        go_wp2_with fail
        clear c0 c1 c2 c3 c4 c5 c6 c7 c8 c9 c10 c11 c12 c13 c14 c15 c16 c17 c18 f0
        have HO2 := Lib.hid ((HO.out.setCell HP.out.f 17 (.int .i64 k6)).setCell (PBlk.set_id HP.out.f k6) 16 (.bool true))
        replace HP := Lib.hid (HP.out.set_id k6 |>.set_reply true)
        go_meet
        case rel => exact ⟨_, HP.out.mono (by omega), HO2.out⟩
      · have HO2 := Lib.hid ((HO.out.setCell HP.out.f 10 (.bool true)).setCell (PBlk.set_syn HP.out.f true) 13 (.bool false))
        replace HP := Lib.hid (HP.out.set_syn true |>.set_has false)
        go_meet
        case rel => exact ⟨_, HP.out.mono (by omega), HO2.out⟩
    case rest =>
      clear HP HO
      obtain ⟨x1, HP, HO⟩ := hcut
      replace HP := Lib.hid HP
      replace HO := Lib.hid HO
      go_wp2_with (first | (refine wpList_load_row rfl 45 (.tmp 3) rfl F rfl 45 x1.cells (0, 0) _ HP.out.f Try.underlying45 rfl (by kernel_rfl) ?_) | (refine wpList_store_row rfl 45 (.tmp 2) (.tmp 47) rfl w.heap.size x1.cells rfl rfl 45 _ HP.out.a (by kernel_rfl) rfl (x1.one HP.out.ok.2.2.2.2) ?_))
      refine bodyPost_ret (v := .agg x1.cells) (results_cell_row Try.results16 _ _ w.heap.size 45 x1.cells (0, 0) _ rfl (setRow_heap _ _ _ _ _ _ HP.out.a) Try.underlying45 rfl (by kernel_rfl)) rfl ⟨x1, L, rfl, HP.out.ok, HO.out.setRow HP.out.a _, HL.out, Gen.setRow (HP.out.g.mono (by omega)) (Nat.le_refl _) hblt _⟩
end Go.Proofs.Ytaamonhhclffcaa
