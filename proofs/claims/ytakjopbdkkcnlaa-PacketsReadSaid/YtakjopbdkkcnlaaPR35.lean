/-
  A packet is read: the form with the first byte 69.
-/
import Derived.Test.YtakjopbdkkcnlaaPR27
set_option linter.unusedVariables false
namespace Go.Proofs.Ytakjopbdkkcnlaa
open Go.RowKit Go
set_option linter.unusedVariables false


set_option maxRecDepth 100000 in
set_option maxHeartbeats 8000000 in
theorem readPacket_4 (w : World) (g o c nb : Nat) (L : List UInt8) (hR : Rb w.heap.size w (.slice (some ⟨g, o, none⟩) nb c) L) (h20 : 20 ≤ nb) (hL : L.length ≤ 1400) (h0 : ub L 0 = 69) :
  Calls Try.prog 29 #[.slice (some ⟨g, o, none⟩) nb c] w fun e w' => PktR L w e w' := by
 obtain ⟨hn, hc1, hc2⟩ := hR.len
 have Hn : Hid (L.length = nb) := Lib.hid hn.symm
 rw [hn.symm] at hc1 hL
 have hcn : nb ≤ c := hc1
 have HR := Lib.hid hR
 have H0 := Lib.hid h0
 clear hR hn hc1 h0
 have HPz : Hid (PBlk ((w.alloc (.cells ZC 45 (0, 0))).alloc (.cells ZC 45 (0, 0))) (w.heap.size + 1) PV.zero) := Lib.hid (by have := Blk.new (w.alloc (.cells ZC 45 (0, 0))) 45 PV.zero.cells; rw [World.size_alloc] at this; exact this)
 have HAz : Hid (PBlk ((w.alloc (.cells ZC 45 (0, 0))).alloc (.cells ZC 45 (0, 0))) w.heap.size PV.zero) := Lib.hid (Blk.alloc (Blk.new w _ _) _)
 have HBz : Hid (Below w.heap.size w ((w.alloc (.cells ZC 45 (0, 0))).alloc (.cells ZC 45 (0, 0)))) := Lib.hid (below_alloc (below_alloc (Below.refl _ _) _) _)
 have hnb20 : ¬ ((nb : Int) < 20) := by omega
 go_enter Try.func29, Try.ntmps29
 go_upto_region 6 with (refine wpList_store_row rfl 45 (.tmp 4) (.tmp 12) rfl (w.heap.size + 1) PV.zero.cells rfl rfl 45 PV.zero.cells HPz.out (by kernel_rfl) rfl (PV.zero.one rfl) ?_)
 have HP1 : Hid (PBlk (((w.alloc (.cells ZC 45 (0, 0))).alloc (.cells ZC 45 (0, 0))).setRow (w.heap.size + 1) PV.zero.cells) (w.heap.size + 1) PV.zero) := Lib.hid (PBlk.store HPz.out PV.zero)
 have HA1 : Hid (PBlk (((w.alloc (.cells ZC 45 (0, 0))).alloc (.cells ZC 45 (0, 0))).setRow (w.heap.size + 1) PV.zero.cells) w.heap.size PV.zero) := Lib.hid (Blk.setRow HAz.out (by omega) _)
 have HB1 : Hid (Below w.heap.size w (((w.alloc (.cells ZC 45 (0, 0))).alloc (.cells ZC 45 (0, 0))).setRow (w.heap.size + 1) PV.zero.cells)) := Lib.hid (below_setRow HBz.out (by omega) _)
 clear HPz HAz HBz
 generalize ((w.alloc (.cells ZC 45 (0, 0))).alloc (.cells ZC 45 (0, 0))).setRow (w.heap.size + 1) PV.zero.cells = w1 at *
 have hsz1 := Blk.lt HP1.out
 generalize hPw : w.heap.size + 1 = P at *
 have HR1 := Lib.hid (HR.out.below HB1.out)
 have cb : w1.cell? ⟨g, o, none⟩ = some (.int .u8 69) := (HR1.out.get 0 (by have := Hn.out; omega)).trans (by
  show some (Value.int .u8 ((ub L 0).toNat : Int)) = _
  rw [H0.out]; rfl)
 have HS1 : Hid (RS w1 P w.heap.size (.slice (some ⟨g, o, none⟩) nb c) L PV.zero w1) := Lib.hid ⟨World.grownBy.refl _ _, HP1.out, HR1.out, by omega, by omega⟩
 go_wp2_with fail
 refine (readFour_any w1 P w.heap.size g o c nb L HS1.out h20 (by rw [Hn.out]; omega)).mono ?_
 rintro e w2 (⟨hs, hf, rfl, hS2⟩ | ⟨hs, rfl, hg2⟩ | ⟨hs, hf, rfl, hg2⟩)
 rotate_left
 ·have HA2 := Lib.hid (grown_blk hg2 HA1.out (by omega))
  have HG2 := Lib.hid hg2
  have Hh := Lib.hid hs
  clear hg2 hs cb
  go_wp2_with (refine wpList_store_row rfl 45 (.tmp 2) (.tmp 32) rfl w.heap.size PV.zero.cells rfl rfl 45 PV.zero.cells HA2.out (by kernel_rfl) rfl (PV.zero.one rfl) ?_)
  refine bodyPost_ret (v := .tuple #[.agg PV.zero.cells, .int .i64 15]) (results_cr2 Try.results29 _ _ w.heap.size 45 PV.zero.cells (0, 0) _ rfl (setRow_heap _ _ _ _ _ _ HA2.out) Try.underlying45 rfl (by kernel_rfl) rfl) rfl ?_
  exact PktR.bad (k := 15) (below_setRow (grown_to_below HB1.out HG2.out (by omega) (by omega)) (Nat.le_refl _) _) (rdE_head (by rw [headE4 L (by rw [Hn.out]; omega) H0.out, if_pos Hh.out]) (by decide)) (by decide) rfl
 ·have HA2 := Lib.hid (grown_blk hg2 HA1.out (by omega))
  have HG2 := Lib.hid hg2
  have Hh := Lib.hid hs
  have Hf := Lib.hid hf
  clear hg2 hs hf cb
  go_wp2_with (refine wpList_store_row rfl 45 (.tmp 2) (.tmp 32) rfl w.heap.size PV.zero.cells rfl rfl 45 PV.zero.cells HA2.out (by kernel_rfl) rfl (PV.zero.one rfl) ?_)
  refine bodyPost_ret (v := .tuple #[.agg PV.zero.cells, .int .i64 3]) (results_cr2 Try.results29 _ _ w.heap.size 45 PV.zero.cells (0, 0) _ rfl (setRow_heap _ _ _ _ _ _ HA2.out) Try.underlying45 rfl (by kernel_rfl) rfl) rfl ?_
  exact PktR.bad (k := 3) (below_setRow (grown_to_below HB1.out HG2.out (by omega) (by omega)) (Nat.le_refl _) _) (rdE_head (by rw [headE4 L (by rw [Hn.out]; omega) H0.out, if_neg (not_not_intro Hh.out), if_pos Hf.out]) (by decide)) (by decide) rfl
 ·have hat : 20 ≤ nb := by have := h20; have := Hn.out; omega
  have He : Hid (headE L 3 15 4 = if known (x4 L).proto then 0 else 4) := Lib.hid (by rw [headE4 L (by rw [Hn.out]; omega) H0.out, if_neg (not_not_intro hs), if_neg (not_not_intro hf)])
  obtain ⟨o2, ho2⟩ := subV_go g o c 20 nb
  have hrd := hS2.rb.sub 20 (nb - 20) (by rw [Hn.out]; omega)
  rw [show 20 + (nb - 20) = nb by omega, ho2] at hrd
  rw [show sb L 20 (nb - 20) = L.drop 20 by rw [← Hn.out]; exact sb_all L 20] at hrd
  rw [ho2]
  clear ho2 hs hf cb
  have Hfit : known (x4 L).proto → (x4 L).fit := x4_fit L
  obtain ⟨hX1, hX2, hX3⟩ := headIs4 L H0.out
  have HX : Hid (headX L = x4 L) := Lib.hid hX1
  have HD : Hid (rdBody L = L.drop 20) := Lib.hid hX3
  clear hX1 hX2 hX3
  have hDl : (L.drop 20).length = nb - 20 := by rw [List.length_drop, Hn.out]
  have hcd : nb - 20 ≤ c - 20 := by omega
  have hnd : nb - 20 ≤ 1400 := by omega
  have HG2 := Lib.hid hS2.g
  have hp2 := hS2.p
  have hsz2 := hS2.g.size
  clear hS2 HR1 HS1
  generalize hxe : x4 L = x at *
  have HXe := Lib.hid hxe
  clear hxe
  generalize L.drop 20 = D at *
  generalize nb - 20 = nd at *
  generalize c - 20 = cd at *
  have Hd : Hid (D.length = nd) := Lib.hid hDl
  have HSd : Hid (RS w2 P w.heap.size (.slice (some ⟨g, o2, none⟩) nd cd) D (x.pv (.slice none 0 0)) w2) := Lib.hid ⟨World.grownBy.refl _ _, hp2, hrd, by omega, by omega⟩
  clear hp2 hrd hDl
  obtain ⟨-, -, -, -, -, -, -, c7, -, -, -, -, -, -, -, -, -, -, -, f0⟩ := PBlk.cells HSd.out.p
  replace c7 : w2.cell? ⟨P, 7, none⟩ = some (.int .i64 ((x.proto : Nat) : Int)) := c7
  clear f0
  go_wp2_with fail
  refine (isKnown_any _ _).mono ?_
  rintro e w2b ⟨rfl, rfl⟩
  rw [known_ports]
  rcases (Decidable.em (known x.proto)).symm with hk | hk
  ·have Hk := Lib.hid hk
   rw [decide_eq_false hk]
   have HA2 := Lib.hid (grown_blk HG2.out HA1.out (by omega))
   clear hk c7 Hfit
   go_wp2_with (refine wpList_store_row rfl 45 (.tmp 2) (.tmp 38) rfl w.heap.size PV.zero.cells rfl rfl 45 PV.zero.cells HA2.out (by kernel_rfl) rfl (PV.zero.one rfl) ?_)
   refine bodyPost_ret (v := .tuple #[.agg PV.zero.cells, .int .i64 4]) (results_cr2 Try.results29 _ _ w.heap.size 45 PV.zero.cells (0, 0) _ rfl (setRow_heap _ _ _ _ _ _ HA2.out) Try.underlying45 rfl (by kernel_rfl) rfl) rfl ?_
   exact PktR.bad (k := 4) (below_setRow (grown_to_below HB1.out HG2.out (by omega) (by omega)) (Nat.le_refl _) _) (rdE_head (by rw [He.out, if_neg Hk.out]) (by decide)) (by decide) rfl
  ·have hxf := Hfit hk
   have He0 : Hid (headE L 3 15 4 = 0) := Lib.hid (by rw [He.out, if_pos hk])
   rw [decide_eq_true hk]
   clear hk Hfit He c7
   go_wp2_with fail
   refine (readPart_any w2 P w.heap.size g o2 cd nd D x hxf _ HSd.out (by rw [Hd.out]; exact hnd)).mono ?_
   rintro e w3 hpr
   obtain ⟨bb, rfl, hor⟩ := readPart_post hpr
   clear hpr
   rcases hor with ⟨rfl, hok, v, hS3, hv⟩ | ⟨rfl, hno, hg3⟩
   rotate_left
   ·have Hno := Lib.hid hno
    have HG3 := Lib.hid (grown_trans HG2.out hg3)
    have HA2 := Lib.hid (grown_blk HG3.out HA1.out (by omega))
    clear hno hg3
    go_wp2_with (refine wpList_store_row rfl 45 (.tmp 2) (.tmp 42) rfl w.heap.size PV.zero.cells rfl rfl 45 PV.zero.cells HA2.out (by kernel_rfl) rfl (PV.zero.one rfl) ?_)
    refine bodyPost_ret (v := .tuple #[.agg PV.zero.cells, .int .i64 3]) (results_cr2 Try.results29 _ _ w.heap.size 45 PV.zero.cells (0, 0) _ rfl (setRow_heap _ _ _ _ _ _ HA2.out) Try.underlying45 rfl (by kernel_rfl) rfl) rfl ?_
    exact PktR.bad (k := 3) (below_setRow (grown_to_below HB1.out HG3.out (by omega) (by omega)) (Nat.le_refl _) _) (rdE_part He0.out (by rw [HX.out, HD.out]; exact Hno.out)) (by decide) rfl
   ·have Hok := Lib.hid hok
    have HG3 := Lib.hid (grown_trans HG2.out hS3.g)
    have HA3 := Lib.hid (grown_blk HG3.out HA1.out (by omega))
    have hyf := prtX_fit hxf D
    have hyp := prtX_proto x D
    have Hsa : Hid (sumAtN x.proto + 2 ≤ nd) := Lib.hid (by
     have h1 := hok.1
     have h2 := hxf.proto
     rw [Hd.out] at h1
     unfold leastN at h1
     unfold sumAtN
     (repeat' split) <;> split at h1 <;> omega)
    obtain ⟨M, hM⟩ : ∃ M, M = D.drop (leastN x.proto) := ⟨_, rfl⟩
    rw [← hM] at hv
    have HMl : Hid (M.length ≤ 1400) := Lib.hid (by rw [hM, List.length_drop, Hd.out]; omega)
    have HM := Lib.hid hM
    clear hok hM
    have hvr := OwnB.rb hv (by have := HMl.out; omega)
    obtain ⟨pa, pc, rfl, -⟩ := id hvr
    have Hv := Lib.hid hvr
    have HO3 : Hid (OwnB w3 w2.heap.size (.slice pa M.length pc) M) := Lib.hid hv
    clear hvr
    have HS3 := Lib.hid hS3
    have HY : Hid (sumOk L ↔ num (sb D (sumAtN x.proto) 2) = partSumN (prtX x D) (partB (prtX x D) M)) := Lib.hid (by
     unfold sumOk rdX rdPay
     rw [HX.out, HD.out, ← HM.out])
    have HZ : Hid (rdX L = prtX x D) := Lib.hid (by unfold rdX; rw [HX.out, HD.out])
    have HW : Hid (rdPay L = M) := Lib.hid (by unfold rdPay; rw [HX.out, HD.out, ← HM.out])
    clear hv hS3 HSd
    rw [← hyp] at Hsa HY
    generalize prtX x D = y at *
    obtain ⟨-, -, -, -, -, -, -, c7, -, -, -, -, -, -, -, -, -, -, c18, f0⟩ := PBlk.cells HS3.out.p
    replace c7 : w3.cell? ⟨P, 7, none⟩ = some (.int .i64 ((y.proto : Nat) : Int)) := c7
    replace c18 : w3.cell? ⟨P, 18, none⟩ = some (.slice pa M.length pc) := c18
    have hml : ¬ ((1400 : Int) < (M.length : Int)) := by have := HMl.out; omega
    have Hpl : Hid ((partB y M).length ≤ 1420) := Lib.hid (by have := HMl.out; rw [partB_len]; unfold leastN; split <;> omega)
    clear f0 hyp
    go_wp2_with fail
    refine (sumAt_any y.proto w3 hyf.proto).mono ?_
    rintro e w4 ⟨rfl, hB4⟩
    have HS4 := Lib.hid (HS3.out.later hB4)
    have HG4 := Lib.hid (grown_below HG3.out hB4)
    have HA4 := Lib.hid (grown_blk HG4.out HA1.out (by omega))
    have Hv4 := Lib.hid ((Hv.out.below hB4).mono hB4.size)
    have HO4 : Hid (OwnB w4 w2.heap.size (.slice pa M.length pc) M) := Lib.hid (own_later HO3.out hB4)
    clear hB4 c7 c18 HS3 HG3 HA3 Hv HO3
    obtain ⟨sa, hsa⟩ : ∃ sa, sumAtN y.proto = sa := ⟨_, rfl⟩
    rw [hsa] at Hsa HY
    rw [hsa]
    have hsn := Hsa.out
    clear hsa
    go_upto_region 20 with fail
    generalize w4 = w3 at *
    have Hv := Hv4
    have HS3 := HS4
    rcases Decidable.em (sumOk L) with hq | hq
    ·have Hq := Lib.hid hq
     have H11 : Hid ((((num (sb D sa 2) : Nat) : Int) != ((partSumN y (partB y M) : Nat) : Int)) = false) := Lib.hid (by rw [HY.out.1 hq]; simp)
     clear hq
     refine Lm.wp_region_lim 12 0 (fun p vv nn ww => (List.getD ((.val (.slice (some ⟨g, o2, none⟩) nd cd)) :: (.val (.int .i64 ((sa : Nat) : Int))) :: (.val (.int .i64 ((sa : Nat) : Int))) :: (.val (.int .i64 (((sa + 2) : Nat) : Int))) :: (.val (subV (some ⟨g, o2, none⟩) cd sa (sa + 2))) :: (.val (.int .u64 ((num (sb D sa 2) : Nat) : Int))) :: (.val (.int .i64 ((num (sb D sa 2) : Nat) : Int))) :: (.val (.agg (y.pv (.slice pa M.length pc)).cells)) :: (.val (.agg (y.pv (.slice pa M.length pc)).cells)) :: (.own (w3.heap.size) (partB y M)) :: (.val (.int .i64 ((partSumN y (partB y M) : Nat) : Int))) :: (.val (.bool false)) :: [] : List Vd) p .any).R vv nn ww) (fun _ ww => RS w2 P w.heap.size (.slice (some ⟨g, o2, none⟩) nd cd) D (y.pv (.slice pa M.length pc)) ww ∧ Below w3.heap.size w3 ww) SS (fun _ => 0) (fun _ => 0)
      (by kernel_rfl) (by kernel_rfl) (by decide) (by kernel_rfl) (fun p vv nn ww n' w' h hs => Vd.keep _ h hs) (⟨HS3.out.drew, below_drew (Below.refl _ _)⟩) ?hXa
     case' hXa => (apply Exists.intro; refine ⟨fun T => ?hAa, ?hoba, ?henda⟩)
     case hAa =>
      simp only [setAll, List.take_succ_cons, List.take_zero, Act.put, List.setIfInBounds_toArray, List.set_cons_succ, List.set_cons_zero, Nat.reduceAdd]
      exact rfl
     case hoba =>
      refine ⟨?_, ?_, ?_, ?_, ?_, ?_, ?_, ?_, ?_, ?_, ?_, ?_, trivial⟩
      ·intro T wx n hC (hn : n ≤ 0) hp
       refine Op1.g fun _ Z => ?_; go_simp; exact Z _ _ ⟨rfl, hC, sR⟩
      ·intro T wx n hC (hn : n ≤ 0) hp
       refine Op1.g fun _ Z => ?_; go_simp; exact Z _ _ ⟨rfl, hC, sR⟩
      ·intro T wx n hC (hn : n ≤ 0) hp
       refine Op1.g fun _ Z => ?_; go_simp; exact Z _ _ ⟨rfl, hC, sR⟩
      ·intro T wx n hC (hn : n ≤ 0) hp
       obtain ⟨(d2 : T 2 = .int .i64 ((sa : Nat) : Int)), -⟩ := hp
       refine Op1.g fun _ Z => ?_; go_simp
       first | exact Z _ _ ⟨rfl, hC, sR⟩ | (refine Z _ _ ⟨congrArg (Value.int _) ?_, hC, sR⟩; first | omega | (simp only [IntKind.wrap_i64]; omega))
      ·intro T wx n hC (hn : n ≤ 0) hp
       obtain ⟨(d0 : T 0 = .slice (some ⟨g, o2, none⟩) nd cd), (d1 : T 1 = .int .i64 ((sa : Nat) : Int)), (d3 : T 3 = .int .i64 (((sa + 2) : Nat) : Int)), -⟩ := hp
       exact Op1.slice_lh (l := sa) (h := (sa + 2)) (.tmp 51) (.tmp 52) (.tmp 54) rfl d0 d1 d3 (by omega) (by omega) ⟨rfl, hC, sR⟩
      ·intro T wx n hC (hn : n ≤ 0) hp
       obtain ⟨(d4 : T 4 = subV (some ⟨g, o2, none⟩) cd sa (sa + 2)), -⟩ := hp
       have hz : (D).length = nd := Hd.out
       refine Op1.g fun _ Z => ?_; go_simp; exact calls_post (val_same0 hC (take_rb (hC.1.rb.sub sa 2 (by omega)) (by rw [sb_len D sa 2 (by omega)]; omega))) Z
      ·intro T wx n hC (hn : n ≤ 0) hp
       obtain ⟨(d5 : T 5 = .int .u64 ((num (sb D sa 2) : Nat) : Int)), -⟩ := hp
       refine Op1.g fun _ Z => ?_; go_simp
       have hb := Nat.lt_of_lt_of_le (num_sb D sa 2) (by decide : 256 ^ 2 ≤ 65536)
       first | exact Z _ _ ⟨rfl, hC, sR⟩ | (refine Z _ _ ⟨congrArg (Value.int _) ?_, hC, sR⟩; first | omega | (simp only [IntKind.wrap_i64]; omega))
      ·intro T wx n hC (hn : n ≤ 0) hp
       exact Op1.load_row 45 (.tmp 4) rfl P rfl 45 _ (0, 0) _ hC.1.p Try.underlying45 rfl (by kernel_rfl) ⟨rfl, hC, sR⟩
      ·intro T wx n hC (hn : n ≤ 0) hp
       exact Op1.load_row 45 (.tmp 4) rfl P rfl 45 _ (0, 0) _ hC.1.p Try.underlying45 rfl (by kernel_rfl) ⟨rfl, hC, sR⟩
      ·intro T wx n hC (hn : n ≤ 0) hp
       obtain ⟨(d8 : T 8 = .agg (y.pv (.slice pa M.length pc)).cells), -⟩ := hp
       refine Op1.g fun _ Z => ?_; go_simp; exact calls_post (val_own0 hC (partOf_any y hyf pa pc M wx ((Hv.out.below hC.2).mono hC.2.size) (by have := HMl.out; omega))) Z
      ·intro T wx n hC (hn : n ≤ 0) hp
       obtain ⟨(d7 : T 7 = .agg (y.pv (.slice pa M.length pc)).cells), (d9 : OwnB wx (w3.heap.size) (T 9) (partB y M)), -⟩ := hp
       have hr : Rb wx.heap.size wx (T 9) (partB y M) := OwnB.rb d9 (by have := Hpl.out; omega)
       refine Op1.g fun _ Z => ?_; go_simp; exact calls_post (val_ret0 hC (partSum_any y hyf pa pc M wx ((Hv.out.below hC.2).mono hC.2.size) (by have := HMl.out; omega) (T 9) (partB y M) hr (by have := Hpl.out; omega))) Z
      ·intro T wx n hC (hn : n ≤ 0) hp
       obtain ⟨(d6 : T 6 = .int .i64 ((num (sb D sa 2) : Nat) : Int)), (d10 : T 10 = .int .i64 ((partSumN y (partB y M) : Nat) : Int)), -⟩ := hp
       refine Op1.g fun _ Z => ?_; go_simp; first | exact Z _ _ ⟨congrArg Value.bool (H11.out), hC, sR⟩ | exact Z _ _ ⟨rfl, hC, sR⟩
     case henda =>
      intro T wx ⟨n, hn, hC, hR⟩
      have HSa := Lib.hid hC.1
      have HBa := Lib.hid hC.2
      have r62 : T 11 = .bool false := hR 11 (by omega)
      rw [r62]
      clear r62
      clear hR hC
      simp only [List.drop_succ_cons, List.drop_nil]
      unfold wpList
      have HG5 := Lib.hid (grown_below HG4.out HBa.out)
      have HA5 := Lib.hid (grown_blk HG5.out HA1.out (by omega))
      have hone : (y.pv (.slice pa M.length pc)).cells.all (·.oneCell') = true := PV.one _ rfl
      go_wp2_with (first | (refine wpList_load_row rfl 45 (.tmp 4) rfl P rfl 45 (y.pv (.slice pa M.length pc)).cells (0, 0) _ HSa.out.p Try.underlying45 rfl (by kernel_rfl) ?_) | (refine wpList_store_row rfl 45 (.tmp 2) (.tmp 64) rfl w.heap.size (y.pv (.slice pa M.length pc)).cells rfl rfl 45 PV.zero.cells HA5.out (by kernel_rfl) rfl hone ?_))
      refine bodyPost_ret (v := .tuple #[.agg (y.pv (.slice pa M.length pc)).cells, .int .i64 0]) (results_cr2 Try.results29 _ _ w.heap.size 45 (y.pv (.slice pa M.length pc)).cells (0, 0) _ rfl (setRow_heap _ _ _ _ _ _ HA5.out) Try.underlying45 rfl (by kernel_rfl) rfl) rfl ?_
      have hbl := grown_to_below HB1.out HG5.out (by omega) (by omega)
      refine ⟨below_setRow hbl (Nat.le_refl _) _, .inl ⟨rdE_ok He0.out (by rw [HX.out, HD.out]; exact Hok.out) Hq.out, _, by rw [HZ.out], ?_⟩⟩
      rw [HW.out]
      have HO5 : OwnB wx w2.heap.size (.slice pa M.length pc) M := own_later HO4.out HBa.out
      exact (HO5.setRow HA5.out _).rb (by have := HMl.out; omega)
    ·have Hq := Lib.hid hq
     have H11 : Hid ((((num (sb D sa 2) : Nat) : Int) != ((partSumN y (partB y M) : Nat) : Int)) = true) := Lib.hid (by rw [bne_iff_ne]; intro e; exact hq (HY.out.2 (Int.ofNat.inj e)))
     clear hq
     refine Lm.wp_region_lim 12 0 (fun p vv nn ww => (List.getD ((.val (.slice (some ⟨g, o2, none⟩) nd cd)) :: (.val (.int .i64 ((sa : Nat) : Int))) :: (.val (.int .i64 ((sa : Nat) : Int))) :: (.val (.int .i64 (((sa + 2) : Nat) : Int))) :: (.val (subV (some ⟨g, o2, none⟩) cd sa (sa + 2))) :: (.val (.int .u64 ((num (sb D sa 2) : Nat) : Int))) :: (.val (.int .i64 ((num (sb D sa 2) : Nat) : Int))) :: (.val (.agg (y.pv (.slice pa M.length pc)).cells)) :: (.val (.agg (y.pv (.slice pa M.length pc)).cells)) :: (.own (w3.heap.size) (partB y M)) :: (.val (.int .i64 ((partSumN y (partB y M) : Nat) : Int))) :: (.val (.bool true)) :: [] : List Vd) p .any).R vv nn ww) (fun _ ww => RS w2 P w.heap.size (.slice (some ⟨g, o2, none⟩) nd cd) D (y.pv (.slice pa M.length pc)) ww ∧ Below w3.heap.size w3 ww) SS (fun _ => 0) (fun _ => 0)
      (by kernel_rfl) (by kernel_rfl) (by decide) (by kernel_rfl) (fun p vv nn ww n' w' h hs => Vd.keep _ h hs) (⟨HS3.out.drew, below_drew (Below.refl _ _)⟩) ?hXb
     case' hXb => (apply Exists.intro; refine ⟨fun T => ?hAb, ?hobb, ?hendb⟩)
     case hAb =>
      simp only [setAll, List.take_succ_cons, List.take_zero, Act.put, List.setIfInBounds_toArray, List.set_cons_succ, List.set_cons_zero, Nat.reduceAdd]
      exact rfl
     case hobb =>
      refine ⟨?_, ?_, ?_, ?_, ?_, ?_, ?_, ?_, ?_, ?_, ?_, ?_, trivial⟩
      ·intro T wx n hC (hn : n ≤ 0) hp
       refine Op1.g fun _ Z => ?_; go_simp; exact Z _ _ ⟨rfl, hC, sR⟩
      ·intro T wx n hC (hn : n ≤ 0) hp
       refine Op1.g fun _ Z => ?_; go_simp; exact Z _ _ ⟨rfl, hC, sR⟩
      ·intro T wx n hC (hn : n ≤ 0) hp
       refine Op1.g fun _ Z => ?_; go_simp; exact Z _ _ ⟨rfl, hC, sR⟩
      ·intro T wx n hC (hn : n ≤ 0) hp
       obtain ⟨(d2 : T 2 = .int .i64 ((sa : Nat) : Int)), -⟩ := hp
       refine Op1.g fun _ Z => ?_; go_simp
       first | exact Z _ _ ⟨rfl, hC, sR⟩ | (refine Z _ _ ⟨congrArg (Value.int _) ?_, hC, sR⟩; first | omega | (simp only [IntKind.wrap_i64]; omega))
      ·intro T wx n hC (hn : n ≤ 0) hp
       obtain ⟨(d0 : T 0 = .slice (some ⟨g, o2, none⟩) nd cd), (d1 : T 1 = .int .i64 ((sa : Nat) : Int)), (d3 : T 3 = .int .i64 (((sa + 2) : Nat) : Int)), -⟩ := hp
       exact Op1.slice_lh (l := sa) (h := (sa + 2)) (.tmp 51) (.tmp 52) (.tmp 54) rfl d0 d1 d3 (by omega) (by omega) ⟨rfl, hC, sR⟩
      ·intro T wx n hC (hn : n ≤ 0) hp
       obtain ⟨(d4 : T 4 = subV (some ⟨g, o2, none⟩) cd sa (sa + 2)), -⟩ := hp
       have hz : (D).length = nd := Hd.out
       refine Op1.g fun _ Z => ?_; go_simp; exact calls_post (val_same0 hC (take_rb (hC.1.rb.sub sa 2 (by omega)) (by rw [sb_len D sa 2 (by omega)]; omega))) Z
      ·intro T wx n hC (hn : n ≤ 0) hp
       obtain ⟨(d5 : T 5 = .int .u64 ((num (sb D sa 2) : Nat) : Int)), -⟩ := hp
       refine Op1.g fun _ Z => ?_; go_simp
       have hb := Nat.lt_of_lt_of_le (num_sb D sa 2) (by decide : 256 ^ 2 ≤ 65536)
       first | exact Z _ _ ⟨rfl, hC, sR⟩ | (refine Z _ _ ⟨congrArg (Value.int _) ?_, hC, sR⟩; first | omega | (simp only [IntKind.wrap_i64]; omega))
      ·intro T wx n hC (hn : n ≤ 0) hp
       exact Op1.load_row 45 (.tmp 4) rfl P rfl 45 _ (0, 0) _ hC.1.p Try.underlying45 rfl (by kernel_rfl) ⟨rfl, hC, sR⟩
      ·intro T wx n hC (hn : n ≤ 0) hp
       exact Op1.load_row 45 (.tmp 4) rfl P rfl 45 _ (0, 0) _ hC.1.p Try.underlying45 rfl (by kernel_rfl) ⟨rfl, hC, sR⟩
      ·intro T wx n hC (hn : n ≤ 0) hp
       obtain ⟨(d8 : T 8 = .agg (y.pv (.slice pa M.length pc)).cells), -⟩ := hp
       refine Op1.g fun _ Z => ?_; go_simp; exact calls_post (val_own0 hC (partOf_any y hyf pa pc M wx ((Hv.out.below hC.2).mono hC.2.size) (by have := HMl.out; omega))) Z
      ·intro T wx n hC (hn : n ≤ 0) hp
       obtain ⟨(d7 : T 7 = .agg (y.pv (.slice pa M.length pc)).cells), (d9 : OwnB wx (w3.heap.size) (T 9) (partB y M)), -⟩ := hp
       have hr : Rb wx.heap.size wx (T 9) (partB y M) := OwnB.rb d9 (by have := Hpl.out; omega)
       refine Op1.g fun _ Z => ?_; go_simp; exact calls_post (val_ret0 hC (partSum_any y hyf pa pc M wx ((Hv.out.below hC.2).mono hC.2.size) (by have := HMl.out; omega) (T 9) (partB y M) hr (by have := Hpl.out; omega))) Z
      ·intro T wx n hC (hn : n ≤ 0) hp
       obtain ⟨(d6 : T 6 = .int .i64 ((num (sb D sa 2) : Nat) : Int)), (d10 : T 10 = .int .i64 ((partSumN y (partB y M) : Nat) : Int)), -⟩ := hp
       refine Op1.g fun _ Z => ?_; go_simp; first | exact Z _ _ ⟨congrArg Value.bool (H11.out), hC, sR⟩ | exact Z _ _ ⟨rfl, hC, sR⟩
     case hendb =>
      intro T wx ⟨n, hn, hC, hR⟩
      have HSb := Lib.hid hC.1
      have HBb := Lib.hid hC.2
      have r62 : T 11 = .bool true := hR 11 (by omega)
      rw [r62]
      clear r62
      clear hR hC
      simp only [List.drop_succ_cons, List.drop_nil]
      unfold wpList
      have HG5 := Lib.hid (grown_below HG4.out HBb.out)
      have HA5 := Lib.hid (grown_blk HG5.out HA1.out (by omega))
      go_wp2_with (refine wpList_store_row rfl 45 (.tmp 2) (.tmp 63) rfl w.heap.size PV.zero.cells rfl rfl 45 PV.zero.cells HA5.out (by kernel_rfl) rfl (PV.zero.one rfl) ?_)
      refine bodyPost_ret (v := .tuple #[.agg PV.zero.cells, .int .i64 15]) (results_cr2 Try.results29 _ _ w.heap.size 45 PV.zero.cells (0, 0) _ rfl (setRow_heap _ _ _ _ _ _ HA5.out) Try.underlying45 rfl (by kernel_rfl) rfl) rfl ?_
      exact PktR.bad (k := 15) (below_setRow (grown_to_below HB1.out HG5.out (by omega) (by omega)) (Nat.le_refl _) _) (rdE_sum He0.out (by rw [HX.out, HD.out]; exact Hok.out) Hq.out) (by decide) rfl
end Go.Proofs.Ytakjopbdkkcnlaa
