/-
  A packet is read, whatever its bytes.
  The law PacketsRead is true for every slice of ints.
-/
import Derived.Test.YtakjopbdkkcnlaaPR35
import Derived.Test.YtakjopbdkkcnlaaPR36
import Derived.Test.YtakjopbdkkcnlaaPR16
import Derived.Test.YtakjopbdkkcnlaaPR19
import Derived.Test.YtakjopbdkkcnlaaPR27
set_option linter.unusedVariables false
namespace Go.Proofs.Ytakjopbdkkcnlaa
open Go.RowKit Go
set_option linter.unusedVariables false


set_option maxRecDepth 100000 in
set_option maxHeartbeats 4000000 in
theorem readPacket_s (w : World) (L : List UInt8) (v : Value) (hR : Rb w.heap.size w v L) (h20 : L.length < 20) :
  Calls Try.prog 29 #[v] w fun e w' => PktR L w e w' := by
 obtain ⟨ad, c, rfl, -⟩ := hR
 have He : Hid (headE L 3 15 4 = 3) := Lib.hid (by unfold headE; rw [if_pos h20])
 generalize L.length = nb at *
 have hz : (nb : Int) < 20 := by omega
 have HAz : Hid (PBlk (w.alloc (.cells ZC 45 (0, 0))) w.heap.size PV.zero) := Lib.hid (Blk.new w _ _)
 have HBz : Hid (Below w.heap.size w (w.alloc (.cells ZC 45 (0, 0)))) := Lib.hid (below_alloc (Below.refl _ _) _)
 go_enter Try.func29, Try.ntmps29
 go_upto_region 2 with fail
 generalize w.alloc (.cells ZC 45 (0, 0)) = w1 at *
 go_wp2_with (refine wpList_store_row rfl 45 (.tmp 2) (.tmp 11) rfl w.heap.size PV.zero.cells rfl rfl 45 PV.zero.cells HAz.out (by kernel_rfl) rfl (PV.zero.one rfl) ?_)
 refine bodyPost_ret (v := .tuple #[.agg PV.zero.cells, .int .i64 3]) (results_cr2 Try.results29 _ _ w.heap.size 45 PV.zero.cells (0, 0) _ rfl (setRow_heap _ _ _ _ _ _ HAz.out) Try.underlying45 rfl (by kernel_rfl) rfl) rfl ?_
 exact PktR.bad (k := 3) (below_setRow (HBz.out) (Nat.le_refl _) _) (rdE_head He.out (by decide)) (by decide) rfl

set_option maxRecDepth 100000 in
set_option maxHeartbeats 4000000 in
theorem readPacket_o (w : World) (g o c nb : Nat) (L : List UInt8) (hR : Rb w.heap.size w (.slice (some ⟨g, o, none⟩) nb c) L) (h20 : 20 ≤ nb) (hL : L.length ≤ 1400) (h69 : ub L 0 ≠ 69) (h96 : ub L 0 ≠ 96) :
  Calls Try.prog 29 #[.slice (some ⟨g, o, none⟩) nb c] w fun e w' => PktR L w e w' := by
 obtain ⟨hn, hc1, hc2⟩ := hR.len
 have Hn : Hid (L.length = nb) := Lib.hid hn.symm
 rw [hn.symm] at hc1 hL
 have hcn : nb ≤ c := hc1
 have HR := Lib.hid hR
 have He : Hid (headE L 3 15 4 = 4) := Lib.hid (by
  unfold headE
  rw [if_neg (by rw [Hn.out]; omega), if_neg (show ¬ L.getD 0 0 = 69 from h69), if_neg (show ¬ L.getD 0 0 = 96 from h96)])
 have hk1 : ¬ (((ub L 0).toNat : Int) = 69) := fun e => h69 (UInt8.toNat_inj.1 (Int.ofNat.inj e))
 have hk2 : ¬ (((ub L 0).toNat : Int) = 96) := fun e => h96 (UInt8.toNat_inj.1 (Int.ofNat.inj e))
 clear hR hn hc1 h69 h96
 have HPz : Hid (PBlk ((w.alloc (.cells ZC 45 (0, 0))).alloc (.cells ZC 45 (0, 0))) (w.heap.size + 1) PV.zero) := Lib.hid (by have := Blk.new (w.alloc (.cells ZC 45 (0, 0))) 45 PV.zero.cells; rw [World.size_alloc] at this; exact this)
 have HAz : Hid (PBlk ((w.alloc (.cells ZC 45 (0, 0))).alloc (.cells ZC 45 (0, 0))) w.heap.size PV.zero) := Lib.hid (Blk.alloc (Blk.new w _ _) _)
 have HBz : Hid (Below w.heap.size w ((w.alloc (.cells ZC 45 (0, 0))).alloc (.cells ZC 45 (0, 0)))) := Lib.hid (below_alloc (below_alloc (Below.refl _ _) _) _)
 have hnb20 : ¬ ((nb : Int) < 20) := by omega
 go_enter Try.func29, Try.ntmps29
 go_upto_region 6 with (refine wpList_store_row rfl 45 (.tmp 4) (.tmp 12) rfl (w.heap.size + 1) PV.zero.cells rfl rfl 45 PV.zero.cells HPz.out (by kernel_rfl) rfl (PV.zero.one rfl) ?_)
 have HA1 : Hid (PBlk (((w.alloc (.cells ZC 45 (0, 0))).alloc (.cells ZC 45 (0, 0))).setRow (w.heap.size + 1) PV.zero.cells) w.heap.size PV.zero) := Lib.hid (Blk.setRow HAz.out (by omega) _)
 have HB1 : Hid (Below w.heap.size w (((w.alloc (.cells ZC 45 (0, 0))).alloc (.cells ZC 45 (0, 0))).setRow (w.heap.size + 1) PV.zero.cells)) := Lib.hid (below_setRow HBz.out (by omega) _)
 clear HPz HAz HBz
 generalize ((w.alloc (.cells ZC 45 (0, 0))).alloc (.cells ZC 45 (0, 0))).setRow (w.heap.size + 1) PV.zero.cells = w1 at *
 have HR1 := Lib.hid (HR.out.below HB1.out)
 have cb : w1.cell? ⟨g, o, none⟩ = some (.int .u8 ((ub L 0).toNat : Int)) := HR1.out.get 0 (by have := Hn.out; omega)
 generalize (ub L 0).toNat = k at *
 go_wp2_with (refine wpList_store_row rfl 45 (.tmp 2) (.tmp 32) rfl w.heap.size PV.zero.cells rfl rfl 45 PV.zero.cells HA1.out (by kernel_rfl) rfl (PV.zero.one rfl) ?_)
 refine bodyPost_ret (v := .tuple #[.agg PV.zero.cells, .int .i64 4]) (results_cr2 Try.results29 _ _ w.heap.size 45 PV.zero.cells (0, 0) _ rfl (setRow_heap _ _ _ _ _ _ HA1.out) Try.underlying45 rfl (by kernel_rfl) rfl) rfl ?_
 exact PktR.bad (k := 4) (below_setRow (HB1.out) (Nat.le_refl _) _) (rdE_head He.out (by decide)) (by decide) rfl

theorem readPacket_any (w : World) (L : List UInt8) (v : Value) (hR : Rb w.heap.size w v L) (hL : L.length ≤ 1400) : Calls Try.prog 29 #[v] w fun e w' => PktR L w e w' := by
 by_cases h20 : L.length < 20
 ·exact readPacket_s w L v hR h20
 ·obtain ⟨g, o, c, rfl, -⟩ := hR.form (by omega)
  by_cases h69 : ub L 0 = 69
  ·exact readPacket_4 w g o c _ L hR (by omega) hL h69
  by_cases h96 : ub L 0 = 96
  ·exact readPacket_6 w g o c _ L hR (by omega) hL h96
  ·exact readPacket_o w g o c _ L hR (by omega) hL h69 h96
end Go.Proofs.Ytakjopbdkkcnlaa

namespace Go.Proofs.Ytakjopbdkkcnlaa
open Go.RowKit Go
set_option linter.unusedVariables false

def rdY (L : List UInt8) : NP := if rdE L 3 15 4 = 0 then rdX L else NP.zero
def rdM (L : List UInt8) : List UInt8 := if rdE L 3 15 4 = 0 then rdPay L else []
theorem PktR.get {L : List UInt8} {w w' : World} {e : Ending} (h : PktR L w e w') : Below w.heap.size w w' ∧ ∃ v, e = .returned (.tuple #[.agg ((rdY L).pv v).cells, .int .i64 ((rdE L 3 15 4 : Nat) : Int)]) ∧ Rb w'.heap.size w' v (rdM L) := by
 obtain ⟨hb, ⟨h0, v, he, hr⟩ | ⟨h0, he⟩⟩ := h
 ·refine ⟨hb, v, ?_, ?_⟩
  ·rw [he, h0]; unfold rdY; rw [if_pos h0]; rfl
  ·unfold rdM; rw [if_pos h0]; exact hr
 ·refine ⟨hb, .slice none 0 0, ?_, ?_⟩
  ·rw [he]; unfold rdY; rw [if_neg h0]; rfl
  ·unfold rdM; rw [if_neg h0]; exact (OwnB.nil w' w'.heap.size).rb (by simp)
set_option maxRecDepth 100000 in
set_option maxHeartbeats 8000000 in
theorem law_PacketsRead (ad : Option Addr) (n c : Nat) (w : World) (h : LawArg w ad n) :
  Calls Try.prog 5 #[.slice ad n c] w (Ret (.bool true) w) := by
 have hS := LawArg.strm (c := c) h
 have hB0 : Below w.heap.size w (w.alloc (.cells #[.slice ad n c, .int .i64 0] 25 (0, 0))) := below_alloc (Below.refl _ _) _
 have HB0 := Lib.hid hB0
 clear hB0
 go_enter Try.func5, Try.ntmps5
 go_wp2_with fail
 refine (packetBytes_gen w.heap.size 0 _ hS (by omega)).mono ?_
 rintro e w1 ⟨v, L, rfl, hO, hL, hg⟩
 have hb1 : Below w.heap.size w w1 := HB0.out.trans ⟨hg.g.os, hg.g.tape, hg.g.output, hg.g.size, fun i hi => hg.g.block i (by simp; omega) (by intro e; injection e; omega)⟩
 have HB1 := Lib.hid hb1
 have hsz1 := hb1.size
 have HR1 := Lib.hid (hO.rb (by omega))
 have hp1 := fun (w' : World) (hR : Rb w'.heap.size w' v L) => (readPacket_any w' L v hR (by omega)).mono fun e w'' h => h.get
 have hp2 := fun (w' : World) (hR : Rb w'.heap.size w' v L) => (packetRead_any w' L v hR (by omega)).mono fun e w'' h => h.get
 generalize rdY L = y at hp1 hp2
 generalize rdM L = M at hp1 hp2
 generalize rdE L 3 15 4 = k at hp1 hp2
 have HP1 := Lib.hid hp1
 have HP2 := Lib.hid hp2
 clear hp1 hp2 hO hL hg hb1 HB0 hS h
 go_wp2_with fail
 refine (HP1.out w1 HR1.out).mono ?_
 rintro e w2 ⟨hb2, va, rfl, hra⟩
 have HB2 := Lib.hid (HB1.out.trans (hb2.mono hsz1))
 have hsz2 := hb2.size
 obtain ⟨aa, ca, eva, -⟩ := id hra
 have Hoa : Hid ((y.pv va).cells.all (·.oneCell') = true) := Lib.hid (PV.one _ (by show va.oneCell' = true; rw [eva]; rfl))
 have HRa2 := Lib.hid hra
 have HRv2 := Lib.hid (HR1.out.below hb2)
 clear hb2 hra eva
 have HPz : Hid (PBlk (w2.alloc (.cells ZC 45 (0, 0))) w2.heap.size PV.zero) := Lib.hid (Blk.new w2 _ _)
 go_wp2_with (refine wpList_store_row rfl 45 (.tmp 5) (.tmp 17) rfl w2.heap.size (y.pv va).cells rfl rfl 45 PV.zero.cells HPz.out (by kernel_rfl) rfl Hoa.out ?_)
 have HF1' : Hid (PBlk ((w2.alloc (.cells ZC 45 (0, 0))).setRow w2.heap.size (y.pv va).cells) w2.heap.size (y.pv va)) := Lib.hid (PBlk.store HPz.out _)
 have hb3 : Below w2.heap.size w2 ((w2.alloc (.cells ZC 45 (0, 0))).setRow w2.heap.size (y.pv va).cells) := below_setRow (below_alloc (Below.refl _ _) _) (Nat.le_refl _) _
 have HB3 := Lib.hid (HB2.out.trans (hb3.mono (Nat.le_trans hsz1 hsz2)))
 have HRa3 := Lib.hid (HRa2.out.below hb3)
 have HRv3 := Lib.hid (HRv2.out.below (hb3.mono hsz2))
 have hsz3 := hb3.size
 clear hb3 HPz
 generalize (w2.alloc (.cells ZC 45 (0, 0))).setRow w2.heap.size (y.pv va).cells = w3 at *
 refine (HP2.out w3 (HRv3.out.mono (by omega))).mono ?_
 rintro e w4 ⟨hb4, vb, rfl, hrb⟩
 have HB4 := Lib.hid (HB3.out.trans (hb4.mono (by omega)))
 have hsz4 := hb4.size
 obtain ⟨ab, cb, evb, -⟩ := id hrb
 have Hob : Hid ((y.pv vb).cells.all (·.oneCell') = true) := Lib.hid (PV.one _ (by show vb.oneCell' = true; rw [evb]; rfl))
 have HRb4 := Lib.hid hrb
 have HRa4 := Lib.hid (HRa3.out.below (hb4.mono hsz3))
 have HRv4 := Lib.hid (HRv3.out.below (hb4.mono (by omega)))
 have HF14 : Hid (PBlk w4 w2.heap.size (y.pv va)) := Lib.hid (Blk.below HF1'.out hb4 (Blk.lt HF1'.out))
 clear hb4 hrb evb HF1'
 generalize w2.heap.size = F1 at *
 have HPz : Hid (PBlk (w4.alloc (.cells ZC 45 (0, 0))) w4.heap.size PV.zero) := Lib.hid (Blk.new w4 _ _)
 go_upto_region 5 with (refine wpList_store_row rfl 45 (.tmp 7) (.tmp 22) rfl w4.heap.size (y.pv vb).cells rfl rfl 45 PV.zero.cells HPz.out (by kernel_rfl) rfl Hob.out ?_)
 have HF2' : Hid (PBlk ((w4.alloc (.cells ZC 45 (0, 0))).setRow w4.heap.size (y.pv vb).cells) w4.heap.size (y.pv vb)) := Lib.hid (PBlk.store HPz.out _)
 have hb5 : Below w4.heap.size w4 ((w4.alloc (.cells ZC 45 (0, 0))).setRow w4.heap.size (y.pv vb).cells) := below_setRow (below_alloc (Below.refl _ _) _) (Nat.le_refl _) _
 have hltF := Blk.lt HF14.out
 have HF1 : Hid (PBlk ((w4.alloc (.cells ZC 45 (0, 0))).setRow w4.heap.size (y.pv vb).cells) F1 (y.pv va)) := Lib.hid (Blk.below HF14.out hb5 hltF)
 have HB5 := Lib.hid (HB4.out.trans (hb5.mono (by omega)))
 have HRa := Lib.hid ((HRa4.out.below (hb5.mono (by omega))).mono (show _ ≤ ((w4.alloc (.cells ZC 45 (0, 0))).setRow w4.heap.size (y.pv vb).cells).heap.size by have := hb5.size; omega))
 have HRb := Lib.hid ((HRb4.out.below hb5).mono hb5.size)
 have HRv := Lib.hid ((HRv4.out.below (hb5.mono (by omega))).mono (show _ ≤ ((w4.alloc (.cells ZC 45 (0, 0))).setRow w4.heap.size (y.pv vb).cells).heap.size by have := hb5.size; omega))
 have hsz5 := hb5.size
 clear hb5 HPz HF14
 generalize hF2 : w4.heap.size = F2 at *
 have HF2 := HF2'
 clear HF2'
 generalize (w4.alloc (.cells ZC 45 (0, 0))).setRow F2 (y.pv vb).cells = u at *
 refine Lm.wp_region_seq 18 0 (fun p vv nq ww => (List.getD ((.val (.int .i64 ((k : Nat) : Int))) :: (.val (.int .i64 ((k : Nat) : Int))) :: (.val (.bool true)) :: (.val (.bool true)) :: (.val (.agg (y.pv va).cells)) :: (.val (.agg (y.pv vb).cells)) :: (.val (.bool true)) :: (.val (.bool true)) :: (.val (.bool true)) :: (.val (v)) :: (.val (.int .i64 ((sumN L : Nat) : Int))) :: (.val (v)) :: (.val (.int .i64 ((sumN L : Nat) : Int))) :: (.val (.bool true)) :: (.val (.bool true)) :: (.val (.bool true)) :: (.val (.bool true)) :: (.val (.bool true)) :: [] : List Vd) p .any).R vv nq ww) (fun _ ww => Below u.heap.size u ww) SS (fun _ => 0) (fun _ => 0)
  (by kernel_rfl) (by kernel_rfl) (by decide) (by kernel_rfl) (fun p vv nq ww n' w' h hs => Vd.keep _ h hs) (Below.refl _ _) ?hX3
 case' hX3 => (apply Exists.intro; refine ⟨fun T => ?hA3, ?hob3, ?hend3⟩)
 case hA3 =>
  simp only [setAll, List.take_succ_cons, List.take_zero, Act.put, List.setIfInBounds_toArray, List.set_cons_succ, List.set_cons_zero, Nat.reduceAdd]
  exact rfl
 case hob3 =>
  refine ⟨?_, ?_, ?_, ?_, ?_, ?_, ?_, ?_, ?_, ?_, ?_, ?_, ?_, ?_, ?_, ?_, ?_, ?_, trivial⟩
  ·intro T wx nq hC hn hp
   refine Op1.g fun _ Z => ?_; go_simp; exact Z _ _ ⟨rfl, hC, sR⟩
  ·intro T wx nq hC hn hp
   refine Op1.g fun _ Z => ?_; go_simp; exact Z _ _ ⟨rfl, hC, sR⟩
  ·intro T wx nq hC hn hp
   obtain ⟨(d0 : T 0 = .int .i64 ((k : Nat) : Int)), (d1 : T 1 = .int .i64 ((k : Nat) : Int)), -⟩ := hp
   refine Op1.g fun _ Z => ?_; go_simp; exact Z _ _ ⟨rfl, hC, sR⟩
  ·intro T wx nq hC hn hp
   obtain ⟨(d2 : T 2 = .bool true), -⟩ := hp
   refine Op1.g fun _ Z => ?_; go_simp; exact Z _ _ ⟨rfl, hC, sR⟩
  ·intro T wx nq hC hn hp
   obtain ⟨(d3 : T 3 = .bool true), -⟩ := hp
   refine ⟨fun hT => ?_, fun hT => absurd d3 hT⟩
   exact Op1.load_row 45 (.tmp 5) rfl F1 rfl 45 (y.pv va).cells (0, 0) _ (Blk.below HF1.out hC (Blk.lt HF1.out)) Try.underlying45 rfl (by kernel_rfl) ⟨rfl, hC, sR⟩
  ·intro T wx nq hC hn hp
   obtain ⟨(d3 : T 3 = .bool true), -⟩ := hp
   refine ⟨fun hT => ?_, fun hT => absurd d3 hT⟩
   exact Op1.load_row 45 (.tmp 7) rfl F2 rfl 45 (y.pv vb).cells (0, 0) _ (Blk.below HF2.out hC (Blk.lt HF2.out)) Try.underlying45 rfl (by kernel_rfl) ⟨rfl, hC, sR⟩
  ·intro T wx nq hC hn hp
   obtain ⟨(d4 : T 4 = .agg (y.pv va).cells), (d5 : T 5 = .agg (y.pv vb).cells), (d3 : T 3 = .bool true), -⟩ := hp
   refine ⟨fun hT => ?_, fun hT => absurd d3 hT⟩
   refine Op1.g fun _ Z => ?_; go_simp
   refine (same_any y va vb M wx ((HRa.out.below hC).mono hC.size) ((HRb.out.below hC).mono hC.size)).mono ?_
   rintro e w' ⟨rfl, hb⟩
   exact ⟨_, rfl, Z _ _ ⟨rfl, hC.trans (hb.mono hC.size), SS.later hb⟩⟩
  ·intro T wx nq hC hn hp
   obtain ⟨(d3 : T 3 = .bool true), (d6 : T 6 = .bool true), -⟩ := hp
   refine Op1.g fun _ Z => ?_; go_simp; exact Z _ _ ⟨rfl, hC, sR⟩
  ·intro T wx nq hC hn hp
   obtain ⟨(d7 : T 7 = .bool true), -⟩ := hp
   refine Op1.g fun _ Z => ?_; go_simp; exact Z _ _ ⟨rfl, hC, sR⟩
  ·intro T wx nq hC hn hp
   obtain ⟨(d8 : T 8 = .bool true), -⟩ := hp
   refine ⟨fun hT => ?_, fun hT => absurd d8 hT⟩
   refine Op1.g fun _ Z => ?_; go_simp; exact Z _ _ ⟨rfl, hC, sR⟩
  ·intro T wx nq hC hn hp
   obtain ⟨(d9 : T 9 = v), (d8 : T 8 = .bool true), -⟩ := hp
   refine ⟨fun hT => ?_, fun hT => absurd d8 hT⟩
   refine Op1.g fun _ Z => ?_; go_simp
   exact same_post (sum_rb (HRv.out.below hC)) (Z _ _ ⟨rfl, hC, sR⟩)
  ·intro T wx nq hC hn hp
   obtain ⟨(d8 : T 8 = .bool true), -⟩ := hp
   refine ⟨fun hT => ?_, fun hT => absurd d8 hT⟩
   refine Op1.g fun _ Z => ?_; go_simp; exact Z _ _ ⟨rfl, hC, sR⟩
  ·intro T wx nq hC hn hp
   obtain ⟨(d11 : T 11 = v), -, (d8 : T 8 = .bool true), -⟩ := hp
   refine ⟨fun hT => ?_, fun hT => absurd d8 hT⟩
   refine Op1.g fun _ Z => ?_; go_simp
   exact same_post (checkSum_rb (HRv.out.below hC)) (Z _ _ ⟨rfl, hC, sR⟩)
  ·intro T wx nq hC hn hp
   obtain ⟨(d10 : T 10 = .int .i64 ((sumN L : Nat) : Int)), (d12 : T 12 = .int .i64 ((sumN L : Nat) : Int)), (d8 : T 8 = .bool true), -⟩ := hp
   refine ⟨fun hT => ?_, fun hT => absurd d8 hT⟩
   refine Op1.g fun _ Z => ?_; go_simp; exact Z _ _ ⟨rfl, hC, sR⟩
  ·intro T wx nq hC hn hp
   obtain ⟨(d8 : T 8 = .bool true), (d13 : T 13 = .bool true), -⟩ := hp
   refine Op1.g fun _ Z => ?_; go_simp; exact Z _ _ ⟨rfl, hC, sR⟩
  ·intro T wx nq hC hn hp
   obtain ⟨(d14 : T 14 = .bool true), -⟩ := hp
   refine Op1.g fun _ Z => ?_; go_simp; exact Z _ _ ⟨rfl, hC, sR⟩
  ·intro T wx nq hC hn hp
   obtain ⟨(d15 : T 15 = .bool true), -⟩ := hp
   refine ⟨fun hT => ?_, fun hT => absurd d15 hT⟩
   refine Op1.g fun _ Z => ?_; go_simp
   refine (filtered_any wx).mono ?_
   rintro e w' ⟨rfl, hb⟩
   exact ⟨_, rfl, Z _ _ ⟨rfl, hC.trans (hb.mono hC.size), SS.later hb⟩⟩
  ·intro T wx nq hC hn hp
   obtain ⟨(d15 : T 15 = .bool true), (d16 : T 16 = .bool true), -⟩ := hp
   refine Op1.g fun _ Z => ?_; go_simp; exact Z _ _ ⟨rfl, hC, sR⟩
 case hend3 =>
  intro T wx ⟨nq, hn, hC, hR⟩
  have r0 : T 17 = .bool true := hR 17 (by omega)
  rw [r0]
  have HCx := Lib.hid hC
  clear hR hC r0
  simp only [List.drop_succ_cons, List.drop_zero]
  go_wp2_with fail
  go_ret
  exact ⟨rfl, HB5.out.trans (HCx.out.mono (by omega))⟩
end Go.Proofs.Ytakjopbdkkcnlaa
