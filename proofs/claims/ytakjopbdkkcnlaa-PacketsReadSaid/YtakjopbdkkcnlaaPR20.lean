/-
  The head of a packet whose addresses are short, as the reference reads it.
-/
import Derived.Test.YtakjopbdkkcnlaaPR16
set_option linter.unusedVariables false
namespace Go.Proofs.Ytakjopbdkkcnlaa
open Go.RowKit Go
set_option linter.unusedVariables false


set_option maxRecDepth 100000 in
set_option maxHeartbeats 8000000 in
theorem headRead_4 (w : World) (g o c nb : Nat) (L : List UInt8) (hR : Rb w.heap.size w (.slice (some ⟨g, o, none⟩) nb c) L) (h20 : 20 ≤ nb) (hL : L.length ≤ 1400) (h0 : ub L 0 = 69) :
  Calls Try.prog 77 #[.slice (some ⟨g, o, none⟩) nb c] w fun e w' => HeadR L w e w' := by
 obtain ⟨hn, hc1, hc2⟩ := hR.len
 have Hn : Hid (L.length = nb) := Lib.hid hn.symm
 rw [hn.symm] at hc1 hL
 have hcn : nb ≤ c := hc1
 have hcz : (20 : Int) ≤ (c : Int) := by omega
 have HR := Lib.hid hR
 clear hR hn hc1
 have HP1 : Hid (PBlk ((w.alloc (.cells ZC 45 (0, 0))).alloc (.cells ZC 45 (0, 0))) (w.heap.size + 1) PV.zero) := Lib.hid (by have := Blk.new (w.alloc (.cells ZC 45 (0, 0))) 45 PV.zero.cells; rw [World.size_alloc] at this; exact this)
 have HA1 : Hid (PBlk ((w.alloc (.cells ZC 45 (0, 0))).alloc (.cells ZC 45 (0, 0))) w.heap.size PV.zero) := Lib.hid (Blk.alloc (Blk.new w _ _) _)
 have HB1 : Hid (Below w.heap.size w ((w.alloc (.cells ZC 45 (0, 0))).alloc (.cells ZC 45 (0, 0)))) := Lib.hid (below_alloc (below_alloc (Below.refl _ _) _) _)
 have hnb20 : ¬ ((nb : Int) < 20) := by omega
 go_enter Try.func77, Try.ntmps77
 go_upto_region 4 with fail
 generalize ((w.alloc (.cells ZC 45 (0, 0))).alloc (.cells ZC 45 (0, 0))) = w1 at *
 have hsz1 := Blk.lt HP1.out
 generalize hPw : w.heap.size + 1 = P at *
 have HR1 := Lib.hid (HR.out.below HB1.out)
 have HS1 : Hid (RS w1 P w.heap.size (.slice (some ⟨g, o, none⟩) nb c) L PV.zero w1) := Lib.hid ⟨World.grownBy.refl _ _, HP1.out, HR1.out, by omega, by omega⟩
 have H0 := Lib.hid h0
 clear h0
 have cb : w1.cell? ⟨g, o, none⟩ = some (.int .u8 69) := (HR1.out.get 0 (by have := Hn.out; omega)).trans (by
  show some (Value.int .u8 ((ub L 0).toNat : Int)) = _
  rw [H0.out]; rfl)
 have hl20 : (sb L 0 20).length = 20 := sb_len L 0 20 (by have := Hn.out; omega)
 have hr20 : Rb w.heap.size w1 (.slice (some ⟨g, o, none⟩) 20 c) (sb L 0 20) := by
  have h := HR1.out.sub 0 20 (by have := Hn.out; omega)
  rwa [show subV (some ⟨g, o, none⟩) c 0 (0 + 20) = .slice (some ⟨g, o, none⟩) 20 c by unfold subV; rw [if_neg (by omega)]; simp [Addr.add]] at h
 go_wp2_with fail
 refine (cloneB_rb (L := sb L 0 20) hr20 (by rw [hl20]; omega)).mono ?_
 rintro e w2 ⟨v1, rfl, hO, hB2⟩
 have HS2 := Lib.hid (HS1.out.later hB2)
 have HO2 : Hid (OwnB w2 w1.heap.size v1 (sb L 0 20)) := Lib.hid hO
 obtain ⟨g2, c2, rfl, hg1, hg2, hd1, hd2⟩ := HO2.out.slice1 (by rw [hl20]; omega)
 have hf := HO2.out.frozen
 have hcl := HO2.out.get
 have HO3 := Lib.hid (show OwnB ((w2.setCell ⟨g2, 10, none⟩ (.int .u8 0)).setCell ⟨g2, 11, none⟩ (.int .u8 0)) _ (.slice (some ⟨g2, 0, none⟩) (sb L 0 20).length c2) (setSum (sb L 0 20) 10 0) from HO2.out.zero2 10 (by rw [hl20]; omega))
 rw [hl20] at hcl HO3 hd1
 obtain ⟨y1, hc1'⟩ : ∃ y, w2.cell? ⟨g2, 10, none⟩ = some (encB y) := ⟨_, hcl 10 (by omega)⟩
 obtain ⟨y2, hc2'⟩ : ∃ y, w2.cell? ⟨g2, 11, none⟩ = some (encB y) := ⟨_, hcl 11 (by omega)⟩
 clear hcl hO hB2 cb
 rw [hl20]
 go_upto_region 7 with fail
 have HS3 : Hid (RS w1 P w.heap.size (.slice (some ⟨g, o, none⟩) nb c) L PV.zero ((w2.setCell ⟨g2, 10, none⟩ (.int .u8 0)).setCell ⟨g2, 11, none⟩ (.int .u8 0))) := Lib.hid ((HS2.out.other g2 10 _ (by omega) (by omega)).other g2 11 _ (by omega) (by omega))
 generalize (w2.setCell ⟨g2, 10, none⟩ (.int .u8 0)).setCell ⟨g2, 11, none⟩ (.int .u8 0) = w3 at *
 have HR3 : Hid (Rb w3.heap.size w3 (.slice (some ⟨g2, 0, none⟩) 20 c2) (setSum (sb L 0 20) 10 0)) := Lib.hid (HO3.out.rb (by rw [setSum_len, hl20]; omega))
 clear hf hc1' hc2' HO2 HO3 HS2 hr20
 have hsum : sum4 L ↔ sumN (setSum (sb L 0 20) 10 0) = num (sb L 10 2) := Iff.rfl
 rcases (Decidable.em (sum4 L)).symm with hs | hs
 ·have H6 : Hid ((((sumN (setSum (sb L 0 20) 10 0) : Nat) : Int) != ((num (sb L 10 2) : Nat) : Int)) = true) := Lib.hid (by rw [bne_iff_ne]; intro e; exact hs (hsum.2 (Int.ofNat.inj e)))
  have Hs := Lib.hid hs
  clear hs hsum
  refine Lm.wp_region_lim 7 0 (fun p vv nn ww => (List.getD ((.val (.slice (some ⟨g2, 0, none⟩) 20 c2)) :: (.val (.int .i64 ((sumN (setSum (sb L 0 20) 10 0) : Nat) : Int))) :: (.val (.slice (some ⟨g, o, none⟩) nb c)) :: (.val (subV (some ⟨g, o, none⟩) c 10 12)) :: (.val (.int .u64 ((num (sb L 10 2) : Nat) : Int))) :: (.val (.int .i64 ((num (sb L 10 2) : Nat) : Int))) :: (.val (.bool true)) :: [] : List Vd) p .any).R vv nn ww) (fun _ ww => RS w1 P w.heap.size (.slice (some ⟨g, o, none⟩) nb c) L (PV.zero) ww ∧ Below w3.heap.size w3 ww) SS (fun _ => 0) (fun _ => 0)
   (by kernel_rfl) (by kernel_rfl) (by decide) (by kernel_rfl) (fun p vv nn ww n' w' h hs => Vd.keep _ h hs) (⟨HS3.out.drew, below_drew (Below.refl _ _)⟩) ?hXa
  case' hXa => (apply Exists.intro; refine ⟨fun T => ?hAa, ?hoba, ?henda⟩)
  case hAa =>
   simp only [setAll, List.take_succ_cons, List.take_zero, Act.put, List.setIfInBounds_toArray, List.set_cons_succ, List.set_cons_zero, Nat.reduceAdd]
   exact rfl
  case hoba =>
   refine ⟨?_, ?_, ?_, ?_, ?_, ?_, ?_, trivial⟩
   ·intro T wx n hC (hn : n ≤ 0) hp
    refine Op1.g fun _ Z => ?_; go_simp; exact Z _ _ ⟨rfl, hC, sR⟩
   ·intro T wx n hC (hn : n ≤ 0) hp
    obtain ⟨(d0 : T 0 = .slice (some ⟨g2, 0, none⟩) 20 c2), -⟩ := hp
    refine Op1.g fun _ Z => ?_; go_simp; exact calls_post (val_same0 hC (checkSum_rb (HR3.out.below hC.2))) Z
   ·intro T wx n hC (hn : n ≤ 0) hp
    refine Op1.g fun _ Z => ?_; go_simp; exact Z _ _ ⟨rfl, hC, sR⟩
   ·intro T wx n hC (hn : n ≤ 0) hp
    obtain ⟨(d2 : T 2 = .slice (some ⟨g, o, none⟩) nb c), -⟩ := hp
    exact Op1.slice_lh (l := 10) (h := 12) (.tmp 27) (.const (.int .i64 10)) (.const (.int .i64 12)) rfl d2 rfl rfl (by omega) (by omega) ⟨rfl, hC, sR⟩
   ·intro T wx n hC (hn : n ≤ 0) hp
    obtain ⟨(d3 : T 3 = subV (some ⟨g, o, none⟩) c 10 12), -⟩ := hp
    have hz : (L).length = nb := Hn.out
    refine Op1.g fun _ Z => ?_; go_simp; exact calls_post (val_same0 hC (number_rb (hC.1.rb.sub 10 2 (by omega)) (by rw [sb_len L 10 2 (by omega)]; omega))) Z
   ·intro T wx n hC (hn : n ≤ 0) hp
    obtain ⟨(d4 : T 4 = .int .u64 ((num (sb L 10 2) : Nat) : Int)), -⟩ := hp
    refine Op1.g fun _ Z => ?_; go_simp
    have hb := Nat.lt_of_lt_of_le (num_sb L 10 2) (by decide : 256 ^ 2 ≤ 65536)
    first | exact Z _ _ ⟨rfl, hC, sR⟩ | (refine Z _ _ ⟨congrArg (Value.int _) ?_, hC, sR⟩; first | omega | (simp only [IntKind.wrap_i64]; omega))
   ·intro T wx n hC (hn : n ≤ 0) hp
    obtain ⟨(d1 : T 1 = .int .i64 ((sumN (setSum (sb L 0 20) 10 0) : Nat) : Int)), (d5 : T 5 = .int .i64 ((num (sb L 10 2) : Nat) : Int)), -⟩ := hp
    refine Op1.g fun _ Z => ?_; go_simp; first | exact Z _ _ ⟨congrArg Value.bool (H6.out), hC, sR⟩ | exact Z _ _ ⟨rfl, hC, sR⟩ | (refine Z _ _ ⟨congrArg Value.bool ?_, hC, sR⟩; simpa using H6.out)
  case henda =>
   intro T wx ⟨n, hn, hC, hR⟩
   have HSa := Lib.hid hC.1
   have HBa := Lib.hid hC.2
   have r31 : T 6 = .bool true := hR 6 (by omega)
   rw [r31]
   clear r31
   clear hR hC
   simp only [List.drop_succ_cons, List.drop_nil]
   unfold wpList
   have HAr := Lib.hid (grown_blk HSa.out.g HA1.out (by omega))
   go_wp2_with (first | (refine wpList_load_row rfl 45 (.tmp 5) rfl P rfl 45 (PV.zero).cells (0, 0) _ HSa.out.p Try.underlying45 rfl (by kernel_rfl) ?_) | (refine wpList_store_row rfl 45 (.tmp 2) (.tmp 32) rfl w.heap.size (PV.zero).cells rfl rfl 45 PV.zero.cells HAr.out (by kernel_rfl) rfl (PV.one _ rfl) ?_))
   refine bodyPost_ret (v := .tuple #[.agg (PV.zero).cells, .int .i64 0, .int .i64 15]) (results_cr3 Try.results77 _ _ w.heap.size 45 (PV.zero).cells (0, 0) _ rfl (setRow_heap _ _ _ _ _ _ HAr.out) Try.underlying45 rfl (by kernel_rfl) rfl rfl) rfl ?_
   exact HeadR.bad (k := 15) (below_setRow (grown_to_below HB1.out HSa.out.g (by omega) (by omega)) (Nat.le_refl _) _) (by rw [headE4 L (by rw [Hn.out]; omega) H0.out, if_pos Hs.out]) (by decide) (PV.zero) rfl rfl
 ·have H6 : Hid ((((sumN (setSum (sb L 0 20) 10 0) : Nat) : Int) != ((num (sb L 10 2) : Nat) : Int)) = false) := Lib.hid (by rw [hsum.1 hs]; simp)
  have Hs := Lib.hid hs
  clear hs hsum
  refine Lm.wp_region_lim 7 0 (fun p vv nn ww => (List.getD ((.val (.slice (some ⟨g2, 0, none⟩) 20 c2)) :: (.val (.int .i64 ((sumN (setSum (sb L 0 20) 10 0) : Nat) : Int))) :: (.val (.slice (some ⟨g, o, none⟩) nb c)) :: (.val (subV (some ⟨g, o, none⟩) c 10 12)) :: (.val (.int .u64 ((num (sb L 10 2) : Nat) : Int))) :: (.val (.int .i64 ((num (sb L 10 2) : Nat) : Int))) :: (.val (.bool false)) :: [] : List Vd) p .any).R vv nn ww) (fun _ ww => RS w1 P w.heap.size (.slice (some ⟨g, o, none⟩) nb c) L (PV.zero) ww ∧ Below w3.heap.size w3 ww) SS (fun _ => 0) (fun _ => 0)
   (by kernel_rfl) (by kernel_rfl) (by decide) (by kernel_rfl) (fun p vv nn ww n' w' h hs => Vd.keep _ h hs) (⟨HS3.out.drew, below_drew (Below.refl _ _)⟩) ?hXb
  case' hXb => (apply Exists.intro; refine ⟨fun T => ?hAb, ?hobb, ?hendb⟩)
  case hAb =>
   simp only [setAll, List.take_succ_cons, List.take_zero, Act.put, List.setIfInBounds_toArray, List.set_cons_succ, List.set_cons_zero, Nat.reduceAdd]
   exact rfl
  case hobb =>
   refine ⟨?_, ?_, ?_, ?_, ?_, ?_, ?_, trivial⟩
   ·intro T wx n hC (hn : n ≤ 0) hp
    refine Op1.g fun _ Z => ?_; go_simp; exact Z _ _ ⟨rfl, hC, sR⟩
   ·intro T wx n hC (hn : n ≤ 0) hp
    obtain ⟨(d0 : T 0 = .slice (some ⟨g2, 0, none⟩) 20 c2), -⟩ := hp
    refine Op1.g fun _ Z => ?_; go_simp; exact calls_post (val_same0 hC (checkSum_rb (HR3.out.below hC.2))) Z
   ·intro T wx n hC (hn : n ≤ 0) hp
    refine Op1.g fun _ Z => ?_; go_simp; exact Z _ _ ⟨rfl, hC, sR⟩
   ·intro T wx n hC (hn : n ≤ 0) hp
    obtain ⟨(d2 : T 2 = .slice (some ⟨g, o, none⟩) nb c), -⟩ := hp
    exact Op1.slice_lh (l := 10) (h := 12) (.tmp 27) (.const (.int .i64 10)) (.const (.int .i64 12)) rfl d2 rfl rfl (by omega) (by omega) ⟨rfl, hC, sR⟩
   ·intro T wx n hC (hn : n ≤ 0) hp
    obtain ⟨(d3 : T 3 = subV (some ⟨g, o, none⟩) c 10 12), -⟩ := hp
    have hz : (L).length = nb := Hn.out
    refine Op1.g fun _ Z => ?_; go_simp; exact calls_post (val_same0 hC (number_rb (hC.1.rb.sub 10 2 (by omega)) (by rw [sb_len L 10 2 (by omega)]; omega))) Z
   ·intro T wx n hC (hn : n ≤ 0) hp
    obtain ⟨(d4 : T 4 = .int .u64 ((num (sb L 10 2) : Nat) : Int)), -⟩ := hp
    refine Op1.g fun _ Z => ?_; go_simp
    have hb := Nat.lt_of_lt_of_le (num_sb L 10 2) (by decide : 256 ^ 2 ≤ 65536)
    first | exact Z _ _ ⟨rfl, hC, sR⟩ | (refine Z _ _ ⟨congrArg (Value.int _) ?_, hC, sR⟩; first | omega | (simp only [IntKind.wrap_i64]; omega))
   ·intro T wx n hC (hn : n ≤ 0) hp
    obtain ⟨(d1 : T 1 = .int .i64 ((sumN (setSum (sb L 0 20) 10 0) : Nat) : Int)), (d5 : T 5 = .int .i64 ((num (sb L 10 2) : Nat) : Int)), -⟩ := hp
    refine Op1.g fun _ Z => ?_; go_simp; first | exact Z _ _ ⟨congrArg Value.bool (H6.out), hC, sR⟩ | exact Z _ _ ⟨rfl, hC, sR⟩ | (refine Z _ _ ⟨congrArg Value.bool ?_, hC, sR⟩; simpa using H6.out)
  case hendb =>
   intro T wx ⟨n, hn, hC, hR⟩
   have HSb := Lib.hid hC.1
   have HBb := Lib.hid hC.2
   have r31 : T 6 = .bool false := hR 6 (by omega)
   rw [r31]
   clear r31
   clear hR hC
   simp only [List.drop_succ_cons, List.drop_nil]
   unfold wpList
   go_upto_region 9 with fail
   generalize wx = w4 at *
   have HS4 := HSb
   clear HSb HBb HR3 H6
   have He : Hid (∀ h : ¬ form4 L, headE L 3 15 4 = 3) := Lib.hid fun h => by rw [headE4 L (by rw [Hn.out]; omega) H0.out, if_neg (not_not_intro Hs.out), if_pos h]
   have hz4 := num4_zero L (by rw [Hn.out]; omega)
   rcases (Decidable.em (num (sb L 2 2) = nb)).symm with hq | hq
   ·have H7 : Hid ((((num (sb L 2 2) : Nat) : Int) != ((nb : Nat) : Int)) = true) := Lib.hid (by rw [bne_iff_ne]; intro e; exact hq (Int.ofNat.inj e))
    have Hf : Hid (¬ form4 L) := Lib.hid fun hf => hq (hf.1.trans Hn.out)
    clear hq hz4
    refine Lm.wp_region_seq 19 0 (fun p vv nn ww => (List.getD ((.val (.slice (some ⟨g, o, none⟩) nb c)) :: (.val (subV (some ⟨g, o, none⟩) c 2 4)) :: (.val (.int .u64 ((num (sb L 2 2) : Nat) : Int))) :: (.val (.int .i64 ((num (sb L 2 2) : Nat) : Int))) :: (.val (.slice (some ⟨g, o, none⟩) nb c)) :: (.val (.int .i64 ((nb : Nat) : Int))) :: (.val (.bool true)) :: (.val (.bool true)) :: (.val (undef)) :: (.val (undef)) :: (.val (undef)) :: (.val (undef)) :: (.val (.bool true)) :: (.val (.bool true)) :: (.val (undef)) :: (.val (undef)) :: (.val (undef)) :: (.val (undef)) :: (.val (.bool true)) :: [] : List Vd) p .any).R vv nn ww) (fun _ ww => RS w1 P w.heap.size (.slice (some ⟨g, o, none⟩) nb c) L (PV.zero) ww ∧ Below w4.heap.size w4 ww) SS (fun _ => 0) (fun _ => 0)
     (by kernel_rfl) (by kernel_rfl) (by decide) (by kernel_rfl) (fun p vv nn ww n' w' h hs => Vd.keep _ h hs) (⟨HS4.out, Below.refl _ _⟩) ?hXc
    case' hXc => (apply Exists.intro; refine ⟨fun T => ?hAc, ?hobc, ?hendc⟩)
    case hAc =>
     simp only [setAll, List.take_succ_cons, List.take_zero, Act.put, List.setIfInBounds_toArray, List.set_cons_succ, List.set_cons_zero, Nat.reduceAdd]
     exact rfl
    case hobc =>
     refine ⟨?_, ?_, ?_, ?_, ?_, ?_, ?_, ?_, ?_, ?_, ?_, ?_, ?_, ?_, ?_, ?_, ?_, ?_, ?_, trivial⟩
     ·intro T wx n hC (hn : n ≤ 0) hp
      refine Op1.g fun _ Z => ?_; go_simp; exact Z _ _ ⟨rfl, hC, sR⟩
     ·intro T wx n hC (hn : n ≤ 0) hp
      obtain ⟨(d0 : T 0 = .slice (some ⟨g, o, none⟩) nb c), -⟩ := hp
      exact Op1.slice_lh (l := 2) (h := 4) (.tmp 33) (.const (.int .i64 2)) (.const (.int .i64 4)) rfl d0 rfl rfl (by omega) (by omega) ⟨rfl, hC, sR⟩
     ·intro T wx n hC (hn : n ≤ 0) hp
      obtain ⟨(d1 : T 1 = subV (some ⟨g, o, none⟩) c 2 4), -⟩ := hp
      have hz : (L).length = nb := Hn.out
      refine Op1.g fun _ Z => ?_; go_simp; exact calls_post (val_same0 hC (number_rb (hC.1.rb.sub 2 2 (by omega)) (by rw [sb_len L 2 2 (by omega)]; omega))) Z
     ·intro T wx n hC (hn : n ≤ 0) hp
      obtain ⟨(d2 : T 2 = .int .u64 ((num (sb L 2 2) : Nat) : Int)), -⟩ := hp
      refine Op1.g fun _ Z => ?_; go_simp
      have hb := Nat.lt_of_lt_of_le (num_sb L 2 2) (by decide : 256 ^ 2 ≤ 65536)
      first | exact Z _ _ ⟨rfl, hC, sR⟩ | (refine Z _ _ ⟨congrArg (Value.int _) ?_, hC, sR⟩; first | omega | (simp only [IntKind.wrap_i64]; omega))
     ·intro T wx n hC (hn : n ≤ 0) hp
      refine Op1.g fun _ Z => ?_; go_simp; exact Z _ _ ⟨rfl, hC, sR⟩
     ·intro T wx n hC (hn : n ≤ 0) hp
      obtain ⟨(d4 : T 4 = .slice (some ⟨g, o, none⟩) nb c), -⟩ := hp
      refine Op1.g fun _ Z => ?_; go_simp; exact Z _ _ ⟨rfl, hC, sR⟩
     ·intro T wx n hC (hn : n ≤ 0) hp
      obtain ⟨(d3 : T 3 = .int .i64 ((num (sb L 2 2) : Nat) : Int)), (d5 : T 5 = .int .i64 ((nb : Nat) : Int)), -⟩ := hp
      refine Op1.g fun _ Z => ?_; go_simp; first | exact Z _ _ ⟨congrArg Value.bool (H7.out), hC, sR⟩ | exact Z _ _ ⟨rfl, hC, sR⟩ | (refine Z _ _ ⟨congrArg Value.bool ?_, hC, sR⟩; simpa using H7.out)
     ·intro T wx n hC (hn : n ≤ 0) hp
      obtain ⟨(d6 : T 6 = .bool true), -⟩ := hp
      refine Op1.g fun _ Z => ?_; go_simp; exact Z _ _ ⟨rfl, hC, sR⟩
     ·intro T wx n hC (hn : n ≤ 0) hp
      obtain ⟨(d7 : T 7 = .bool true), -⟩ := hp
      refine ⟨fun hT => ?_, fun hT => ⟨rfl, hC, sR⟩⟩
      rw [d7] at hT
      cases hT
     ·intro T wx n hC (hn : n ≤ 0) hp
      obtain ⟨-, (d7 : T 7 = .bool true), -⟩ := hp
      refine ⟨fun hT => ?_, fun hT => ⟨rfl, hC, sR⟩⟩
      rw [d7] at hT
      cases hT
     ·intro T wx n hC (hn : n ≤ 0) hp
      obtain ⟨-, (d7 : T 7 = .bool true), -⟩ := hp
      refine ⟨fun hT => ?_, fun hT => ⟨rfl, hC, sR⟩⟩
      rw [d7] at hT
      cases hT
     ·intro T wx n hC (hn : n ≤ 0) hp
      obtain ⟨-, (d7 : T 7 = .bool true), -⟩ := hp
      refine ⟨fun hT => ?_, fun hT => ⟨rfl, hC, sR⟩⟩
      rw [d7] at hT
      cases hT
     ·intro T wx n hC (hn : n ≤ 0) hp
      obtain ⟨(d7 : T 7 = .bool true), -⟩ := hp
      refine Op1.g fun _ Z => ?_; go_simp; exact Z _ _ ⟨rfl, hC, sR⟩
     ·intro T wx n hC (hn : n ≤ 0) hp
      obtain ⟨(d12 : T 12 = .bool true), -⟩ := hp
      refine Op1.g fun _ Z => ?_; go_simp; exact Z _ _ ⟨rfl, hC, sR⟩
     ·intro T wx n hC (hn : n ≤ 0) hp
      obtain ⟨(d13 : T 13 = .bool true), -⟩ := hp
      refine ⟨fun hT => ?_, fun hT => ⟨rfl, hC, sR⟩⟩
      rw [d13] at hT
      cases hT
     ·intro T wx n hC (hn : n ≤ 0) hp
      obtain ⟨-, (d13 : T 13 = .bool true), -⟩ := hp
      refine ⟨fun hT => ?_, fun hT => ⟨rfl, hC, sR⟩⟩
      rw [d13] at hT
      cases hT
     ·intro T wx n hC (hn : n ≤ 0) hp
      obtain ⟨-, (d13 : T 13 = .bool true), -⟩ := hp
      refine ⟨fun hT => ?_, fun hT => ⟨rfl, hC, sR⟩⟩
      rw [d13] at hT
      cases hT
     ·intro T wx n hC (hn : n ≤ 0) hp
      obtain ⟨-, (d13 : T 13 = .bool true), -⟩ := hp
      refine ⟨fun hT => ?_, fun hT => ⟨rfl, hC, sR⟩⟩
      rw [d13] at hT
      cases hT
     ·intro T wx n hC (hn : n ≤ 0) hp
      obtain ⟨(d13 : T 13 = .bool true), -⟩ := hp
      refine Op1.g fun _ Z => ?_; go_simp; exact Z _ _ ⟨rfl, hC, sR⟩
    case hendc =>
     intro T wx ⟨n, hn, hC, hR⟩
     have HSc := Lib.hid hC.1
     have HBc := Lib.hid hC.2
     have r51 : T 18 = .bool true := hR 18 (by omega)
     rw [r51]
     clear r51
     clear hR hC
     simp only [List.drop_succ_cons, List.drop_nil]
     unfold wpList
     have HAr := Lib.hid (grown_blk HSc.out.g HA1.out (by omega))
     go_wp2_with (first | (refine wpList_load_row rfl 45 (.tmp 5) rfl P rfl 45 (PV.zero).cells (0, 0) _ HSc.out.p Try.underlying45 rfl (by kernel_rfl) ?_) | (refine wpList_store_row rfl 45 (.tmp 2) (.tmp 52) rfl w.heap.size (PV.zero).cells rfl rfl 45 PV.zero.cells HAr.out (by kernel_rfl) rfl (PV.one _ rfl) ?_))
     refine bodyPost_ret (v := .tuple #[.agg (PV.zero).cells, .int .i64 0, .int .i64 3]) (results_cr3 Try.results77 _ _ w.heap.size 45 (PV.zero).cells (0, 0) _ rfl (setRow_heap _ _ _ _ _ _ HAr.out) Try.underlying45 rfl (by kernel_rfl) rfl rfl) rfl ?_
     exact HeadR.bad (k := 3) (below_setRow (grown_to_below HB1.out HSc.out.g (by omega) (by omega)) (Nat.le_refl _) _) (by rw [He.out Hf.out]) (by decide) (PV.zero) rfl rfl
   ·have H7 : Hid ((((num (sb L 2 2) : Nat) : Int) != ((nb : Nat) : Int)) = false) := Lib.hid (by rw [hq]; simp)
    have Hq := Lib.hid hq
    clear hq
    rcases (Decidable.em (num (sb L 4 4) = 0)).symm with h4 | h4
    ·have H8 : Hid ((decide (0 < ((num (sb L 4 4) : Nat) : Int))) = true) := Lib.hid (decide_eq_true (by omega))
     have Hf : Hid (¬ form4 L) := Lib.hid fun hf => h4 (hz4.2 hf.2.2)
     clear h4 hz4
     refine Lm.wp_region_seq 19 0 (fun p vv nn ww => (List.getD ((.val (.slice (some ⟨g, o, none⟩) nb c)) :: (.val (subV (some ⟨g, o, none⟩) c 2 4)) :: (.val (.int .u64 ((num (sb L 2 2) : Nat) : Int))) :: (.val (.int .i64 ((num (sb L 2 2) : Nat) : Int))) :: (.val (.slice (some ⟨g, o, none⟩) nb c)) :: (.val (.int .i64 ((nb : Nat) : Int))) :: (.val (.bool false)) :: (.val (.bool false)) :: (.val (.slice (some ⟨g, o, none⟩) nb c)) :: (.val (subV (some ⟨g, o, none⟩) c 4 8)) :: (.val (.int .u64 ((num (sb L 4 4) : Nat) : Int))) :: (.val (.bool true)) :: (.val (.bool true)) :: (.val (.bool true)) :: (.val (undef)) :: (.val (undef)) :: (.val (undef)) :: (.val (undef)) :: (.val (.bool true)) :: [] : List Vd) p .any).R vv nn ww) (fun _ ww => RS w1 P w.heap.size (.slice (some ⟨g, o, none⟩) nb c) L (PV.zero) ww ∧ Below w4.heap.size w4 ww) SS (fun _ => 0) (fun _ => 0)
      (by kernel_rfl) (by kernel_rfl) (by decide) (by kernel_rfl) (fun p vv nn ww n' w' h hs => Vd.keep _ h hs) (⟨HS4.out, Below.refl _ _⟩) ?hXd
     case' hXd => (apply Exists.intro; refine ⟨fun T => ?hAd, ?hobd, ?hendd⟩)
     case hAd =>
      simp only [setAll, List.take_succ_cons, List.take_zero, Act.put, List.setIfInBounds_toArray, List.set_cons_succ, List.set_cons_zero, Nat.reduceAdd]
      exact rfl
     case hobd =>
      refine ⟨?_, ?_, ?_, ?_, ?_, ?_, ?_, ?_, ?_, ?_, ?_, ?_, ?_, ?_, ?_, ?_, ?_, ?_, ?_, trivial⟩
      ·intro T wx n hC (hn : n ≤ 0) hp
       refine Op1.g fun _ Z => ?_; go_simp; exact Z _ _ ⟨rfl, hC, sR⟩
      ·intro T wx n hC (hn : n ≤ 0) hp
       obtain ⟨(d0 : T 0 = .slice (some ⟨g, o, none⟩) nb c), -⟩ := hp
       exact Op1.slice_lh (l := 2) (h := 4) (.tmp 33) (.const (.int .i64 2)) (.const (.int .i64 4)) rfl d0 rfl rfl (by omega) (by omega) ⟨rfl, hC, sR⟩
      ·intro T wx n hC (hn : n ≤ 0) hp
       obtain ⟨(d1 : T 1 = subV (some ⟨g, o, none⟩) c 2 4), -⟩ := hp
       have hz : (L).length = nb := Hn.out
       refine Op1.g fun _ Z => ?_; go_simp; exact calls_post (val_same0 hC (number_rb (hC.1.rb.sub 2 2 (by omega)) (by rw [sb_len L 2 2 (by omega)]; omega))) Z
      ·intro T wx n hC (hn : n ≤ 0) hp
       obtain ⟨(d2 : T 2 = .int .u64 ((num (sb L 2 2) : Nat) : Int)), -⟩ := hp
       refine Op1.g fun _ Z => ?_; go_simp
       have hb := Nat.lt_of_lt_of_le (num_sb L 2 2) (by decide : 256 ^ 2 ≤ 65536)
       first | exact Z _ _ ⟨rfl, hC, sR⟩ | (refine Z _ _ ⟨congrArg (Value.int _) ?_, hC, sR⟩; first | omega | (simp only [IntKind.wrap_i64]; omega))
      ·intro T wx n hC (hn : n ≤ 0) hp
       refine Op1.g fun _ Z => ?_; go_simp; exact Z _ _ ⟨rfl, hC, sR⟩
      ·intro T wx n hC (hn : n ≤ 0) hp
       obtain ⟨(d4 : T 4 = .slice (some ⟨g, o, none⟩) nb c), -⟩ := hp
       refine Op1.g fun _ Z => ?_; go_simp; exact Z _ _ ⟨rfl, hC, sR⟩
      ·intro T wx n hC (hn : n ≤ 0) hp
       obtain ⟨(d3 : T 3 = .int .i64 ((num (sb L 2 2) : Nat) : Int)), (d5 : T 5 = .int .i64 ((nb : Nat) : Int)), -⟩ := hp
       refine Op1.g fun _ Z => ?_; go_simp; first | exact Z _ _ ⟨congrArg Value.bool (H7.out), hC, sR⟩ | exact Z _ _ ⟨rfl, hC, sR⟩ | (refine Z _ _ ⟨congrArg Value.bool ?_, hC, sR⟩; simpa using H7.out)
      ·intro T wx n hC (hn : n ≤ 0) hp
       obtain ⟨(d6 : T 6 = .bool false), -⟩ := hp
       refine Op1.g fun _ Z => ?_; go_simp; exact Z _ _ ⟨rfl, hC, sR⟩
      ·intro T wx n hC (hn : n ≤ 0) hp
       obtain ⟨(d7 : T 7 = .bool false), -⟩ := hp
       refine ⟨fun hT => ?_, fun hT => absurd d7 hT⟩
       refine Op1.g fun _ Z => ?_; go_simp; exact Z _ _ ⟨rfl, hC, sR⟩
      ·intro T wx n hC (hn : n ≤ 0) hp
       obtain ⟨(d8 : T 8 = .slice (some ⟨g, o, none⟩) nb c), (d7 : T 7 = .bool false), -⟩ := hp
       refine ⟨fun hT => ?_, fun hT => absurd d7 hT⟩
       exact Op1.slice_lh (l := 4) (h := 8) (.tmp 41) (.const (.int .i64 4)) (.const (.int .i64 8)) rfl d8 rfl rfl (by omega) (by omega) ⟨rfl, hC, sR⟩
      ·intro T wx n hC (hn : n ≤ 0) hp
       obtain ⟨(d9 : T 9 = subV (some ⟨g, o, none⟩) c 4 8), (d7 : T 7 = .bool false), -⟩ := hp
       refine ⟨fun hT => ?_, fun hT => absurd d7 hT⟩
       have hz : (L).length = nb := Hn.out
       refine Op1.g fun _ Z => ?_; go_simp; exact calls_post (val_same0 hC (number_rb (hC.1.rb.sub 4 4 (by omega)) (by rw [sb_len L 4 4 (by omega)]; omega))) Z
      ·intro T wx n hC (hn : n ≤ 0) hp
       obtain ⟨(d10 : T 10 = .int .u64 ((num (sb L 4 4) : Nat) : Int)), (d7 : T 7 = .bool false), -⟩ := hp
       refine ⟨fun hT => ?_, fun hT => absurd d7 hT⟩
       refine Op1.g fun _ Z => ?_; go_simp; first | exact Z _ _ ⟨congrArg Value.bool (H8.out), hC, sR⟩ | exact Z _ _ ⟨rfl, hC, sR⟩ | (refine Z _ _ ⟨congrArg Value.bool ?_, hC, sR⟩; simpa using H8.out)
      ·intro T wx n hC (hn : n ≤ 0) hp
       obtain ⟨(d7 : T 7 = .bool false), (d11 : T 11 = .bool true), -⟩ := hp
       refine Op1.g fun _ Z => ?_; go_simp; exact Z _ _ ⟨rfl, hC, sR⟩
      ·intro T wx n hC (hn : n ≤ 0) hp
       obtain ⟨(d12 : T 12 = .bool true), -⟩ := hp
       refine Op1.g fun _ Z => ?_; go_simp; exact Z _ _ ⟨rfl, hC, sR⟩
      ·intro T wx n hC (hn : n ≤ 0) hp
       obtain ⟨(d13 : T 13 = .bool true), -⟩ := hp
       refine ⟨fun hT => ?_, fun hT => ⟨rfl, hC, sR⟩⟩
       rw [d13] at hT
       cases hT
      ·intro T wx n hC (hn : n ≤ 0) hp
       obtain ⟨-, (d13 : T 13 = .bool true), -⟩ := hp
       refine ⟨fun hT => ?_, fun hT => ⟨rfl, hC, sR⟩⟩
       rw [d13] at hT
       cases hT
      ·intro T wx n hC (hn : n ≤ 0) hp
       obtain ⟨-, (d13 : T 13 = .bool true), -⟩ := hp
       refine ⟨fun hT => ?_, fun hT => ⟨rfl, hC, sR⟩⟩
       rw [d13] at hT
       cases hT
      ·intro T wx n hC (hn : n ≤ 0) hp
       obtain ⟨-, (d13 : T 13 = .bool true), -⟩ := hp
       refine ⟨fun hT => ?_, fun hT => ⟨rfl, hC, sR⟩⟩
       rw [d13] at hT
       cases hT
      ·intro T wx n hC (hn : n ≤ 0) hp
       obtain ⟨(d13 : T 13 = .bool true), -⟩ := hp
       refine Op1.g fun _ Z => ?_; go_simp; exact Z _ _ ⟨rfl, hC, sR⟩
     case hendd =>
      intro T wx ⟨n, hn, hC, hR⟩
      have HSd := Lib.hid hC.1
      have HBd := Lib.hid hC.2
      have r51 : T 18 = .bool true := hR 18 (by omega)
      rw [r51]
      clear r51
      clear hR hC
      simp only [List.drop_succ_cons, List.drop_nil]
      unfold wpList
      have HAr := Lib.hid (grown_blk HSd.out.g HA1.out (by omega))
      go_wp2_with (first | (refine wpList_load_row rfl 45 (.tmp 5) rfl P rfl 45 (PV.zero).cells (0, 0) _ HSd.out.p Try.underlying45 rfl (by kernel_rfl) ?_) | (refine wpList_store_row rfl 45 (.tmp 2) (.tmp 52) rfl w.heap.size (PV.zero).cells rfl rfl 45 PV.zero.cells HAr.out (by kernel_rfl) rfl (PV.one _ rfl) ?_))
      refine bodyPost_ret (v := .tuple #[.agg (PV.zero).cells, .int .i64 0, .int .i64 3]) (results_cr3 Try.results77 _ _ w.heap.size 45 (PV.zero).cells (0, 0) _ rfl (setRow_heap _ _ _ _ _ _ HAr.out) Try.underlying45 rfl (by kernel_rfl) rfl rfl) rfl ?_
      exact HeadR.bad (k := 3) (below_setRow (grown_to_below HB1.out HSd.out.g (by omega) (by omega)) (Nat.le_refl _) _) (by rw [He.out Hf.out]) (by decide) (PV.zero) rfl rfl
    ·have H8 : Hid ((decide (0 < ((num (sb L 4 4) : Nat) : Int))) = false) := Lib.hid (decide_eq_false (by omega))
     have Hz4 := Lib.hid (hz4.1 h4)
     clear h4 hz4
     rcases (Decidable.em (ub L 1 = 0)).symm with h1 | h1
     ·have H9 : Hid ((decide (0 < (((ub L 1).toNat : Nat) : Int))) = true) := Lib.hid (decide_eq_true (by
       have : (ub L 1).toNat ≠ 0 := fun e => h1 (UInt8.toNat_inj.1 e)
       omega))
      have Hf : Hid (¬ form4 L) := Lib.hid fun hf => h1 hf.2.1
      clear h1
      refine Lm.wp_region_seq 19 0 (fun p vv nn ww => (List.getD ((.val (.slice (some ⟨g, o, none⟩) nb c)) :: (.val (subV (some ⟨g, o, none⟩) c 2 4)) :: (.val (.int .u64 ((num (sb L 2 2) : Nat) : Int))) :: (.val (.int .i64 ((num (sb L 2 2) : Nat) : Int))) :: (.val (.slice (some ⟨g, o, none⟩) nb c)) :: (.val (.int .i64 ((nb : Nat) : Int))) :: (.val (.bool false)) :: (.val (.bool false)) :: (.val (.slice (some ⟨g, o, none⟩) nb c)) :: (.val (subV (some ⟨g, o, none⟩) c 4 8)) :: (.val (.int .u64 ((num (sb L 4 4) : Nat) : Int))) :: (.val (.bool false)) :: (.val (.bool false)) :: (.val (.bool false)) :: (.val (.slice (some ⟨g, o, none⟩) nb c)) :: (.val (.pointer (some ⟨g, o + 1, none⟩))) :: (.val (.int .u8 (((ub L 1).toNat : Nat) : Int))) :: (.val (.bool true)) :: (.val (.bool true)) :: [] : List Vd) p .any).R vv nn ww) (fun _ ww => RS w1 P w.heap.size (.slice (some ⟨g, o, none⟩) nb c) L (PV.zero) ww ∧ Below w4.heap.size w4 ww) SS (fun _ => 0) (fun _ => 0)
       (by kernel_rfl) (by kernel_rfl) (by decide) (by kernel_rfl) (fun p vv nn ww n' w' h hs => Vd.keep _ h hs) (⟨HS4.out, Below.refl _ _⟩) ?hXe
      case' hXe => (apply Exists.intro; refine ⟨fun T => ?hAe, ?hobe, ?hende⟩)
      case hAe =>
       simp only [setAll, List.take_succ_cons, List.take_zero, Act.put, List.setIfInBounds_toArray, List.set_cons_succ, List.set_cons_zero, Nat.reduceAdd]
       exact rfl
      case hobe =>
       refine ⟨?_, ?_, ?_, ?_, ?_, ?_, ?_, ?_, ?_, ?_, ?_, ?_, ?_, ?_, ?_, ?_, ?_, ?_, ?_, trivial⟩
       ·intro T wx n hC (hn : n ≤ 0) hp
        refine Op1.g fun _ Z => ?_; go_simp; exact Z _ _ ⟨rfl, hC, sR⟩
       ·intro T wx n hC (hn : n ≤ 0) hp
        obtain ⟨(d0 : T 0 = .slice (some ⟨g, o, none⟩) nb c), -⟩ := hp
        exact Op1.slice_lh (l := 2) (h := 4) (.tmp 33) (.const (.int .i64 2)) (.const (.int .i64 4)) rfl d0 rfl rfl (by omega) (by omega) ⟨rfl, hC, sR⟩
       ·intro T wx n hC (hn : n ≤ 0) hp
        obtain ⟨(d1 : T 1 = subV (some ⟨g, o, none⟩) c 2 4), -⟩ := hp
        have hz : (L).length = nb := Hn.out
        refine Op1.g fun _ Z => ?_; go_simp; exact calls_post (val_same0 hC (number_rb (hC.1.rb.sub 2 2 (by omega)) (by rw [sb_len L 2 2 (by omega)]; omega))) Z
       ·intro T wx n hC (hn : n ≤ 0) hp
        obtain ⟨(d2 : T 2 = .int .u64 ((num (sb L 2 2) : Nat) : Int)), -⟩ := hp
        refine Op1.g fun _ Z => ?_; go_simp
        have hb := Nat.lt_of_lt_of_le (num_sb L 2 2) (by decide : 256 ^ 2 ≤ 65536)
        first | exact Z _ _ ⟨rfl, hC, sR⟩ | (refine Z _ _ ⟨congrArg (Value.int _) ?_, hC, sR⟩; first | omega | (simp only [IntKind.wrap_i64]; omega))
       ·intro T wx n hC (hn : n ≤ 0) hp
        refine Op1.g fun _ Z => ?_; go_simp; exact Z _ _ ⟨rfl, hC, sR⟩
       ·intro T wx n hC (hn : n ≤ 0) hp
        obtain ⟨(d4 : T 4 = .slice (some ⟨g, o, none⟩) nb c), -⟩ := hp
        refine Op1.g fun _ Z => ?_; go_simp; exact Z _ _ ⟨rfl, hC, sR⟩
       ·intro T wx n hC (hn : n ≤ 0) hp
        obtain ⟨(d3 : T 3 = .int .i64 ((num (sb L 2 2) : Nat) : Int)), (d5 : T 5 = .int .i64 ((nb : Nat) : Int)), -⟩ := hp
        refine Op1.g fun _ Z => ?_; go_simp; first | exact Z _ _ ⟨congrArg Value.bool (H7.out), hC, sR⟩ | exact Z _ _ ⟨rfl, hC, sR⟩ | (refine Z _ _ ⟨congrArg Value.bool ?_, hC, sR⟩; simpa using H7.out)
       ·intro T wx n hC (hn : n ≤ 0) hp
        obtain ⟨(d6 : T 6 = .bool false), -⟩ := hp
        refine Op1.g fun _ Z => ?_; go_simp; exact Z _ _ ⟨rfl, hC, sR⟩
       ·intro T wx n hC (hn : n ≤ 0) hp
        obtain ⟨(d7 : T 7 = .bool false), -⟩ := hp
        refine ⟨fun hT => ?_, fun hT => absurd d7 hT⟩
        refine Op1.g fun _ Z => ?_; go_simp; exact Z _ _ ⟨rfl, hC, sR⟩
       ·intro T wx n hC (hn : n ≤ 0) hp
        obtain ⟨(d8 : T 8 = .slice (some ⟨g, o, none⟩) nb c), (d7 : T 7 = .bool false), -⟩ := hp
        refine ⟨fun hT => ?_, fun hT => absurd d7 hT⟩
        exact Op1.slice_lh (l := 4) (h := 8) (.tmp 41) (.const (.int .i64 4)) (.const (.int .i64 8)) rfl d8 rfl rfl (by omega) (by omega) ⟨rfl, hC, sR⟩
       ·intro T wx n hC (hn : n ≤ 0) hp
        obtain ⟨(d9 : T 9 = subV (some ⟨g, o, none⟩) c 4 8), (d7 : T 7 = .bool false), -⟩ := hp
        refine ⟨fun hT => ?_, fun hT => absurd d7 hT⟩
        have hz : (L).length = nb := Hn.out
        refine Op1.g fun _ Z => ?_; go_simp; exact calls_post (val_same0 hC (number_rb (hC.1.rb.sub 4 4 (by omega)) (by rw [sb_len L 4 4 (by omega)]; omega))) Z
       ·intro T wx n hC (hn : n ≤ 0) hp
        obtain ⟨(d10 : T 10 = .int .u64 ((num (sb L 4 4) : Nat) : Int)), (d7 : T 7 = .bool false), -⟩ := hp
        refine ⟨fun hT => ?_, fun hT => absurd d7 hT⟩
        refine Op1.g fun _ Z => ?_; go_simp; first | exact Z _ _ ⟨congrArg Value.bool (H8.out), hC, sR⟩ | exact Z _ _ ⟨rfl, hC, sR⟩ | (refine Z _ _ ⟨congrArg Value.bool ?_, hC, sR⟩; simpa using H8.out)
       ·intro T wx n hC (hn : n ≤ 0) hp
        obtain ⟨(d7 : T 7 = .bool false), (d11 : T 11 = .bool false), -⟩ := hp
        refine Op1.g fun _ Z => ?_; go_simp; exact Z _ _ ⟨rfl, hC, sR⟩
       ·intro T wx n hC (hn : n ≤ 0) hp
        obtain ⟨(d12 : T 12 = .bool false), -⟩ := hp
        refine Op1.g fun _ Z => ?_; go_simp; exact Z _ _ ⟨rfl, hC, sR⟩
       ·intro T wx n hC (hn : n ≤ 0) hp
        obtain ⟨(d13 : T 13 = .bool false), -⟩ := hp
        refine ⟨fun hT => ?_, fun hT => absurd d13 hT⟩
        refine Op1.g fun _ Z => ?_; go_simp; exact Z _ _ ⟨rfl, hC, sR⟩
       ·intro T wx n hC (hn : n ≤ 0) hp
        obtain ⟨(d14 : T 14 = .slice (some ⟨g, o, none⟩) nb c), (d13 : T 13 = .bool false), -⟩ := hp
        refine ⟨fun hT => ?_, fun hT => absurd d13 hT⟩
        exact Op1.indexB (k := 1) (.tmp 47) (.const (.int .i64 1)) rfl d14 rfl (by omega) ⟨rfl, hC, sR⟩
       ·intro T wx n hC (hn : n ≤ 0) hp
        obtain ⟨(d15 : T 15 = .pointer (some ⟨g, o + 1, none⟩)), (d13 : T 13 = .bool false), -⟩ := hp
        refine ⟨fun hT => ?_, fun hT => absurd d13 hT⟩
        have hz : (L).length = nb := Hn.out
        have cb : wx.cell? ⟨g, o + 1, none⟩ = some (.int .u8 (((ub L 1).toNat : Nat) : Int)) := hC.1.rb.get 1 (by omega)
        clear hz
        refine Op1.g fun _ Z => ?_; go_simp; exact Z _ _ ⟨rfl, hC, sR⟩
       ·intro T wx n hC (hn : n ≤ 0) hp
        obtain ⟨(d16 : T 16 = .int .u8 (((ub L 1).toNat : Nat) : Int)), (d13 : T 13 = .bool false), -⟩ := hp
        refine ⟨fun hT => ?_, fun hT => absurd d13 hT⟩
        refine Op1.g fun _ Z => ?_; go_simp; first | exact Z _ _ ⟨congrArg Value.bool (H9.out), hC, sR⟩ | exact Z _ _ ⟨rfl, hC, sR⟩ | (refine Z _ _ ⟨congrArg Value.bool ?_, hC, sR⟩; simpa using H9.out)
       ·intro T wx n hC (hn : n ≤ 0) hp
        obtain ⟨(d13 : T 13 = .bool false), (d17 : T 17 = .bool true), -⟩ := hp
        refine Op1.g fun _ Z => ?_; go_simp; exact Z _ _ ⟨rfl, hC, sR⟩
      case hende =>
       intro T wx ⟨n, hn, hC, hR⟩
       have HSe := Lib.hid hC.1
       have HBe := Lib.hid hC.2
       have r51 : T 18 = .bool true := hR 18 (by omega)
       rw [r51]
       clear r51
       clear hR hC
       simp only [List.drop_succ_cons, List.drop_nil]
       unfold wpList
       have HAr := Lib.hid (grown_blk HSe.out.g HA1.out (by omega))
       go_wp2_with (first | (refine wpList_load_row rfl 45 (.tmp 5) rfl P rfl 45 (PV.zero).cells (0, 0) _ HSe.out.p Try.underlying45 rfl (by kernel_rfl) ?_) | (refine wpList_store_row rfl 45 (.tmp 2) (.tmp 52) rfl w.heap.size (PV.zero).cells rfl rfl 45 PV.zero.cells HAr.out (by kernel_rfl) rfl (PV.one _ rfl) ?_))
       refine bodyPost_ret (v := .tuple #[.agg (PV.zero).cells, .int .i64 0, .int .i64 3]) (results_cr3 Try.results77 _ _ w.heap.size 45 (PV.zero).cells (0, 0) _ rfl (setRow_heap _ _ _ _ _ _ HAr.out) Try.underlying45 rfl (by kernel_rfl) rfl rfl) rfl ?_
       exact HeadR.bad (k := 3) (below_setRow (grown_to_below HB1.out HSe.out.g (by omega) (by omega)) (Nat.le_refl _) _) (by rw [He.out Hf.out]) (by decide) (PV.zero) rfl rfl
     ·have H9 : Hid ((decide (0 < (((ub L 1).toNat : Nat) : Int))) = false) := Lib.hid (decide_eq_false (by rw [h1]; decide))
      have Hf : Hid (form4 L) := Lib.hid ⟨Hq.out.trans Hn.out.symm, h1, Hz4.out⟩
      clear h1
      refine Lm.wp_region_seq 19 0 (fun p vv nn ww => (List.getD ((.val (.slice (some ⟨g, o, none⟩) nb c)) :: (.val (subV (some ⟨g, o, none⟩) c 2 4)) :: (.val (.int .u64 ((num (sb L 2 2) : Nat) : Int))) :: (.val (.int .i64 ((num (sb L 2 2) : Nat) : Int))) :: (.val (.slice (some ⟨g, o, none⟩) nb c)) :: (.val (.int .i64 ((nb : Nat) : Int))) :: (.val (.bool false)) :: (.val (.bool false)) :: (.val (.slice (some ⟨g, o, none⟩) nb c)) :: (.val (subV (some ⟨g, o, none⟩) c 4 8)) :: (.val (.int .u64 ((num (sb L 4 4) : Nat) : Int))) :: (.val (.bool false)) :: (.val (.bool false)) :: (.val (.bool false)) :: (.val (.slice (some ⟨g, o, none⟩) nb c)) :: (.val (.pointer (some ⟨g, o + 1, none⟩))) :: (.val (.int .u8 (((ub L 1).toNat : Nat) : Int))) :: (.val (.bool false)) :: (.val (.bool false)) :: [] : List Vd) p .any).R vv nn ww) (fun _ ww => RS w1 P w.heap.size (.slice (some ⟨g, o, none⟩) nb c) L (PV.zero) ww ∧ Below w4.heap.size w4 ww) SS (fun _ => 0) (fun _ => 0)
       (by kernel_rfl) (by kernel_rfl) (by decide) (by kernel_rfl) (fun p vv nn ww n' w' h hs => Vd.keep _ h hs) (⟨HS4.out, Below.refl _ _⟩) ?hXf
      case' hXf => (apply Exists.intro; refine ⟨fun T => ?hAf, ?hobf, ?hendf⟩)
      case hAf =>
       simp only [setAll, List.take_succ_cons, List.take_zero, Act.put, List.setIfInBounds_toArray, List.set_cons_succ, List.set_cons_zero, Nat.reduceAdd]
       exact rfl
      case hobf =>
       refine ⟨?_, ?_, ?_, ?_, ?_, ?_, ?_, ?_, ?_, ?_, ?_, ?_, ?_, ?_, ?_, ?_, ?_, ?_, ?_, trivial⟩
       ·intro T wx n hC (hn : n ≤ 0) hp
        refine Op1.g fun _ Z => ?_; go_simp; exact Z _ _ ⟨rfl, hC, sR⟩
       ·intro T wx n hC (hn : n ≤ 0) hp
        obtain ⟨(d0 : T 0 = .slice (some ⟨g, o, none⟩) nb c), -⟩ := hp
        exact Op1.slice_lh (l := 2) (h := 4) (.tmp 33) (.const (.int .i64 2)) (.const (.int .i64 4)) rfl d0 rfl rfl (by omega) (by omega) ⟨rfl, hC, sR⟩
       ·intro T wx n hC (hn : n ≤ 0) hp
        obtain ⟨(d1 : T 1 = subV (some ⟨g, o, none⟩) c 2 4), -⟩ := hp
        have hz : (L).length = nb := Hn.out
        refine Op1.g fun _ Z => ?_; go_simp; exact calls_post (val_same0 hC (number_rb (hC.1.rb.sub 2 2 (by omega)) (by rw [sb_len L 2 2 (by omega)]; omega))) Z
       ·intro T wx n hC (hn : n ≤ 0) hp
        obtain ⟨(d2 : T 2 = .int .u64 ((num (sb L 2 2) : Nat) : Int)), -⟩ := hp
        refine Op1.g fun _ Z => ?_; go_simp
        have hb := Nat.lt_of_lt_of_le (num_sb L 2 2) (by decide : 256 ^ 2 ≤ 65536)
        first | exact Z _ _ ⟨rfl, hC, sR⟩ | (refine Z _ _ ⟨congrArg (Value.int _) ?_, hC, sR⟩; first | omega | (simp only [IntKind.wrap_i64]; omega))
       ·intro T wx n hC (hn : n ≤ 0) hp
        refine Op1.g fun _ Z => ?_; go_simp; exact Z _ _ ⟨rfl, hC, sR⟩
       ·intro T wx n hC (hn : n ≤ 0) hp
        obtain ⟨(d4 : T 4 = .slice (some ⟨g, o, none⟩) nb c), -⟩ := hp
        refine Op1.g fun _ Z => ?_; go_simp; exact Z _ _ ⟨rfl, hC, sR⟩
       ·intro T wx n hC (hn : n ≤ 0) hp
        obtain ⟨(d3 : T 3 = .int .i64 ((num (sb L 2 2) : Nat) : Int)), (d5 : T 5 = .int .i64 ((nb : Nat) : Int)), -⟩ := hp
        refine Op1.g fun _ Z => ?_; go_simp; first | exact Z _ _ ⟨congrArg Value.bool (H7.out), hC, sR⟩ | exact Z _ _ ⟨rfl, hC, sR⟩ | (refine Z _ _ ⟨congrArg Value.bool ?_, hC, sR⟩; simpa using H7.out)
       ·intro T wx n hC (hn : n ≤ 0) hp
        obtain ⟨(d6 : T 6 = .bool false), -⟩ := hp
        refine Op1.g fun _ Z => ?_; go_simp; exact Z _ _ ⟨rfl, hC, sR⟩
       ·intro T wx n hC (hn : n ≤ 0) hp
        obtain ⟨(d7 : T 7 = .bool false), -⟩ := hp
        refine ⟨fun hT => ?_, fun hT => absurd d7 hT⟩
        refine Op1.g fun _ Z => ?_; go_simp; exact Z _ _ ⟨rfl, hC, sR⟩
       ·intro T wx n hC (hn : n ≤ 0) hp
        obtain ⟨(d8 : T 8 = .slice (some ⟨g, o, none⟩) nb c), (d7 : T 7 = .bool false), -⟩ := hp
        refine ⟨fun hT => ?_, fun hT => absurd d7 hT⟩
        exact Op1.slice_lh (l := 4) (h := 8) (.tmp 41) (.const (.int .i64 4)) (.const (.int .i64 8)) rfl d8 rfl rfl (by omega) (by omega) ⟨rfl, hC, sR⟩
       ·intro T wx n hC (hn : n ≤ 0) hp
        obtain ⟨(d9 : T 9 = subV (some ⟨g, o, none⟩) c 4 8), (d7 : T 7 = .bool false), -⟩ := hp
        refine ⟨fun hT => ?_, fun hT => absurd d7 hT⟩
        have hz : (L).length = nb := Hn.out
        refine Op1.g fun _ Z => ?_; go_simp; exact calls_post (val_same0 hC (number_rb (hC.1.rb.sub 4 4 (by omega)) (by rw [sb_len L 4 4 (by omega)]; omega))) Z
       ·intro T wx n hC (hn : n ≤ 0) hp
        obtain ⟨(d10 : T 10 = .int .u64 ((num (sb L 4 4) : Nat) : Int)), (d7 : T 7 = .bool false), -⟩ := hp
        refine ⟨fun hT => ?_, fun hT => absurd d7 hT⟩
        refine Op1.g fun _ Z => ?_; go_simp; first | exact Z _ _ ⟨congrArg Value.bool (H8.out), hC, sR⟩ | exact Z _ _ ⟨rfl, hC, sR⟩ | (refine Z _ _ ⟨congrArg Value.bool ?_, hC, sR⟩; simpa using H8.out)
       ·intro T wx n hC (hn : n ≤ 0) hp
        obtain ⟨(d7 : T 7 = .bool false), (d11 : T 11 = .bool false), -⟩ := hp
        refine Op1.g fun _ Z => ?_; go_simp; exact Z _ _ ⟨rfl, hC, sR⟩
       ·intro T wx n hC (hn : n ≤ 0) hp
        obtain ⟨(d12 : T 12 = .bool false), -⟩ := hp
        refine Op1.g fun _ Z => ?_; go_simp; exact Z _ _ ⟨rfl, hC, sR⟩
       ·intro T wx n hC (hn : n ≤ 0) hp
        obtain ⟨(d13 : T 13 = .bool false), -⟩ := hp
        refine ⟨fun hT => ?_, fun hT => absurd d13 hT⟩
        refine Op1.g fun _ Z => ?_; go_simp; exact Z _ _ ⟨rfl, hC, sR⟩
       ·intro T wx n hC (hn : n ≤ 0) hp
        obtain ⟨(d14 : T 14 = .slice (some ⟨g, o, none⟩) nb c), (d13 : T 13 = .bool false), -⟩ := hp
        refine ⟨fun hT => ?_, fun hT => absurd d13 hT⟩
        exact Op1.indexB (k := 1) (.tmp 47) (.const (.int .i64 1)) rfl d14 rfl (by omega) ⟨rfl, hC, sR⟩
       ·intro T wx n hC (hn : n ≤ 0) hp
        obtain ⟨(d15 : T 15 = .pointer (some ⟨g, o + 1, none⟩)), (d13 : T 13 = .bool false), -⟩ := hp
        refine ⟨fun hT => ?_, fun hT => absurd d13 hT⟩
        have hz : (L).length = nb := Hn.out
        have cb : wx.cell? ⟨g, o + 1, none⟩ = some (.int .u8 (((ub L 1).toNat : Nat) : Int)) := hC.1.rb.get 1 (by omega)
        clear hz
        refine Op1.g fun _ Z => ?_; go_simp; exact Z _ _ ⟨rfl, hC, sR⟩
       ·intro T wx n hC (hn : n ≤ 0) hp
        obtain ⟨(d16 : T 16 = .int .u8 (((ub L 1).toNat : Nat) : Int)), (d13 : T 13 = .bool false), -⟩ := hp
        refine ⟨fun hT => ?_, fun hT => absurd d13 hT⟩
        refine Op1.g fun _ Z => ?_; go_simp; first | exact Z _ _ ⟨congrArg Value.bool (H9.out), hC, sR⟩ | exact Z _ _ ⟨rfl, hC, sR⟩ | (refine Z _ _ ⟨congrArg Value.bool ?_, hC, sR⟩; simpa using H9.out)
       ·intro T wx n hC (hn : n ≤ 0) hp
        obtain ⟨(d13 : T 13 = .bool false), (d17 : T 17 = .bool false), -⟩ := hp
        refine Op1.g fun _ Z => ?_; go_simp; exact Z _ _ ⟨rfl, hC, sR⟩
      case hendf =>
       intro T wx ⟨n, hn, hC, hR⟩
       have HSf := Lib.hid hC.1
       have HBf := Lib.hid hC.2
       have r51 : T 18 = .bool false := hR 18 (by omega)
       rw [r51]
       clear r51
       clear hR hC
       simp only [List.drop_succ_cons, List.drop_nil]
       unfold wpList
       go_upto_region 11 with fail
       generalize wx = w5 at *
       have HS5 := HSf
       clear HSf HBf H7 H8 H9 He
       refine Lm.wp_region_lim 12 2 (fun p vv nn ww => (List.getD ((.val (.slice (some ⟨g, o, none⟩) nb c)) :: (.val (subV (some ⟨g, o, none⟩) c 12 16)) :: (.val (.int .u64 ((num (sb L 12 4) : Nat) : Int))) :: (.val (.agg #[.bool false, .int .u64 0, .int .u64 ((num (sb L 12 4) : Nat) : Int)])) :: (.val (.slice (some ⟨g, o, none⟩) nb c)) :: (.val (subV (some ⟨g, o, none⟩) c 16 20)) :: (.val (.int .u64 ((num (sb L 16 4) : Nat) : Int))) :: (.val (.agg #[.bool false, .int .u64 0, .int .u64 ((num (sb L 16 4) : Nat) : Int)])) :: (.val (.pointer (some ⟨P, 0, none⟩))) :: (.st 1) :: (.val (.pointer (some ⟨P, 3, none⟩))) :: (.st 2) :: [] : List Vd) p .any).R vv nn ww) (fun nn ww => RS w1 P w.heap.size (.slice (some ⟨g, o, none⟩) nb c) L (List.getD [(PV.zero), ({ PV.zero with s1 := false, h1 := 0, l1 := ((num (sb L 12 4) : Nat) : Int) }), ({ PV.zero with s1 := false, h1 := 0, l1 := ((num (sb L 12 4) : Nat) : Int), s2 := false, h2 := 0, l2 := ((num (sb L 16 4) : Nat) : Int) })] nn ({ PV.zero with s1 := false, h1 := 0, l1 := ((num (sb L 12 4) : Nat) : Int), s2 := false, h2 := 0, l2 := ((num (sb L 16 4) : Nat) : Int) })) ww ∧ SS 0 w5 nn ww) SS (fun i => if i = 9 ∨ i = 11 then 1 else 0) (fun i => if i = 7 ∨ i = 10 ∨ i = 11 then 1 else 0)
        (by kernel_rfl) (by kernel_rfl) (by decide) (by kernel_rfl) (fun p vv nn ww n' w' h hs => Vd.keep _ h hs) (⟨HS5.out.drew, SS.drew⟩) ?hXg
       case' hXg => (apply Exists.intro; refine ⟨fun T => ?hAg, ?hobg, ?hendg⟩)
       case hAg =>
        simp only [setAll, List.take_succ_cons, List.take_zero, Act.put, List.setIfInBounds_toArray, List.set_cons_succ, List.set_cons_zero, Nat.reduceAdd]
        exact rfl
       case hobg =>
        refine ⟨?_, ?_, ?_, ?_, ?_, ?_, ?_, ?_, ?_, ?_, ?_, ?_, trivial⟩
        ·intro T wx n hC (hn : n ≤ 0) hp
         refine Op1.g fun _ Z => ?_; go_simp; exact Z _ _ ⟨rfl, hC, sR⟩
        ·intro T wx n hC (hn : n ≤ 0) hp
         obtain ⟨(d0 : T 0 = .slice (some ⟨g, o, none⟩) nb c), -⟩ := hp
         exact Op1.slice_lh (l := 12) (h := 16) (.tmp 53) (.const (.int .i64 12)) (.const (.int .i64 16)) rfl d0 rfl rfl (by omega) (by omega) ⟨rfl, hC, sR⟩
        ·intro T wx n hC (hn : n ≤ 0) hp
         obtain ⟨(d1 : T 1 = subV (some ⟨g, o, none⟩) c 12 16), -⟩ := hp
         have hz : (L).length = nb := Hn.out
         refine Op1.g fun _ Z => ?_; go_simp; exact calls_post (val_same1 hC (number_rb (hC.1.rb.sub 12 4 (by omega)) (by rw [sb_len L 12 4 (by omega)]; omega))) Z
        ·intro T wx n hC (hn : n ≤ 0) hp
         obtain ⟨(d2 : T 2 = .int .u64 ((num (sb L 12 4) : Nat) : Int)), -⟩ := hp
         refine Op1.g fun _ Z => ?_; go_simp; exact Z _ _ ⟨rfl, hC, sR⟩
        ·intro T wx n hC (hn : n ≤ 0) hp
         refine Op1.g fun _ Z => ?_; go_simp; exact Z _ _ ⟨rfl, hC, sR⟩
        ·intro T wx n hC (hn : n ≤ 0) hp
         obtain ⟨(d4 : T 4 = .slice (some ⟨g, o, none⟩) nb c), -⟩ := hp
         exact Op1.slice_lh (l := 16) (h := 20) (.tmp 57) (.const (.int .i64 16)) (.const (.int .i64 20)) rfl d4 rfl rfl (by omega) (by omega) ⟨rfl, hC, sR⟩
        ·intro T wx n hC (hn : n ≤ 0) hp
         obtain ⟨(d5 : T 5 = subV (some ⟨g, o, none⟩) c 16 20), -⟩ := hp
         have hz : (L).length = nb := Hn.out
         refine Op1.g fun _ Z => ?_; go_simp; exact calls_post (val_same1 hC (number_rb (hC.1.rb.sub 16 4 (by omega)) (by rw [sb_len L 16 4 (by omega)]; omega))) Z
        ·intro T wx n hC (hn : n ≤ 1) hp
         obtain ⟨(d6 : T 6 = .int .u64 ((num (sb L 16 4) : Nat) : Int)), -⟩ := hp
         refine Op1.g fun _ Z => ?_; go_simp; exact Z _ _ ⟨rfl, hC, sR⟩
        ·intro T wx n hC (hn : n ≤ 0) hp
         obtain ⟨e0, e1, e2, e3, -⟩ := hp
         refine Op1.g fun _ Z => ?_; go_simp; exact Z _ _ ⟨rfl, hC, sR⟩
        ·intro T wx n hC (hn : n ≤ 0) hp
         obtain ⟨(d8 : T 8 = .pointer (some ⟨P, 0, none⟩)), (d3 : T 3 = .agg #[.bool false, .int .u64 0, .int .u64 ((num (sb L 12 4) : Nat) : Int)]), -⟩ := hp
         obtain rfl : n = 0 := by omega
         have hk : RS w1 P w.heap.size (.slice (some ⟨g, o, none⟩) nb c) L (PV.zero) wx := hC.1
         obtain ⟨c0, c1, c2, -, -, -, -, -, -, -, -, -, -, -, -, -, -, -, -, f0⟩ := PBlk.cells hk.p
         refine Op1.g fun _ Z => ?_; go_simp
         have hk0 := hk.set (PBlk.set_s1 hk.p (false))
         have hk1 := hk0.set (PBlk.set_h1 hk0.p (0))
         have hk2 := hk1.set (PBlk.set_l1 hk1.p (((num (sb L 12 4) : Nat) : Int)))
         exact Z _ _ ⟨Nat.le_refl _, ⟨hk2, hC.2.trans (((SS.set (n := 0) (n' := 1) hk.p 0 _ (by omega)).trans (SS.set (n := 1) (n' := 1) hk0.p 1 _ (by omega))).trans (SS.set (n := 1) (n' := 1) hk1.p 2 _ (by omega)))⟩, (((SS.set (n := 0) (n' := 1) hk.p 0 _ (by omega)).trans (SS.set (n := 1) (n' := 1) hk0.p 1 _ (by omega))).trans (SS.set (n := 1) (n' := 1) hk1.p 2 _ (by omega)))⟩
        ·intro T wx n hC (hn : n ≤ 1) hp
         obtain ⟨e0, e1, e2, e3, e4, e5, e6, e7, e8, e9, -⟩ := hp
         refine Op1.g fun _ Z => ?_; go_simp; exact Z _ _ ⟨rfl, hC, sR⟩
        ·intro T wx n hC (hn : n ≤ 1) hp
         obtain ⟨(d10 : T 10 = .pointer (some ⟨P, 3, none⟩)), (d7 : T 7 = .agg #[.bool false, .int .u64 0, .int .u64 ((num (sb L 16 4) : Nat) : Int)]), (d9 : 1 ≤ n), -⟩ := hp
         obtain rfl : n = 1 := by omega
         have hk : RS w1 P w.heap.size (.slice (some ⟨g, o, none⟩) nb c) L ({ PV.zero with s1 := false, h1 := 0, l1 := ((num (sb L 12 4) : Nat) : Int) }) wx := hC.1
         obtain ⟨-, -, -, c3, c4, c5, -, -, -, -, -, -, -, -, -, -, -, -, -, f0⟩ := PBlk.cells hk.p
         refine Op1.g fun _ Z => ?_; go_simp
         have hk0 := hk.set (PBlk.set_s2 hk.p (false))
         have hk1 := hk0.set (PBlk.set_h2 hk0.p (0))
         have hk2 := hk1.set (PBlk.set_l2 hk1.p (((num (sb L 16 4) : Nat) : Int)))
         exact Z _ _ ⟨Nat.le_refl _, ⟨hk2, hC.2.trans (((SS.set (n := 1) (n' := 2) hk.p 3 _ (by omega)).trans (SS.set (n := 2) (n' := 2) hk0.p 4 _ (by omega))).trans (SS.set (n := 2) (n' := 2) hk1.p 5 _ (by omega)))⟩, (((SS.set (n := 1) (n' := 2) hk.p 3 _ (by omega)).trans (SS.set (n := 2) (n' := 2) hk0.p 4 _ (by omega))).trans (SS.set (n := 2) (n' := 2) hk1.p 5 _ (by omega)))⟩
       case hendg =>
        intro T wx ⟨n, hn, hC, hR⟩
        have hk : 2 ≤ n := hR 11 (by omega)
        obtain rfl : n = 2 := by omega
        have HSg : Hid (RS w1 P w.heap.size (.slice (some ⟨g, o, none⟩) nb c) L ({ PV.zero with s1 := false, h1 := 0, l1 := ((num (sb L 12 4) : Nat) : Int), s2 := false, h2 := 0, l2 := ((num (sb L 16 4) : Nat) : Int) }) wx) := Lib.hid hC.1
        have HUg := Lib.hid hC.2
        clear hR hC
        simp only [List.drop_succ_cons, List.drop_nil]
        unfold wpList
        go_upto_region 12 with fail
        generalize wx = w6 at *
        clear HUg
        refine Lm.wp_region_lim 12 2 (fun p vv nn ww => (List.getD ((.val (.slice (some ⟨g, o, none⟩) nb c)) :: (.val (.pointer (some ⟨g, o + 8, none⟩))) :: (.val (.int .u8 (((ub L 8).toNat : Nat) : Int))) :: (.val (.int .i64 (((ub L 8).toNat : Nat) : Int))) :: (.val (.slice (some ⟨g, o, none⟩) nb c)) :: (.val (.pointer (some ⟨g, o + 9, none⟩))) :: (.val (.int .u8 (((ub L 9).toNat : Nat) : Int))) :: (.val (.int .i64 (((ub L 9).toNat : Nat) : Int))) :: (.val (.pointer (some ⟨P, 6, none⟩))) :: (.st 1) :: (.val (.pointer (some ⟨P, 7, none⟩))) :: (.st 2) :: [] : List Vd) p .any).R vv nn ww) (fun nn ww => RS w1 P w.heap.size (.slice (some ⟨g, o, none⟩) nb c) L (List.getD [({ PV.zero with s1 := false, h1 := 0, l1 := ((num (sb L 12 4) : Nat) : Int), s2 := false, h2 := 0, l2 := ((num (sb L 16 4) : Nat) : Int) }), ({ PV.zero with s1 := false, h1 := 0, l1 := ((num (sb L 12 4) : Nat) : Int), s2 := false, h2 := 0, l2 := ((num (sb L 16 4) : Nat) : Int), hops := (((ub L 8).toNat : Nat) : Int) }), ({ PV.zero with s1 := false, h1 := 0, l1 := ((num (sb L 12 4) : Nat) : Int), s2 := false, h2 := 0, l2 := ((num (sb L 16 4) : Nat) : Int), hops := (((ub L 8).toNat : Nat) : Int), proto := (((ub L 9).toNat : Nat) : Int) })] nn ({ PV.zero with s1 := false, h1 := 0, l1 := ((num (sb L 12 4) : Nat) : Int), s2 := false, h2 := 0, l2 := ((num (sb L 16 4) : Nat) : Int), hops := (((ub L 8).toNat : Nat) : Int), proto := (((ub L 9).toNat : Nat) : Int) })) ww ∧ SS 0 w6 nn ww) SS (fun i => if i = 9 ∨ i = 11 then 1 else 0) (fun i => if i = 4 ∨ i = 5 ∨ i = 6 ∨ i = 7 ∨ i = 10 ∨ i = 11 then 1 else 0)
         (by kernel_rfl) (by kernel_rfl) (by decide) (by kernel_rfl) (fun p vv nn ww n' w' h hs => Vd.keep _ h hs) (⟨HSg.out.drew, SS.drew⟩) ?hXh
        case' hXh => (apply Exists.intro; refine ⟨fun T => ?hAh, ?hobh, ?hendh⟩)
        case hAh =>
         simp only [setAll, List.take_succ_cons, List.take_zero, Act.put, List.setIfInBounds_toArray, List.set_cons_succ, List.set_cons_zero, Nat.reduceAdd]
         exact rfl
        case hobh =>
         refine ⟨?_, ?_, ?_, ?_, ?_, ?_, ?_, ?_, ?_, ?_, ?_, ?_, trivial⟩
         ·intro T wx n hC (hn : n ≤ 0) hp
          refine Op1.g fun _ Z => ?_; go_simp; exact Z _ _ ⟨rfl, hC, sR⟩
         ·intro T wx n hC (hn : n ≤ 0) hp
          obtain ⟨(d0 : T 0 = .slice (some ⟨g, o, none⟩) nb c), -⟩ := hp
          exact Op1.indexB (k := 8) (.tmp 63) (.const (.int .i64 8)) rfl d0 rfl (by omega) ⟨rfl, hC, sR⟩
         ·intro T wx n hC (hn : n ≤ 0) hp
          obtain ⟨(d1 : T 1 = .pointer (some ⟨g, o + 8, none⟩)), -⟩ := hp
          have hz : (L).length = nb := Hn.out
          have cb : wx.cell? ⟨g, o + 8, none⟩ = some (.int .u8 (((ub L 8).toNat : Nat) : Int)) := hC.1.rb.get 8 (by omega)
          clear hz
          refine Op1.g fun _ Z => ?_; go_simp; exact Z _ _ ⟨rfl, hC, sR⟩
         ·intro T wx n hC (hn : n ≤ 0) hp
          obtain ⟨(d2 : T 2 = .int .u8 (((ub L 8).toNat : Nat) : Int)), -⟩ := hp
          refine Op1.g fun _ Z => ?_; go_simp
          have hb := (ub L 8).toNat_lt
          first | exact Z _ _ ⟨rfl, hC, sR⟩ | (refine Z _ _ ⟨congrArg (Value.int _) ?_, hC, sR⟩; first | omega | (simp only [IntKind.wrap_i64]; omega))
         ·intro T wx n hC (hn : n ≤ 1) hp
          refine Op1.g fun _ Z => ?_; go_simp; exact Z _ _ ⟨rfl, hC, sR⟩
         ·intro T wx n hC (hn : n ≤ 1) hp
          obtain ⟨(d4 : T 4 = .slice (some ⟨g, o, none⟩) nb c), -⟩ := hp
          exact Op1.indexB (k := 9) (.tmp 67) (.const (.int .i64 9)) rfl d4 rfl (by omega) ⟨rfl, hC, sR⟩
         ·intro T wx n hC (hn : n ≤ 1) hp
          obtain ⟨(d5 : T 5 = .pointer (some ⟨g, o + 9, none⟩)), -⟩ := hp
          have hz : (L).length = nb := Hn.out
          have cb : wx.cell? ⟨g, o + 9, none⟩ = some (.int .u8 (((ub L 9).toNat : Nat) : Int)) := hC.1.rb.get 9 (by omega)
          clear hz
          refine Op1.g fun _ Z => ?_; go_simp; exact Z _ _ ⟨rfl, hC, sR⟩
         ·intro T wx n hC (hn : n ≤ 1) hp
          obtain ⟨(d6 : T 6 = .int .u8 (((ub L 9).toNat : Nat) : Int)), -⟩ := hp
          refine Op1.g fun _ Z => ?_; go_simp
          have hb := (ub L 9).toNat_lt
          first | exact Z _ _ ⟨rfl, hC, sR⟩ | (refine Z _ _ ⟨congrArg (Value.int _) ?_, hC, sR⟩; first | omega | (simp only [IntKind.wrap_i64]; omega))
         ·intro T wx n hC (hn : n ≤ 0) hp
          obtain ⟨e0, e1, e2, e3, -⟩ := hp
          refine Op1.g fun _ Z => ?_; go_simp; exact Z _ _ ⟨rfl, hC, sR⟩
         ·intro T wx n hC (hn : n ≤ 0) hp
          obtain ⟨(d8 : T 8 = .pointer (some ⟨P, 6, none⟩)), (d3 : T 3 = .int .i64 (((ub L 8).toNat : Nat) : Int)), -⟩ := hp
          obtain rfl : n = 0 := by omega
          have hk : RS w1 P w.heap.size (.slice (some ⟨g, o, none⟩) nb c) L ({ PV.zero with s1 := false, h1 := 0, l1 := ((num (sb L 12 4) : Nat) : Int), s2 := false, h2 := 0, l2 := ((num (sb L 16 4) : Nat) : Int) }) wx := hC.1
          obtain ⟨-, -, -, -, -, -, c6, -, -, -, -, -, -, -, -, -, -, -, -, f0⟩ := PBlk.cells hk.p
          refine Op1.g fun _ Z => ?_; go_simp
          have hk0 := hk.set (PBlk.set_hops hk.p ((((ub L 8).toNat : Nat) : Int)))
          exact Z _ _ ⟨Nat.le_refl _, ⟨hk0, hC.2.trans (SS.set (n := 0) (n' := 1) hk.p 6 _ (by omega))⟩, (SS.set (n := 0) (n' := 1) hk.p 6 _ (by omega))⟩
         ·intro T wx n hC (hn : n ≤ 1) hp
          obtain ⟨e0, e1, e2, e3, e4, e5, e6, e7, e8, e9, -⟩ := hp
          refine Op1.g fun _ Z => ?_; go_simp; exact Z _ _ ⟨rfl, hC, sR⟩
         ·intro T wx n hC (hn : n ≤ 1) hp
          obtain ⟨(d10 : T 10 = .pointer (some ⟨P, 7, none⟩)), (d7 : T 7 = .int .i64 (((ub L 9).toNat : Nat) : Int)), (d9 : 1 ≤ n), -⟩ := hp
          obtain rfl : n = 1 := by omega
          have hk : RS w1 P w.heap.size (.slice (some ⟨g, o, none⟩) nb c) L ({ PV.zero with s1 := false, h1 := 0, l1 := ((num (sb L 12 4) : Nat) : Int), s2 := false, h2 := 0, l2 := ((num (sb L 16 4) : Nat) : Int), hops := (((ub L 8).toNat : Nat) : Int) }) wx := hC.1
          obtain ⟨-, -, -, -, -, -, -, c7, -, -, -, -, -, -, -, -, -, -, -, f0⟩ := PBlk.cells hk.p
          refine Op1.g fun _ Z => ?_; go_simp
          have hk0 := hk.set (PBlk.set_proto hk.p ((((ub L 9).toNat : Nat) : Int)))
          exact Z _ _ ⟨Nat.le_refl _, ⟨hk0, hC.2.trans (SS.set (n := 1) (n' := 2) hk.p 7 _ (by omega))⟩, (SS.set (n := 1) (n' := 2) hk.p 7 _ (by omega))⟩
        case hendh =>
         intro T wx ⟨n, hn, hC, hR⟩
         have hk : 2 ≤ n := hR 11 (by omega)
         obtain rfl : n = 2 := by omega
         have HSh : Hid (RS w1 P w.heap.size (.slice (some ⟨g, o, none⟩) nb c) L ({ PV.zero with s1 := false, h1 := 0, l1 := ((num (sb L 12 4) : Nat) : Int), s2 := false, h2 := 0, l2 := ((num (sb L 16 4) : Nat) : Int), hops := (((ub L 8).toNat : Nat) : Int), proto := (((ub L 9).toNat : Nat) : Int) }) wx) := Lib.hid hC.1
         have HUh := Lib.hid hC.2
         clear hR hC
         simp only [List.drop_succ_cons, List.drop_nil]
         unfold wpList
         have HSk : Hid (RS w1 P w.heap.size (.slice (some ⟨g, o, none⟩) nb c) L ((x4 L).pv (.slice none 0 0)) wx) := HSh
         have He : Hid (headE L 3 15 4 = if known (x4 L).proto then 0 else 4) := Lib.hid (by rw [headE4 L (by rw [Hn.out]; omega) H0.out, if_neg (not_not_intro Hs.out), if_neg (not_not_intro Hf.out)])
         obtain ⟨hX1, hX2, -⟩ := headIs4 L H0.out
         have HX : Hid ((headX L).pv (.slice none 0 0) = (x4 L).pv (.slice none 0 0) ∧ headAt L = 20) := Lib.hid ⟨by rw [hX1], hX2⟩
         clear hX1 hX2 HUh HSg HSh
         generalize hxe : x4 L = x at *
         have HXe := Lib.hid hxe
         clear hxe
         obtain ⟨-, -, -, -, -, -, -, c7, -⟩ := PBlk.cells (HSk.out.later (below_alloc (Below.refl _ _) (.cells #[.int .i64 1, .int .i64 6, .int .i64 17] 3 (0, 0)))).p
         replace c7 : (wx.alloc (.cells #[.int .i64 1, .int .i64 6, .int .i64 17] 3 (0, 0))).cell? ⟨P, 7, none⟩ = some (.int .i64 ((x.proto : Nat) : Int)) := c7
         go_wp2_with fail
         refine (contains3 _ 1 6 17 _ _ ((cell_of_row _ _ 0 #[.int .i64 1, .int .i64 6, .int .i64 17] _ _ (heap_alloc_new _ _)).trans rfl) ((cell_of_row _ _ 1 #[.int .i64 1, .int .i64 6, .int .i64 17] _ _ (heap_alloc_new _ _)).trans rfl) ((cell_of_row _ _ 2 #[.int .i64 1, .int .i64 6, .int .i64 17] _ _ (heap_alloc_new _ _)).trans rfl)).mono ?_
         rintro e w8 ⟨rfl, hB8⟩
         have HS8 := Lib.hid ((HSk.out.later (below_alloc (Below.refl _ _) _)).later hB8)
         clear HSk hB8 c7
         rcases (Decidable.em (known x.proto)).symm with hk | hk
         ·have Hk := Lib.hid hk
          rw [decide_eq_false (show ¬ ((x.proto : Int) = 1 ∨ (x.proto : Int) = 6 ∨ (x.proto : Int) = 17) from fun h => hk (by unfold known; omega))]
          clear hk
          have HAr := Lib.hid (grown_blk HS8.out.g HA1.out (by omega))
          go_wp2_with (first | (refine wpList_load_row rfl 45 (.tmp 5) rfl P rfl 45 (x.pv (.slice none 0 0)).cells (0, 0) _ HS8.out.p Try.underlying45 rfl (by kernel_rfl) ?_) | (refine wpList_store_row rfl 45 (.tmp 2) (.tmp 78) rfl w.heap.size (x.pv (.slice none 0 0)).cells rfl rfl 45 PV.zero.cells HAr.out (by kernel_rfl) rfl (PV.one _ rfl) ?_))
          refine bodyPost_ret (v := .tuple #[.agg (x.pv (.slice none 0 0)).cells, .int .i64 0, .int .i64 4]) (results_cr3 Try.results77 _ _ w.heap.size 45 (x.pv (.slice none 0 0)).cells (0, 0) _ rfl (setRow_heap _ _ _ _ _ _ HAr.out) Try.underlying45 rfl (by kernel_rfl) rfl rfl) rfl ?_
          exact HeadR.bad (k := 4) (below_setRow (grown_to_below HB1.out HS8.out.g (by omega) (by omega)) (Nat.le_refl _) _) (by rw [He.out, if_neg Hk.out]) (by decide) (x.pv (.slice none 0 0)) rfl rfl
         ·have Hk := Lib.hid hk
          rw [decide_eq_true (show ((x.proto : Int) = 1 ∨ (x.proto : Int) = 6 ∨ (x.proto : Int) = 17) from by unfold known at hk; omega)]
          clear hk
          have HAr := Lib.hid (grown_blk HS8.out.g HA1.out (by omega))
          go_wp2_with (first | (refine wpList_load_row rfl 45 (.tmp 5) rfl P rfl 45 (x.pv (.slice none 0 0)).cells (0, 0) _ HS8.out.p Try.underlying45 rfl (by kernel_rfl) ?_) | (refine wpList_store_row rfl 45 (.tmp 2) (.tmp 79) rfl w.heap.size (x.pv (.slice none 0 0)).cells rfl rfl 45 PV.zero.cells HAr.out (by kernel_rfl) rfl (PV.one _ rfl) ?_))
          refine bodyPost_ret (v := .tuple #[.agg (x.pv (.slice none 0 0)).cells, .int .i64 20, .int .i64 0]) (results_cr3 Try.results77 _ _ w.heap.size 45 (x.pv (.slice none 0 0)).cells (0, 0) _ rfl (setRow_heap _ _ _ _ _ _ HAr.out) Try.underlying45 rfl (by kernel_rfl) rfl rfl) rfl ?_
          exact HeadR.good (x := x) (k := 20) (below_setRow (grown_to_below HB1.out HS8.out.g (by omega) (by omega)) (Nat.le_refl _) _) (by rw [He.out, if_pos Hk.out]) HX.out.1 HX.out.2
end Go.Proofs.Ytakjopbdkkcnlaa
