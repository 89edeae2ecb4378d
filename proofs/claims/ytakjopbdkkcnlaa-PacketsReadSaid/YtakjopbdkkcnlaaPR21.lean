/-
  The head of a packet whose addresses are long, as the reference reads it.
-/
import Derived.Test.YtakjopbdkkcnlaaPR16
set_option linter.unusedVariables false
namespace Go.Proofs.Ytakjopbdkkcnlaa
open Go.RowKit Go
set_option linter.unusedVariables false


set_option maxRecDepth 100000 in
set_option maxHeartbeats 8000000 in
theorem headRead_6 (w : World) (g o c nb : Nat) (L : List UInt8) (hR : Rb w.heap.size w (.slice (some ⟨g, o, none⟩) nb c) L) (h20 : 20 ≤ nb) (hL : L.length ≤ 1400) (h0 : ub L 0 = 96) :
  Calls Try.prog 77 #[.slice (some ⟨g, o, none⟩) nb c] w fun e w' => HeadR L w e w' := by
 obtain ⟨hn, hc1, hc2⟩ := hR.len
 have Hn : Hid (L.length = nb) := Lib.hid hn.symm
 rw [hn.symm] at hc1 hL
 have hcn : nb ≤ c := hc1
 have hcz : (20 : Int) ≤ (c : Int) := by omega
 have HR := Lib.hid hR
 clear hR hn hc1
 have HP1 : Hid (PBlk ((w.alloc (.cells ZC 45 (0, 0))).alloc (.cells ZC 45 (0, 0))) (w.heap.size + 1) PV.zero) := Lib.hid (by have := Blk.new (w.alloc (.cells ZC 45 (0, 0))) 45 PV.zero.cells; rw [World.size_alloc] at this; exact this)
 have HA1 : Hid (PBlk ((w.alloc (.cells ZC 45 (0, 0))).alloc (.cells ZC 45 (0, 0))) w.heap.size PV.zero) := Lib.hid (Blk.alloc (Blk.new w _ _) _)
 have HB1 : Hid (Below w.heap.size w ((w.alloc (.cells ZC 45 (0, 0))).alloc (.cells ZC 45 (0, 0)))) := Lib.hid (below_alloc (below_alloc (Below.refl _ _) _) _)
 have hnb20 : ¬ ((nb : Int) < 20) := by omega
 go_enter Try.func77, Try.ntmps77
 go_upto_region 4 with fail
 generalize ((w.alloc (.cells ZC 45 (0, 0))).alloc (.cells ZC 45 (0, 0))) = w1 at *
 have hsz1 := Blk.lt HP1.out
 generalize hPw : w.heap.size + 1 = P at *
 have HR1 := Lib.hid (HR.out.below HB1.out)
 have HS1 : Hid (RS w1 P w.heap.size (.slice (some ⟨g, o, none⟩) nb c) L PV.zero w1) := Lib.hid ⟨World.grownBy.refl _ _, HP1.out, HR1.out, by omega, by omega⟩
 have H0 := Lib.hid h0
 clear h0 hcz
 have cb : w1.cell? ⟨g, o, none⟩ = some (.int .u8 96) := (HR1.out.get 0 (by have := Hn.out; omega)).trans (by
  show some (Value.int .u8 ((ub L 0).toNat : Int)) = _
  rw [H0.out]; rfl)
 go_upto_region 18 with fail
 clear cb
 have He : Hid (¬ form6 L → headE L 3 15 4 = 3) := Lib.hid fun h => by rw [headE6 L (by rw [Hn.out]; omega) H0.out, if_pos h]
 rcases Nat.lt_or_ge nb 40 with h40 | h40
 ·have H1 : Hid ((decide (((nb : Nat) : Int) < 40)) = true) := Lib.hid (decide_eq_true (by omega))
  have Hf : Hid (¬ form6 L) := Lib.hid fun hf => by have := hf.1; have := Hn.out; omega
  refine Lm.wp_region_seq 19 0 (fun p vv nn ww => (List.getD ((.val (.slice (some ⟨g, o, none⟩) nb c)) :: (.val (.int .i64 ((nb : Nat) : Int))) :: (.val (.bool true)) :: (.val (.bool true)) :: (.val (undef)) :: (.val (undef)) :: (.val (undef)) :: (.val (undef)) :: (.val (undef)) :: (.val (undef)) :: (.val (undef)) :: (.val (undef)) :: (.val (.bool true)) :: (.val (.bool true)) :: (.val (undef)) :: (.val (undef)) :: (.val (undef)) :: (.val (undef)) :: (.val (.bool true)) :: [] : List Vd) p .any).R vv nn ww) (fun _ ww => RS w1 P w.heap.size (.slice (some ⟨g, o, none⟩) nb c) L (PV.zero) ww ∧ Below w1.heap.size w1 ww) SS (fun _ => 0) (fun _ => 0)
   (by kernel_rfl) (by kernel_rfl) (by decide) (by kernel_rfl) (fun p vv nn ww n' w' h hs => Vd.keep _ h hs) (⟨HS1.out, Below.refl _ _⟩) ?hXa
  case' hXa => (apply Exists.intro; refine ⟨fun T => ?hAa, ?hoba, ?henda⟩)
  case hAa =>
   simp only [setAll, List.take_succ_cons, List.take_zero, Act.put, List.setIfInBounds_toArray, List.set_cons_succ, List.set_cons_zero, Nat.reduceAdd]
   exact rfl
  case hoba =>
   refine ⟨?_, ?_, ?_, ?_, ?_, ?_, ?_, ?_, ?_, ?_, ?_, ?_, ?_, ?_, ?_, ?_, ?_, ?_, ?_, trivial⟩
   ·intro T wx n hC (hn : n ≤ 0) hp
    refine Op1.g fun _ Z => ?_; go_simp; exact Z _ _ ⟨rfl, hC, sR⟩
   ·intro T wx n hC (hn : n ≤ 0) hp
    obtain ⟨(d0 : T 0 = .slice (some ⟨g, o, none⟩) nb c), -⟩ := hp
    refine Op1.g fun _ Z => ?_; go_simp; exact Z _ _ ⟨rfl, hC, sR⟩
   ·intro T wx n hC (hn : n ≤ 0) hp
    obtain ⟨(d1 : T 1 = .int .i64 ((nb : Nat) : Int)), -⟩ := hp
    refine Op1.g fun _ Z => ?_; go_simp; first | exact Z _ _ ⟨congrArg Value.bool (H1.out), hC, sR⟩ | exact Z _ _ ⟨rfl, hC, sR⟩ | (refine Z _ _ ⟨congrArg Value.bool ?_, hC, sR⟩; simpa using H1.out)
   ·intro T wx n hC (hn : n ≤ 0) hp
    obtain ⟨(d2 : T 2 = .bool true), -⟩ := hp
    refine Op1.g fun _ Z => ?_; go_simp; exact Z _ _ ⟨rfl, hC, sR⟩
   ·intro T wx n hC (hn : n ≤ 0) hp
    obtain ⟨(d3 : T 3 = .bool true), -⟩ := hp
    refine ⟨fun hT => ?_, fun hT => ⟨rfl, hC, sR⟩⟩
    rw [d3] at hT
    cases hT
   ·intro T wx n hC (hn : n ≤ 0) hp
    obtain ⟨-, (d3 : T 3 = .bool true), -⟩ := hp
    refine ⟨fun hT => ?_, fun hT => ⟨rfl, hC, sR⟩⟩
    rw [d3] at hT
    cases hT
   ·intro T wx n hC (hn : n ≤ 0) hp
    obtain ⟨-, (d3 : T 3 = .bool true), -⟩ := hp
    refine ⟨fun hT => ?_, fun hT => ⟨rfl, hC, sR⟩⟩
    rw [d3] at hT
    cases hT
   ·intro T wx n hC (hn : n ≤ 0) hp
    obtain ⟨-, (d3 : T 3 = .bool true), -⟩ := hp
    refine ⟨fun hT => ?_, fun hT => ⟨rfl, hC, sR⟩⟩
    rw [d3] at hT
    cases hT
   ·intro T wx n hC (hn : n ≤ 0) hp
    obtain ⟨(d3 : T 3 = .bool true), -⟩ := hp
    refine ⟨fun hT => ?_, fun hT => ⟨rfl, hC, sR⟩⟩
    rw [d3] at hT
    cases hT
   ·intro T wx n hC (hn : n ≤ 0) hp
    obtain ⟨-, (d3 : T 3 = .bool true), -⟩ := hp
    refine ⟨fun hT => ?_, fun hT => ⟨rfl, hC, sR⟩⟩
    rw [d3] at hT
    cases hT
   ·intro T wx n hC (hn : n ≤ 0) hp
    obtain ⟨-, (d3 : T 3 = .bool true), -⟩ := hp
    refine ⟨fun hT => ?_, fun hT => ⟨rfl, hC, sR⟩⟩
    rw [d3] at hT
    cases hT
   ·intro T wx n hC (hn : n ≤ 0) hp
    obtain ⟨-, -, (d3 : T 3 = .bool true), -⟩ := hp
    refine ⟨fun hT => ?_, fun hT => ⟨rfl, hC, sR⟩⟩
    rw [d3] at hT
    cases hT
   ·intro T wx n hC (hn : n ≤ 0) hp
    obtain ⟨(d3 : T 3 = .bool true), -⟩ := hp
    refine Op1.g fun _ Z => ?_; go_simp; exact Z _ _ ⟨rfl, hC, sR⟩
   ·intro T wx n hC (hn : n ≤ 0) hp
    obtain ⟨(d12 : T 12 = .bool true), -⟩ := hp
    refine Op1.g fun _ Z => ?_; go_simp; exact Z _ _ ⟨rfl, hC, sR⟩
   ·intro T wx n hC (hn : n ≤ 0) hp
    obtain ⟨(d13 : T 13 = .bool true), -⟩ := hp
    refine ⟨fun hT => ?_, fun hT => ⟨rfl, hC, sR⟩⟩
    rw [d13] at hT
    cases hT
   ·intro T wx n hC (hn : n ≤ 0) hp
    obtain ⟨-, (d13 : T 13 = .bool true), -⟩ := hp
    refine ⟨fun hT => ?_, fun hT => ⟨rfl, hC, sR⟩⟩
    rw [d13] at hT
    cases hT
   ·intro T wx n hC (hn : n ≤ 0) hp
    obtain ⟨-, (d13 : T 13 = .bool true), -⟩ := hp
    refine ⟨fun hT => ?_, fun hT => ⟨rfl, hC, sR⟩⟩
    rw [d13] at hT
    cases hT
   ·intro T wx n hC (hn : n ≤ 0) hp
    obtain ⟨-, (d13 : T 13 = .bool true), -⟩ := hp
    refine ⟨fun hT => ?_, fun hT => ⟨rfl, hC, sR⟩⟩
    rw [d13] at hT
    cases hT
   ·intro T wx n hC (hn : n ≤ 0) hp
    obtain ⟨(d13 : T 13 = .bool true), -⟩ := hp
    refine Op1.g fun _ Z => ?_; go_simp; exact Z _ _ ⟨rfl, hC, sR⟩
  case henda =>
   intro T wx ⟨n, hn, hC, hR⟩
   have HSa := Lib.hid hC.1
   have HBa := Lib.hid hC.2
   have r105 : T 18 = .bool true := hR 18 (by omega)
   rw [r105]
   clear r105
   clear hR hC
   have HAr := Lib.hid (grown_blk HSa.out.g HA1.out (by omega))
   go_wp2_with (first | (refine wpList_load_row rfl 45 (.tmp 5) rfl P rfl 45 (PV.zero).cells (0, 0) _ HSa.out.p Try.underlying45 rfl (by kernel_rfl) ?_) | (refine wpList_store_row rfl 45 (.tmp 2) (.tmp 106) rfl w.heap.size (PV.zero).cells rfl rfl 45 PV.zero.cells HAr.out (by kernel_rfl) rfl (PV.one _ rfl) ?_))
   refine bodyPost_ret (v := .tuple #[.agg (PV.zero).cells, .int .i64 0, .int .i64 3]) (results_cr3 Try.results77 _ _ w.heap.size 45 (PV.zero).cells (0, 0) _ rfl (setRow_heap _ _ _ _ _ _ HAr.out) Try.underlying45 rfl (by kernel_rfl) rfl rfl) rfl ?_
   exact HeadR.bad (k := 3) (below_setRow (grown_to_below HB1.out HSa.out.g (by omega) (by omega)) (Nat.le_refl _) _) (by rw [He.out Hf.out]) (by decide) (PV.zero) rfl rfl
 ·have H1 : Hid ((decide (((nb : Nat) : Int) < 40)) = false) := Lib.hid (decide_eq_false (by omega))
  have hz3 := num3_zero L (by rw [Hn.out]; omega)
  rcases (Decidable.em (num (sb L 4 2) = nb - 40)).symm with hq | hq
  ·have H2 : Hid ((((num (sb L 4 2) : Nat) : Int) != (((nb - 40) : Nat) : Int)) = true) := Lib.hid (by rw [bne_iff_ne]; intro e; exact hq (Int.ofNat.inj e))
   have Hf : Hid (¬ form6 L) := Lib.hid fun hf => hq (by rw [← Hn.out]; exact hf.2.1)
   clear hq hz3
   refine Lm.wp_region_seq 19 0 (fun p vv nn ww => (List.getD ((.val (.slice (some ⟨g, o, none⟩) nb c)) :: (.val (.int .i64 ((nb : Nat) : Int))) :: (.val (.bool false)) :: (.val (.bool false)) :: (.val (.slice (some ⟨g, o, none⟩) nb c)) :: (.val (subV (some ⟨g, o, none⟩) c 4 6)) :: (.val (.int .u64 ((num (sb L 4 2) : Nat) : Int))) :: (.val (.int .i64 ((num (sb L 4 2) : Nat) : Int))) :: (.val (.slice (some ⟨g, o, none⟩) nb c)) :: (.val (.int .i64 ((nb : Nat) : Int))) :: (.val (.int .i64 ((nb - 40 : Nat) : Int))) :: (.val (.bool true)) :: (.val (.bool true)) :: (.val (.bool true)) :: (.val (undef)) :: (.val (undef)) :: (.val (undef)) :: (.val (undef)) :: (.val (.bool true)) :: [] : List Vd) p .any).R vv nn ww) (fun _ ww => RS w1 P w.heap.size (.slice (some ⟨g, o, none⟩) nb c) L (PV.zero) ww ∧ Below w1.heap.size w1 ww) SS (fun _ => 0) (fun _ => 0)
    (by kernel_rfl) (by kernel_rfl) (by decide) (by kernel_rfl) (fun p vv nn ww n' w' h hs => Vd.keep _ h hs) (⟨HS1.out, Below.refl _ _⟩) ?hXb
   case' hXb => (apply Exists.intro; refine ⟨fun T => ?hAb, ?hobb, ?hendb⟩)
   case hAb =>
    simp only [setAll, List.take_succ_cons, List.take_zero, Act.put, List.setIfInBounds_toArray, List.set_cons_succ, List.set_cons_zero, Nat.reduceAdd]
    exact rfl
   case hobb =>
    refine ⟨?_, ?_, ?_, ?_, ?_, ?_, ?_, ?_, ?_, ?_, ?_, ?_, ?_, ?_, ?_, ?_, ?_, ?_, ?_, trivial⟩
    ·intro T wx n hC (hn : n ≤ 0) hp
     refine Op1.g fun _ Z => ?_; go_simp; exact Z _ _ ⟨rfl, hC, sR⟩
    ·intro T wx n hC (hn : n ≤ 0) hp
     obtain ⟨(d0 : T 0 = .slice (some ⟨g, o, none⟩) nb c), -⟩ := hp
     refine Op1.g fun _ Z => ?_; go_simp; exact Z _ _ ⟨rfl, hC, sR⟩
    ·intro T wx n hC (hn : n ≤ 0) hp
     obtain ⟨(d1 : T 1 = .int .i64 ((nb : Nat) : Int)), -⟩ := hp
     refine Op1.g fun _ Z => ?_; go_simp; first | exact Z _ _ ⟨congrArg Value.bool (H1.out), hC, sR⟩ | exact Z _ _ ⟨rfl, hC, sR⟩ | (refine Z _ _ ⟨congrArg Value.bool ?_, hC, sR⟩; simpa using H1.out)
    ·intro T wx n hC (hn : n ≤ 0) hp
     obtain ⟨(d2 : T 2 = .bool false), -⟩ := hp
     refine Op1.g fun _ Z => ?_; go_simp; exact Z _ _ ⟨rfl, hC, sR⟩
    ·intro T wx n hC (hn : n ≤ 0) hp
     obtain ⟨(d3 : T 3 = .bool false), -⟩ := hp
     refine ⟨fun hT => ?_, fun hT => absurd d3 hT⟩
     refine Op1.g fun _ Z => ?_; go_simp; exact Z _ _ ⟨rfl, hC, sR⟩
    ·intro T wx n hC (hn : n ≤ 0) hp
     obtain ⟨(d4 : T 4 = .slice (some ⟨g, o, none⟩) nb c), (d3 : T 3 = .bool false), -⟩ := hp
     refine ⟨fun hT => ?_, fun hT => absurd d3 hT⟩
     exact Op1.slice_lh (l := 4) (h := 6) (.tmp 91) (.const (.int .i64 4)) (.const (.int .i64 6)) rfl d4 rfl rfl (by omega) (by omega) ⟨rfl, hC, sR⟩
    ·intro T wx n hC (hn : n ≤ 0) hp
     obtain ⟨(d5 : T 5 = subV (some ⟨g, o, none⟩) c 4 6), (d3 : T 3 = .bool false), -⟩ := hp
     refine ⟨fun hT => ?_, fun hT => absurd d3 hT⟩
     have hz : (L).length = nb := Hn.out
     refine Op1.g fun _ Z => ?_; go_simp; exact calls_post (val_same0 hC (number_rb (hC.1.rb.sub 4 2 (by omega)) (by rw [sb_len L 4 2 (by omega)]; omega))) Z
    ·intro T wx n hC (hn : n ≤ 0) hp
     obtain ⟨(d6 : T 6 = .int .u64 ((num (sb L 4 2) : Nat) : Int)), (d3 : T 3 = .bool false), -⟩ := hp
     refine ⟨fun hT => ?_, fun hT => absurd d3 hT⟩
     refine Op1.g fun _ Z => ?_; go_simp
     have hb := Nat.lt_of_lt_of_le (num_sb L 4 2) (by decide : 256 ^ 2 ≤ 65536)
     first | exact Z _ _ ⟨rfl, hC, sR⟩ | (refine Z _ _ ⟨congrArg (Value.int _) ?_, hC, sR⟩; first | omega | (simp only [IntKind.wrap_i64]; omega))
    ·intro T wx n hC (hn : n ≤ 0) hp
     obtain ⟨(d3 : T 3 = .bool false), -⟩ := hp
     refine ⟨fun hT => ?_, fun hT => absurd d3 hT⟩
     refine Op1.g fun _ Z => ?_; go_simp; exact Z _ _ ⟨rfl, hC, sR⟩
    ·intro T wx n hC (hn : n ≤ 0) hp
     obtain ⟨(d8 : T 8 = .slice (some ⟨g, o, none⟩) nb c), (d3 : T 3 = .bool false), -⟩ := hp
     refine ⟨fun hT => ?_, fun hT => absurd d3 hT⟩
     refine Op1.g fun _ Z => ?_; go_simp; exact Z _ _ ⟨rfl, hC, sR⟩
    ·intro T wx n hC (hn : n ≤ 0) hp
     obtain ⟨(d9 : T 9 = .int .i64 ((nb : Nat) : Int)), (d3 : T 3 = .bool false), -⟩ := hp
     refine ⟨fun hT => ?_, fun hT => absurd d3 hT⟩
     refine Op1.g fun _ Z => ?_; go_simp
     first | exact Z _ _ ⟨rfl, hC, sR⟩ | (refine Z _ _ ⟨congrArg (Value.int _) ?_, hC, sR⟩; first | omega | (simp only [IntKind.wrap_i64]; omega))
    ·intro T wx n hC (hn : n ≤ 0) hp
     obtain ⟨(d7 : T 7 = .int .i64 ((num (sb L 4 2) : Nat) : Int)), (d10 : T 10 = .int .i64 ((nb - 40 : Nat) : Int)), (d3 : T 3 = .bool false), -⟩ := hp
     refine ⟨fun hT => ?_, fun hT => absurd d3 hT⟩
     refine Op1.g fun _ Z => ?_; go_simp; first | exact Z _ _ ⟨congrArg Value.bool (H2.out), hC, sR⟩ | exact Z _ _ ⟨rfl, hC, sR⟩ | (refine Z _ _ ⟨congrArg Value.bool ?_, hC, sR⟩; simpa using H2.out)
    ·intro T wx n hC (hn : n ≤ 0) hp
     obtain ⟨(d3 : T 3 = .bool false), (d11 : T 11 = .bool true), -⟩ := hp
     refine Op1.g fun _ Z => ?_; go_simp; exact Z _ _ ⟨rfl, hC, sR⟩
    ·intro T wx n hC (hn : n ≤ 0) hp
     obtain ⟨(d12 : T 12 = .bool true), -⟩ := hp
     refine Op1.g fun _ Z => ?_; go_simp; exact Z _ _ ⟨rfl, hC, sR⟩
    ·intro T wx n hC (hn : n ≤ 0) hp
     obtain ⟨(d13 : T 13 = .bool true), -⟩ := hp
     refine ⟨fun hT => ?_, fun hT => ⟨rfl, hC, sR⟩⟩
     rw [d13] at hT
     cases hT
    ·intro T wx n hC (hn : n ≤ 0) hp
     obtain ⟨-, (d13 : T 13 = .bool true), -⟩ := hp
     refine ⟨fun hT => ?_, fun hT => ⟨rfl, hC, sR⟩⟩
     rw [d13] at hT
     cases hT
    ·intro T wx n hC (hn : n ≤ 0) hp
     obtain ⟨-, (d13 : T 13 = .bool true), -⟩ := hp
     refine ⟨fun hT => ?_, fun hT => ⟨rfl, hC, sR⟩⟩
     rw [d13] at hT
     cases hT
    ·intro T wx n hC (hn : n ≤ 0) hp
     obtain ⟨-, (d13 : T 13 = .bool true), -⟩ := hp
     refine ⟨fun hT => ?_, fun hT => ⟨rfl, hC, sR⟩⟩
     rw [d13] at hT
     cases hT
    ·intro T wx n hC (hn : n ≤ 0) hp
     obtain ⟨(d13 : T 13 = .bool true), -⟩ := hp
     refine Op1.g fun _ Z => ?_; go_simp; exact Z _ _ ⟨rfl, hC, sR⟩
   case hendb =>
    intro T wx ⟨n, hn, hC, hR⟩
    have HSb := Lib.hid hC.1
    have HBb := Lib.hid hC.2
    have r105 : T 18 = .bool true := hR 18 (by omega)
    rw [r105]
    clear r105
    clear hR hC
    have HAr := Lib.hid (grown_blk HSb.out.g HA1.out (by omega))
    go_wp2_with (first | (refine wpList_load_row rfl 45 (.tmp 5) rfl P rfl 45 (PV.zero).cells (0, 0) _ HSb.out.p Try.underlying45 rfl (by kernel_rfl) ?_) | (refine wpList_store_row rfl 45 (.tmp 2) (.tmp 106) rfl w.heap.size (PV.zero).cells rfl rfl 45 PV.zero.cells HAr.out (by kernel_rfl) rfl (PV.one _ rfl) ?_))
    refine bodyPost_ret (v := .tuple #[.agg (PV.zero).cells, .int .i64 0, .int .i64 3]) (results_cr3 Try.results77 _ _ w.heap.size 45 (PV.zero).cells (0, 0) _ rfl (setRow_heap _ _ _ _ _ _ HAr.out) Try.underlying45 rfl (by kernel_rfl) rfl rfl) rfl ?_
    exact HeadR.bad (k := 3) (below_setRow (grown_to_below HB1.out HSb.out.g (by omega) (by omega)) (Nat.le_refl _) _) (by rw [He.out Hf.out]) (by decide) (PV.zero) rfl rfl
  ·have H2 : Hid ((((num (sb L 4 2) : Nat) : Int) != (((nb - 40) : Nat) : Int)) = false) := Lib.hid (by rw [hq]; simp)
   have Hq := Lib.hid hq
   clear hq
   rcases (Decidable.em (num (sb L 1 3) = 0)).symm with h3 | h3
   ·have H3 : Hid ((decide (0 < ((num (sb L 1 3) : Nat) : Int))) = true) := Lib.hid (decide_eq_true (by omega))
    have Hf : Hid (¬ form6 L) := Lib.hid fun hf => h3 (hz3.2 hf.2.2)
    clear h3 hz3
    refine Lm.wp_region_seq 19 0 (fun p vv nn ww => (List.getD ((.val (.slice (some ⟨g, o, none⟩) nb c)) :: (.val (.int .i64 ((nb : Nat) : Int))) :: (.val (.bool false)) :: (.val (.bool false)) :: (.val (.slice (some ⟨g, o, none⟩) nb c)) :: (.val (subV (some ⟨g, o, none⟩) c 4 6)) :: (.val (.int .u64 ((num (sb L 4 2) : Nat) : Int))) :: (.val (.int .i64 ((num (sb L 4 2) : Nat) : Int))) :: (.val (.slice (some ⟨g, o, none⟩) nb c)) :: (.val (.int .i64 ((nb : Nat) : Int))) :: (.val (.int .i64 ((nb - 40 : Nat) : Int))) :: (.val (.bool false)) :: (.val (.bool false)) :: (.val (.bool false)) :: (.val (.slice (some ⟨g, o, none⟩) nb c)) :: (.val (subV (some ⟨g, o, none⟩) c 1 4)) :: (.val (.int .u64 ((num (sb L 1 3) : Nat) : Int))) :: (.val (.bool true)) :: (.val (.bool true)) :: [] : List Vd) p .any).R vv nn ww) (fun _ ww => RS w1 P w.heap.size (.slice (some ⟨g, o, none⟩) nb c) L (PV.zero) ww ∧ Below w1.heap.size w1 ww) SS (fun _ => 0) (fun _ => 0)
     (by kernel_rfl) (by kernel_rfl) (by decide) (by kernel_rfl) (fun p vv nn ww n' w' h hs => Vd.keep _ h hs) (⟨HS1.out, Below.refl _ _⟩) ?hXc
    case' hXc => (apply Exists.intro; refine ⟨fun T => ?hAc, ?hobc, ?hendc⟩)
    case hAc =>
     simp only [setAll, List.take_succ_cons, List.take_zero, Act.put, List.setIfInBounds_toArray, List.set_cons_succ, List.set_cons_zero, Nat.reduceAdd]
     exact rfl
    case hobc =>
     refine ⟨?_, ?_, ?_, ?_, ?_, ?_, ?_, ?_, ?_, ?_, ?_, ?_, ?_, ?_, ?_, ?_, ?_, ?_, ?_, trivial⟩
     ·intro T wx n hC (hn : n ≤ 0) hp
      refine Op1.g fun _ Z => ?_; go_simp; exact Z _ _ ⟨rfl, hC, sR⟩
     ·intro T wx n hC (hn : n ≤ 0) hp
      obtain ⟨(d0 : T 0 = .slice (some ⟨g, o, none⟩) nb c), -⟩ := hp
      refine Op1.g fun _ Z => ?_; go_simp; exact Z _ _ ⟨rfl, hC, sR⟩
     ·intro T wx n hC (hn : n ≤ 0) hp
      obtain ⟨(d1 : T 1 = .int .i64 ((nb : Nat) : Int)), -⟩ := hp
      refine Op1.g fun _ Z => ?_; go_simp; first | exact Z _ _ ⟨congrArg Value.bool (H1.out), hC, sR⟩ | exact Z _ _ ⟨rfl, hC, sR⟩ | (refine Z _ _ ⟨congrArg Value.bool ?_, hC, sR⟩; simpa using H1.out)
     ·intro T wx n hC (hn : n ≤ 0) hp
      obtain ⟨(d2 : T 2 = .bool false), -⟩ := hp
      refine Op1.g fun _ Z => ?_; go_simp; exact Z _ _ ⟨rfl, hC, sR⟩
     ·intro T wx n hC (hn : n ≤ 0) hp
      obtain ⟨(d3 : T 3 = .bool false), -⟩ := hp
      refine ⟨fun hT => ?_, fun hT => absurd d3 hT⟩
      refine Op1.g fun _ Z => ?_; go_simp; exact Z _ _ ⟨rfl, hC, sR⟩
     ·intro T wx n hC (hn : n ≤ 0) hp
      obtain ⟨(d4 : T 4 = .slice (some ⟨g, o, none⟩) nb c), (d3 : T 3 = .bool false), -⟩ := hp
      refine ⟨fun hT => ?_, fun hT => absurd d3 hT⟩
      exact Op1.slice_lh (l := 4) (h := 6) (.tmp 91) (.const (.int .i64 4)) (.const (.int .i64 6)) rfl d4 rfl rfl (by omega) (by omega) ⟨rfl, hC, sR⟩
     ·intro T wx n hC (hn : n ≤ 0) hp
      obtain ⟨(d5 : T 5 = subV (some ⟨g, o, none⟩) c 4 6), (d3 : T 3 = .bool false), -⟩ := hp
      refine ⟨fun hT => ?_, fun hT => absurd d3 hT⟩
      have hz : (L).length = nb := Hn.out
      refine Op1.g fun _ Z => ?_; go_simp; exact calls_post (val_same0 hC (number_rb (hC.1.rb.sub 4 2 (by omega)) (by rw [sb_len L 4 2 (by omega)]; omega))) Z
     ·intro T wx n hC (hn : n ≤ 0) hp
      obtain ⟨(d6 : T 6 = .int .u64 ((num (sb L 4 2) : Nat) : Int)), (d3 : T 3 = .bool false), -⟩ := hp
      refine ⟨fun hT => ?_, fun hT => absurd d3 hT⟩
      refine Op1.g fun _ Z => ?_; go_simp
      have hb := Nat.lt_of_lt_of_le (num_sb L 4 2) (by decide : 256 ^ 2 ≤ 65536)
      first | exact Z _ _ ⟨rfl, hC, sR⟩ | (refine Z _ _ ⟨congrArg (Value.int _) ?_, hC, sR⟩; first | omega | (simp only [IntKind.wrap_i64]; omega))
     ·intro T wx n hC (hn : n ≤ 0) hp
      obtain ⟨(d3 : T 3 = .bool false), -⟩ := hp
      refine ⟨fun hT => ?_, fun hT => absurd d3 hT⟩
      refine Op1.g fun _ Z => ?_; go_simp; exact Z _ _ ⟨rfl, hC, sR⟩
     ·intro T wx n hC (hn : n ≤ 0) hp
      obtain ⟨(d8 : T 8 = .slice (some ⟨g, o, none⟩) nb c), (d3 : T 3 = .bool false), -⟩ := hp
      refine ⟨fun hT => ?_, fun hT => absurd d3 hT⟩
      refine Op1.g fun _ Z => ?_; go_simp; exact Z _ _ ⟨rfl, hC, sR⟩
     ·intro T wx n hC (hn : n ≤ 0) hp
      obtain ⟨(d9 : T 9 = .int .i64 ((nb : Nat) : Int)), (d3 : T 3 = .bool false), -⟩ := hp
      refine ⟨fun hT => ?_, fun hT => absurd d3 hT⟩
      refine Op1.g fun _ Z => ?_; go_simp
      first | exact Z _ _ ⟨rfl, hC, sR⟩ | (refine Z _ _ ⟨congrArg (Value.int _) ?_, hC, sR⟩; first | omega | (simp only [IntKind.wrap_i64]; omega))
     ·intro T wx n hC (hn : n ≤ 0) hp
      obtain ⟨(d7 : T 7 = .int .i64 ((num (sb L 4 2) : Nat) : Int)), (d10 : T 10 = .int .i64 ((nb - 40 : Nat) : Int)), (d3 : T 3 = .bool false), -⟩ := hp
      refine ⟨fun hT => ?_, fun hT => absurd d3 hT⟩
      refine Op1.g fun _ Z => ?_; go_simp; first | exact Z _ _ ⟨congrArg Value.bool (H2.out), hC, sR⟩ | exact Z _ _ ⟨rfl, hC, sR⟩ | (refine Z _ _ ⟨congrArg Value.bool ?_, hC, sR⟩; simpa using H2.out)
     ·intro T wx n hC (hn : n ≤ 0) hp
      obtain ⟨(d3 : T 3 = .bool false), (d11 : T 11 = .bool false), -⟩ := hp
      refine Op1.g fun _ Z => ?_; go_simp; exact Z _ _ ⟨rfl, hC, sR⟩
     ·intro T wx n hC (hn : n ≤ 0) hp
      obtain ⟨(d12 : T 12 = .bool false), -⟩ := hp
      refine Op1.g fun _ Z => ?_; go_simp; exact Z _ _ ⟨rfl, hC, sR⟩
     ·intro T wx n hC (hn : n ≤ 0) hp
      obtain ⟨(d13 : T 13 = .bool false), -⟩ := hp
      refine ⟨fun hT => ?_, fun hT => absurd d13 hT⟩
      refine Op1.g fun _ Z => ?_; go_simp; exact Z _ _ ⟨rfl, hC, sR⟩
     ·intro T wx n hC (hn : n ≤ 0) hp
      obtain ⟨(d14 : T 14 = .slice (some ⟨g, o, none⟩) nb c), (d13 : T 13 = .bool false), -⟩ := hp
      refine ⟨fun hT => ?_, fun hT => absurd d13 hT⟩
      exact Op1.slice_lh (l := 1) (h := 4) (.tmp 101) (.const (.int .i64 1)) (.const (.int .i64 4)) rfl d14 rfl rfl (by omega) (by omega) ⟨rfl, hC, sR⟩
     ·intro T wx n hC (hn : n ≤ 0) hp
      obtain ⟨(d15 : T 15 = subV (some ⟨g, o, none⟩) c 1 4), (d13 : T 13 = .bool false), -⟩ := hp
      refine ⟨fun hT => ?_, fun hT => absurd d13 hT⟩
      have hz : (L).length = nb := Hn.out
      refine Op1.g fun _ Z => ?_; go_simp; exact calls_post (val_same0 hC (number_rb (hC.1.rb.sub 1 3 (by omega)) (by rw [sb_len L 1 3 (by omega)]; omega))) Z
     ·intro T wx n hC (hn : n ≤ 0) hp
      obtain ⟨(d16 : T 16 = .int .u64 ((num (sb L 1 3) : Nat) : Int)), (d13 : T 13 = .bool false), -⟩ := hp
      refine ⟨fun hT => ?_, fun hT => absurd d13 hT⟩
      refine Op1.g fun _ Z => ?_; go_simp; first | exact Z _ _ ⟨congrArg Value.bool (H3.out), hC, sR⟩ | exact Z _ _ ⟨rfl, hC, sR⟩ | (refine Z _ _ ⟨congrArg Value.bool ?_, hC, sR⟩; simpa using H3.out)
     ·intro T wx n hC (hn : n ≤ 0) hp
      obtain ⟨(d13 : T 13 = .bool false), (d17 : T 17 = .bool true), -⟩ := hp
      refine Op1.g fun _ Z => ?_; go_simp; exact Z _ _ ⟨rfl, hC, sR⟩
    case hendc =>
     intro T wx ⟨n, hn, hC, hR⟩
     have HSc := Lib.hid hC.1
     have HBc := Lib.hid hC.2
     have r105 : T 18 = .bool true := hR 18 (by omega)
     rw [r105]
     clear r105
     clear hR hC
     have HAr := Lib.hid (grown_blk HSc.out.g HA1.out (by omega))
     go_wp2_with (first | (refine wpList_load_row rfl 45 (.tmp 5) rfl P rfl 45 (PV.zero).cells (0, 0) _ HSc.out.p Try.underlying45 rfl (by kernel_rfl) ?_) | (refine wpList_store_row rfl 45 (.tmp 2) (.tmp 106) rfl w.heap.size (PV.zero).cells rfl rfl 45 PV.zero.cells HAr.out (by kernel_rfl) rfl (PV.one _ rfl) ?_))
     refine bodyPost_ret (v := .tuple #[.agg (PV.zero).cells, .int .i64 0, .int .i64 3]) (results_cr3 Try.results77 _ _ w.heap.size 45 (PV.zero).cells (0, 0) _ rfl (setRow_heap _ _ _ _ _ _ HAr.out) Try.underlying45 rfl (by kernel_rfl) rfl rfl) rfl ?_
     exact HeadR.bad (k := 3) (below_setRow (grown_to_below HB1.out HSc.out.g (by omega) (by omega)) (Nat.le_refl _) _) (by rw [He.out Hf.out]) (by decide) (PV.zero) rfl rfl
   ·have H3 : Hid ((decide (0 < ((num (sb L 1 3) : Nat) : Int))) = false) := Lib.hid (decide_eq_false (by omega))
    have Hf : Hid (form6 L) := Lib.hid ⟨by rw [Hn.out]; exact h40, Hq.out.trans (by rw [Hn.out]), hz3.1 h3⟩
    clear h3 hz3
    refine Lm.wp_region_seq 19 0 (fun p vv nn ww => (List.getD ((.val (.slice (some ⟨g, o, none⟩) nb c)) :: (.val (.int .i64 ((nb : Nat) : Int))) :: (.val (.bool false)) :: (.val (.bool false)) :: (.val (.slice (some ⟨g, o, none⟩) nb c)) :: (.val (subV (some ⟨g, o, none⟩) c 4 6)) :: (.val (.int .u64 ((num (sb L 4 2) : Nat) : Int))) :: (.val (.int .i64 ((num (sb L 4 2) : Nat) : Int))) :: (.val (.slice (some ⟨g, o, none⟩) nb c)) :: (.val (.int .i64 ((nb : Nat) : Int))) :: (.val (.int .i64 ((nb - 40 : Nat) : Int))) :: (.val (.bool false)) :: (.val (.bool false)) :: (.val (.bool false)) :: (.val (.slice (some ⟨g, o, none⟩) nb c)) :: (.val (subV (some ⟨g, o, none⟩) c 1 4)) :: (.val (.int .u64 ((num (sb L 1 3) : Nat) : Int))) :: (.val (.bool false)) :: (.val (.bool false)) :: [] : List Vd) p .any).R vv nn ww) (fun _ ww => RS w1 P w.heap.size (.slice (some ⟨g, o, none⟩) nb c) L (PV.zero) ww ∧ Below w1.heap.size w1 ww) SS (fun _ => 0) (fun _ => 0)
     (by kernel_rfl) (by kernel_rfl) (by decide) (by kernel_rfl) (fun p vv nn ww n' w' h hs => Vd.keep _ h hs) (⟨HS1.out, Below.refl _ _⟩) ?hXd
    case' hXd => (apply Exists.intro; refine ⟨fun T => ?hAd, ?hobd, ?hendd⟩)
    case hAd =>
     simp only [setAll, List.take_succ_cons, List.take_zero, Act.put, List.setIfInBounds_toArray, List.set_cons_succ, List.set_cons_zero, Nat.reduceAdd]
     exact rfl
    case hobd =>
     refine ⟨?_, ?_, ?_, ?_, ?_, ?_, ?_, ?_, ?_, ?_, ?_, ?_, ?_, ?_, ?_, ?_, ?_, ?_, ?_, trivial⟩
     ·intro T wx n hC (hn : n ≤ 0) hp
      refine Op1.g fun _ Z => ?_; go_simp; exact Z _ _ ⟨rfl, hC, sR⟩
     ·intro T wx n hC (hn : n ≤ 0) hp
      obtain ⟨(d0 : T 0 = .slice (some ⟨g, o, none⟩) nb c), -⟩ := hp
      refine Op1.g fun _ Z => ?_; go_simp; exact Z _ _ ⟨rfl, hC, sR⟩
     ·intro T wx n hC (hn : n ≤ 0) hp
      obtain ⟨(d1 : T 1 = .int .i64 ((nb : Nat) : Int)), -⟩ := hp
      refine Op1.g fun _ Z => ?_; go_simp; first | exact Z _ _ ⟨congrArg Value.bool (H1.out), hC, sR⟩ | exact Z _ _ ⟨rfl, hC, sR⟩ | (refine Z _ _ ⟨congrArg Value.bool ?_, hC, sR⟩; simpa using H1.out)
     ·intro T wx n hC (hn : n ≤ 0) hp
      obtain ⟨(d2 : T 2 = .bool false), -⟩ := hp
      refine Op1.g fun _ Z => ?_; go_simp; exact Z _ _ ⟨rfl, hC, sR⟩
     ·intro T wx n hC (hn : n ≤ 0) hp
      obtain ⟨(d3 : T 3 = .bool false), -⟩ := hp
      refine ⟨fun hT => ?_, fun hT => absurd d3 hT⟩
      refine Op1.g fun _ Z => ?_; go_simp; exact Z _ _ ⟨rfl, hC, sR⟩
     ·intro T wx n hC (hn : n ≤ 0) hp
      obtain ⟨(d4 : T 4 = .slice (some ⟨g, o, none⟩) nb c), (d3 : T 3 = .bool false), -⟩ := hp
      refine ⟨fun hT => ?_, fun hT => absurd d3 hT⟩
      exact Op1.slice_lh (l := 4) (h := 6) (.tmp 91) (.const (.int .i64 4)) (.const (.int .i64 6)) rfl d4 rfl rfl (by omega) (by omega) ⟨rfl, hC, sR⟩
     ·intro T wx n hC (hn : n ≤ 0) hp
      obtain ⟨(d5 : T 5 = subV (some ⟨g, o, none⟩) c 4 6), (d3 : T 3 = .bool false), -⟩ := hp
      refine ⟨fun hT => ?_, fun hT => absurd d3 hT⟩
      have hz : (L).length = nb := Hn.out
      refine Op1.g fun _ Z => ?_; go_simp; exact calls_post (val_same0 hC (number_rb (hC.1.rb.sub 4 2 (by omega)) (by rw [sb_len L 4 2 (by omega)]; omega))) Z
     ·intro T wx n hC (hn : n ≤ 0) hp
      obtain ⟨(d6 : T 6 = .int .u64 ((num (sb L 4 2) : Nat) : Int)), (d3 : T 3 = .bool false), -⟩ := hp
      refine ⟨fun hT => ?_, fun hT => absurd d3 hT⟩
      refine Op1.g fun _ Z => ?_; go_simp
      have hb := Nat.lt_of_lt_of_le (num_sb L 4 2) (by decide : 256 ^ 2 ≤ 65536)
      first | exact Z _ _ ⟨rfl, hC, sR⟩ | (refine Z _ _ ⟨congrArg (Value.int _) ?_, hC, sR⟩; first | omega | (simp only [IntKind.wrap_i64]; omega))
     ·intro T wx n hC (hn : n ≤ 0) hp
      obtain ⟨(d3 : T 3 = .bool false), -⟩ := hp
      refine ⟨fun hT => ?_, fun hT => absurd d3 hT⟩
      refine Op1.g fun _ Z => ?_; go_simp; exact Z _ _ ⟨rfl, hC, sR⟩
     ·intro T wx n hC (hn : n ≤ 0) hp
      obtain ⟨(d8 : T 8 = .slice (some ⟨g, o, none⟩) nb c), (d3 : T 3 = .bool false), -⟩ := hp
      refine ⟨fun hT => ?_, fun hT => absurd d3 hT⟩
      refine Op1.g fun _ Z => ?_; go_simp; exact Z _ _ ⟨rfl, hC, sR⟩
     ·intro T wx n hC (hn : n ≤ 0) hp
      obtain ⟨(d9 : T 9 = .int .i64 ((nb : Nat) : Int)), (d3 : T 3 = .bool false), -⟩ := hp
      refine ⟨fun hT => ?_, fun hT => absurd d3 hT⟩
      refine Op1.g fun _ Z => ?_; go_simp
      first | exact Z _ _ ⟨rfl, hC, sR⟩ | (refine Z _ _ ⟨congrArg (Value.int _) ?_, hC, sR⟩; first | omega | (simp only [IntKind.wrap_i64]; omega))
     ·intro T wx n hC (hn : n ≤ 0) hp
      obtain ⟨(d7 : T 7 = .int .i64 ((num (sb L 4 2) : Nat) : Int)), (d10 : T 10 = .int .i64 ((nb - 40 : Nat) : Int)), (d3 : T 3 = .bool false), -⟩ := hp
      refine ⟨fun hT => ?_, fun hT => absurd d3 hT⟩
      refine Op1.g fun _ Z => ?_; go_simp; first | exact Z _ _ ⟨congrArg Value.bool (H2.out), hC, sR⟩ | exact Z _ _ ⟨rfl, hC, sR⟩ | (refine Z _ _ ⟨congrArg Value.bool ?_, hC, sR⟩; simpa using H2.out)
     ·intro T wx n hC (hn : n ≤ 0) hp
      obtain ⟨(d3 : T 3 = .bool false), (d11 : T 11 = .bool false), -⟩ := hp
      refine Op1.g fun _ Z => ?_; go_simp; exact Z _ _ ⟨rfl, hC, sR⟩
     ·intro T wx n hC (hn : n ≤ 0) hp
      obtain ⟨(d12 : T 12 = .bool false), -⟩ := hp
      refine Op1.g fun _ Z => ?_; go_simp; exact Z _ _ ⟨rfl, hC, sR⟩
     ·intro T wx n hC (hn : n ≤ 0) hp
      obtain ⟨(d13 : T 13 = .bool false), -⟩ := hp
      refine ⟨fun hT => ?_, fun hT => absurd d13 hT⟩
      refine Op1.g fun _ Z => ?_; go_simp; exact Z _ _ ⟨rfl, hC, sR⟩
     ·intro T wx n hC (hn : n ≤ 0) hp
      obtain ⟨(d14 : T 14 = .slice (some ⟨g, o, none⟩) nb c), (d13 : T 13 = .bool false), -⟩ := hp
      refine ⟨fun hT => ?_, fun hT => absurd d13 hT⟩
      exact Op1.slice_lh (l := 1) (h := 4) (.tmp 101) (.const (.int .i64 1)) (.const (.int .i64 4)) rfl d14 rfl rfl (by omega) (by omega) ⟨rfl, hC, sR⟩
     ·intro T wx n hC (hn : n ≤ 0) hp
      obtain ⟨(d15 : T 15 = subV (some ⟨g, o, none⟩) c 1 4), (d13 : T 13 = .bool false), -⟩ := hp
      refine ⟨fun hT => ?_, fun hT => absurd d13 hT⟩
      have hz : (L).length = nb := Hn.out
      refine Op1.g fun _ Z => ?_; go_simp; exact calls_post (val_same0 hC (number_rb (hC.1.rb.sub 1 3 (by omega)) (by rw [sb_len L 1 3 (by omega)]; omega))) Z
     ·intro T wx n hC (hn : n ≤ 0) hp
      obtain ⟨(d16 : T 16 = .int .u64 ((num (sb L 1 3) : Nat) : Int)), (d13 : T 13 = .bool false), -⟩ := hp
      refine ⟨fun hT => ?_, fun hT => absurd d13 hT⟩
      refine Op1.g fun _ Z => ?_; go_simp; first | exact Z _ _ ⟨congrArg Value.bool (H3.out), hC, sR⟩ | exact Z _ _ ⟨rfl, hC, sR⟩ | (refine Z _ _ ⟨congrArg Value.bool ?_, hC, sR⟩; simpa using H3.out)
     ·intro T wx n hC (hn : n ≤ 0) hp
      obtain ⟨(d13 : T 13 = .bool false), (d17 : T 17 = .bool false), -⟩ := hp
      refine Op1.g fun _ Z => ?_; go_simp; exact Z _ _ ⟨rfl, hC, sR⟩
    case hendd =>
     intro T wx ⟨n, hn, hC, hR⟩
     have HSd := Lib.hid hC.1
     have HBd := Lib.hid hC.2
     have r105 : T 18 = .bool false := hR 18 (by omega)
     rw [r105]
     clear r105
     clear hR hC
     go_upto_region 20 with fail
     generalize wx = w3 at *
     have HS3 := HSd
     clear HSd HBd H1 H2 H3 He HS1
     refine Lm.wp_region_lim 18 2 (fun p vv nn ww => (List.getD ((.val (.slice (some ⟨g, o, none⟩) nb c)) :: (.val (subV (some ⟨g, o, none⟩) c 8 16)) :: (.val (.int .u64 ((num (sb L 8 8) : Nat) : Int))) :: (.val (.slice (some ⟨g, o, none⟩) nb c)) :: (.val (subV (some ⟨g, o, none⟩) c 16 24)) :: (.val (.int .u64 ((num (sb L 16 8) : Nat) : Int))) :: (.val (.agg #[.bool true, .int .u64 ((num (sb L 8 8) : Nat) : Int), .int .u64 ((num (sb L 16 8) : Nat) : Int)])) :: (.val (.slice (some ⟨g, o, none⟩) nb c)) :: (.val (subV (some ⟨g, o, none⟩) c 24 32)) :: (.val (.int .u64 ((num (sb L 24 8) : Nat) : Int))) :: (.val (.slice (some ⟨g, o, none⟩) nb c)) :: (.val (subV (some ⟨g, o, none⟩) c 32 40)) :: (.val (.int .u64 ((num (sb L 32 8) : Nat) : Int))) :: (.val (.agg #[.bool true, .int .u64 ((num (sb L 24 8) : Nat) : Int), .int .u64 ((num (sb L 32 8) : Nat) : Int)])) :: (.val (.pointer (some ⟨P, 0, none⟩))) :: (.st 1) :: (.val (.pointer (some ⟨P, 3, none⟩))) :: (.st 2) :: [] : List Vd) p .any).R vv nn ww) (fun nn ww => RS w1 P w.heap.size (.slice (some ⟨g, o, none⟩) nb c) L (List.getD [(PV.zero), ({ PV.zero with s1 := true, h1 := ((num (sb L 8 8) : Nat) : Int), l1 := ((num (sb L 16 8) : Nat) : Int) }), ({ PV.zero with s1 := true, h1 := ((num (sb L 8 8) : Nat) : Int), l1 := ((num (sb L 16 8) : Nat) : Int), s2 := true, h2 := ((num (sb L 24 8) : Nat) : Int), l2 := ((num (sb L 32 8) : Nat) : Int) })] nn ({ PV.zero with s1 := true, h1 := ((num (sb L 8 8) : Nat) : Int), l1 := ((num (sb L 16 8) : Nat) : Int), s2 := true, h2 := ((num (sb L 24 8) : Nat) : Int), l2 := ((num (sb L 32 8) : Nat) : Int) })) ww ∧ SS 0 w3 nn ww) SS (fun i => if i = 15 ∨ i = 17 then 1 else 0) (fun i => if i = 13 ∨ i = 16 ∨ i = 17 then 1 else 0)
      (by kernel_rfl) (by kernel_rfl) (by decide) (by kernel_rfl) (fun p vv nn ww n' w' h hs => Vd.keep _ h hs) (⟨HS3.out.drew, SS.drew⟩) ?hXf
     case' hXf => (apply Exists.intro; refine ⟨fun T => ?hAf, ?hobf, ?hendf⟩)
     case hAf =>
      simp only [setAll, List.take_succ_cons, List.take_zero, Act.put, List.setIfInBounds_toArray, List.set_cons_succ, List.set_cons_zero, Nat.reduceAdd]
      exact rfl
     case hobf =>
      refine ⟨?_, ?_, ?_, ?_, ?_, ?_, ?_, ?_, ?_, ?_, ?_, ?_, ?_, ?_, ?_, ?_, ?_, ?_, trivial⟩
      ·intro T wx n hC (hn : n ≤ 0) hp
       refine Op1.g fun _ Z => ?_; go_simp; exact Z _ _ ⟨rfl, hC, sR⟩
      ·intro T wx n hC (hn : n ≤ 0) hp
       obtain ⟨(d0 : T 0 = .slice (some ⟨g, o, none⟩) nb c), -⟩ := hp
       exact Op1.slice_lh (l := 8) (h := 16) (.tmp 107) (.const (.int .i64 8)) (.const (.int .i64 16)) rfl d0 rfl rfl (by omega) (by omega) ⟨rfl, hC, sR⟩
      ·intro T wx n hC (hn : n ≤ 0) hp
       obtain ⟨(d1 : T 1 = subV (some ⟨g, o, none⟩) c 8 16), -⟩ := hp
       have hz : (L).length = nb := Hn.out
       refine Op1.g fun _ Z => ?_; go_simp; exact calls_post (val_same1 hC (number_rb (hC.1.rb.sub 8 8 (by omega)) (by rw [sb_len L 8 8 (by omega)]; omega))) Z
      ·intro T wx n hC (hn : n ≤ 0) hp
       refine Op1.g fun _ Z => ?_; go_simp; exact Z _ _ ⟨rfl, hC, sR⟩
      ·intro T wx n hC (hn : n ≤ 0) hp
       obtain ⟨(d3 : T 3 = .slice (some ⟨g, o, none⟩) nb c), -⟩ := hp
       exact Op1.slice_lh (l := 16) (h := 24) (.tmp 110) (.const (.int .i64 16)) (.const (.int .i64 24)) rfl d3 rfl rfl (by omega) (by omega) ⟨rfl, hC, sR⟩
      ·intro T wx n hC (hn : n ≤ 0) hp
       obtain ⟨(d4 : T 4 = subV (some ⟨g, o, none⟩) c 16 24), -⟩ := hp
       have hz : (L).length = nb := Hn.out
       refine Op1.g fun _ Z => ?_; go_simp; exact calls_post (val_same1 hC (number_rb (hC.1.rb.sub 16 8 (by omega)) (by rw [sb_len L 16 8 (by omega)]; omega))) Z
      ·intro T wx n hC (hn : n ≤ 0) hp
       obtain ⟨(d2 : T 2 = .int .u64 ((num (sb L 8 8) : Nat) : Int)), (d5 : T 5 = .int .u64 ((num (sb L 16 8) : Nat) : Int)), -⟩ := hp
       refine Op1.g fun _ Z => ?_; go_simp; exact Z _ _ ⟨rfl, hC, sR⟩
      ·intro T wx n hC (hn : n ≤ 0) hp
       refine Op1.g fun _ Z => ?_; go_simp; exact Z _ _ ⟨rfl, hC, sR⟩
      ·intro T wx n hC (hn : n ≤ 0) hp
       obtain ⟨(d7 : T 7 = .slice (some ⟨g, o, none⟩) nb c), -⟩ := hp
       exact Op1.slice_lh (l := 24) (h := 32) (.tmp 114) (.const (.int .i64 24)) (.const (.int .i64 32)) rfl d7 rfl rfl (by omega) (by omega) ⟨rfl, hC, sR⟩
      ·intro T wx n hC (hn : n ≤ 0) hp
       obtain ⟨(d8 : T 8 = subV (some ⟨g, o, none⟩) c 24 32), -⟩ := hp
       have hz : (L).length = nb := Hn.out
       refine Op1.g fun _ Z => ?_; go_simp; exact calls_post (val_same1 hC (number_rb (hC.1.rb.sub 24 8 (by omega)) (by rw [sb_len L 24 8 (by omega)]; omega))) Z
      ·intro T wx n hC (hn : n ≤ 0) hp
       refine Op1.g fun _ Z => ?_; go_simp; exact Z _ _ ⟨rfl, hC, sR⟩
      ·intro T wx n hC (hn : n ≤ 0) hp
       obtain ⟨(d10 : T 10 = .slice (some ⟨g, o, none⟩) nb c), -⟩ := hp
       exact Op1.slice_lh (l := 32) (h := 40) (.tmp 117) (.const (.int .i64 32)) (.const (.int .i64 40)) rfl d10 rfl rfl (by omega) (by omega) ⟨rfl, hC, sR⟩
      ·intro T wx n hC (hn : n ≤ 0) hp
       obtain ⟨(d11 : T 11 = subV (some ⟨g, o, none⟩) c 32 40), -⟩ := hp
       have hz : (L).length = nb := Hn.out
       refine Op1.g fun _ Z => ?_; go_simp; exact calls_post (val_same1 hC (number_rb (hC.1.rb.sub 32 8 (by omega)) (by rw [sb_len L 32 8 (by omega)]; omega))) Z
      ·intro T wx n hC (hn : n ≤ 1) hp
       obtain ⟨(d9 : T 9 = .int .u64 ((num (sb L 24 8) : Nat) : Int)), (d12 : T 12 = .int .u64 ((num (sb L 32 8) : Nat) : Int)), -⟩ := hp
       refine Op1.g fun _ Z => ?_; go_simp; exact Z _ _ ⟨rfl, hC, sR⟩
      ·intro T wx n hC (hn : n ≤ 0) hp
       obtain ⟨e0, e1, e2, e3, e4, e5, e6, -⟩ := hp
       refine Op1.g fun _ Z => ?_; go_simp; exact Z _ _ ⟨rfl, hC, sR⟩
      ·intro T wx n hC (hn : n ≤ 0) hp
       obtain ⟨(d14 : T 14 = .pointer (some ⟨P, 0, none⟩)), (d6 : T 6 = .agg #[.bool true, .int .u64 ((num (sb L 8 8) : Nat) : Int), .int .u64 ((num (sb L 16 8) : Nat) : Int)]), -⟩ := hp
       obtain rfl : n = 0 := by omega
       have hk : RS w1 P w.heap.size (.slice (some ⟨g, o, none⟩) nb c) L (PV.zero) wx := hC.1
       obtain ⟨c0, c1, c2, -, -, -, -, -, -, -, -, -, -, -, -, -, -, -, -, f0⟩ := PBlk.cells hk.p
       refine Op1.g fun _ Z => ?_; go_simp
       have hk0 := hk.set (PBlk.set_s1 hk.p (true))
       have hk1 := hk0.set (PBlk.set_h1 hk0.p (((num (sb L 8 8) : Nat) : Int)))
       have hk2 := hk1.set (PBlk.set_l1 hk1.p (((num (sb L 16 8) : Nat) : Int)))
       exact Z _ _ ⟨Nat.le_refl _, ⟨hk2, hC.2.trans (((SS.set (n := 0) (n' := 1) hk.p 0 _ (by omega)).trans (SS.set (n := 1) (n' := 1) hk0.p 1 _ (by omega))).trans (SS.set (n := 1) (n' := 1) hk1.p 2 _ (by omega)))⟩, (((SS.set (n := 0) (n' := 1) hk.p 0 _ (by omega)).trans (SS.set (n := 1) (n' := 1) hk0.p 1 _ (by omega))).trans (SS.set (n := 1) (n' := 1) hk1.p 2 _ (by omega)))⟩
      ·intro T wx n hC (hn : n ≤ 1) hp
       obtain ⟨e0, e1, e2, e3, e4, e5, e6, e7, e8, e9, e10, e11, e12, e13, e14, e15, -⟩ := hp
       refine Op1.g fun _ Z => ?_; go_simp; exact Z _ _ ⟨rfl, hC, sR⟩
      ·intro T wx n hC (hn : n ≤ 1) hp
       obtain ⟨(d16 : T 16 = .pointer (some ⟨P, 3, none⟩)), (d13 : T 13 = .agg #[.bool true, .int .u64 ((num (sb L 24 8) : Nat) : Int), .int .u64 ((num (sb L 32 8) : Nat) : Int)]), (d15 : 1 ≤ n), -⟩ := hp
       obtain rfl : n = 1 := by omega
       have hk : RS w1 P w.heap.size (.slice (some ⟨g, o, none⟩) nb c) L ({ PV.zero with s1 := true, h1 := ((num (sb L 8 8) : Nat) : Int), l1 := ((num (sb L 16 8) : Nat) : Int) }) wx := hC.1
       obtain ⟨-, -, -, c3, c4, c5, -, -, -, -, -, -, -, -, -, -, -, -, -, f0⟩ := PBlk.cells hk.p
       refine Op1.g fun _ Z => ?_; go_simp
       have hk0 := hk.set (PBlk.set_s2 hk.p (true))
       have hk1 := hk0.set (PBlk.set_h2 hk0.p (((num (sb L 24 8) : Nat) : Int)))
       have hk2 := hk1.set (PBlk.set_l2 hk1.p (((num (sb L 32 8) : Nat) : Int)))
       exact Z _ _ ⟨Nat.le_refl _, ⟨hk2, hC.2.trans (((SS.set (n := 1) (n' := 2) hk.p 3 _ (by omega)).trans (SS.set (n := 2) (n' := 2) hk0.p 4 _ (by omega))).trans (SS.set (n := 2) (n' := 2) hk1.p 5 _ (by omega)))⟩, (((SS.set (n := 1) (n' := 2) hk.p 3 _ (by omega)).trans (SS.set (n := 2) (n' := 2) hk0.p 4 _ (by omega))).trans (SS.set (n := 2) (n' := 2) hk1.p 5 _ (by omega)))⟩
     case hendf =>
      intro T wx ⟨n, hn, hC, hR⟩
      have hk : 2 ≤ n := hR 17 (by omega)
      obtain rfl : n = 2 := by omega
      have HSf : Hid (RS w1 P w.heap.size (.slice (some ⟨g, o, none⟩) nb c) L ({ PV.zero with s1 := true, h1 := ((num (sb L 8 8) : Nat) : Int), l1 := ((num (sb L 16 8) : Nat) : Int), s2 := true, h2 := ((num (sb L 24 8) : Nat) : Int), l2 := ((num (sb L 32 8) : Nat) : Int) }) wx) := Lib.hid hC.1
      have HUf := Lib.hid hC.2
      clear hR hC
      simp only [List.drop_succ_cons, List.drop_nil]
      unfold wpList
      go_upto_region 21 with fail
      generalize wx = w4 at *
      clear HUf HS3
      refine Lm.wp_region_seq 6 1 (fun p vv nn ww => (List.getD ((.val (.slice (some ⟨g, o, none⟩) nb c)) :: (.val (.pointer (some ⟨g, o + 7, none⟩))) :: (.val (.int .u8 (((ub L 7).toNat : Nat) : Int))) :: (.val (.int .i64 (((ub L 7).toNat : Nat) : Int))) :: (.val (.pointer (some ⟨P, 6, none⟩))) :: (.st 1) :: [] : List Vd) p .any).R vv nn ww) (fun nn ww => RS w1 P w.heap.size (.slice (some ⟨g, o, none⟩) nb c) L (List.getD [({ PV.zero with s1 := true, h1 := ((num (sb L 8 8) : Nat) : Int), l1 := ((num (sb L 16 8) : Nat) : Int), s2 := true, h2 := ((num (sb L 24 8) : Nat) : Int), l2 := ((num (sb L 32 8) : Nat) : Int) }), ({ PV.zero with s1 := true, h1 := ((num (sb L 8 8) : Nat) : Int), l1 := ((num (sb L 16 8) : Nat) : Int), s2 := true, h2 := ((num (sb L 24 8) : Nat) : Int), l2 := ((num (sb L 32 8) : Nat) : Int), hops := (((ub L 7).toNat : Nat) : Int) })] nn ({ PV.zero with s1 := true, h1 := ((num (sb L 8 8) : Nat) : Int), l1 := ((num (sb L 16 8) : Nat) : Int), s2 := true, h2 := ((num (sb L 24 8) : Nat) : Int), l2 := ((num (sb L 32 8) : Nat) : Int), hops := (((ub L 7).toNat : Nat) : Int) })) ww ∧ SS 0 w4 nn ww) SS (fun i => if i = 5 then 1 else 0) (fun _ => 0)
       (by kernel_rfl) (by kernel_rfl) (by decide) (by kernel_rfl) (fun p vv nn ww n' w' h hs => Vd.keep _ h hs) (⟨HSf.out, sR⟩) ?hXg
      case' hXg => (apply Exists.intro; refine ⟨fun T => ?hAg, ?hobg, ?hendg⟩)
      case hAg =>
       simp only [setAll, List.take_succ_cons, List.take_zero, Act.put, List.setIfInBounds_toArray, List.set_cons_succ, List.set_cons_zero, Nat.reduceAdd]
       exact rfl
      case hobg =>
       refine ⟨?_, ?_, ?_, ?_, ?_, ?_, trivial⟩
       ·intro T wx n hC (hn : n ≤ 0) hp
        refine Op1.g fun _ Z => ?_; go_simp; exact Z _ _ ⟨rfl, hC, sR⟩
       ·intro T wx n hC (hn : n ≤ 0) hp
        obtain ⟨(d0 : T 0 = .slice (some ⟨g, o, none⟩) nb c), -⟩ := hp
        exact Op1.indexB (k := 7) (.tmp 123) (.const (.int .i64 7)) rfl d0 rfl (by omega) ⟨rfl, hC, sR⟩
       ·intro T wx n hC (hn : n ≤ 0) hp
        obtain ⟨(d1 : T 1 = .pointer (some ⟨g, o + 7, none⟩)), -⟩ := hp
        have hz : (L).length = nb := Hn.out
        have cb : wx.cell? ⟨g, o + 7, none⟩ = some (.int .u8 (((ub L 7).toNat : Nat) : Int)) := hC.1.rb.get 7 (by omega)
        clear hz
        refine Op1.g fun _ Z => ?_; go_simp; exact Z _ _ ⟨rfl, hC, sR⟩
       ·intro T wx n hC (hn : n ≤ 0) hp
        obtain ⟨(d2 : T 2 = .int .u8 (((ub L 7).toNat : Nat) : Int)), -⟩ := hp
        refine Op1.g fun _ Z => ?_; go_simp
        have hb := (ub L 7).toNat_lt
        first | exact Z _ _ ⟨rfl, hC, sR⟩ | (refine Z _ _ ⟨congrArg (Value.int _) ?_, hC, sR⟩; first | omega | (simp only [IntKind.wrap_i64]; omega))
       ·intro T wx n hC (hn : n ≤ 0) hp
        obtain ⟨e0, e1, e2, e3, -⟩ := hp
        refine Op1.g fun _ Z => ?_; go_simp; exact Z _ _ ⟨rfl, hC, sR⟩
       ·intro T wx n hC (hn : n ≤ 0) hp
        obtain ⟨(d4 : T 4 = .pointer (some ⟨P, 6, none⟩)), (d3 : T 3 = .int .i64 (((ub L 7).toNat : Nat) : Int)), -⟩ := hp
        obtain rfl : n = 0 := by omega
        have hk : RS w1 P w.heap.size (.slice (some ⟨g, o, none⟩) nb c) L ({ PV.zero with s1 := true, h1 := ((num (sb L 8 8) : Nat) : Int), l1 := ((num (sb L 16 8) : Nat) : Int), s2 := true, h2 := ((num (sb L 24 8) : Nat) : Int), l2 := ((num (sb L 32 8) : Nat) : Int) }) wx := hC.1
        obtain ⟨-, -, -, -, -, -, c6, -, -, -, -, -, -, -, -, -, -, -, -, f0⟩ := PBlk.cells hk.p
        refine Op1.g fun _ Z => ?_; go_simp
        have hk0 := hk.set (PBlk.set_hops hk.p ((((ub L 7).toNat : Nat) : Int)))
        exact Z _ _ ⟨Nat.le_refl _, ⟨hk0, hC.2.trans (SS.set (n := 0) (n' := 1) hk.p 6 _ (by omega))⟩, (SS.set (n := 0) (n' := 1) hk.p 6 _ (by omega))⟩
      case hendg =>
       intro T wx ⟨n, hn, hC, hR⟩
       have hk : 1 ≤ n := hR 5 (by omega)
       obtain rfl : n = 1 := by omega
       have HSg : Hid (RS w1 P w.heap.size (.slice (some ⟨g, o, none⟩) nb c) L ({ PV.zero with s1 := true, h1 := ((num (sb L 8 8) : Nat) : Int), l1 := ((num (sb L 16 8) : Nat) : Int), s2 := true, h2 := ((num (sb L 24 8) : Nat) : Int), l2 := ((num (sb L 32 8) : Nat) : Int), hops := (((ub L 7).toNat : Nat) : Int) }) wx) := Lib.hid hC.1
       have HUg := Lib.hid hC.2
       clear hR hC
       simp only [List.drop_succ_cons, List.drop_nil]
       unfold wpList
       have He : Hid (headE L 3 15 4 = if known (x6 L).proto then 0 else 4) := Lib.hid (by rw [headE6 L (by rw [Hn.out]; omega) H0.out, if_neg (not_not_intro Hf.out)])
       obtain ⟨hX1, hX2, -⟩ := headIs6 L H0.out
       have HX : Hid ((headX L).pv (.slice none 0 0) = (x6 L).pv (.slice none 0 0) ∧ headAt L = 40) := Lib.hid ⟨by rw [hX1], hX2⟩
       have Hp6 : Hid ((x6 L).proto = p6 (ub L 6).toNat) := Lib.hid rfl
       have Hxx : Hid (∀ p : Nat, p6 (ub L 6).toNat = p → { PV.zero with s1 := true, h1 := ((num (sb L 8 8) : Nat) : Int), l1 := ((num (sb L 16 8) : Nat) : Int), s2 := true, h2 := ((num (sb L 24 8) : Nat) : Int), l2 := ((num (sb L 32 8) : Nat) : Int), hops := (((ub L 7).toNat : Nat) : Int), proto := ((p : Nat) : Int) } = (x6 L).pv (.slice none 0 0)) := Lib.hid (by rintro p rfl; rfl)
       clear hX1 hX2 HUg HSf
       have cb : (wx.alloc (.cells #[.int .i64 58, .int .i64 6, .int .i64 17] 3 (0, 0))).cell? ⟨g, o + 6, none⟩ = some (.int .u8 (((ub L 6).toNat : Nat) : Int)) := (HSg.out.later (below_alloc (Below.refl _ _) _)).rb.get 6 (by have := Hn.out; omega)
       have hlt := (ub L 6).toNat_lt
       generalize (ub L 6).toNat = k at *
       have hk : (k = 58 ∧ known (p6 k) ∧ p6 k = 1) ∨ (k ≠ 58 ∧ k = 6 ∧ known (p6 k) ∧ p6 k = 6) ∨ (k ≠ 58 ∧ k ≠ 6 ∧ k = 17 ∧ known (p6 k) ∧ p6 k = 17) ∨ (k ≠ 58 ∧ k ≠ 6 ∧ k ≠ 17 ∧ ¬ known (p6 k)) := by
        unfold known p6
        by_cases h1 : k = 58
        ·subst h1; exact .inl ⟨rfl, by decide, rfl⟩
        by_cases h2 : k = 6
        ·subst h2; exact .inr (.inl ⟨h1, rfl, by decide, rfl⟩)
        by_cases h3 : k = 17
        ·subst h3; exact .inr (.inr (.inl ⟨h1, h2, rfl, by decide, rfl⟩))
        refine .inr (.inr (.inr ⟨h1, h2, h3, ?_⟩))
        rw [if_neg h1]
        split <;> omega
       have hix := fun (r : Int) (w9 : World) (hr : ((k : Int) = 58 ∧ r = 0) ∨ ((k : Int) ≠ 58 ∧ (k : Int) = 6 ∧ r = 1) ∨ ((k : Int) ≠ 58 ∧ (k : Int) ≠ 6 ∧ (k : Int) = 17 ∧ r = 2) ∨ ((k : Int) ≠ 58 ∧ (k : Int) ≠ 6 ∧ (k : Int) ≠ 17 ∧ r = -1)) => index3 w9.heap.size 58 6 17 (k : Int) (w9.alloc (.cells #[.int .i64 58, .int .i64 6, .int .i64 17] 3 (0, 0))) ((cell_of_row _ _ 0 #[.int .i64 58, .int .i64 6, .int .i64 17] _ _ (heap_alloc_new _ _)).trans rfl) ((cell_of_row _ _ 1 #[.int .i64 58, .int .i64 6, .int .i64 17] _ _ (heap_alloc_new _ _)).trans rfl) ((cell_of_row _ _ 2 #[.int .i64 58, .int .i64 6, .int .i64 17] _ _ (heap_alloc_new _ _)).trans rfl) r hr
       have HI := Lib.hid hix
       clear hix
       generalize x6 L = x at *
       rcases hk with ⟨e1, e2, e3⟩ | ⟨e0, e1, e2, e3⟩ | ⟨e0, e00, e1, e2, e3⟩ | ⟨e0, e00, e1, e2⟩
       ·have E2 := Lib.hid e2
        have E3 := Lib.hid e3
        have hc := HI.out 0 wx (.inl ⟨by omega, rfl⟩)
        clear e2 e3   HI
        subst e1
        have HC := Lib.hid hc
        clear hc
        go_wp2_with fail
        refine HC.out.mono ?_
        rintro e w8 ⟨rfl, nn, rfl⟩
        have HS8 := Lib.hid ((HSg.out.later (below_alloc (Below.refl _ _) (.cells #[.int .i64 58, .int .i64 6, .int .i64 17] 3 (0, 0)))).later (below_drewN (Below.refl _ _) nn))
        generalize (wx.alloc (.cells #[.int .i64 58, .int .i64 6, .int .i64 17] 3 (0, 0))).drewN nn = w8 at *
        clear HC HSg cb
        have HS9 := Lib.hid (HS8.out.later (below_alloc (Below.refl _ _) (.cells #[.int .i64 1, .int .i64 6, .int .i64 17] 3 (0, 0))))
        obtain ⟨-, -, -, -, -, -, -, c7, -, -, -, -, -, -, -, -, -, -, -, f0⟩ := PBlk.cells HS9.out.p
        simp only at c7
        have d0 := (cell_of_row _ _ 0 #[.int .i64 1, .int .i64 6, .int .i64 17] _ _ (heap_alloc_new w8 (.cells #[.int .i64 1, .int .i64 6, .int .i64 17] 3 (0, 0))))
        replace d0 : (w8.alloc (.cells #[.int .i64 1, .int .i64 6, .int .i64 17] 3 (0, 0))).cell? ⟨w8.heap.size, 0, none⟩ = some (.int .i64 1) := d0.trans rfl
        go_upto_region 26 with fail
        have HSk : Hid (RS w1 P w.heap.size (.slice (some ⟨g, o, none⟩) nb c) L ({ PV.zero with s1 := true, h1 := ((num (sb L 8 8) : Nat) : Int), l1 := ((num (sb L 16 8) : Nat) : Int), s2 := true, h2 := ((num (sb L 24 8) : Nat) : Int), l2 := ((num (sb L 32 8) : Nat) : Int), hops := (((ub L 7).toNat : Nat) : Int), proto := 1 }) ((w8.alloc (.cells #[.int .i64 1, .int .i64 6, .int .i64 17] 3 (0, 0))).setCell ⟨P, 7, none⟩ (.int .i64 1))) := Lib.hid (HS9.out.set (PBlk.set_proto HS9.out.p 1))
        generalize (w8.alloc (.cells #[.int .i64 1, .int .i64 6, .int .i64 17] 3 (0, 0))).setCell ⟨P, 7, none⟩ (.int .i64 1) = w9 at *
        have HSx : Hid (RS w1 P w.heap.size (.slice (some ⟨g, o, none⟩) nb c) L (x.pv (.slice none 0 0)) w9) := by rw [← Hxx.out 1 E3.out]; exact HSk
        clear HS8 HS9 c7 f0 d0 HSk
        have HAr := Lib.hid (grown_blk HSx.out.g HA1.out (by omega))
        go_wp2_with (first | (refine wpList_load_row rfl 45 (.tmp 5) rfl P rfl 45 (x.pv (.slice none 0 0)).cells (0, 0) _ HSx.out.p Try.underlying45 rfl (by kernel_rfl) ?_) | (refine wpList_store_row rfl 45 (.tmp 2) (.tmp 142) rfl w.heap.size (x.pv (.slice none 0 0)).cells rfl rfl 45 PV.zero.cells HAr.out (by kernel_rfl) rfl (PV.one _ rfl) ?_))
        refine bodyPost_ret (v := .tuple #[.agg (x.pv (.slice none 0 0)).cells, .int .i64 40, .int .i64 0]) (results_cr3 Try.results77 _ _ w.heap.size 45 (x.pv (.slice none 0 0)).cells (0, 0) _ rfl (setRow_heap _ _ _ _ _ _ HAr.out) Try.underlying45 rfl (by kernel_rfl) rfl rfl) rfl ?_
        exact HeadR.good (x := x) (k := 40) (below_setRow (grown_to_below HB1.out HSx.out.g (by omega) (by omega)) (Nat.le_refl _) _) (by rw [He.out, Hp6.out, if_pos E2.out]) HX.out.1 HX.out.2
       ·have E2 := Lib.hid e2
        have E3 := Lib.hid e3
        have hc := HI.out 1 wx (.inr (.inl ⟨by omega, by omega, rfl⟩))
        clear e2 e3 e0  HI
        subst e1
        have HC := Lib.hid hc
        clear hc
        go_wp2_with fail
        refine HC.out.mono ?_
        rintro e w8 ⟨rfl, nn, rfl⟩
        have HS8 := Lib.hid ((HSg.out.later (below_alloc (Below.refl _ _) (.cells #[.int .i64 58, .int .i64 6, .int .i64 17] 3 (0, 0)))).later (below_drewN (Below.refl _ _) nn))
        generalize (wx.alloc (.cells #[.int .i64 58, .int .i64 6, .int .i64 17] 3 (0, 0))).drewN nn = w8 at *
        clear HC HSg cb
        have HS9 := Lib.hid (HS8.out.later (below_alloc (Below.refl _ _) (.cells #[.int .i64 1, .int .i64 6, .int .i64 17] 3 (0, 0))))
        obtain ⟨-, -, -, -, -, -, -, c7, -, -, -, -, -, -, -, -, -, -, -, f0⟩ := PBlk.cells HS9.out.p
        simp only at c7
        have d0 := (cell_of_row _ _ 1 #[.int .i64 1, .int .i64 6, .int .i64 17] _ _ (heap_alloc_new w8 (.cells #[.int .i64 1, .int .i64 6, .int .i64 17] 3 (0, 0))))
        replace d0 : (w8.alloc (.cells #[.int .i64 1, .int .i64 6, .int .i64 17] 3 (0, 0))).cell? ⟨w8.heap.size, 1, none⟩ = some (.int .i64 6) := d0.trans rfl
        go_upto_region 26 with fail
        have HSk : Hid (RS w1 P w.heap.size (.slice (some ⟨g, o, none⟩) nb c) L ({ PV.zero with s1 := true, h1 := ((num (sb L 8 8) : Nat) : Int), l1 := ((num (sb L 16 8) : Nat) : Int), s2 := true, h2 := ((num (sb L 24 8) : Nat) : Int), l2 := ((num (sb L 32 8) : Nat) : Int), hops := (((ub L 7).toNat : Nat) : Int), proto := 6 }) ((w8.alloc (.cells #[.int .i64 1, .int .i64 6, .int .i64 17] 3 (0, 0))).setCell ⟨P, 7, none⟩ (.int .i64 6))) := Lib.hid (HS9.out.set (PBlk.set_proto HS9.out.p 6))
        generalize (w8.alloc (.cells #[.int .i64 1, .int .i64 6, .int .i64 17] 3 (0, 0))).setCell ⟨P, 7, none⟩ (.int .i64 6) = w9 at *
        have HSx : Hid (RS w1 P w.heap.size (.slice (some ⟨g, o, none⟩) nb c) L (x.pv (.slice none 0 0)) w9) := by rw [← Hxx.out 6 E3.out]; exact HSk
        clear HS8 HS9 c7 f0 d0 HSk
        have HAr := Lib.hid (grown_blk HSx.out.g HA1.out (by omega))
        go_wp2_with (first | (refine wpList_load_row rfl 45 (.tmp 5) rfl P rfl 45 (x.pv (.slice none 0 0)).cells (0, 0) _ HSx.out.p Try.underlying45 rfl (by kernel_rfl) ?_) | (refine wpList_store_row rfl 45 (.tmp 2) (.tmp 142) rfl w.heap.size (x.pv (.slice none 0 0)).cells rfl rfl 45 PV.zero.cells HAr.out (by kernel_rfl) rfl (PV.one _ rfl) ?_))
        refine bodyPost_ret (v := .tuple #[.agg (x.pv (.slice none 0 0)).cells, .int .i64 40, .int .i64 0]) (results_cr3 Try.results77 _ _ w.heap.size 45 (x.pv (.slice none 0 0)).cells (0, 0) _ rfl (setRow_heap _ _ _ _ _ _ HAr.out) Try.underlying45 rfl (by kernel_rfl) rfl rfl) rfl ?_
        exact HeadR.good (x := x) (k := 40) (below_setRow (grown_to_below HB1.out HSx.out.g (by omega) (by omega)) (Nat.le_refl _) _) (by rw [He.out, Hp6.out, if_pos E2.out]) HX.out.1 HX.out.2
       ·have E2 := Lib.hid e2
        have E3 := Lib.hid e3
        have hc := HI.out 2 wx (.inr (.inr (.inl ⟨by omega, by omega, by omega, rfl⟩)))
        clear e2 e3 e0 e00 HI
        subst e1
        have HC := Lib.hid hc
        clear hc
        go_wp2_with fail
        refine HC.out.mono ?_
        rintro e w8 ⟨rfl, nn, rfl⟩
        have HS8 := Lib.hid ((HSg.out.later (below_alloc (Below.refl _ _) (.cells #[.int .i64 58, .int .i64 6, .int .i64 17] 3 (0, 0)))).later (below_drewN (Below.refl _ _) nn))
        generalize (wx.alloc (.cells #[.int .i64 58, .int .i64 6, .int .i64 17] 3 (0, 0))).drewN nn = w8 at *
        clear HC HSg cb
        have HS9 := Lib.hid (HS8.out.later (below_alloc (Below.refl _ _) (.cells #[.int .i64 1, .int .i64 6, .int .i64 17] 3 (0, 0))))
        obtain ⟨-, -, -, -, -, -, -, c7, -, -, -, -, -, -, -, -, -, -, -, f0⟩ := PBlk.cells HS9.out.p
        simp only at c7
        have d0 := (cell_of_row _ _ 2 #[.int .i64 1, .int .i64 6, .int .i64 17] _ _ (heap_alloc_new w8 (.cells #[.int .i64 1, .int .i64 6, .int .i64 17] 3 (0, 0))))
        replace d0 : (w8.alloc (.cells #[.int .i64 1, .int .i64 6, .int .i64 17] 3 (0, 0))).cell? ⟨w8.heap.size, 2, none⟩ = some (.int .i64 17) := d0.trans rfl
        go_upto_region 26 with fail
        have HSk : Hid (RS w1 P w.heap.size (.slice (some ⟨g, o, none⟩) nb c) L ({ PV.zero with s1 := true, h1 := ((num (sb L 8 8) : Nat) : Int), l1 := ((num (sb L 16 8) : Nat) : Int), s2 := true, h2 := ((num (sb L 24 8) : Nat) : Int), l2 := ((num (sb L 32 8) : Nat) : Int), hops := (((ub L 7).toNat : Nat) : Int), proto := 17 }) ((w8.alloc (.cells #[.int .i64 1, .int .i64 6, .int .i64 17] 3 (0, 0))).setCell ⟨P, 7, none⟩ (.int .i64 17))) := Lib.hid (HS9.out.set (PBlk.set_proto HS9.out.p 17))
        generalize (w8.alloc (.cells #[.int .i64 1, .int .i64 6, .int .i64 17] 3 (0, 0))).setCell ⟨P, 7, none⟩ (.int .i64 17) = w9 at *
        have HSx : Hid (RS w1 P w.heap.size (.slice (some ⟨g, o, none⟩) nb c) L (x.pv (.slice none 0 0)) w9) := by rw [← Hxx.out 17 E3.out]; exact HSk
        clear HS8 HS9 c7 f0 d0 HSk
        have HAr := Lib.hid (grown_blk HSx.out.g HA1.out (by omega))
        go_wp2_with (first | (refine wpList_load_row rfl 45 (.tmp 5) rfl P rfl 45 (x.pv (.slice none 0 0)).cells (0, 0) _ HSx.out.p Try.underlying45 rfl (by kernel_rfl) ?_) | (refine wpList_store_row rfl 45 (.tmp 2) (.tmp 142) rfl w.heap.size (x.pv (.slice none 0 0)).cells rfl rfl 45 PV.zero.cells HAr.out (by kernel_rfl) rfl (PV.one _ rfl) ?_))
        refine bodyPost_ret (v := .tuple #[.agg (x.pv (.slice none 0 0)).cells, .int .i64 40, .int .i64 0]) (results_cr3 Try.results77 _ _ w.heap.size 45 (x.pv (.slice none 0 0)).cells (0, 0) _ rfl (setRow_heap _ _ _ _ _ _ HAr.out) Try.underlying45 rfl (by kernel_rfl) rfl rfl) rfl ?_
        exact HeadR.good (x := x) (k := 40) (below_setRow (grown_to_below HB1.out HSx.out.g (by omega) (by omega)) (Nat.le_refl _) _) (by rw [He.out, Hp6.out, if_pos E2.out]) HX.out.1 HX.out.2
       ·have E2 := Lib.hid e2
        have hc := HI.out (-1) wx (.inr (.inr (.inr ⟨by omega, by omega, by omega, rfl⟩)))
        clear e2 e0 e00 e1 HI
        have HC := Lib.hid hc
        clear hc
        go_wp2_with fail
        refine HC.out.mono ?_
        rintro e w8 ⟨rfl, nn, rfl⟩
        have HS8 := Lib.hid ((HSg.out.later (below_alloc (Below.refl _ _) (.cells #[.int .i64 58, .int .i64 6, .int .i64 17] 3 (0, 0)))).later (below_drewN (Below.refl _ _) nn))
        generalize (wx.alloc (.cells #[.int .i64 58, .int .i64 6, .int .i64 17] 3 (0, 0))).drewN nn = w8 at *
        clear HC HSg cb
        obtain ⟨xk, hxk⟩ : ∃ xk : PV, xk = { PV.zero with s1 := true, h1 := ((num (sb L 8 8) : Nat) : Int), l1 := ((num (sb L 16 8) : Nat) : Int), s2 := true, h2 := ((num (sb L 24 8) : Nat) : Int), l2 := ((num (sb L 32 8) : Nat) : Int), hops := (((ub L 7).toNat : Nat) : Int) } := ⟨_, rfl⟩
        have HSk : Hid (RS w1 P w.heap.size (.slice (some ⟨g, o, none⟩) nb c) L xk w8) := by rw [hxk]; exact HS8
        have hxp : xk.pay = .slice none 0 0 := by rw [hxk]; rfl
        have hxo : xk.pay.oneCell' = true := by rw [hxp]; rfl
        clear HS8 hxk
        have HAr := Lib.hid (grown_blk HSk.out.g HA1.out (by omega))
        go_wp2_with (first | (refine wpList_load_row rfl 45 (.tmp 5) rfl P rfl 45 (xk).cells (0, 0) _ HSk.out.p Try.underlying45 rfl (by kernel_rfl) ?_) | (refine wpList_store_row rfl 45 (.tmp 2) (.tmp 136) rfl w.heap.size (xk).cells rfl rfl 45 PV.zero.cells HAr.out (by kernel_rfl) rfl (PV.one _ hxo) ?_))
        refine bodyPost_ret (v := .tuple #[.agg (xk).cells, .int .i64 0, .int .i64 4]) (results_cr3 Try.results77 _ _ w.heap.size 45 (xk).cells (0, 0) _ rfl (setRow_heap _ _ _ _ _ _ HAr.out) Try.underlying45 rfl (by kernel_rfl) rfl rfl) rfl ?_
        exact HeadR.bad (k := 4) (below_setRow (grown_to_below HB1.out HSk.out.g (by omega) (by omega)) (Nat.le_refl _) _) (by rw [He.out, Hp6.out, if_neg E2.out]) (by decide) xk hxp rfl
end Go.Proofs.Ytakjopbdkkcnlaa
