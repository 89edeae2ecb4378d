/-
  A right packet is written by the reference: six.
-/
import Derived.Test.YtakjopbdkkcnlaaPR12
import Derived.Test.YtakjopbdkkcnlaaPR4
import Derived.Deep.Cut
set_option linter.unusedVariables false
namespace Go.Proofs.Ytakjopbdkkcnlaa
open Go.RowKit Go
set_option linter.unusedVariables false

set_option maxRecDepth 100000 in
set_option maxHeartbeats 8000000 in
theorem pktBytes_six (x : NP) (hx : x.fit) (pa : Option Addr) (pc : Nat) (pay : List UInt8) (w : World) (hr : Rb w.heap.size w (.slice pa pay.length pc) pay) (hpl : pay.length ≤ 1400) (hs : x.s1 = true) :
  Calls Try.prog 24 #[.agg (x.pv (.slice pa pay.length pc)).cells] w fun e w' => ∃ v, e = .returned v ∧ OwnB w' w.heap.size v (pktB x pay) ∧ Below w.heap.size w w' := by
 replace hs := Lib.hid hs
 have HF := Lib.hid (FS.start (x := x.pv (.slice pa pay.length pc)) hr)
 have hsz : w.heap.size ≤ (w.alloc (.cells (x.pv (.slice pa pay.length pc)).cells 45 (0, 0))).heap.size := by simp
 have HB0 : Hid (Below w.heap.size w (w.alloc (.cells (x.pv (.slice pa pay.length pc)).cells 45 (0, 0)))) := Lib.hid (below_alloc (Below.refl _ _) _)
 clear hr
 go_enter Try.func24, Try.ntmps24
 go_upto_region 1 with fail
 generalize w.alloc (.cells (x.pv (.slice pa pay.length pc)).cells 45 (0, 0)) = w1 at *
 generalize hP0 : w.heap.size = P0 at *
 have HP0 := Lib.hid hP0
 clear hP0
 have HB := Lib.hid (OwnB.nil w1 w1.heap.size)
 clear HB
 go_wp2_with (refine wpList_load_row rfl 45 (.tmp 1) rfl P0 rfl 45 (x.pv (.slice pa pay.length pc)).cells (0, 0) _ HF.out.p Try.underlying45 rfl (by kernel_rfl) ?_)
 refine (part_any x hx pa pc pay w1 HF.out.rb (by omega)).mono ?_
 rintro e w2 ⟨v2, rfl, hO2, hb2⟩
 replace hO2 := Lib.hid hO2
 replace hb2 := Lib.hid hb2
 go_upto_region 2 with fail
 have HF2 := Lib.hid (HF.out.below hb2.out)
 have hs2 : w1.heap.size ≤ w2.heap.size := hb2.out.size
 have HB2 := Lib.hid (HB0.out.trans (hb2.out.mono hsz))
 have hPl := partB_len x pay
 have hpb : Hid (pktB x pay = if x.s1 = true then [96, 0, 0, 0] ++ be (bodyB x pay).length 2 ++ [b8 (codeN x), b8 x.hops] ++ addrB x.s1 x.h1 x.l1 ++ addrB x.s2 x.h2 x.l2 ++ bodyB x pay else setSum (headB x (bodyB x pay).length) 10 (sumN (headB x (bodyB x pay).length)) ++ bodyB x pay) := Lib.hid rfl
 have hle : leastN x.proto ≤ 20 := by unfold leastN; split <;> omega
 have hlt : sumAtN x.proto + 2 ≤ (partB x pay).length := by
  rw [hPl]
  rcases hx.proto with h | h | h <;> rw [h] <;> simp [sumAtN, leastN] <;> omega
 have hbody : Hid (bodyB x pay = setSum (partB x pay) (sumAtN x.proto) (partSumN x (partB x pay))) := Lib.hid rfl
 have hple : (partB x pay).length ≤ 1421 := by omega
 have hblen : (bodyB x pay).length = (partB x pay).length := by rw [hbody.out, setSum_len]
 rw [hblen] at hpb
 have hps : Hid (partSumN x (partB x pay) = if x.proto = 17 ∧ sumN (aheadB x (partB x pay).length ++ partB x pay) = 0 then 65535 else sumN (aheadB x (partB x pay).length ++ partB x pay)) := Lib.hid rfl
 have hpsle := partSumN_le x (partB x pay)
 have hbl : Hid ((bodyB x pay).length = (partB x pay).length) := Lib.hid hblen
 clear hPl hle hblen
 generalize bodyB x pay = body at *
 generalize sumAtN x.proto = sa at *
 generalize partB x pay = part at *
 obtain ⟨g, c, rfl, hg1, hg2, hc1, hc2⟩ := hO2.out.slice1 (by omega)
 obtain ⟨pl, hpl2⟩ : ∃ pl, part.length = pl := ⟨_, rfl⟩
 rw [hpl2] at hlt hple hpb hc1 hbl hps
 have HR2 := Lib.hid (hO2.out.rb (by omega))
 have HF2r := Lib.hid HF2.out.rebase2
 rw [hpl2] at hO2 HR2
 rw [hpl2]
 have hpl3 := Lib.hid hpl2
 clear hpl2
 have hB : RC.fine (⟨w2.heap.size, w2, (.slice none 0 0), false, P0⟩ : RC) := HF2r.out.fine (fun k hk => by cases hk)
 refine Lm.wp_region_lim 6 0 (fun p vv nn ww => (List.getD ((.val (.pointer (some ⟨P0, 0, none⟩))) :: (.val (.agg #[.bool x.s1, .int .u64 ((x.h1 : Nat) : Int), .int .u64 ((x.l1 : Nat) : Int)])) :: (.own 0 (addrB x.s1 x.h1 x.l1)) :: (.val (.pointer (some ⟨P0, 3, none⟩))) :: (.val (.agg #[.bool x.s2, .int .u64 ((x.h2 : Nat) : Int), .int .u64 ((x.l2 : Nat) : Int)])) :: (.own 0 (addrB x.s2 x.h2 x.l2)) :: [] : List Ds) p .any).R (⟨w2.heap.size, w2, (.slice none 0 0), false, P0⟩ : RC) vv nn ww) (RC.C (⟨w2.heap.size, w2, (.slice none 0 0), false, P0⟩ : RC)) (RC.S (⟨w2.heap.size, w2, (.slice none 0 0), false, P0⟩ : RC)) (fun _ => 0) (fun _ => 0)
  (by kernel_rfl) (by kernel_rfl) (by decide) (by kernel_rfl) (fun p vv nn ww n' w' h hs => ds_keep hB _ rfl p vv nn ww n' w' h hs) RC.start ?hX1
 case' hX1 => (apply Exists.intro; refine ⟨fun T => ?hA1, ?hob1, ?hend1⟩)
 case hA1 =>
  simp only [setAll, List.take_succ_cons, List.take_zero, Act.put, List.setIfInBounds_toArray, List.set_cons_succ, List.set_cons_zero, Nat.reduceAdd]
  exact rfl
 case hob1 =>
  refine ⟨?_, ?_, ?_, ?_, ?_, ?_, trivial⟩
  ·intro T wa n hC hn hp
   have hn : n ≤ 0 := hn
   refine Op1.g fun _ Z => ?_; go_simp; exact Z _ _ ⟨rfl, hC, rR⟩
  ·intro T wa n hC hn hp
   have hn : n ≤ 0 := hn
   obtain ⟨(d0 : T 0 = .pointer (some ⟨P0, 0, none⟩)), -⟩ := hp
   obtain ⟨c0, c1, c2, -, -, -, -, -, -, -, -, -, -, -, -, -, -, -, -, f0⟩ := np_cells (show PBlk wa P0 (x.pv (.slice pa pay.length pc)) from hC.2.2.trans HF2r.out.p)
   refine Op1.g fun _ Z => ?_; go_simp; exact Z _ _ ⟨rfl, hC, rR⟩
  ·intro T wa n hC hn hp
   have hn : n ≤ 0 := hn
   obtain ⟨(d1 : T 1 = .agg #[.bool x.s1, .int .u64 ((x.h1 : Nat) : Int), .int .u64 ((x.l1 : Nat) : Int)]), -⟩ := hp
   have hz : n = 0 := by omega
   refine Op1.g fun _ Z => ?_; go_simp; exact calls_post (addrBytes_ob (c := (⟨w2.heap.size, w2, (.slice none 0 0), false, P0⟩ : RC)) hB hC hz rfl x.s1 x.h1 x.l1 hx.h1 hx.l1) Z
  ·intro T wa n hC hn hp
   have hn : n ≤ 0 := hn
   refine Op1.g fun _ Z => ?_; go_simp; exact Z _ _ ⟨rfl, hC, rR⟩
  ·intro T wa n hC hn hp
   have hn : n ≤ 0 := hn
   obtain ⟨(d3 : T 3 = .pointer (some ⟨P0, 3, none⟩)), -⟩ := hp
   obtain ⟨-, -, -, c3, c4, c5, -, -, -, -, -, -, -, -, -, -, -, -, -, f0⟩ := np_cells (show PBlk wa P0 (x.pv (.slice pa pay.length pc)) from hC.2.2.trans HF2r.out.p)
   refine Op1.g fun _ Z => ?_; go_simp; exact Z _ _ ⟨rfl, hC, rR⟩
  ·intro T wa n hC hn hp
   have hn : n ≤ 0 := hn
   obtain ⟨(d4 : T 4 = .agg #[.bool x.s2, .int .u64 ((x.h2 : Nat) : Int), .int .u64 ((x.l2 : Nat) : Int)]), -⟩ := hp
   have hz : n = 0 := by omega
   refine Op1.g fun _ Z => ?_; go_simp; exact calls_post (addrBytes_ob (c := (⟨w2.heap.size, w2, (.slice none 0 0), false, P0⟩ : RC)) hB hC hz rfl x.s2 x.h2 x.l2 hx.h2 hx.l2) Z
 case hend1 =>
  intro T wa ⟨n, hn, hC, hR⟩
  obtain ⟨HO5, HG5⟩ : OwnB wa w2.heap.size (T 2) (addrB x.s1 x.h1 x.l1) ∧ Grew w2 wa (.slice none 0 0) (T 2) := (show Ds.R (⟨w2.heap.size, w2, (.slice none 0 0), false, P0⟩ : RC) (.own 0 (addrB x.s1 x.h1 x.l1)) (T 2) n wa from hR 2 (by omega)).2 (by omega)
  generalize T 2 = v5 at *
  have HO5 := Lib.hid HO5
  have HG5 := Lib.hid HG5
  obtain ⟨HO6, HG6⟩ : OwnB wa w2.heap.size (T 5) (addrB x.s2 x.h2 x.l2) ∧ Grew w2 wa (.slice none 0 0) (T 5) := (show Ds.R (⟨w2.heap.size, w2, (.slice none 0 0), false, P0⟩ : RC) (.own 0 (addrB x.s2 x.h2 x.l2)) (T 5) n wa from hR 5 (by omega)).2 (by omega)
  generalize T 5 = v6 at *
  have HO6 := Lib.hid HO6
  have HG6 := Lib.hid HG6
  have HC := Lib.hid hC.1
  have hB2 := hC.size
  clear hR hC
  have HFa := Lib.hid (HF2.out.below (HC.out.mono hs2))
  have HFar := Lib.hid HFa.out.rebase2
  have HOa : Hid (OwnB wa w1.heap.size (.slice (some ⟨g, 0, none⟩) pl c) part) := Lib.hid (own_later hO2.out HC.out)
  have hsa : w2.heap.size ≤ wa.heap.size := HC.out.size
  have hwa : w1.heap.size ≤ wa.heap.size := Nat.le_trans hs2 hsa
  have HRp := Lib.hid (HOa.out.rb (by rw [hpl3.out]; omega))
  have HR5 := Lib.hid (HO5.out.rb (by simp [addrB_len] <;> (repeat' split) <;> omega))
  have HR6 := Lib.hid (HO6.out.rb (by simp [addrB_len] <;> (repeat' split) <;> omega))
  clear HC hB hB2 HG5 HG6 HF2 HF2r hO2 HR2
  have hgw : g < wa.heap.size := by omega
  have HOp := HOa
  clear HOa
  go_upto_region 3 with fail
  have hB : RC.fine (⟨wa.heap.size, wa, (.slice none 0 0), false, P0⟩ : RC) := HFar.out.fine (fun k hk => by cases hk)
  refine Lm.wp_region_seq 12 0 (fun p vv nn ww => (List.getD ((.rd (addrB x.s1 x.h1 x.l1)) :: (.rd (addrB x.s2 x.h2 x.l2)) :: (.val (.agg (x.pv (.slice pa pay.length pc)).cells)) :: (.val (.int .i64 ((codeN x : Nat) : Int))) :: (.val (encB (b8 (codeN x)))) :: (.arr 0 ([0, b8 (codeN x)])) :: (.rd (part)) :: (.val (.int .i64 (((part).length : Nat) : Int))) :: (.val (.int .u64 (((part).length : Nat) : Int))) :: (.own 0 (be ((part).length) 2)) :: (.arrs 0 [addrB x.s1 x.h1 x.l1, addrB x.s2 x.h2 x.l2, [0, b8 (codeN x)], be ((part).length) 2]) :: (.own 0 (List.flatten [addrB x.s1 x.h1 x.l1, addrB x.s2 x.h2 x.l2, [0, b8 (codeN x)], be ((part).length) 2])) :: [] : List Ds) p .any).R (⟨wa.heap.size, wa, (.slice none 0 0), false, P0⟩ : RC) vv nn ww) (RC.C (⟨wa.heap.size, wa, (.slice none 0 0), false, P0⟩ : RC)) (RC.S (⟨wa.heap.size, wa, (.slice none 0 0), false, P0⟩ : RC)) (fun _ => 0) (fun _ => 0)
   (by kernel_rfl) (by kernel_rfl) (by decide) (by kernel_rfl) (fun p vv nn ww n' w' h hs => ds_keep hB _ rfl p vv nn ww n' w' h hs) RC.start0 ?hX2
  case' hX2 => (apply Exists.intro; refine ⟨fun T => ?hA2, ?hob2, ?hend2⟩)
  case hA2 =>
   simp only [setAll, List.take_succ_cons, List.take_zero, Act.put, List.setIfInBounds_toArray, List.set_cons_succ, List.set_cons_zero, Nat.reduceAdd]
   exact rfl
  case hob2 =>
   refine ⟨?_, ?_, ?_, ?_, ?_, ?_, ?_, ?_, ?_, ?_, ?_, ?_, trivial⟩
   ·intro T wb n hC hn hp
    have hn : n ≤ 0 := hn
    refine Op1.g fun _ Z => ?_; go_simp; exact Z _ _ ⟨HR5.out, hC, rR⟩
   ·intro T wb n hC hn hp
    have hn : n ≤ 0 := hn
    refine Op1.g fun _ Z => ?_; go_simp; exact Z _ _ ⟨HR6.out, hC, rR⟩
   ·intro T wb n hC hn hp
    have hn : n ≤ 0 := hn
    exact Op1.load_row 45 (.tmp 1) rfl P0 rfl 45 (x.pv (.slice pa pay.length pc)).cells (0, 0) _ (hC.2.2.trans HFar.out.p) Try.underlying45 rfl (by kernel_rfl) ⟨rfl, hC, rR⟩
   ·intro T wb n hC hn hp
    have hn : n ≤ 0 := hn
    obtain ⟨(d2 : T 2 = .agg (x.pv (.slice pa pay.length pc)).cells), -⟩ := hp
    refine Op1.g fun _ Z => ?_; go_simp; exact calls_post (ret_ob (c := (⟨wa.heap.size, wa, (.slice none 0 0), false, P0⟩ : RC)) hB hC (qcode_any x (.slice pa pay.length pc) wb hx)) Z
   ·intro T wb n hC hn hp
    have hn : n ≤ 0 := hn
    obtain ⟨(d3 : T 3 = .int .i64 ((codeN x : Nat) : Int)), -⟩ := hp
    refine Op1.g fun _ Z => ?_; go_simp
    first | exact Z _ _ ⟨rfl, hC, rR⟩ | exact Z _ _ ⟨u8_nat _, hC, rR⟩ | (refine Z _ _ ⟨congrArg (Value.int _) ?_, hC, rR⟩; have := hpl3.out; omega) | (refine Z _ _ ⟨congrArg (Value.int _) ?_, hC, rR⟩; simp only [IntKind.wrap_u64, IntKind.wrap_i64, IntKind.wrap_u8]; have := hpl3.out; omega)
   ·intro T wb n hC hn hp
    have hn : n ≤ 0 := hn
    obtain ⟨(d4 : T 4 = encB (b8 (codeN x))), -⟩ := hp
    refine Op1.g fun _ Z => ?_; go_simp; exact Z _ _ (arr_ok hB [0, b8 (codeN x)] hC _ rfl _ rfl)
   ·intro T wb n hC hn hp
    have hn : n ≤ 0 := hn
    refine Op1.g fun _ Z => ?_; go_simp; exact Z _ _ ⟨HRp.out, hC, rR⟩
   ·intro T wb n hC hn hp
    have hn : n ≤ 0 := hn
    obtain ⟨(d6 : Ds.R (⟨wa.heap.size, wa, (.slice none 0 0), false, P0⟩ : RC) (.rd (part)) (T 6) n wb), -⟩ := hp
    obtain ⟨ad, cc, ev, -⟩ := d6
    refine Op1.g fun _ Z => ?_; go_simp; exact Z _ _ ⟨rfl, hC, rR⟩
   ·intro T wb n hC hn hp
    have hn : n ≤ 0 := hn
    obtain ⟨(d7 : T 7 = .int .i64 (((part).length : Nat) : Int)), -⟩ := hp
    refine Op1.g fun _ Z => ?_; go_simp
    first | exact Z _ _ ⟨rfl, hC, rR⟩ | exact Z _ _ ⟨u8_nat _, hC, rR⟩ | (refine Z _ _ ⟨congrArg (Value.int _) ?_, hC, rR⟩; have := hpl3.out; omega) | (refine Z _ _ ⟨congrArg (Value.int _) ?_, hC, rR⟩; simp only [IntKind.wrap_u64]; have := hpl3.out; omega)
   ·intro T wb n hC hn hp
    have hn : n ≤ 0 := hn
    obtain ⟨(d8 : T 8 = .int .u64 (((part).length : Nat) : Int)), -⟩ := hp
    have hz : n = 0 := by omega
    refine Op1.g fun _ Z => ?_; go_simp; exact calls_post (big_ob (c := (⟨wa.heap.size, wa, (.slice none 0 0), false, P0⟩ : RC)) hB hC hz rfl ((part).length) 2 (by have := hpl3.out; omega) (by omega)) Z
   ·intro T wb n hC hn hp
    have hn : n ≤ 0 := hn
    obtain ⟨(d0 : Ds.R (⟨wa.heap.size, wa, (.slice none 0 0), false, P0⟩ : RC) (.rd (addrB x.s1 x.h1 x.l1)) (T 0) n wb), (d1 : Ds.R (⟨wa.heap.size, wa, (.slice none 0 0), false, P0⟩ : RC) (.rd (addrB x.s2 x.h2 x.l2)) (T 1) n wb), (d5 : Ds.R (⟨wa.heap.size, wa, (.slice none 0 0), false, P0⟩ : RC) (.arr 0 ([0, b8 (codeN x)])) (T 5) n wb), (d9 : Ds.R (⟨wa.heap.size, wa, (.slice none 0 0), false, P0⟩ : RC) (.own 0 (be ((part).length) 2)) (T 9) n wb), -⟩ := hp
    obtain ⟨ad0, nn0, cc0, ev0, rb0⟩ := rb_lit ((Rb.below d0 hC.1).mono (Nat.le_trans hB.le hC.size))
    obtain ⟨ad1, nn1, cc1, ev1, rb1⟩ := rb_lit ((Rb.below d1 hC.1).mono (Nat.le_trans hB.le hC.size))
    obtain ⟨g2, q2, hg2⟩ := d5
    have hr2 : Rb wb.heap.size wb (T 5) ([0, b8 (codeN x)]) := q2 ▸ rb_arr (hg2 (by omega)) (by first | omega | (simp <;> (repeat' split) <;> omega))
    clear q2 hg2
    obtain ⟨ad2, nn2, cc2, ev2, rb2⟩ := rb_lit hr2
    obtain ⟨hO3, -⟩ := d9.2 (by omega)
    obtain ⟨ad3, nn3, cc3, ev3, rb3⟩ := rb_lit (hO3.rb (by first | omega | (simp [be_len, hpl3.out] <;> (repeat' split) <;> omega)))
    refine Op1.g fun _ Z => ?_; go_simp; exact Z _ _ (arrs_ok hB [.slice ad0 nn0 cc0, .slice ad1 nn1 cc1, .slice ad2 nn2 cc2, .slice ad3 nn3 cc3] [addrB x.s1 x.h1 x.l1, addrB x.s2 x.h2 x.l2, [0, b8 (codeN x)], be ((part).length) 2] hC ⟨rb0.out, rb1.out, rb2.out, rb3.out, trivial⟩ _ rfl _ rfl)
   ·intro T wb n hC hn hp
    have hn : n ≤ 0 := hn
    obtain ⟨(d10 : Ds.R (⟨wa.heap.size, wa, (.slice none 0 0), false, P0⟩ : RC) (.arrs 0 [addrB x.s1 x.h1 x.l1, addrB x.s2 x.h2 x.l2, [0, b8 (codeN x)], be ((part).length) 2]) (T 10) n wb), -⟩ := hp
    obtain ⟨g, vs, eg, hg⟩ := d10
    obtain ⟨hg, hRb⟩ := hg (by omega)
    have hz : n = 0 := by omega
    refine Op1.g fun _ Z => ?_; go_simp; exact calls_post (concat_ob (c := (⟨wa.heap.size, wa, (.slice none 0 0), false, P0⟩ : RC)) hB hC hz rfl g vs [addrB x.s1 x.h1 x.l1, addrB x.s2 x.h2 x.l2, [0, b8 (codeN x)], be ((part).length) 2] hg hRb (by first | omega | (simp [be_len, addrB_len, hpl3.out] <;> (repeat' split) <;> omega)) (by simp) _ rfl) Z
  case hend2 =>
   intro T wb ⟨n, hn, hC, hR⟩
   obtain ⟨HO7, HG7⟩ : OwnB wb wa.heap.size (T 11) (List.flatten [addrB x.s1 x.h1 x.l1, addrB x.s2 x.h2 x.l2, [0, b8 (codeN x)], be ((part).length) 2]) ∧ Grew wa wb (.slice none 0 0) (T 11) := (show Ds.R (⟨wa.heap.size, wa, (.slice none 0 0), false, P0⟩ : RC) (.own 0 (List.flatten [addrB x.s1 x.h1 x.l1, addrB x.s2 x.h2 x.l2, [0, b8 (codeN x)], be ((part).length) 2])) (T 11) n wb from hR 11 (by omega)).2 (by omega)
   generalize T 11 = v7 at *
   have HO7 := Lib.hid HO7
   have HG7 := Lib.hid HG7
   have HC := Lib.hid hC.1
   have hB2 := hC.size
   clear hR hC
   have HFb := Lib.hid (HFa.out.below (HC.out.mono hwa))
   have HFbr := Lib.hid HFb.out.rebase2
   replace HOp := Lib.hid (HOp.out.later HC.out (Nat.le_refl _))
   have hwb : w1.heap.size ≤ wb.heap.size := Nat.le_trans hwa HC.out.size
   replace hgw : g < wb.heap.size := Nat.lt_of_lt_of_le hgw HC.out.size
   replace HRp := Lib.hid ((HRp.out.below HC.out).mono HC.out.size)
   replace HO5 := Lib.hid (HO5.out.later HC.out (Nat.le_refl _))
   replace HR5 := Lib.hid ((HR5.out.below HC.out).mono HC.out.size)
   replace HO6 := Lib.hid (HO6.out.later HC.out (Nat.le_refl _))
   replace HR6 := Lib.hid ((HR6.out.below HC.out).mono HC.out.size)
   clear HC hB hB2 HFar HFa
   clear HG7
   go_upto_region 4 with fail
   obtain ⟨c0, -, -, -, -, -, -, -, -, -, -, -, -, -, -, -, -, -, -, f0⟩ := np_cells HFb.out.p
   rw [hs.out] at c0
   go_upto_region 5 with fail
   clear c0 f0 HO7
   have hB : RC.fine (⟨wb.heap.size, wb, (.slice none 0 0), false, P0⟩ : RC) := HFbr.out.fine (fun k hk => by cases hk)
   refine Lm.wp_region_lim 12 0 (fun p vv nn ww => (List.getD ((.rd (addrB x.s1 x.h1 x.l1)) :: (.rd (addrB x.s2 x.h2 x.l2)) :: (.rd (part)) :: (.val (.int .i64 (((part).length : Nat) : Int))) :: (.val (.int .u64 (((part).length : Nat) : Int))) :: (.own 0 (be ((part).length) 4)) :: (.val (.agg (x.pv (.slice pa pay.length pc)).cells)) :: (.val (.int .i64 ((codeN x : Nat) : Int))) :: (.val (encB (b8 (codeN x)))) :: (.arr 0 ([0, 0, 0, b8 (codeN x)])) :: (.arrs 0 [addrB x.s1 x.h1 x.l1, addrB x.s2 x.h2 x.l2, be ((part).length) 4, [0, 0, 0, b8 (codeN x)]]) :: (.own 0 (List.flatten [addrB x.s1 x.h1 x.l1, addrB x.s2 x.h2 x.l2, be ((part).length) 4, [0, 0, 0, b8 (codeN x)]])) :: [] : List Ds) p .any).R (⟨wb.heap.size, wb, (.slice none 0 0), false, P0⟩ : RC) vv nn ww) (RC.C (⟨wb.heap.size, wb, (.slice none 0 0), false, P0⟩ : RC)) (RC.S (⟨wb.heap.size, wb, (.slice none 0 0), false, P0⟩ : RC)) (fun _ => 0) (fun _ => 0)
    (by kernel_rfl) (by kernel_rfl) (by decide) (by kernel_rfl) (fun p vv nn ww n' w' h hs => ds_keep hB _ rfl p vv nn ww n' w' h hs) RC.start ?hX3
   case' hX3 => (apply Exists.intro; refine ⟨fun T => ?hA3, ?hob3, ?hend3⟩)
   case hA3 =>
    simp only [setAll, List.take_succ_cons, List.take_zero, Act.put, List.setIfInBounds_toArray, List.set_cons_succ, List.set_cons_zero, Nat.reduceAdd]
    exact rfl
   case hob3 =>
    refine ⟨?_, ?_, ?_, ?_, ?_, ?_, ?_, ?_, ?_, ?_, ?_, ?_, trivial⟩
    ·intro T wc n hC hn hp
     have hn : n ≤ 0 := hn
     refine Op1.g fun _ Z => ?_; go_simp; exact Z _ _ ⟨HR5.out, hC, rR⟩
    ·intro T wc n hC hn hp
     have hn : n ≤ 0 := hn
     refine Op1.g fun _ Z => ?_; go_simp; exact Z _ _ ⟨HR6.out, hC, rR⟩
    ·intro T wc n hC hn hp
     have hn : n ≤ 0 := hn
     refine Op1.g fun _ Z => ?_; go_simp; exact Z _ _ ⟨HRp.out, hC, rR⟩
    ·intro T wc n hC hn hp
     have hn : n ≤ 0 := hn
     obtain ⟨(d2 : Ds.R (⟨wb.heap.size, wb, (.slice none 0 0), false, P0⟩ : RC) (.rd (part)) (T 2) n wc), -⟩ := hp
     obtain ⟨ad, cc, ev, -⟩ := d2
     refine Op1.g fun _ Z => ?_; go_simp; exact Z _ _ ⟨rfl, hC, rR⟩
    ·intro T wc n hC hn hp
     have hn : n ≤ 0 := hn
     obtain ⟨(d3 : T 3 = .int .i64 (((part).length : Nat) : Int)), -⟩ := hp
     refine Op1.g fun _ Z => ?_; go_simp
     first | exact Z _ _ ⟨rfl, hC, rR⟩ | exact Z _ _ ⟨u8_nat _, hC, rR⟩ | (refine Z _ _ ⟨congrArg (Value.int _) ?_, hC, rR⟩; have := hpl3.out; omega) | (refine Z _ _ ⟨congrArg (Value.int _) ?_, hC, rR⟩; simp only [IntKind.wrap_u64]; have := hpl3.out; omega)
    ·intro T wc n hC hn hp
     have hn : n ≤ 0 := hn
     obtain ⟨(d4 : T 4 = .int .u64 (((part).length : Nat) : Int)), -⟩ := hp
     have hz : n = 0 := by omega
     refine Op1.g fun _ Z => ?_; go_simp; exact calls_post (big_ob (c := (⟨wb.heap.size, wb, (.slice none 0 0), false, P0⟩ : RC)) hB hC hz rfl ((part).length) 4 (by have := hpl3.out; omega) (by omega)) Z
    ·intro T wc n hC hn hp
     have hn : n ≤ 0 := hn
     exact Op1.load_row 45 (.tmp 1) rfl P0 rfl 45 (x.pv (.slice pa pay.length pc)).cells (0, 0) _ (hC.2.2.trans HFbr.out.p) Try.underlying45 rfl (by kernel_rfl) ⟨rfl, hC, rR⟩
    ·intro T wc n hC hn hp
     have hn : n ≤ 0 := hn
     obtain ⟨(d6 : T 6 = .agg (x.pv (.slice pa pay.length pc)).cells), -⟩ := hp
     refine Op1.g fun _ Z => ?_; go_simp; exact calls_post (ret_ob (c := (⟨wb.heap.size, wb, (.slice none 0 0), false, P0⟩ : RC)) hB hC (qcode_any x (.slice pa pay.length pc) wc hx)) Z
    ·intro T wc n hC hn hp
     have hn : n ≤ 0 := hn
     obtain ⟨(d7 : T 7 = .int .i64 ((codeN x : Nat) : Int)), -⟩ := hp
     refine Op1.g fun _ Z => ?_; go_simp
     first | exact Z _ _ ⟨rfl, hC, rR⟩ | exact Z _ _ ⟨u8_nat _, hC, rR⟩ | (refine Z _ _ ⟨congrArg (Value.int _) ?_, hC, rR⟩; have := hpl3.out; omega) | (refine Z _ _ ⟨congrArg (Value.int _) ?_, hC, rR⟩; simp only [IntKind.wrap_u64, IntKind.wrap_i64, IntKind.wrap_u8]; have := hpl3.out; omega)
    ·intro T wc n hC hn hp
     have hn : n ≤ 0 := hn
     obtain ⟨(d8 : T 8 = encB (b8 (codeN x))), -⟩ := hp
     refine Op1.g fun _ Z => ?_; go_simp; exact Z _ _ (arr_ok hB [0, 0, 0, b8 (codeN x)] hC _ rfl _ rfl)
    ·intro T wc n hC hn hp
     have hn : n ≤ 0 := hn
     obtain ⟨(d0 : Ds.R (⟨wb.heap.size, wb, (.slice none 0 0), false, P0⟩ : RC) (.rd (addrB x.s1 x.h1 x.l1)) (T 0) n wc), (d1 : Ds.R (⟨wb.heap.size, wb, (.slice none 0 0), false, P0⟩ : RC) (.rd (addrB x.s2 x.h2 x.l2)) (T 1) n wc), (d5 : Ds.R (⟨wb.heap.size, wb, (.slice none 0 0), false, P0⟩ : RC) (.own 0 (be ((part).length) 4)) (T 5) n wc), (d9 : Ds.R (⟨wb.heap.size, wb, (.slice none 0 0), false, P0⟩ : RC) (.arr 0 ([0, 0, 0, b8 (codeN x)])) (T 9) n wc), -⟩ := hp
     obtain ⟨ad0, nn0, cc0, ev0, rb0⟩ := rb_lit ((Rb.below d0 hC.1).mono (Nat.le_trans hB.le hC.size))
     obtain ⟨ad1, nn1, cc1, ev1, rb1⟩ := rb_lit ((Rb.below d1 hC.1).mono (Nat.le_trans hB.le hC.size))
     obtain ⟨hO2, -⟩ := d5.2 (by omega)
     obtain ⟨ad2, nn2, cc2, ev2, rb2⟩ := rb_lit (hO2.rb (by first | omega | (simp [be_len, hpl3.out] <;> (repeat' split) <;> omega)))
     obtain ⟨g3, q3, hg3⟩ := d9
     have hr3 : Rb wc.heap.size wc (T 9) ([0, 0, 0, b8 (codeN x)]) := q3 ▸ rb_arr (hg3 (by omega)) (by first | omega | (simp <;> (repeat' split) <;> omega))
     clear q3 hg3
     obtain ⟨ad3, nn3, cc3, ev3, rb3⟩ := rb_lit hr3
     refine Op1.g fun _ Z => ?_; go_simp; exact Z _ _ (arrs_ok hB [.slice ad0 nn0 cc0, .slice ad1 nn1 cc1, .slice ad2 nn2 cc2, .slice ad3 nn3 cc3] [addrB x.s1 x.h1 x.l1, addrB x.s2 x.h2 x.l2, be ((part).length) 4, [0, 0, 0, b8 (codeN x)]] hC ⟨rb0.out, rb1.out, rb2.out, rb3.out, trivial⟩ _ rfl _ rfl)
    ·intro T wc n hC hn hp
     have hn : n ≤ 0 := hn
     obtain ⟨(d10 : Ds.R (⟨wb.heap.size, wb, (.slice none 0 0), false, P0⟩ : RC) (.arrs 0 [addrB x.s1 x.h1 x.l1, addrB x.s2 x.h2 x.l2, be ((part).length) 4, [0, 0, 0, b8 (codeN x)]]) (T 10) n wc), -⟩ := hp
     obtain ⟨g, vs, eg, hg⟩ := d10
     obtain ⟨hg, hRb⟩ := hg (by omega)
     have hz : n = 0 := by omega
     refine Op1.g fun _ Z => ?_; go_simp; exact calls_post (concat_ob (c := (⟨wb.heap.size, wb, (.slice none 0 0), false, P0⟩ : RC)) hB hC hz rfl g vs [addrB x.s1 x.h1 x.l1, addrB x.s2 x.h2 x.l2, be ((part).length) 4, [0, 0, 0, b8 (codeN x)]] hg hRb (by first | omega | (simp [be_len, addrB_len, hpl3.out] <;> (repeat' split) <;> omega)) (by simp) _ rfl) Z
   case hend3 =>
    intro T wc ⟨n, hn, hC, hR⟩
    obtain ⟨HO7, HG7⟩ : OwnB wc wb.heap.size (T 11) (List.flatten [addrB x.s1 x.h1 x.l1, addrB x.s2 x.h2 x.l2, be ((part).length) 4, [0, 0, 0, b8 (codeN x)]]) ∧ Grew wb wc (.slice none 0 0) (T 11) := (show Ds.R (⟨wb.heap.size, wb, (.slice none 0 0), false, P0⟩ : RC) (.own 0 (List.flatten [addrB x.s1 x.h1 x.l1, addrB x.s2 x.h2 x.l2, be ((part).length) 4, [0, 0, 0, b8 (codeN x)]])) (T 11) n wc from hR 11 (by omega)).2 (by omega)
    generalize T 11 = v7 at *
    have HO7 := Lib.hid HO7
    have HG7 := Lib.hid HG7
    have HC := Lib.hid hC.1
    have hB2 := hC.size
    clear hR hC
    have HFc := Lib.hid (HFb.out.below (HC.out.mono hwb))
    have HFcr := Lib.hid HFc.out.rebase2
    replace HOp := Lib.hid (HOp.out.later HC.out (Nat.le_refl _))
    have hwc : w1.heap.size ≤ wc.heap.size := Nat.le_trans hwb HC.out.size
    replace hgw : g < wc.heap.size := Nat.lt_of_lt_of_le hgw HC.out.size
    replace HRp := Lib.hid ((HRp.out.below HC.out).mono HC.out.size)
    replace HO5 := Lib.hid (HO5.out.later HC.out (Nat.le_refl _))
    replace HR5 := Lib.hid ((HR5.out.below HC.out).mono HC.out.size)
    replace HO6 := Lib.hid (HO6.out.later HC.out (Nat.le_refl _))
    replace HR6 := Lib.hid ((HR6.out.below HC.out).mono HC.out.size)
    clear HC hB hB2 HFbr HFb
    clear HG7
    have HO7a : Hid (OwnB wc wb.heap.size v7 (aheadB x pl)) := Lib.hid (by have := HO7.out; rw [← hpl3.out]; simpa [aheadB, hs.out, List.append_assoc] using this)
    have hal := aheadB_len x pl
    generalize aheadB x pl = AH at *
    have HR7 := Lib.hid (HO7a.out.rb (by omega))
    clear HO7a HO7
    go_upto_region 8 with fail
    have hB : RC.fine (⟨wc.heap.size, wc, (.slice none 0 0), false, P0⟩ : RC) := HFcr.out.fine (fun k hk => by cases hk)
    refine Lm.wp_region_seq 5 0 (fun p vv nn ww => (List.getD ((.rd (AH)) :: (.rd (part)) :: (.arrs 0 [AH, part]) :: (.own 0 (List.flatten [AH, part])) :: (.val (.int .i64 ((sumN (List.flatten [AH, part]) : Nat) : Int))) :: [] : List Ds) p .any).R (⟨wc.heap.size, wc, (.slice none 0 0), false, P0⟩ : RC) vv nn ww) (RC.C (⟨wc.heap.size, wc, (.slice none 0 0), false, P0⟩ : RC)) (RC.S (⟨wc.heap.size, wc, (.slice none 0 0), false, P0⟩ : RC)) (fun _ => 0) (fun _ => 0)
     (by kernel_rfl) (by kernel_rfl) (by decide) (by kernel_rfl) (fun p vv nn ww n' w' h hs => ds_keep hB _ rfl p vv nn ww n' w' h hs) RC.start0 ?hX4
    case' hX4 => (apply Exists.intro; refine ⟨fun T => ?hA4, ?hob4, ?hend4⟩)
    case hA4 =>
     simp only [setAll, List.take_succ_cons, List.take_zero, Act.put, List.setIfInBounds_toArray, List.set_cons_succ, List.set_cons_zero, Nat.reduceAdd]
     exact rfl
    case hob4 =>
     refine ⟨?_, ?_, ?_, ?_, ?_, trivial⟩
     ·intro T wd n hC hn hp
      have hn : n ≤ 0 := hn
      refine Op1.g fun _ Z => ?_; go_simp; exact Z _ _ ⟨HR7.out, hC, rR⟩
     ·intro T wd n hC hn hp
      have hn : n ≤ 0 := hn
      refine Op1.g fun _ Z => ?_; go_simp; exact Z _ _ ⟨HRp.out, hC, rR⟩
     ·intro T wd n hC hn hp
      have hn : n ≤ 0 := hn
      obtain ⟨(d0 : Ds.R (⟨wc.heap.size, wc, (.slice none 0 0), false, P0⟩ : RC) (.rd (AH)) (T 0) n wd), (d1 : Ds.R (⟨wc.heap.size, wc, (.slice none 0 0), false, P0⟩ : RC) (.rd (part)) (T 1) n wd), -⟩ := hp
      obtain ⟨ad0, nn0, cc0, ev0, rb0⟩ := rb_lit ((Rb.below d0 hC.1).mono (Nat.le_trans hB.le hC.size))
      obtain ⟨ad1, nn1, cc1, ev1, rb1⟩ := rb_lit ((Rb.below d1 hC.1).mono (Nat.le_trans hB.le hC.size))
      refine Op1.g fun _ Z => ?_; go_simp; exact Z _ _ (arrs_ok hB [.slice ad0 nn0 cc0, .slice ad1 nn1 cc1] [AH, part] hC ⟨rb0.out, rb1.out, trivial⟩ _ rfl _ rfl)
     ·intro T wd n hC hn hp
      have hn : n ≤ 0 := hn
      obtain ⟨(d2 : Ds.R (⟨wc.heap.size, wc, (.slice none 0 0), false, P0⟩ : RC) (.arrs 0 [AH, part]) (T 2) n wd), -⟩ := hp
      obtain ⟨g, vs, eg, hg⟩ := d2
      obtain ⟨hg, hRb⟩ := hg (by omega)
      have hz : n = 0 := by omega
      refine Op1.g fun _ Z => ?_; go_simp; exact calls_post (concat_ob (c := (⟨wc.heap.size, wc, (.slice none 0 0), false, P0⟩ : RC)) hB hC hz rfl g vs [AH, part] hg hRb (by first | omega | (simp [hpl3.out] <;> (repeat' split) <;> omega)) (by simp) _ rfl) Z
     ·intro T wd n hC hn hp
      have hn : n ≤ 0 := hn
      obtain ⟨(d3 : Ds.R (⟨wc.heap.size, wc, (.slice none 0 0), false, P0⟩ : RC) (.own 0 (List.flatten [AH, part])) (T 3) n wd), -⟩ := hp
      obtain ⟨hO, -⟩ := d3.2 (by omega)
      refine Op1.g fun _ Z => ?_; go_simp; exact calls_post (same_ob (c := (⟨wc.heap.size, wc, (.slice none 0 0), false, P0⟩ : RC)) hC (checkSum_rb (hO.rb (by first | omega | (simp [hpl3.out] <;> (repeat' split) <;> omega))))) Z
    case hend4 =>
     intro T wd ⟨n, hn, hC, hR⟩
     have r8 : T 4 = .int .i64 ((sumN (List.flatten [AH, part]) : Nat) : Int) := hR 4 (by omega)
     rw [r8]
     clear r8
     have HC := Lib.hid hC.1
     have hB2 := hC.size
     clear hR hC
     have HFd := Lib.hid (HFc.out.below (HC.out.mono hwc))
     have HFdr := Lib.hid HFd.out.rebase2
     replace HOp := Lib.hid (HOp.out.later HC.out (Nat.le_refl _))
     have hwd : w1.heap.size ≤ wd.heap.size := Nat.le_trans hwc HC.out.size
     replace hgw : g < wd.heap.size := Nat.lt_of_lt_of_le hgw HC.out.size
     replace HRp := Lib.hid ((HRp.out.below HC.out).mono HC.out.size)
     replace HO5 := Lib.hid (HO5.out.later HC.out (Nat.le_refl _))
     replace HR5 := Lib.hid ((HR5.out.below HC.out).mono HC.out.size)
     replace HO6 := Lib.hid (HO6.out.later HC.out (Nat.le_refl _))
     replace HR6 := Lib.hid ((HR6.out.below HC.out).mono HC.out.size)
     clear HC hB hB2 HFcr HFc
     clear HR7
     rw [show List.flatten [AH, part] = AH ++ part by simp]
     generalize sumN (AH ++ part) = sn at *
     go_upto_region 9 with fail
     have hB : RC.fine (⟨wd.heap.size, wd, (.slice none 0 0), false, P0⟩ : RC) := HFdr.out.fine (fun k hk => by cases hk)
     refine Lm.wp_region_seq 7 0 (fun p vv nn ww => (List.getD ((.val (.int .i64 ((sn : Nat) : Int))) :: (.val (.bool (((sn : Nat) : Int) == 0))) :: (.val (.bool (((sn : Nat) : Int) == 0))) :: (.gval ((((sn : Nat) : Int) == 0)) (.pointer (some ⟨P0, 7, none⟩))) :: (.gval ((((sn : Nat) : Int) == 0)) (.int .i64 ((x.proto : Nat) : Int))) :: (.gval ((((sn : Nat) : Int) == 0)) (.bool (((x.proto : Nat) : Int) == 17))) :: (.val (.bool ((((sn : Nat) : Int) == 0) && (((x.proto : Nat) : Int) == 17)))) :: [] : List Ds) p .any).R (⟨wd.heap.size, wd, (.slice none 0 0), false, P0⟩ : RC) vv nn ww) (RC.C (⟨wd.heap.size, wd, (.slice none 0 0), false, P0⟩ : RC)) (RC.S (⟨wd.heap.size, wd, (.slice none 0 0), false, P0⟩ : RC)) (fun _ => 0) (fun _ => 0)
      (by kernel_rfl) (by kernel_rfl) (by decide) (by kernel_rfl) (fun p vv nn ww n' w' h hs => ds_keep hB _ rfl p vv nn ww n' w' h hs) RC.start0 ?hX5
     case' hX5 => (apply Exists.intro; refine ⟨fun T => ?hA5, ?hob5, ?hend5⟩)
     case hA5 =>
      simp only [setAll, List.take_succ_cons, List.take_zero, Act.put, List.setIfInBounds_toArray, List.set_cons_succ, List.set_cons_zero, Nat.reduceAdd]
      exact rfl
     case hob5 =>
      refine ⟨?_, ?_, ?_, ?_, ?_, ?_, ?_, trivial⟩
      ·intro T we n hC hn hp
       have hn : n ≤ 0 := hn
       refine Op1.g fun _ Z => ?_; go_simp; exact Z _ _ ⟨rfl, hC, rR⟩
      ·intro T we n hC hn hp
       have hn : n ≤ 0 := hn
       obtain ⟨(d0 : T 0 = .int .i64 ((sn : Nat) : Int)), -⟩ := hp
       refine Op1.g fun _ Z => ?_; go_simp; exact Z _ _ ⟨rfl, hC, rR⟩
      ·intro T we n hC hn hp
       have hn : n ≤ 0 := hn
       obtain ⟨(d1 : T 1 = .bool (((sn : Nat) : Int) == 0)), -⟩ := hp
       refine Op1.g fun _ Z => ?_; go_simp; exact Z _ _ ⟨rfl, hC, rR⟩
      ·intro T we n hC hn hp
       have hn : n ≤ 0 := hn
       obtain ⟨(d2 : T 2 = .bool (((sn : Nat) : Int) == 0)), -⟩ := hp
       refine ⟨fun hT => ?_, fun hT => ?_⟩
       ·have hc : (((sn : Nat) : Int) == 0) = true := by rw [d2] at hT; injection hT
        refine Op1.g fun _ Z => ?_; go_simp; exact Z _ _ ⟨⟨fun _ => rfl, fun h => by rw [hc] at h; cases h⟩, hC, rR⟩
       ·exact ⟨⟨fun hc => absurd (d2.trans (congrArg Value.bool hc)) hT, fun _ => rfl⟩, hC, rR⟩
      ·intro T we n hC hn hp
       have hn : n ≤ 0 := hn
       obtain ⟨(d3 : ((((sn : Nat) : Int) == 0) = true → T 3 = .pointer (some ⟨P0, 7, none⟩)) ∧ ((((sn : Nat) : Int) == 0) = false → T 3 = undef)), (d2 : T 2 = .bool (((sn : Nat) : Int) == 0)), -⟩ := hp
       refine ⟨fun hT => ?_, fun hT => ?_⟩
       ·have hc : (((sn : Nat) : Int) == 0) = true := by rw [d2] at hT; injection hT
        replace d3 := d3.1 (by first | exact hc | (simp only [Bool.and_eq_true] at hc ⊢; first | exact hc.1 | exact hc.1.1 | simp_all))
        obtain ⟨-, -, -, -, -, -, -, c7, -, -, -, -, -, -, -, -, -, -, -, f0⟩ := np_cells (show PBlk we P0 (x.pv (.slice pa pay.length pc)) from hC.2.2.trans HFdr.out.p)
        refine Op1.g fun _ Z => ?_; go_simp; exact Z _ _ ⟨⟨fun _ => rfl, fun h => by rw [hc] at h; cases h⟩, hC, rR⟩
       ·exact ⟨⟨fun hc => absurd (d2.trans (congrArg Value.bool hc)) hT, fun _ => rfl⟩, hC, rR⟩
      ·intro T we n hC hn hp
       have hn : n ≤ 0 := hn
       obtain ⟨(d4 : ((((sn : Nat) : Int) == 0) = true → T 4 = .int .i64 ((x.proto : Nat) : Int)) ∧ ((((sn : Nat) : Int) == 0) = false → T 4 = undef)), (d2 : T 2 = .bool (((sn : Nat) : Int) == 0)), -⟩ := hp
       refine ⟨fun hT => ?_, fun hT => ?_⟩
       ·have hc : (((sn : Nat) : Int) == 0) = true := by rw [d2] at hT; injection hT
        replace d4 := d4.1 (by first | exact hc | (simp only [Bool.and_eq_true] at hc ⊢; first | exact hc.1 | exact hc.1.1 | simp_all))
        refine Op1.g fun _ Z => ?_; go_simp; exact Z _ _ ⟨⟨fun _ => rfl, fun h => by rw [hc] at h; cases h⟩, hC, rR⟩
       ·exact ⟨⟨fun hc => absurd (d2.trans (congrArg Value.bool hc)) hT, fun _ => rfl⟩, hC, rR⟩
      ·intro T we n hC hn hp
       have hn : n ≤ 0 := hn
       obtain ⟨(d2 : T 2 = .bool (((sn : Nat) : Int) == 0)), (d5 : ((((sn : Nat) : Int) == 0) = true → T 5 = .bool (((x.proto : Nat) : Int) == 17)) ∧ ((((sn : Nat) : Int) == 0) = false → T 5 = undef)), -⟩ := hp
       cases ha : (((sn : Nat) : Int) == 0)
       ·rw [ha] at d2
        refine Op1.g fun _ Z => ?_; go_simp; exact Z _ _ ⟨congrArg Value.bool (by simp), hC, rR⟩
       ·have dz := d5.1 (by first | exact hc | (simp [ha]; done) | (simp only [ha, Bool.not_false, Bool.not_true, Bool.and_true, Bool.true_and]; exact hc) | simp_all)
        rw [ha] at d2
        refine Op1.g fun _ Z => ?_; go_simp; exact Z _ _ ⟨congrArg Value.bool (by simp), hC, rR⟩
     case hend5 =>
      intro T we ⟨n, hn, hC, hR⟩
      have r62 : T 6 = .bool ((((sn : Nat) : Int) == 0) && (((x.proto : Nat) : Int) == 17)) := hR 6 (by omega)
      rw [r62]
      clear r62
      have HC := Lib.hid hC.1
      have hB2 := hC.size
      clear hR hC
      simp only [List.drop_succ_cons, List.drop_nil]
      unfold wpList
      have HFe := Lib.hid (HFd.out.below (HC.out.mono hwd))
      have HFer := Lib.hid HFe.out.rebase2
      replace HOp := Lib.hid (HOp.out.later HC.out (Nat.le_refl _))
      have hwe : w1.heap.size ≤ we.heap.size := Nat.le_trans hwd HC.out.size
      replace hgw : g < we.heap.size := Nat.lt_of_lt_of_le hgw HC.out.size
      replace HRp := Lib.hid ((HRp.out.below HC.out).mono HC.out.size)
      replace HO5 := Lib.hid (HO5.out.later HC.out (Nat.le_refl _))
      replace HR5 := Lib.hid ((HR5.out.below HC.out).mono HC.out.size)
      replace HO6 := Lib.hid (HO6.out.later HC.out (Nat.le_refl _))
      replace HR6 := Lib.hid ((HR6.out.below HC.out).mono HC.out.size)
      clear HC hB hB2 HFdr HFd
      rcases Bool.eq_false_or_eq_true ((((sn : Nat) : Int) == 0) && (((x.proto : Nat) : Int) == 17)) with hE | hE
      ·rw [hE]
       have hE' : sn = 0 ∧ x.proto = 17 := by
        simp only [Bool.and_eq_true, beq_iff_eq] at hE
        omega
       replace hE := Lib.hid hE
       go_upto_region 11 with fail
       have hpsv : partSumN x part = 65535 := by rw [hps.out, if_pos ⟨hE'.2, hE'.1⟩]
       have hpsi : (65535 : Int) = ((partSumN x part : Nat) : Int) := by rw [hpsv]; rfl
       rw [hpsi]
       clear hpsi hpsv hE'
       have hpsx : Hid (partSumN x part = partSumN x part) := Lib.hid rfl
       generalize hpsd : partSumN x part = ps at *
       replace hpsx := Lib.hid hpsd
       clear hpsd
       have hB : RC.fine (⟨we.heap.size, we, (.slice none 0 0), false, P0⟩ : RC) := HFer.out.fine (fun k hk => by cases hk)
       refine Lm.wp_region_lim 6 0 (fun p vv nn ww => (List.getD ((.val (.slice (some ⟨g, 0, none⟩) pl c)) :: (.val (.int .i64 ((sa : Nat) : Int))) :: (.val (.slice (some ⟨g, sa, none⟩) (pl - sa) (c - sa))) :: (.val (.int .i64 ((ps : Nat) : Int))) :: (.val (.int .u64 ((ps : Nat) : Int))) :: (.own 0 (be (ps) 2)) :: [] : List Ds) p .any).R (⟨we.heap.size, we, (.slice none 0 0), false, P0⟩ : RC) vv nn ww) (RC.C (⟨we.heap.size, we, (.slice none 0 0), false, P0⟩ : RC)) (RC.S (⟨we.heap.size, we, (.slice none 0 0), false, P0⟩ : RC)) (fun _ => 0) (fun _ => 0)
        (by kernel_rfl) (by kernel_rfl) (by decide) (by kernel_rfl) (fun p vv nn ww n' w' h hs => ds_keep hB _ rfl p vv nn ww n' w' h hs) RC.start ?hX6
       case' hX6 => (apply Exists.intro; refine ⟨fun T => ?hA6, ?hob6, ?hend6⟩)
       case hA6 =>
        simp only [setAll, List.take_succ_cons, List.take_zero, Act.put, List.setIfInBounds_toArray, List.set_cons_succ, List.set_cons_zero, Nat.reduceAdd]
        exact rfl
       case hob6 =>
        refine ⟨?_, ?_, ?_, ?_, ?_, ?_, trivial⟩
        ·intro T wf n hC hn hp
         have hn : n ≤ 0 := hn
         refine Op1.g fun _ Z => ?_; go_simp; exact Z _ _ ⟨rfl, hC, rR⟩
        ·intro T wf n hC hn hp
         have hn : n ≤ 0 := hn
         refine Op1.g fun _ Z => ?_; go_simp; exact Z _ _ ⟨rfl, hC, rR⟩
        ·intro T wf n hC hn hp
         have hn : n ≤ 0 := hn
         obtain ⟨(d0 : T 0 = .slice (some ⟨g, 0, none⟩) pl c), (d1 : T 1 = .int .i64 ((sa : Nat) : Int)), -⟩ := hp
         have hl1 : sa ≤ pl := by omega
         have hl2 : sa ≤ c := by omega
         have hl3 : ¬ c = sa := by omega
         have hl4 : ¬ sa = c := by omega
         have hl5 : ¬ c - sa = 0 := by omega
         have hl6 : sa < c := by omega
         refine Op1.g fun _ Z => ?_; go_simp
         first | exact Z _ _ ⟨rfl, hC, rR⟩ | (refine Z _ _ ⟨?_, hC, rR⟩; congr 1 <;> omega)
        ·intro T wf n hC hn hp
         have hn : n ≤ 0 := hn
         refine Op1.g fun _ Z => ?_; go_simp; exact Z _ _ ⟨rfl, hC, rR⟩
        ·intro T wf n hC hn hp
         have hn : n ≤ 0 := hn
         obtain ⟨(d3 : T 3 = .int .i64 ((ps : Nat) : Int)), -⟩ := hp
         refine Op1.g fun _ Z => ?_; go_simp
         first | exact Z _ _ ⟨rfl, hC, rR⟩ | exact Z _ _ ⟨u8_nat _, hC, rR⟩ | (refine Z _ _ ⟨congrArg (Value.int _) ?_, hC, rR⟩; have := hpl3.out; omega) | (refine Z _ _ ⟨congrArg (Value.int _) ?_, hC, rR⟩; simp only [IntKind.wrap_u64]; have := hpl3.out; omega)
        ·intro T wf n hC hn hp
         have hn : n ≤ 0 := hn
         obtain ⟨(d4 : T 4 = .int .u64 ((ps : Nat) : Int)), -⟩ := hp
         have hz : n = 0 := by omega
         refine Op1.g fun _ Z => ?_; go_simp; exact calls_post (big_ob (c := (⟨we.heap.size, we, (.slice none 0 0), false, P0⟩ : RC)) hB hC hz rfl (ps) 2 (by have := hpl3.out; omega) (by omega)) Z
       case hend6 =>
        intro T wf ⟨n, hn, hC, hR⟩
        have r65 : T 2 = .slice (some ⟨g, sa, none⟩) (pl - sa) (c - sa) := hR 2 (by omega)
        rw [r65]
        clear r65
        obtain ⟨HO68, HG68⟩ : OwnB wf we.heap.size (T 5) (be (ps) 2) ∧ Grew we wf (.slice none 0 0) (T 5) := (show Ds.R (⟨we.heap.size, we, (.slice none 0 0), false, P0⟩ : RC) (.own 0 (be (ps) 2)) (T 5) n wf from hR 5 (by omega)).2 (by omega)
        generalize T 5 = v68 at *
        have HO68 := Lib.hid HO68
        have HG68 := Lib.hid HG68
        have HC := Lib.hid hC.1
        have hB2 := hC.size
        clear hR hC
        have HFf := Lib.hid (HFe.out.below (HC.out.mono hwe))
        have HFfr := Lib.hid HFf.out.rebase2
        replace HOp := Lib.hid (HOp.out.later HC.out (Nat.le_refl _))
        have hwf : w1.heap.size ≤ wf.heap.size := Nat.le_trans hwe HC.out.size
        replace hgw : g < wf.heap.size := Nat.lt_of_lt_of_le hgw HC.out.size
        replace HRp := Lib.hid ((HRp.out.below HC.out).mono HC.out.size)
        replace HO5 := Lib.hid (HO5.out.later HC.out (Nat.le_refl _))
        replace HR5 := Lib.hid ((HR5.out.below HC.out).mono HC.out.size)
        replace HO6 := Lib.hid (HO6.out.later HC.out (Nat.le_refl _))
        replace HR6 := Lib.hid ((HR6.out.below HC.out).mono HC.out.size)
        clear HC hB hB2 HFer HFe
        have HOq : Hid (OwnB wf w1.heap.size (.slice (some ⟨g, 0, none⟩) part.length c) part) := Lib.hid (by have := HOp.out; rw [← hpl3.out] at this; exact this)
        simp only [List.drop_succ_cons, List.drop_zero]
        refine wpList_copy2 (i := sa) (k := ps) rfl (.tmp 65) (.tmp 68) rfl HOq.out rfl (by omega) hpsle rfl (HO68.out.rb (by simp [be_len])) (by rw [hpl3.out]; exact hlt) ?_
        intro wg HOg hBg hkg hzg
        have HFg := Lib.hid (HFf.out.below hBg)
        have HFgr := Lib.hid HFg.out.rebase2
        have hwg : w1.heap.size ≤ wg.heap.size := by rw [hzg]; exact hwf
        have HObd : Hid (OwnB wg w1.heap.size (.slice (some ⟨g, 0, none⟩) pl c) body) := Lib.hid (by rw [hbody.out, ← hpl3.out]; exact HOg)
        replace HO5 := Lib.hid (HO5.out.block (fun k hk => hkg k (by have := own_base HO5.out k hk; omega)))
        replace HO6 := Lib.hid (HO6.out.block (fun k hk => hkg k (by have := own_base HO6.out k hk; omega)))
        replace HR5 := Lib.hid (HO5.out.rb (by simp [addrB_len] <;> (repeat' split) <;> omega))
        replace HR6 := Lib.hid (HO6.out.rb (by simp [addrB_len] <;> (repeat' split) <;> omega))
        have HRb := Lib.hid (HObd.out.rb (by rw [hbl.out]; omega))
        clear HFf HFfr HOp HRp HOq HO68 HOg hBg hkg hzg
        go_upto_region 12 with fail
        obtain ⟨c0, -, -, -, -, -, -, -, -, -, -, -, -, -, -, -, -, -, -, f0⟩ := np_cells HFg.out.p
        rw [hs.out] at c0
        go_upto_region 13 with fail
        clear c0 f0
        have hB : RC.fine (⟨wg.heap.size, wg, (.slice none 0 0), false, P0⟩ : RC) := HFgr.out.fine (fun k hk => by cases hk)
        refine Lm.wp_region_lim 17 0 (fun p vv nn ww => (List.getD ((.arr 0 ([96, 0, 0, 0])) :: (.rd (body)) :: (.val (.int .i64 (((body).length : Nat) : Int))) :: (.val (.int .u64 (((body).length : Nat) : Int))) :: (.own 0 (be ((body).length) 2)) :: (.val (.agg (x.pv (.slice pa pay.length pc)).cells)) :: (.val (.int .i64 ((codeN x : Nat) : Int))) :: (.val (encB (b8 (codeN x)))) :: (.val (.pointer (some ⟨P0, 6, none⟩))) :: (.val (.int .i64 ((x.hops : Nat) : Int))) :: (.val (encB (b8 (x.hops)))) :: (.arr 0 ([b8 (codeN x), b8 (x.hops)])) :: (.rd (addrB x.s1 x.h1 x.l1)) :: (.rd (addrB x.s2 x.h2 x.l2)) :: (.rd (body)) :: (.arrs 0 [[96, 0, 0, 0], be ((body).length) 2, [b8 (codeN x), b8 (x.hops)], addrB x.s1 x.h1 x.l1, addrB x.s2 x.h2 x.l2, body]) :: (.own 0 (List.flatten [[96, 0, 0, 0], be ((body).length) 2, [b8 (codeN x), b8 (x.hops)], addrB x.s1 x.h1 x.l1, addrB x.s2 x.h2 x.l2, body])) :: [] : List Ds) p .any).R (⟨wg.heap.size, wg, (.slice none 0 0), false, P0⟩ : RC) vv nn ww) (RC.C (⟨wg.heap.size, wg, (.slice none 0 0), false, P0⟩ : RC)) (RC.S (⟨wg.heap.size, wg, (.slice none 0 0), false, P0⟩ : RC)) (fun _ => 0) (fun _ => 0)
         (by kernel_rfl) (by kernel_rfl) (by decide) (by kernel_rfl) (fun p vv nn ww n' w' h hs => ds_keep hB _ rfl p vv nn ww n' w' h hs) RC.start ?hX6g
        case' hX6g => (apply Exists.intro; refine ⟨fun T => ?hA6g, ?hob6g, ?hend6g⟩)
        case hA6g =>
         simp only [setAll, List.take_succ_cons, List.take_zero, Act.put, List.setIfInBounds_toArray, List.set_cons_succ, List.set_cons_zero, Nat.reduceAdd]
         exact rfl
        case hob6g =>
         refine ⟨?_, ?_, ?_, ?_, ?_, ?_, ?_, ?_, ?_, ?_, ?_, ?_, ?_, ?_, ?_, ?_, ?_, trivial⟩
         ·intro T wh n hC hn hp
          have hn : n ≤ 0 := hn
          refine Op1.g fun _ Z => ?_; go_simp; exact Z _ _ (arr_ok hB [96, 0, 0, 0] hC _ rfl _ rfl)
         ·intro T wh n hC hn hp
          have hn : n ≤ 0 := hn
          refine Op1.g fun _ Z => ?_; go_simp; exact Z _ _ ⟨HRb.out, hC, rR⟩
         ·intro T wh n hC hn hp
          have hn : n ≤ 0 := hn
          obtain ⟨(d1 : Ds.R (⟨wg.heap.size, wg, (.slice none 0 0), false, P0⟩ : RC) (.rd (body)) (T 1) n wh), -⟩ := hp
          obtain ⟨ad, cc, ev, -⟩ := d1
          refine Op1.g fun _ Z => ?_; go_simp; exact Z _ _ ⟨rfl, hC, rR⟩
         ·intro T wh n hC hn hp
          have hn : n ≤ 0 := hn
          obtain ⟨(d2 : T 2 = .int .i64 (((body).length : Nat) : Int)), -⟩ := hp
          refine Op1.g fun _ Z => ?_; go_simp
          first | exact Z _ _ ⟨rfl, hC, rR⟩ | exact Z _ _ ⟨u8_nat _, hC, rR⟩ | (refine Z _ _ ⟨congrArg (Value.int _) ?_, hC, rR⟩; have := hbl.out; have := hx.hops; omega) | (refine Z _ _ ⟨congrArg (Value.int _) ?_, hC, rR⟩; simp only [IntKind.wrap_u64]; have := hbl.out; have := hx.hops; omega)
         ·intro T wh n hC hn hp
          have hn : n ≤ 0 := hn
          obtain ⟨(d3 : T 3 = .int .u64 (((body).length : Nat) : Int)), -⟩ := hp
          have hz : n = 0 := by omega
          refine Op1.g fun _ Z => ?_; go_simp; exact calls_post (big_ob (c := (⟨wg.heap.size, wg, (.slice none 0 0), false, P0⟩ : RC)) hB hC hz rfl ((body).length) 2 (by have := hbl.out; have := hx.hops; omega) (by omega)) Z
         ·intro T wh n hC hn hp
          have hn : n ≤ 0 := hn
          exact Op1.load_row 45 (.tmp 1) rfl P0 rfl 45 (x.pv (.slice pa pay.length pc)).cells (0, 0) _ (hC.2.2.trans HFgr.out.p) Try.underlying45 rfl (by kernel_rfl) ⟨rfl, hC, rR⟩
         ·intro T wh n hC hn hp
          have hn : n ≤ 0 := hn
          obtain ⟨(d5 : T 5 = .agg (x.pv (.slice pa pay.length pc)).cells), -⟩ := hp
          refine Op1.g fun _ Z => ?_; go_simp; exact calls_post (ret_ob (c := (⟨wg.heap.size, wg, (.slice none 0 0), false, P0⟩ : RC)) hB hC (qcode_any x (.slice pa pay.length pc) wh hx)) Z
         ·intro T wh n hC hn hp
          have hn : n ≤ 0 := hn
          obtain ⟨(d6 : T 6 = .int .i64 ((codeN x : Nat) : Int)), -⟩ := hp
          refine Op1.g fun _ Z => ?_; go_simp
          first | exact Z _ _ ⟨rfl, hC, rR⟩ | exact Z _ _ ⟨u8_nat _, hC, rR⟩ | (refine Z _ _ ⟨congrArg (Value.int _) ?_, hC, rR⟩; have := hbl.out; have := hx.hops; omega) | (refine Z _ _ ⟨congrArg (Value.int _) ?_, hC, rR⟩; simp only [IntKind.wrap_u64, IntKind.wrap_i64, IntKind.wrap_u8]; have := hbl.out; have := hx.hops; omega)
         ·intro T wh n hC hn hp
          have hn : n ≤ 0 := hn
          refine Op1.g fun _ Z => ?_; go_simp; exact Z _ _ ⟨rfl, hC, rR⟩
         ·intro T wh n hC hn hp
          have hn : n ≤ 0 := hn
          obtain ⟨(d8 : T 8 = .pointer (some ⟨P0, 6, none⟩)), -⟩ := hp
          obtain ⟨-, -, -, -, -, -, c6, -, -, -, -, -, -, -, -, -, -, -, -, f0⟩ := np_cells (show PBlk wh P0 (x.pv (.slice pa pay.length pc)) from hC.2.2.trans HFgr.out.p)
          refine Op1.g fun _ Z => ?_; go_simp; exact Z _ _ ⟨rfl, hC, rR⟩
         ·intro T wh n hC hn hp
          have hn : n ≤ 0 := hn
          obtain ⟨(d9 : T 9 = .int .i64 ((x.hops : Nat) : Int)), -⟩ := hp
          refine Op1.g fun _ Z => ?_; go_simp
          first | exact Z _ _ ⟨rfl, hC, rR⟩ | exact Z _ _ ⟨u8_nat _, hC, rR⟩ | (refine Z _ _ ⟨congrArg (Value.int _) ?_, hC, rR⟩; have := hbl.out; have := hx.hops; omega) | (refine Z _ _ ⟨congrArg (Value.int _) ?_, hC, rR⟩; simp only [IntKind.wrap_u64, IntKind.wrap_i64, IntKind.wrap_u8]; have := hbl.out; have := hx.hops; omega)
         ·intro T wh n hC hn hp
          have hn : n ≤ 0 := hn
          obtain ⟨(d7 : T 7 = encB (b8 (codeN x))), (d10 : T 10 = encB (b8 (x.hops))), -⟩ := hp
          refine Op1.g fun _ Z => ?_; go_simp; exact Z _ _ (arr_ok hB [b8 (codeN x), b8 (x.hops)] hC _ rfl _ rfl)
         ·intro T wh n hC hn hp
          have hn : n ≤ 0 := hn
          refine Op1.g fun _ Z => ?_; go_simp; exact Z _ _ ⟨HR5.out, hC, rR⟩
         ·intro T wh n hC hn hp
          have hn : n ≤ 0 := hn
          refine Op1.g fun _ Z => ?_; go_simp; exact Z _ _ ⟨HR6.out, hC, rR⟩
         ·intro T wh n hC hn hp
          have hn : n ≤ 0 := hn
          refine Op1.g fun _ Z => ?_; go_simp; exact Z _ _ ⟨HRb.out, hC, rR⟩
         ·intro T wh n hC hn hp
          have hn : n ≤ 0 := hn
          obtain ⟨(d0 : Ds.R (⟨wg.heap.size, wg, (.slice none 0 0), false, P0⟩ : RC) (.arr 0 ([96, 0, 0, 0])) (T 0) n wh), (d4 : Ds.R (⟨wg.heap.size, wg, (.slice none 0 0), false, P0⟩ : RC) (.own 0 (be ((body).length) 2)) (T 4) n wh), (d11 : Ds.R (⟨wg.heap.size, wg, (.slice none 0 0), false, P0⟩ : RC) (.arr 0 ([b8 (codeN x), b8 (x.hops)])) (T 11) n wh), (d12 : Ds.R (⟨wg.heap.size, wg, (.slice none 0 0), false, P0⟩ : RC) (.rd (addrB x.s1 x.h1 x.l1)) (T 12) n wh), (d13 : Ds.R (⟨wg.heap.size, wg, (.slice none 0 0), false, P0⟩ : RC) (.rd (addrB x.s2 x.h2 x.l2)) (T 13) n wh), (d14 : Ds.R (⟨wg.heap.size, wg, (.slice none 0 0), false, P0⟩ : RC) (.rd (body)) (T 14) n wh), -⟩ := hp
          obtain ⟨g0, q0, hg0⟩ := d0
          have hr0 : Rb wh.heap.size wh (T 0) ([96, 0, 0, 0]) := q0 ▸ rb_arr (hg0 (by omega)) (by first | omega | (simp <;> (repeat' split) <;> omega))
          clear q0 hg0
          obtain ⟨ad0, nn0, cc0, ev0, rb0⟩ := rb_lit hr0
          obtain ⟨hO1, -⟩ := d4.2 (by omega)
          obtain ⟨ad1, nn1, cc1, ev1, rb1⟩ := rb_lit (hO1.rb (by first | omega | (simp [be_len, hbl.out] <;> (repeat' split) <;> omega)))
          obtain ⟨g2, q2, hg2⟩ := d11
          have hr2 : Rb wh.heap.size wh (T 11) ([b8 (codeN x), b8 (x.hops)]) := q2 ▸ rb_arr (hg2 (by omega)) (by first | omega | (simp <;> (repeat' split) <;> omega))
          clear q2 hg2
          obtain ⟨ad2, nn2, cc2, ev2, rb2⟩ := rb_lit hr2
          obtain ⟨ad3, nn3, cc3, ev3, rb3⟩ := rb_lit ((Rb.below d12 hC.1).mono (Nat.le_trans hB.le hC.size))
          obtain ⟨ad4, nn4, cc4, ev4, rb4⟩ := rb_lit ((Rb.below d13 hC.1).mono (Nat.le_trans hB.le hC.size))
          obtain ⟨ad5, nn5, cc5, ev5, rb5⟩ := rb_lit ((Rb.below d14 hC.1).mono (Nat.le_trans hB.le hC.size))
          refine Op1.g fun _ Z => ?_; go_simp; exact Z _ _ (arrs_ok hB [.slice ad0 nn0 cc0, .slice ad1 nn1 cc1, .slice ad2 nn2 cc2, .slice ad3 nn3 cc3, .slice ad4 nn4 cc4, .slice ad5 nn5 cc5] [[96, 0, 0, 0], be ((body).length) 2, [b8 (codeN x), b8 (x.hops)], addrB x.s1 x.h1 x.l1, addrB x.s2 x.h2 x.l2, body] hC ⟨rb0.out, rb1.out, rb2.out, rb3.out, rb4.out, rb5.out, trivial⟩ _ rfl _ rfl)
         ·intro T wh n hC hn hp
          have hn : n ≤ 0 := hn
          obtain ⟨(d15 : Ds.R (⟨wg.heap.size, wg, (.slice none 0 0), false, P0⟩ : RC) (.arrs 0 [[96, 0, 0, 0], be ((body).length) 2, [b8 (codeN x), b8 (x.hops)], addrB x.s1 x.h1 x.l1, addrB x.s2 x.h2 x.l2, body]) (T 15) n wh), -⟩ := hp
          obtain ⟨g, vs, eg, hg⟩ := d15
          obtain ⟨hg, hRb⟩ := hg (by omega)
          have hz : n = 0 := by omega
          refine Op1.g fun _ Z => ?_; go_simp; exact calls_post (concat_ob (c := (⟨wg.heap.size, wg, (.slice none 0 0), false, P0⟩ : RC)) hB hC hz rfl g vs [[96, 0, 0, 0], be ((body).length) 2, [b8 (codeN x), b8 (x.hops)], addrB x.s1 x.h1 x.l1, addrB x.s2 x.h2 x.l2, body] hg hRb (by first | omega | (simp [be_len, addrB_len, hbl.out] <;> (repeat' split) <;> omega)) (by simp) _ rfl) Z
        case hend6g =>
         intro T wh ⟨n, hn, hC, hR⟩
         obtain ⟨HO2, HG2⟩ : OwnB wh wg.heap.size (T 16) (List.flatten [[96, 0, 0, 0], be ((body).length) 2, [b8 (codeN x), b8 (x.hops)], addrB x.s1 x.h1 x.l1, addrB x.s2 x.h2 x.l2, body]) ∧ Grew wg wh (.slice none 0 0) (T 16) := (show Ds.R (⟨wg.heap.size, wg, (.slice none 0 0), false, P0⟩ : RC) (.own 0 (List.flatten [[96, 0, 0, 0], be ((body).length) 2, [b8 (codeN x), b8 (x.hops)], addrB x.s1 x.h1 x.l1, addrB x.s2 x.h2 x.l2, body])) (T 16) n wh from hR 16 (by omega)).2 (by omega)
         generalize T 16 = v2 at *
         have HO2 := Lib.hid HO2
         have HG2 := Lib.hid HG2
         have HC := Lib.hid hC.1
         have hB2 := hC.size
         clear hR hC
         have HFh := Lib.hid (HFg.out.below (HC.out.mono hwg))
         go_wp2_with fail
         have hP0 := HP0.out
         subst hP0
         go_ret
         exact ⟨_, rfl, OwnB.weak (by have := HO2.out; rw [hpb.out, if_pos hs.out, ← hbl.out]; simpa [List.append_assoc] using this) (Nat.le_trans hsz hwg), HB0.out.trans (HFh.out.bl.mono hsz)⟩
      ·rw [hE]
       have hE' : ¬ (x.proto = 17 ∧ sn = 0) := by
        intro h
        simp [h.1, h.2] at hE
       replace hE := Lib.hid hE
       go_upto_region 11 with fail
       have hpsv : sn = partSumN x part := by rw [hps.out, if_neg hE']
       rw [hpsv]
       clear hpsv hE'
       have hpsx : Hid (partSumN x part = partSumN x part) := Lib.hid rfl
       generalize hpsd : partSumN x part = ps at *
       replace hpsx := Lib.hid hpsd
       clear hpsd
       have hB : RC.fine (⟨we.heap.size, we, (.slice none 0 0), false, P0⟩ : RC) := HFer.out.fine (fun k hk => by cases hk)
       refine Lm.wp_region_lim 6 0 (fun p vv nn ww => (List.getD ((.val (.slice (some ⟨g, 0, none⟩) pl c)) :: (.val (.int .i64 ((sa : Nat) : Int))) :: (.val (.slice (some ⟨g, sa, none⟩) (pl - sa) (c - sa))) :: (.val (.int .i64 ((ps : Nat) : Int))) :: (.val (.int .u64 ((ps : Nat) : Int))) :: (.own 0 (be (ps) 2)) :: [] : List Ds) p .any).R (⟨we.heap.size, we, (.slice none 0 0), false, P0⟩ : RC) vv nn ww) (RC.C (⟨we.heap.size, we, (.slice none 0 0), false, P0⟩ : RC)) (RC.S (⟨we.heap.size, we, (.slice none 0 0), false, P0⟩ : RC)) (fun _ => 0) (fun _ => 0)
        (by kernel_rfl) (by kernel_rfl) (by decide) (by kernel_rfl) (fun p vv nn ww n' w' h hs => ds_keep hB _ rfl p vv nn ww n' w' h hs) RC.start ?hX7
       case' hX7 => (apply Exists.intro; refine ⟨fun T => ?hA7, ?hob7, ?hend7⟩)
       case hA7 =>
        simp only [setAll, List.take_succ_cons, List.take_zero, Act.put, List.setIfInBounds_toArray, List.set_cons_succ, List.set_cons_zero, Nat.reduceAdd]
        exact rfl
       case hob7 =>
        refine ⟨?_, ?_, ?_, ?_, ?_, ?_, trivial⟩
        ·intro T wf n hC hn hp
         have hn : n ≤ 0 := hn
         refine Op1.g fun _ Z => ?_; go_simp; exact Z _ _ ⟨rfl, hC, rR⟩
        ·intro T wf n hC hn hp
         have hn : n ≤ 0 := hn
         refine Op1.g fun _ Z => ?_; go_simp; exact Z _ _ ⟨rfl, hC, rR⟩
        ·intro T wf n hC hn hp
         have hn : n ≤ 0 := hn
         obtain ⟨(d0 : T 0 = .slice (some ⟨g, 0, none⟩) pl c), (d1 : T 1 = .int .i64 ((sa : Nat) : Int)), -⟩ := hp
         have hl1 : sa ≤ pl := by omega
         have hl2 : sa ≤ c := by omega
         have hl3 : ¬ c = sa := by omega
         have hl4 : ¬ sa = c := by omega
         have hl5 : ¬ c - sa = 0 := by omega
         have hl6 : sa < c := by omega
         refine Op1.g fun _ Z => ?_; go_simp
         first | exact Z _ _ ⟨rfl, hC, rR⟩ | (refine Z _ _ ⟨?_, hC, rR⟩; congr 1 <;> omega)
        ·intro T wf n hC hn hp
         have hn : n ≤ 0 := hn
         refine Op1.g fun _ Z => ?_; go_simp; exact Z _ _ ⟨rfl, hC, rR⟩
        ·intro T wf n hC hn hp
         have hn : n ≤ 0 := hn
         obtain ⟨(d3 : T 3 = .int .i64 ((ps : Nat) : Int)), -⟩ := hp
         refine Op1.g fun _ Z => ?_; go_simp
         first | exact Z _ _ ⟨rfl, hC, rR⟩ | exact Z _ _ ⟨u8_nat _, hC, rR⟩ | (refine Z _ _ ⟨congrArg (Value.int _) ?_, hC, rR⟩; have := hpl3.out; omega) | (refine Z _ _ ⟨congrArg (Value.int _) ?_, hC, rR⟩; simp only [IntKind.wrap_u64]; have := hpl3.out; omega)
        ·intro T wf n hC hn hp
         have hn : n ≤ 0 := hn
         obtain ⟨(d4 : T 4 = .int .u64 ((ps : Nat) : Int)), -⟩ := hp
         have hz : n = 0 := by omega
         refine Op1.g fun _ Z => ?_; go_simp; exact calls_post (big_ob (c := (⟨we.heap.size, we, (.slice none 0 0), false, P0⟩ : RC)) hB hC hz rfl (ps) 2 (by have := hpl3.out; omega) (by omega)) Z
       case hend7 =>
        intro T wf ⟨n, hn, hC, hR⟩
        have r65 : T 2 = .slice (some ⟨g, sa, none⟩) (pl - sa) (c - sa) := hR 2 (by omega)
        rw [r65]
        clear r65
        obtain ⟨HO68, HG68⟩ : OwnB wf we.heap.size (T 5) (be (ps) 2) ∧ Grew we wf (.slice none 0 0) (T 5) := (show Ds.R (⟨we.heap.size, we, (.slice none 0 0), false, P0⟩ : RC) (.own 0 (be (ps) 2)) (T 5) n wf from hR 5 (by omega)).2 (by omega)
        generalize T 5 = v68 at *
        have HO68 := Lib.hid HO68
        have HG68 := Lib.hid HG68
        have HC := Lib.hid hC.1
        have hB2 := hC.size
        clear hR hC
        have HFf := Lib.hid (HFe.out.below (HC.out.mono hwe))
        have HFfr := Lib.hid HFf.out.rebase2
        replace HOp := Lib.hid (HOp.out.later HC.out (Nat.le_refl _))
        have hwf : w1.heap.size ≤ wf.heap.size := Nat.le_trans hwe HC.out.size
        replace hgw : g < wf.heap.size := Nat.lt_of_lt_of_le hgw HC.out.size
        replace HRp := Lib.hid ((HRp.out.below HC.out).mono HC.out.size)
        replace HO5 := Lib.hid (HO5.out.later HC.out (Nat.le_refl _))
        replace HR5 := Lib.hid ((HR5.out.below HC.out).mono HC.out.size)
        replace HO6 := Lib.hid (HO6.out.later HC.out (Nat.le_refl _))
        replace HR6 := Lib.hid ((HR6.out.below HC.out).mono HC.out.size)
        clear HC hB hB2 HFer HFe
        have HOq : Hid (OwnB wf w1.heap.size (.slice (some ⟨g, 0, none⟩) part.length c) part) := Lib.hid (by have := HOp.out; rw [← hpl3.out] at this; exact this)
        simp only [List.drop_succ_cons, List.drop_zero]
        refine wpList_copy2 (i := sa) (k := ps) rfl (.tmp 65) (.tmp 68) rfl HOq.out rfl (by omega) hpsle rfl (HO68.out.rb (by simp [be_len])) (by rw [hpl3.out]; exact hlt) ?_
        intro wg HOg hBg hkg hzg
        have HFg := Lib.hid (HFf.out.below hBg)
        have HFgr := Lib.hid HFg.out.rebase2
        have hwg : w1.heap.size ≤ wg.heap.size := by rw [hzg]; exact hwf
        have HObd : Hid (OwnB wg w1.heap.size (.slice (some ⟨g, 0, none⟩) pl c) body) := Lib.hid (by rw [hbody.out, ← hpl3.out]; exact HOg)
        replace HO5 := Lib.hid (HO5.out.block (fun k hk => hkg k (by have := own_base HO5.out k hk; omega)))
        replace HO6 := Lib.hid (HO6.out.block (fun k hk => hkg k (by have := own_base HO6.out k hk; omega)))
        replace HR5 := Lib.hid (HO5.out.rb (by simp [addrB_len] <;> (repeat' split) <;> omega))
        replace HR6 := Lib.hid (HO6.out.rb (by simp [addrB_len] <;> (repeat' split) <;> omega))
        have HRb := Lib.hid (HObd.out.rb (by rw [hbl.out]; omega))
        clear HFf HFfr HOp HRp HOq HO68 HOg hBg hkg hzg
        go_upto_region 12 with fail
        obtain ⟨c0, -, -, -, -, -, -, -, -, -, -, -, -, -, -, -, -, -, -, f0⟩ := np_cells HFg.out.p
        rw [hs.out] at c0
        go_upto_region 13 with fail
        clear c0 f0
        have hB : RC.fine (⟨wg.heap.size, wg, (.slice none 0 0), false, P0⟩ : RC) := HFgr.out.fine (fun k hk => by cases hk)
        refine Lm.wp_region_lim 17 0 (fun p vv nn ww => (List.getD ((.arr 0 ([96, 0, 0, 0])) :: (.rd (body)) :: (.val (.int .i64 (((body).length : Nat) : Int))) :: (.val (.int .u64 (((body).length : Nat) : Int))) :: (.own 0 (be ((body).length) 2)) :: (.val (.agg (x.pv (.slice pa pay.length pc)).cells)) :: (.val (.int .i64 ((codeN x : Nat) : Int))) :: (.val (encB (b8 (codeN x)))) :: (.val (.pointer (some ⟨P0, 6, none⟩))) :: (.val (.int .i64 ((x.hops : Nat) : Int))) :: (.val (encB (b8 (x.hops)))) :: (.arr 0 ([b8 (codeN x), b8 (x.hops)])) :: (.rd (addrB x.s1 x.h1 x.l1)) :: (.rd (addrB x.s2 x.h2 x.l2)) :: (.rd (body)) :: (.arrs 0 [[96, 0, 0, 0], be ((body).length) 2, [b8 (codeN x), b8 (x.hops)], addrB x.s1 x.h1 x.l1, addrB x.s2 x.h2 x.l2, body]) :: (.own 0 (List.flatten [[96, 0, 0, 0], be ((body).length) 2, [b8 (codeN x), b8 (x.hops)], addrB x.s1 x.h1 x.l1, addrB x.s2 x.h2 x.l2, body])) :: [] : List Ds) p .any).R (⟨wg.heap.size, wg, (.slice none 0 0), false, P0⟩ : RC) vv nn ww) (RC.C (⟨wg.heap.size, wg, (.slice none 0 0), false, P0⟩ : RC)) (RC.S (⟨wg.heap.size, wg, (.slice none 0 0), false, P0⟩ : RC)) (fun _ => 0) (fun _ => 0)
         (by kernel_rfl) (by kernel_rfl) (by decide) (by kernel_rfl) (fun p vv nn ww n' w' h hs => ds_keep hB _ rfl p vv nn ww n' w' h hs) RC.start ?hX7g
        case' hX7g => (apply Exists.intro; refine ⟨fun T => ?hA7g, ?hob7g, ?hend7g⟩)
        case hA7g =>
         simp only [setAll, List.take_succ_cons, List.take_zero, Act.put, List.setIfInBounds_toArray, List.set_cons_succ, List.set_cons_zero, Nat.reduceAdd]
         exact rfl
        case hob7g =>
         refine ⟨?_, ?_, ?_, ?_, ?_, ?_, ?_, ?_, ?_, ?_, ?_, ?_, ?_, ?_, ?_, ?_, ?_, trivial⟩
         ·intro T wh n hC hn hp
          have hn : n ≤ 0 := hn
          refine Op1.g fun _ Z => ?_; go_simp; exact Z _ _ (arr_ok hB [96, 0, 0, 0] hC _ rfl _ rfl)
         ·intro T wh n hC hn hp
          have hn : n ≤ 0 := hn
          refine Op1.g fun _ Z => ?_; go_simp; exact Z _ _ ⟨HRb.out, hC, rR⟩
         ·intro T wh n hC hn hp
          have hn : n ≤ 0 := hn
          obtain ⟨(d1 : Ds.R (⟨wg.heap.size, wg, (.slice none 0 0), false, P0⟩ : RC) (.rd (body)) (T 1) n wh), -⟩ := hp
          obtain ⟨ad, cc, ev, -⟩ := d1
          refine Op1.g fun _ Z => ?_; go_simp; exact Z _ _ ⟨rfl, hC, rR⟩
         ·intro T wh n hC hn hp
          have hn : n ≤ 0 := hn
          obtain ⟨(d2 : T 2 = .int .i64 (((body).length : Nat) : Int)), -⟩ := hp
          refine Op1.g fun _ Z => ?_; go_simp
          first | exact Z _ _ ⟨rfl, hC, rR⟩ | exact Z _ _ ⟨u8_nat _, hC, rR⟩ | (refine Z _ _ ⟨congrArg (Value.int _) ?_, hC, rR⟩; have := hbl.out; have := hx.hops; omega) | (refine Z _ _ ⟨congrArg (Value.int _) ?_, hC, rR⟩; simp only [IntKind.wrap_u64]; have := hbl.out; have := hx.hops; omega)
         ·intro T wh n hC hn hp
          have hn : n ≤ 0 := hn
          obtain ⟨(d3 : T 3 = .int .u64 (((body).length : Nat) : Int)), -⟩ := hp
          have hz : n = 0 := by omega
          refine Op1.g fun _ Z => ?_; go_simp; exact calls_post (big_ob (c := (⟨wg.heap.size, wg, (.slice none 0 0), false, P0⟩ : RC)) hB hC hz rfl ((body).length) 2 (by have := hbl.out; have := hx.hops; omega) (by omega)) Z
         ·intro T wh n hC hn hp
          have hn : n ≤ 0 := hn
          exact Op1.load_row 45 (.tmp 1) rfl P0 rfl 45 (x.pv (.slice pa pay.length pc)).cells (0, 0) _ (hC.2.2.trans HFgr.out.p) Try.underlying45 rfl (by kernel_rfl) ⟨rfl, hC, rR⟩
         ·intro T wh n hC hn hp
          have hn : n ≤ 0 := hn
          obtain ⟨(d5 : T 5 = .agg (x.pv (.slice pa pay.length pc)).cells), -⟩ := hp
          refine Op1.g fun _ Z => ?_; go_simp; exact calls_post (ret_ob (c := (⟨wg.heap.size, wg, (.slice none 0 0), false, P0⟩ : RC)) hB hC (qcode_any x (.slice pa pay.length pc) wh hx)) Z
         ·intro T wh n hC hn hp
          have hn : n ≤ 0 := hn
          obtain ⟨(d6 : T 6 = .int .i64 ((codeN x : Nat) : Int)), -⟩ := hp
          refine Op1.g fun _ Z => ?_; go_simp
          first | exact Z _ _ ⟨rfl, hC, rR⟩ | exact Z _ _ ⟨u8_nat _, hC, rR⟩ | (refine Z _ _ ⟨congrArg (Value.int _) ?_, hC, rR⟩; have := hbl.out; have := hx.hops; omega) | (refine Z _ _ ⟨congrArg (Value.int _) ?_, hC, rR⟩; simp only [IntKind.wrap_u64, IntKind.wrap_i64, IntKind.wrap_u8]; have := hbl.out; have := hx.hops; omega)
         ·intro T wh n hC hn hp
          have hn : n ≤ 0 := hn
          refine Op1.g fun _ Z => ?_; go_simp; exact Z _ _ ⟨rfl, hC, rR⟩
         ·intro T wh n hC hn hp
          have hn : n ≤ 0 := hn
          obtain ⟨(d8 : T 8 = .pointer (some ⟨P0, 6, none⟩)), -⟩ := hp
          obtain ⟨-, -, -, -, -, -, c6, -, -, -, -, -, -, -, -, -, -, -, -, f0⟩ := np_cells (show PBlk wh P0 (x.pv (.slice pa pay.length pc)) from hC.2.2.trans HFgr.out.p)
          refine Op1.g fun _ Z => ?_; go_simp; exact Z _ _ ⟨rfl, hC, rR⟩
         ·intro T wh n hC hn hp
          have hn : n ≤ 0 := hn
          obtain ⟨(d9 : T 9 = .int .i64 ((x.hops : Nat) : Int)), -⟩ := hp
          refine Op1.g fun _ Z => ?_; go_simp
          first | exact Z _ _ ⟨rfl, hC, rR⟩ | exact Z _ _ ⟨u8_nat _, hC, rR⟩ | (refine Z _ _ ⟨congrArg (Value.int _) ?_, hC, rR⟩; have := hbl.out; have := hx.hops; omega) | (refine Z _ _ ⟨congrArg (Value.int _) ?_, hC, rR⟩; simp only [IntKind.wrap_u64, IntKind.wrap_i64, IntKind.wrap_u8]; have := hbl.out; have := hx.hops; omega)
         ·intro T wh n hC hn hp
          have hn : n ≤ 0 := hn
          obtain ⟨(d7 : T 7 = encB (b8 (codeN x))), (d10 : T 10 = encB (b8 (x.hops))), -⟩ := hp
          refine Op1.g fun _ Z => ?_; go_simp; exact Z _ _ (arr_ok hB [b8 (codeN x), b8 (x.hops)] hC _ rfl _ rfl)
         ·intro T wh n hC hn hp
          have hn : n ≤ 0 := hn
          refine Op1.g fun _ Z => ?_; go_simp; exact Z _ _ ⟨HR5.out, hC, rR⟩
         ·intro T wh n hC hn hp
          have hn : n ≤ 0 := hn
          refine Op1.g fun _ Z => ?_; go_simp; exact Z _ _ ⟨HR6.out, hC, rR⟩
         ·intro T wh n hC hn hp
          have hn : n ≤ 0 := hn
          refine Op1.g fun _ Z => ?_; go_simp; exact Z _ _ ⟨HRb.out, hC, rR⟩
         ·intro T wh n hC hn hp
          have hn : n ≤ 0 := hn
          obtain ⟨(d0 : Ds.R (⟨wg.heap.size, wg, (.slice none 0 0), false, P0⟩ : RC) (.arr 0 ([96, 0, 0, 0])) (T 0) n wh), (d4 : Ds.R (⟨wg.heap.size, wg, (.slice none 0 0), false, P0⟩ : RC) (.own 0 (be ((body).length) 2)) (T 4) n wh), (d11 : Ds.R (⟨wg.heap.size, wg, (.slice none 0 0), false, P0⟩ : RC) (.arr 0 ([b8 (codeN x), b8 (x.hops)])) (T 11) n wh), (d12 : Ds.R (⟨wg.heap.size, wg, (.slice none 0 0), false, P0⟩ : RC) (.rd (addrB x.s1 x.h1 x.l1)) (T 12) n wh), (d13 : Ds.R (⟨wg.heap.size, wg, (.slice none 0 0), false, P0⟩ : RC) (.rd (addrB x.s2 x.h2 x.l2)) (T 13) n wh), (d14 : Ds.R (⟨wg.heap.size, wg, (.slice none 0 0), false, P0⟩ : RC) (.rd (body)) (T 14) n wh), -⟩ := hp
          obtain ⟨g0, q0, hg0⟩ := d0
          have hr0 : Rb wh.heap.size wh (T 0) ([96, 0, 0, 0]) := q0 ▸ rb_arr (hg0 (by omega)) (by first | omega | (simp <;> (repeat' split) <;> omega))
          clear q0 hg0
          obtain ⟨ad0, nn0, cc0, ev0, rb0⟩ := rb_lit hr0
          obtain ⟨hO1, -⟩ := d4.2 (by omega)
          obtain ⟨ad1, nn1, cc1, ev1, rb1⟩ := rb_lit (hO1.rb (by first | omega | (simp [be_len, hbl.out] <;> (repeat' split) <;> omega)))
          obtain ⟨g2, q2, hg2⟩ := d11
          have hr2 : Rb wh.heap.size wh (T 11) ([b8 (codeN x), b8 (x.hops)]) := q2 ▸ rb_arr (hg2 (by omega)) (by first | omega | (simp <;> (repeat' split) <;> omega))
          clear q2 hg2
          obtain ⟨ad2, nn2, cc2, ev2, rb2⟩ := rb_lit hr2
          obtain ⟨ad3, nn3, cc3, ev3, rb3⟩ := rb_lit ((Rb.below d12 hC.1).mono (Nat.le_trans hB.le hC.size))
          obtain ⟨ad4, nn4, cc4, ev4, rb4⟩ := rb_lit ((Rb.below d13 hC.1).mono (Nat.le_trans hB.le hC.size))
          obtain ⟨ad5, nn5, cc5, ev5, rb5⟩ := rb_lit ((Rb.below d14 hC.1).mono (Nat.le_trans hB.le hC.size))
          refine Op1.g fun _ Z => ?_; go_simp; exact Z _ _ (arrs_ok hB [.slice ad0 nn0 cc0, .slice ad1 nn1 cc1, .slice ad2 nn2 cc2, .slice ad3 nn3 cc3, .slice ad4 nn4 cc4, .slice ad5 nn5 cc5] [[96, 0, 0, 0], be ((body).length) 2, [b8 (codeN x), b8 (x.hops)], addrB x.s1 x.h1 x.l1, addrB x.s2 x.h2 x.l2, body] hC ⟨rb0.out, rb1.out, rb2.out, rb3.out, rb4.out, rb5.out, trivial⟩ _ rfl _ rfl)
         ·intro T wh n hC hn hp
          have hn : n ≤ 0 := hn
          obtain ⟨(d15 : Ds.R (⟨wg.heap.size, wg, (.slice none 0 0), false, P0⟩ : RC) (.arrs 0 [[96, 0, 0, 0], be ((body).length) 2, [b8 (codeN x), b8 (x.hops)], addrB x.s1 x.h1 x.l1, addrB x.s2 x.h2 x.l2, body]) (T 15) n wh), -⟩ := hp
          obtain ⟨g, vs, eg, hg⟩ := d15
          obtain ⟨hg, hRb⟩ := hg (by omega)
          have hz : n = 0 := by omega
          refine Op1.g fun _ Z => ?_; go_simp; exact calls_post (concat_ob (c := (⟨wg.heap.size, wg, (.slice none 0 0), false, P0⟩ : RC)) hB hC hz rfl g vs [[96, 0, 0, 0], be ((body).length) 2, [b8 (codeN x), b8 (x.hops)], addrB x.s1 x.h1 x.l1, addrB x.s2 x.h2 x.l2, body] hg hRb (by first | omega | (simp [be_len, addrB_len, hbl.out] <;> (repeat' split) <;> omega)) (by simp) _ rfl) Z
        case hend7g =>
         intro T wh ⟨n, hn, hC, hR⟩
         obtain ⟨HO2, HG2⟩ : OwnB wh wg.heap.size (T 16) (List.flatten [[96, 0, 0, 0], be ((body).length) 2, [b8 (codeN x), b8 (x.hops)], addrB x.s1 x.h1 x.l1, addrB x.s2 x.h2 x.l2, body]) ∧ Grew wg wh (.slice none 0 0) (T 16) := (show Ds.R (⟨wg.heap.size, wg, (.slice none 0 0), false, P0⟩ : RC) (.own 0 (List.flatten [[96, 0, 0, 0], be ((body).length) 2, [b8 (codeN x), b8 (x.hops)], addrB x.s1 x.h1 x.l1, addrB x.s2 x.h2 x.l2, body])) (T 16) n wh from hR 16 (by omega)).2 (by omega)
         generalize T 16 = v2 at *
         have HO2 := Lib.hid HO2
         have HG2 := Lib.hid HG2
         have HC := Lib.hid hC.1
         have hB2 := hC.size
         clear hR hC
         have HFh := Lib.hid (HFg.out.below (HC.out.mono hwg))
         go_wp2_with fail
         have hP0 := HP0.out
         subst hP0
         go_ret
         exact ⟨_, rfl, OwnB.weak (by have := HO2.out; rw [hpb.out, if_pos hs.out, ← hbl.out]; simpa [List.append_assoc] using this) (Nat.le_trans hsz hwg), HB0.out.trans (HFh.out.bl.mono hsz)⟩
end Go.Proofs.Ytakjopbdkkcnlaa
