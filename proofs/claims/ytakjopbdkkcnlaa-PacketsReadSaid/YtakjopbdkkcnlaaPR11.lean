/-
  A right packet is written by the reference: the part behind the addresses, protocol 17.
-/
import Derived.Test.YtakjopbdkkcnlaaPR8
import Derived.Deep.Cut
set_option linter.unusedVariables false
namespace Go.Proofs.Ytakjopbdkkcnlaa
open Go.RowKit Go
set_option linter.unusedVariables false

set_option maxRecDepth 100000 in
set_option maxHeartbeats 4000000 in
theorem part_17 (x : NP) (hx : x.fit) (pa : Option Addr) (pc : Nat) (pay : List UInt8) (w : World) (hr : Rb w.heap.size w (.slice pa pay.length pc) pay) (hpl : pay.length ≤ 1401) (h : x.proto = 17) :
  Calls Try.prog 64 #[.agg (x.pv (.slice pa pay.length pc)).cells] w fun e w' => ∃ v, e = .returned (.tuple #[v, .int .i64 ((sumAtN x.proto : Nat) : Int)]) ∧ OwnB w' w.heap.size v (partB x pay) ∧ Below w.heap.size w w' := by
 replace h := Lib.hid h
 have HF := Lib.hid (FS.start (x := x.pv (.slice pa pay.length pc)) hr)
 have hsz : w.heap.size ≤ (w.alloc (.cells (x.pv (.slice pa pay.length pc)).cells 45 (0, 0))).heap.size := by simp
 have HB0 : Hid (Below w.heap.size w (w.alloc (.cells (x.pv (.slice pa pay.length pc)).cells 45 (0, 0)))) := Lib.hid (below_alloc (Below.refl _ _) _)
 clear hr
 go_enter Try.func64, Try.ntmps64
 go_upto_region 2 with fail
 generalize w.alloc (.cells (x.pv (.slice pa pay.length pc)).cells 45 (0, 0)) = w1 at *
 generalize hP0 : w.heap.size = P0 at *
 have HP0 := Lib.hid hP0
 clear hP0
 have HB := Lib.hid (OwnB.nil w1 w1.heap.size)
 clear HB
 have hB : RC.fine (⟨w1.heap.size, w1, (.slice none 0 0), false, P0⟩ : RC) := HF.out.fine (fun k hk => by cases hk)
 refine Lm.wp_region_lim 9 1 (fun p vv nn ww => (List.getD ((.val (.pointer (some ⟨P0, 8, none⟩))) :: (.val (.int .i64 ((x.fp : Nat) : Int))) :: (.val (.int .u64 ((x.fp : Nat) : Int))) :: (.own 0 (be (x.fp) 2)) :: (.val (.pointer (some ⟨P0, 9, none⟩))) :: (.val (.int .i64 ((x.tp : Nat) : Int))) :: (.val (.int .u64 ((x.tp : Nat) : Int))) :: (.own 0 (be (x.tp) 2)) :: (.own 1 (be (x.fp) 2 ++ be (x.tp) 2)) :: [] : List Ds) p .any).R (⟨w1.heap.size, w1, (.slice none 0 0), false, P0⟩ : RC) vv nn ww) (RC.C (⟨w1.heap.size, w1, (.slice none 0 0), false, P0⟩ : RC)) (RC.S (⟨w1.heap.size, w1, (.slice none 0 0), false, P0⟩ : RC)) (fun i => if i = 8 then 1 else 0) (fun _ => 0)
  (by kernel_rfl) (by kernel_rfl) (by decide) (by kernel_rfl) (fun p vv nn ww n' w' h hs => ds_keep hB _ rfl p vv nn ww n' w' h hs) RC.start ?hX1
 case' hX1 => (apply Exists.intro; refine ⟨fun T => ?hA1, ?hob1, ?hend1⟩)
 case hA1 =>
  simp only [setAll, List.take_succ_cons, List.take_zero, Act.put, List.setIfInBounds_toArray, List.set_cons_succ, List.set_cons_zero, Nat.reduceAdd]
  exact rfl
 case hob1 =>
  refine ⟨?_, ?_, ?_, ?_, ?_, ?_, ?_, ?_, ?_, trivial⟩
  ·intro T wa n hC hn hp
   have hn : n ≤ 0 := hn
   refine Op1.g fun _ Z => ?_; go_simp; exact Z _ _ ⟨rfl, hC, rR⟩
  ·intro T wa n hC hn hp
   have hn : n ≤ 0 := hn
   obtain ⟨(d0 : T 0 = .pointer (some ⟨P0, 8, none⟩)), -⟩ := hp
   obtain ⟨-, -, -, -, -, -, -, -, c8, -, -, -, -, -, -, -, -, -, -, f0⟩ := np_cells (show PBlk wa P0 (x.pv (.slice pa pay.length pc)) from hC.2.2.trans HF.out.p)
   refine Op1.g fun _ Z => ?_; go_simp; exact Z _ _ ⟨rfl, hC, rR⟩
  ·intro T wa n hC hn hp
   have hn : n ≤ 0 := hn
   obtain ⟨(d1 : T 1 = .int .i64 ((x.fp : Nat) : Int)), -⟩ := hp
   refine Op1.g fun _ Z => ?_; go_simp
   first | exact Z _ _ ⟨rfl, hC, rR⟩ | exact Z _ _ ⟨u8_nat _, hC, rR⟩ | (refine Z _ _ ⟨congrArg (Value.int _) ?_, hC, rR⟩; have := hx.fp; have := hx.tp; have := hx.seq; have := hx.ack; have := hx.id; have := hx.hops; have := hx.proto; have := hx.h1; have := hx.l1; have := hx.h2; have := hx.l2; omega) | (refine Z _ _ ⟨congrArg (Value.int _) ?_, hC, rR⟩; simp only [IntKind.wrap_u64]; have := hx.fp; have := hx.tp; have := hx.seq; have := hx.ack; have := hx.id; have := hx.hops; have := hx.proto; have := hx.h1; have := hx.l1; have := hx.h2; have := hx.l2; omega)
  ·intro T wa n hC hn hp
   have hn : n ≤ 0 := hn
   obtain ⟨(d2 : T 2 = .int .u64 ((x.fp : Nat) : Int)), -⟩ := hp
   have hz : n = 0 := by omega
   refine Op1.g fun _ Z => ?_; go_simp; exact calls_post (big_ob (c := (⟨w1.heap.size, w1, (.slice none 0 0), false, P0⟩ : RC)) hB hC hz rfl (x.fp) 2 (by have := hx.fp; have := hx.tp; have := hx.seq; have := hx.ack; have := hx.id; have := hx.hops; have := hx.proto; have := hx.h1; have := hx.l1; have := hx.h2; have := hx.l2; omega) (by omega)) Z
  ·intro T wa n hC hn hp
   have hn : n ≤ 0 := hn
   refine Op1.g fun _ Z => ?_; go_simp; exact Z _ _ ⟨rfl, hC, rR⟩
  ·intro T wa n hC hn hp
   have hn : n ≤ 0 := hn
   obtain ⟨(d4 : T 4 = .pointer (some ⟨P0, 9, none⟩)), -⟩ := hp
   obtain ⟨-, -, -, -, -, -, -, -, -, c9, -, -, -, -, -, -, -, -, -, f0⟩ := np_cells (show PBlk wa P0 (x.pv (.slice pa pay.length pc)) from hC.2.2.trans HF.out.p)
   refine Op1.g fun _ Z => ?_; go_simp; exact Z _ _ ⟨rfl, hC, rR⟩
  ·intro T wa n hC hn hp
   have hn : n ≤ 0 := hn
   obtain ⟨(d5 : T 5 = .int .i64 ((x.tp : Nat) : Int)), -⟩ := hp
   refine Op1.g fun _ Z => ?_; go_simp
   first | exact Z _ _ ⟨rfl, hC, rR⟩ | exact Z _ _ ⟨u8_nat _, hC, rR⟩ | (refine Z _ _ ⟨congrArg (Value.int _) ?_, hC, rR⟩; have := hx.fp; have := hx.tp; have := hx.seq; have := hx.ack; have := hx.id; have := hx.hops; have := hx.proto; have := hx.h1; have := hx.l1; have := hx.h2; have := hx.l2; omega) | (refine Z _ _ ⟨congrArg (Value.int _) ?_, hC, rR⟩; simp only [IntKind.wrap_u64]; have := hx.fp; have := hx.tp; have := hx.seq; have := hx.ack; have := hx.id; have := hx.hops; have := hx.proto; have := hx.h1; have := hx.l1; have := hx.h2; have := hx.l2; omega)
  ·intro T wa n hC hn hp
   have hn : n ≤ 0 := hn
   obtain ⟨(d6 : T 6 = .int .u64 ((x.tp : Nat) : Int)), -⟩ := hp
   have hz : n = 0 := by omega
   refine Op1.g fun _ Z => ?_; go_simp; exact calls_post (big_ob (c := (⟨w1.heap.size, w1, (.slice none 0 0), false, P0⟩ : RC)) hB hC hz rfl (x.tp) 2 (by have := hx.fp; have := hx.tp; have := hx.seq; have := hx.ack; have := hx.id; have := hx.hops; have := hx.proto; have := hx.h1; have := hx.l1; have := hx.h2; have := hx.l2; omega) (by omega)) Z
  ·intro T wa n hC hn hp
   have hn : n ≤ 0 := hn
   obtain ⟨(d3 : Ds.R (⟨w1.heap.size, w1, (.slice none 0 0), false, P0⟩ : RC) (.own 0 (be (x.fp) 2)) (T 3) n wa), (d7 : Ds.R (⟨w1.heap.size, w1, (.slice none 0 0), false, P0⟩ : RC) (.own 0 (be (x.tp) 2)) (T 7) n wa), -⟩ := hp
   obtain ⟨hO, hGo⟩ := d3.2 (by omega)
   obtain ⟨hO2, -⟩ := d7.2 (by omega)
   have hk0 := d3.1
   have hk : n = 0 := by omega
   exact app_ob hB rfl hC hk rfl hO hGo (.inl rfl) rfl (hO2.rb (by first | omega | (simp [be_len] <;> (repeat' split) <;> omega))) (by first | omega | (simp [be_len] <;> (repeat' split) <;> omega)) (by first | omega | (simp [be_len] <;> (repeat' split) <;> omega))
 case hend1 =>
  intro T wa ⟨n, hn, hC, hR⟩
  obtain ⟨HO5, HG5⟩ : OwnB wa w1.heap.size (T 8) (be (x.fp) 2 ++ be (x.tp) 2) ∧ Grew w1 wa (.slice none 0 0) (T 8) := (show Ds.R (⟨w1.heap.size, w1, (.slice none 0 0), false, P0⟩ : RC) (.own 1 (be (x.fp) 2 ++ be (x.tp) 2)) (T 8) n wa from hR 8 (by omega)).2 (by omega)
  generalize T 8 = v5 at *
  have HO5 := Lib.hid HO5
  have HG5 := Lib.hid HG5
  have HC := Lib.hid hC.1
  have hB2 := hC.size
  clear hR hC
  have HBa := Lib.hid (HB0.out.trans (HC.out.mono hsz))
  have hsa := Nat.le_trans hsz HC.out.size
  have HR5 := Lib.hid (HO5.out.rb (by simp [be_len]))
  have HF2 := Lib.hid (HF.out.below HC.out).rebase2
  clear HC HG5 hB hB2 HO5 HF hsz HB0
  have hpb := Lib.hid (show partB x pay = if x.proto = 6 then be x.fp 2 ++ be x.tp 2 ++ be x.seq 4 ++ be x.ack 4 ++ [80, b8 (flagN x), 255, 255, 0, 0, 0, 0] ++ pay else if x.proto = 17 then be x.fp 2 ++ be x.tp 2 ++ be (8 + pay.length) 2 ++ [0, 0] ++ pay else [b8 (kindN x), 0, 0, 0] ++ be x.id 2 ++ be x.seq 2 ++ pay from rfl)
  go_upto_region 3 with fail
  obtain ⟨-, -, -, -, -, -, -, c7, -, -, -, -, -, -, -, -, -, -, -, f0⟩ := np_cells HF2.out.p
  rw [h.out] at c7
  go_upto_region 9 with fail
  clear c7 f0
  have hB : RC.fine (⟨wa.heap.size, wa, (.slice none 0 0), false, P0⟩ : RC) := HF2.out.fine (fun k hk => by cases hk)
  refine Lm.wp_region_lim 12 0 (fun p vv nn ww => (List.getD ((.rd (be x.fp 2 ++ be x.tp 2)) :: (.val (.pointer (some ⟨P0, 18, none⟩))) :: (.rd (pay)) :: (.val (.int .i64 (((pay).length : Nat) : Int))) :: (.val (.int .i64 ((8 + (pay).length : Nat) : Int))) :: (.val (.int .u64 ((8 + (pay).length : Nat) : Int))) :: (.own 0 (be (8 + (pay).length) 2)) :: (.arr 0 ([0, 0])) :: (.val (.pointer (some ⟨P0, 18, none⟩))) :: (.rd (pay)) :: (.arrs 0 [be x.fp 2 ++ be x.tp 2, be (8 + (pay).length) 2, [0, 0], pay]) :: (.own 0 (List.flatten [be x.fp 2 ++ be x.tp 2, be (8 + (pay).length) 2, [0, 0], pay])) :: [] : List Ds) p .any).R (⟨wa.heap.size, wa, (.slice none 0 0), false, P0⟩ : RC) vv nn ww) (RC.C (⟨wa.heap.size, wa, (.slice none 0 0), false, P0⟩ : RC)) (RC.S (⟨wa.heap.size, wa, (.slice none 0 0), false, P0⟩ : RC)) (fun _ => 0) (fun _ => 0)
   (by kernel_rfl) (by kernel_rfl) (by decide) (by kernel_rfl) (fun p vv nn ww n' w' h hs => ds_keep hB _ rfl p vv nn ww n' w' h hs) RC.start ?hX2
  case' hX2 => (apply Exists.intro; refine ⟨fun T => ?hA2, ?hob2, ?hend2⟩)
  case hA2 =>
   simp only [setAll, List.take_succ_cons, List.take_zero, Act.put, List.setIfInBounds_toArray, List.set_cons_succ, List.set_cons_zero, Nat.reduceAdd]
   exact rfl
  case hob2 =>
   refine ⟨?_, ?_, ?_, ?_, ?_, ?_, ?_, ?_, ?_, ?_, ?_, ?_, trivial⟩
   ·intro T wb n hC hn hp
    have hn : n ≤ 0 := hn
    refine Op1.g fun _ Z => ?_; go_simp; exact Z _ _ ⟨HR5.out, hC, rR⟩
   ·intro T wb n hC hn hp
    have hn : n ≤ 0 := hn
    refine Op1.g fun _ Z => ?_; go_simp; exact Z _ _ ⟨rfl, hC, rR⟩
   ·intro T wb n hC hn hp
    have hn : n ≤ 0 := hn
    obtain ⟨(d1 : T 1 = .pointer (some ⟨P0, 18, none⟩)), -⟩ := hp
    obtain ⟨-, -, -, -, -, -, -, -, -, -, -, -, -, -, -, -, -, -, c18, f0⟩ := np_cells (show PBlk wb P0 (x.pv (.slice pa pay.length pc)) from hC.2.2.trans HF2.out.p)
    refine Op1.g fun _ Z => ?_; go_simp; exact Z _ _ ⟨HF2.out.rb, hC, rR⟩
   ·intro T wb n hC hn hp
    have hn : n ≤ 0 := hn
    obtain ⟨(d2 : Ds.R (⟨wa.heap.size, wa, (.slice none 0 0), false, P0⟩ : RC) (.rd (pay)) (T 2) n wb), -⟩ := hp
    obtain ⟨ad, cc, ev, -⟩ := d2
    refine Op1.g fun _ Z => ?_; go_simp; exact Z _ _ ⟨rfl, hC, rR⟩
   ·intro T wb n hC hn hp
    have hn : n ≤ 0 := hn
    obtain ⟨(d3 : T 3 = .int .i64 (((pay).length : Nat) : Int)), -⟩ := hp
    refine Op1.g fun _ Z => ?_; go_simp
    first | exact Z _ _ ⟨rfl, hC, rR⟩ | (refine Z _ _ ⟨congrArg (Value.int _) ?_, hC, rR⟩; have := hx.fp; have := hx.tp; have := hx.seq; have := hx.ack; have := hx.id; have := hx.hops; have := hx.proto; have := hx.h1; have := hx.l1; have := hx.h2; have := hx.l2; omega) | (refine Z _ _ ⟨congrArg (Value.int _) ?_, hC, rR⟩; simp only [IntKind.wrap_i64]; have := hx.fp; have := hx.tp; have := hx.seq; have := hx.ack; have := hx.id; have := hx.hops; have := hx.proto; have := hx.h1; have := hx.l1; have := hx.h2; have := hx.l2; omega)
   ·intro T wb n hC hn hp
    have hn : n ≤ 0 := hn
    obtain ⟨(d4 : T 4 = .int .i64 ((8 + (pay).length : Nat) : Int)), -⟩ := hp
    refine Op1.g fun _ Z => ?_; go_simp
    first | exact Z _ _ ⟨rfl, hC, rR⟩ | exact Z _ _ ⟨u8_nat _, hC, rR⟩ | (refine Z _ _ ⟨congrArg (Value.int _) ?_, hC, rR⟩; have := hx.fp; have := hx.tp; have := hx.seq; have := hx.ack; have := hx.id; have := hx.hops; have := hx.proto; have := hx.h1; have := hx.l1; have := hx.h2; have := hx.l2; omega) | (refine Z _ _ ⟨congrArg (Value.int _) ?_, hC, rR⟩; simp only [IntKind.wrap_u64]; have := hx.fp; have := hx.tp; have := hx.seq; have := hx.ack; have := hx.id; have := hx.hops; have := hx.proto; have := hx.h1; have := hx.l1; have := hx.h2; have := hx.l2; omega)
   ·intro T wb n hC hn hp
    have hn : n ≤ 0 := hn
    obtain ⟨(d5 : T 5 = .int .u64 ((8 + (pay).length : Nat) : Int)), -⟩ := hp
    have hz : n = 0 := by omega
    refine Op1.g fun _ Z => ?_; go_simp; exact calls_post (big_ob (c := (⟨wa.heap.size, wa, (.slice none 0 0), false, P0⟩ : RC)) hB hC hz rfl (8 + (pay).length) 2 (by have := hx.fp; have := hx.tp; have := hx.seq; have := hx.ack; have := hx.id; have := hx.hops; have := hx.proto; have := hx.h1; have := hx.l1; have := hx.h2; have := hx.l2; omega) (by omega)) Z
   ·intro T wb n hC hn hp
    have hn : n ≤ 0 := hn
    refine Op1.g fun _ Z => ?_; go_simp; exact Z _ _ (arr_ok hB [0, 0] hC _ rfl _ rfl)
   ·intro T wb n hC hn hp
    have hn : n ≤ 0 := hn
    refine Op1.g fun _ Z => ?_; go_simp; exact Z _ _ ⟨rfl, hC, rR⟩
   ·intro T wb n hC hn hp
    have hn : n ≤ 0 := hn
    obtain ⟨(d8 : T 8 = .pointer (some ⟨P0, 18, none⟩)), -⟩ := hp
    obtain ⟨-, -, -, -, -, -, -, -, -, -, -, -, -, -, -, -, -, -, c18, f0⟩ := np_cells (show PBlk wb P0 (x.pv (.slice pa pay.length pc)) from hC.2.2.trans HF2.out.p)
    refine Op1.g fun _ Z => ?_; go_simp; exact Z _ _ ⟨HF2.out.rb, hC, rR⟩
   ·intro T wb n hC hn hp
    have hn : n ≤ 0 := hn
    obtain ⟨(d0 : Ds.R (⟨wa.heap.size, wa, (.slice none 0 0), false, P0⟩ : RC) (.rd (be x.fp 2 ++ be x.tp 2)) (T 0) n wb), (d6 : Ds.R (⟨wa.heap.size, wa, (.slice none 0 0), false, P0⟩ : RC) (.own 0 (be (8 + (pay).length) 2)) (T 6) n wb), (d7 : Ds.R (⟨wa.heap.size, wa, (.slice none 0 0), false, P0⟩ : RC) (.arr 0 ([0, 0])) (T 7) n wb), (d9 : Ds.R (⟨wa.heap.size, wa, (.slice none 0 0), false, P0⟩ : RC) (.rd (pay)) (T 9) n wb), -⟩ := hp
    obtain ⟨ad0, nn0, cc0, ev0, rb0⟩ := rb_lit ((Rb.below d0 hC.1).mono (Nat.le_trans hB.le hC.size))
    obtain ⟨hO1, -⟩ := d6.2 (by omega)
    obtain ⟨ad1, nn1, cc1, ev1, rb1⟩ := rb_lit (hO1.rb (by first | omega | (simp [be_len] <;> (repeat' split) <;> omega)))
    obtain ⟨g2, q2, hg2⟩ := d7
    have hr2 : Rb wb.heap.size wb (T 7) ([0, 0]) := q2 ▸ rb_arr (hg2 (by omega)) (by first | omega | (simp <;> (repeat' split) <;> omega))
    clear q2 hg2
    obtain ⟨ad2, nn2, cc2, ev2, rb2⟩ := rb_lit hr2
    obtain ⟨ad3, nn3, cc3, ev3, rb3⟩ := rb_lit ((Rb.below d9 hC.1).mono (Nat.le_trans hB.le hC.size))
    refine Op1.g fun _ Z => ?_; go_simp; exact Z _ _ (arrs_ok hB [.slice ad0 nn0 cc0, .slice ad1 nn1 cc1, .slice ad2 nn2 cc2, .slice ad3 nn3 cc3] [be x.fp 2 ++ be x.tp 2, be (8 + (pay).length) 2, [0, 0], pay] hC ⟨rb0.out, rb1.out, rb2.out, rb3.out, trivial⟩ _ rfl _ rfl)
   ·intro T wb n hC hn hp
    have hn : n ≤ 0 := hn
    obtain ⟨(d10 : Ds.R (⟨wa.heap.size, wa, (.slice none 0 0), false, P0⟩ : RC) (.arrs 0 [be x.fp 2 ++ be x.tp 2, be (8 + (pay).length) 2, [0, 0], pay]) (T 10) n wb), -⟩ := hp
    obtain ⟨g, vs, eg, hg⟩ := d10
    obtain ⟨hg, hRb⟩ := hg (by omega)
    have hz : n = 0 := by omega
    refine Op1.g fun _ Z => ?_; go_simp; exact calls_post (concat_ob (c := (⟨wa.heap.size, wa, (.slice none 0 0), false, P0⟩ : RC)) hB hC hz rfl g vs [be x.fp 2 ++ be x.tp 2, be (8 + (pay).length) 2, [0, 0], pay] hg hRb (by first | omega | (simp [be_len] <;> (repeat' split) <;> omega)) (by simp) _ rfl) Z
  case hend2 =>
   intro T wb ⟨n, hn, hC, hR⟩
   obtain ⟨HO2, HG2⟩ : OwnB wb wa.heap.size (T 11) (List.flatten [be x.fp 2 ++ be x.tp 2, be (8 + (pay).length) 2, [0, 0], pay]) ∧ Grew wa wb (.slice none 0 0) (T 11) := (show Ds.R (⟨wa.heap.size, wa, (.slice none 0 0), false, P0⟩ : RC) (.own 0 (List.flatten [be x.fp 2 ++ be x.tp 2, be (8 + (pay).length) 2, [0, 0], pay])) (T 11) n wb from hR 11 (by omega)).2 (by omega)
   generalize T 11 = v2 at *
   have HO2 := Lib.hid HO2
   have HG2 := Lib.hid HG2
   have HC := Lib.hid hC.1
   have hB2 := hC.size
   clear hR hC
   have HFz := Lib.hid (HF2.out.below HC.out)
   go_wp2_with fail
   have hP0 := HP0.out
   subst hP0
   go_ret2
   exact ⟨_, by rw [h.out]; rfl, OwnB.weak (by have := HO2.out; rw [hpb.out, if_neg (by rw [h.out]; decide), if_pos h.out]; simpa [List.append_assoc] using this) hsa, HBa.out.trans (HFz.out.bl.mono hsa)⟩
end Go.Proofs.Ytakjopbdkkcnlaa
