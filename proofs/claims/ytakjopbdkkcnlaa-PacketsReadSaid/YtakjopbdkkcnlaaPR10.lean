/-
  A right packet is written by the reference: the part behind the addresses, protocol 6.
-/
import Derived.Test.YtakjopbdkkcnlaaPR8
import Derived.Deep.Cut
set_option linter.unusedVariables false
namespace Go.Proofs.Ytakjopbdkkcnlaa
open Go.RowKit Go
set_option linter.unusedVariables false

set_option maxRecDepth 100000 in
set_option maxHeartbeats 4000000 in
theorem part_6 (x : NP) (hx : x.fit) (pa : Option Addr) (pc : Nat) (pay : List UInt8) (w : World) (hr : Rb w.heap.size w (.slice pa pay.length pc) pay) (hpl : pay.length ≤ 1401) (h : x.proto = 6) :
  Calls Try.prog 64 #[.agg (x.pv (.slice pa pay.length pc)).cells] w fun e w' => ∃ v, e = .returned (.tuple #[v, .int .i64 ((sumAtN x.proto : Nat) : Int)]) ∧ OwnB w' w.heap.size v (partB x pay) ∧ Below w.heap.size w w' := by
 replace h := Lib.hid h
 have HF := Lib.hid (FS.start (x := x.pv (.slice pa pay.length pc)) hr)
 have hsz : w.heap.size ≤ (w.alloc (.cells (x.pv (.slice pa pay.length pc)).cells 45 (0, 0))).heap.size := by simp
 have HB0 : Hid (Below w.heap.size w (w.alloc (.cells (x.pv (.slice pa pay.length pc)).cells 45 (0, 0)))) := Lib.hid (below_alloc (Below.refl _ _) _)
 clear hr
 go_enter Try.func64, Try.ntmps64
 go_upto_region 2 with fail
 generalize w.alloc (.cells (x.pv (.slice pa pay.length pc)).cells 45 (0, 0)) = w1 at *
 generalize hP0 : w.heap.size = P0 at *
 have HP0 := Lib.hid hP0
 clear hP0
 have HB := Lib.hid (OwnB.nil w1 w1.heap.size)
 clear HB
 have hB : RC.fine (⟨w1.heap.size, w1, (.slice none 0 0), false, P0⟩ : RC) := HF.out.fine (fun k hk => by cases hk)
 refine Lm.wp_region_lim 9 1 (fun p vv nn ww => (List.getD ((.val (.pointer (some ⟨P0, 8, none⟩))) :: (.val (.int .i64 ((x.fp : Nat) : Int))) :: (.val (.int .u64 ((x.fp : Nat) : Int))) :: (.own 0 (be (x.fp) 2)) :: (.val (.pointer (some ⟨P0, 9, none⟩))) :: (.val (.int .i64 ((x.tp : Nat) : Int))) :: (.val (.int .u64 ((x.tp : Nat) : Int))) :: (.own 0 (be (x.tp) 2)) :: (.own 1 (be (x.fp) 2 ++ be (x.tp) 2)) :: [] : List Ds) p .any).R (⟨w1.heap.size, w1, (.slice none 0 0), false, P0⟩ : RC) vv nn ww) (RC.C (⟨w1.heap.size, w1, (.slice none 0 0), false, P0⟩ : RC)) (RC.S (⟨w1.heap.size, w1, (.slice none 0 0), false, P0⟩ : RC)) (fun i => if i = 8 then 1 else 0) (fun _ => 0)
  (by kernel_rfl) (by kernel_rfl) (by decide) (by kernel_rfl) (fun p vv nn ww n' w' h hs => ds_keep hB _ rfl p vv nn ww n' w' h hs) RC.start ?hX1
 case' hX1 => (apply Exists.intro; refine ⟨fun T => ?hA1, ?hob1, ?hend1⟩)
 case hA1 =>
  simp only [setAll, List.take_succ_cons, List.take_zero, Act.put, List.setIfInBounds_toArray, List.set_cons_succ, List.set_cons_zero, Nat.reduceAdd]
  exact rfl
 case hob1 =>
  refine ⟨?_, ?_, ?_, ?_, ?_, ?_, ?_, ?_, ?_, trivial⟩
  ·intro T wa n hC hn hp
   have hn : n ≤ 0 := hn
   refine Op1.g fun _ Z => ?_; go_simp; exact Z _ _ ⟨rfl, hC, rR⟩
  ·intro T wa n hC hn hp
   have hn : n ≤ 0 := hn
   obtain ⟨(d0 : T 0 = .pointer (some ⟨P0, 8, none⟩)), -⟩ := hp
   obtain ⟨-, -, -, -, -, -, -, -, c8, -, -, -, -, -, -, -, -, -, -, f0⟩ := np_cells (show PBlk wa P0 (x.pv (.slice pa pay.length pc)) from hC.2.2.trans HF.out.p)
   refine Op1.g fun _ Z => ?_; go_simp; exact Z _ _ ⟨rfl, hC, rR⟩
  ·intro T wa n hC hn hp
   have hn : n ≤ 0 := hn
   obtain ⟨(d1 : T 1 = .int .i64 ((x.fp : Nat) : Int)), -⟩ := hp
   refine Op1.g fun _ Z => ?_; go_simp
   first | exact Z _ _ ⟨rfl, hC, rR⟩ | exact Z _ _ ⟨u8_nat _, hC, rR⟩ | (refine Z _ _ ⟨congrArg (Value.int _) ?_, hC, rR⟩; have := hx.fp; have := hx.tp; have := hx.seq; have := hx.ack; have := hx.id; have := hx.hops; have := hx.proto; have := hx.h1; have := hx.l1; have := hx.h2; have := hx.l2; omega) | (refine Z _ _ ⟨congrArg (Value.int _) ?_, hC, rR⟩; simp only [IntKind.wrap_u64]; have := hx.fp; have := hx.tp; have := hx.seq; have := hx.ack; have := hx.id; have := hx.hops; have := hx.proto; have := hx.h1; have := hx.l1; have := hx.h2; have := hx.l2; omega)
  ·intro T wa n hC hn hp
   have hn : n ≤ 0 := hn
   obtain ⟨(d2 : T 2 = .int .u64 ((x.fp : Nat) : Int)), -⟩ := hp
   have hz : n = 0 := by omega
   refine Op1.g fun _ Z => ?_; go_simp; exact calls_post (big_ob (c := (⟨w1.heap.size, w1, (.slice none 0 0), false, P0⟩ : RC)) hB hC hz rfl (x.fp) 2 (by have := hx.fp; have := hx.tp; have := hx.seq; have := hx.ack; have := hx.id; have := hx.hops; have := hx.proto; have := hx.h1; have := hx.l1; have := hx.h2; have := hx.l2; omega) (by omega)) Z
  ·intro T wa n hC hn hp
   have hn : n ≤ 0 := hn
   refine Op1.g fun _ Z => ?_; go_simp; exact Z _ _ ⟨rfl, hC, rR⟩
  ·intro T wa n hC hn hp
   have hn : n ≤ 0 := hn
   obtain ⟨(d4 : T 4 = .pointer (some ⟨P0, 9, none⟩)), -⟩ := hp
   obtain ⟨-, -, -, -, -, -, -, -, -, c9, -, -, -, -, -, -, -, -, -, f0⟩ := np_cells (show PBlk wa P0 (x.pv (.slice pa pay.length pc)) from hC.2.2.trans HF.out.p)
   refine Op1.g fun _ Z => ?_; go_simp; exact Z _ _ ⟨rfl, hC, rR⟩
  ·intro T wa n hC hn hp
   have hn : n ≤ 0 := hn
   obtain ⟨(d5 : T 5 = .int .i64 ((x.tp : Nat) : Int)), -⟩ := hp
   refine Op1.g fun _ Z => ?_; go_simp
   first | exact Z _ _ ⟨rfl, hC, rR⟩ | exact Z _ _ ⟨u8_nat _, hC, rR⟩ | (refine Z _ _ ⟨congrArg (Value.int _) ?_, hC, rR⟩; have := hx.fp; have := hx.tp; have := hx.seq; have := hx.ack; have := hx.id; have := hx.hops; have := hx.proto; have := hx.h1; have := hx.l1; have := hx.h2; have := hx.l2; omega) | (refine Z _ _ ⟨congrArg (Value.int _) ?_, hC, rR⟩; simp only [IntKind.wrap_u64]; have := hx.fp; have := hx.tp; have := hx.seq; have := hx.ack; have := hx.id; have := hx.hops; have := hx.proto; have := hx.h1; have := hx.l1; have := hx.h2; have := hx.l2; omega)
  ·intro T wa n hC hn hp
   have hn : n ≤ 0 := hn
   obtain ⟨(d6 : T 6 = .int .u64 ((x.tp : Nat) : Int)), -⟩ := hp
   have hz : n = 0 := by omega
   refine Op1.g fun _ Z => ?_; go_simp; exact calls_post (big_ob (c := (⟨w1.heap.size, w1, (.slice none 0 0), false, P0⟩ : RC)) hB hC hz rfl (x.tp) 2 (by have := hx.fp; have := hx.tp; have := hx.seq; have := hx.ack; have := hx.id; have := hx.hops; have := hx.proto; have := hx.h1; have := hx.l1; have := hx.h2; have := hx.l2; omega) (by omega)) Z
  ·intro T wa n hC hn hp
   have hn : n ≤ 0 := hn
   obtain ⟨(d3 : Ds.R (⟨w1.heap.size, w1, (.slice none 0 0), false, P0⟩ : RC) (.own 0 (be (x.fp) 2)) (T 3) n wa), (d7 : Ds.R (⟨w1.heap.size, w1, (.slice none 0 0), false, P0⟩ : RC) (.own 0 (be (x.tp) 2)) (T 7) n wa), -⟩ := hp
   obtain ⟨hO, hGo⟩ := d3.2 (by omega)
   obtain ⟨hO2, -⟩ := d7.2 (by omega)
   have hk0 := d3.1
   have hk : n = 0 := by omega
   exact app_ob hB rfl hC hk rfl hO hGo (.inl rfl) rfl (hO2.rb (by first | omega | (simp [be_len] <;> (repeat' split) <;> omega))) (by first | omega | (simp [be_len] <;> (repeat' split) <;> omega)) (by first | omega | (simp [be_len] <;> (repeat' split) <;> omega))
 case hend1 =>
  intro T wa ⟨n, hn, hC, hR⟩
  obtain ⟨HO5, HG5⟩ : OwnB wa w1.heap.size (T 8) (be (x.fp) 2 ++ be (x.tp) 2) ∧ Grew w1 wa (.slice none 0 0) (T 8) := (show Ds.R (⟨w1.heap.size, w1, (.slice none 0 0), false, P0⟩ : RC) (.own 1 (be (x.fp) 2 ++ be (x.tp) 2)) (T 8) n wa from hR 8 (by omega)).2 (by omega)
  generalize T 8 = v5 at *
  have HO5 := Lib.hid HO5
  have HG5 := Lib.hid HG5
  have HC := Lib.hid hC.1
  have hB2 := hC.size
  clear hR hC
  have HBa := Lib.hid (HB0.out.trans (HC.out.mono hsz))
  have hsa := Nat.le_trans hsz HC.out.size
  have HR5 := Lib.hid (HO5.out.rb (by simp [be_len]))
  have HF2 := Lib.hid (HF.out.below HC.out).rebase2
  clear HC HG5 hB hB2 HO5 HF hsz HB0
  have hpb := Lib.hid (show partB x pay = if x.proto = 6 then be x.fp 2 ++ be x.tp 2 ++ be x.seq 4 ++ be x.ack 4 ++ [80, b8 (flagN x), 255, 255, 0, 0, 0, 0] ++ pay else if x.proto = 17 then be x.fp 2 ++ be x.tp 2 ++ be (8 + pay.length) 2 ++ [0, 0] ++ pay else [b8 (kindN x), 0, 0, 0] ++ be x.id 2 ++ be x.seq 2 ++ pay from rfl)
  go_upto_region 3 with fail
  obtain ⟨-, -, -, -, -, -, -, c7, -, -, -, -, -, -, -, -, -, -, -, f0⟩ := np_cells HF2.out.p
  rw [h.out] at c7
  go_upto_region 5 with fail
  clear c7 f0
  have hB : RC.fine (⟨wa.heap.size, wa, (.slice none 0 0), false, P0⟩ : RC) := HF2.out.fine (fun k hk => by cases hk)
  refine Lm.wp_region_lim 19 0 (fun p vv nn ww => (List.getD ((.val (.func (.func 98) #[] #[])) :: (.val (.pointer (some ⟨P0, 11, none⟩))) :: (.val (.bool x.fin)) :: (.val (encB ((if x.fin = true then (1 : UInt8) else 0)))) :: (.val (.func (.func 98) #[] #[])) :: (.val (.pointer (some ⟨P0, 10, none⟩))) :: (.val (.bool x.syn)) :: (.val (encB ((if x.syn = true then (2 : UInt8) else 0)))) :: (.val (encB (((if x.fin = true then (1 : UInt8) else 0) + (if x.syn = true then (2 : UInt8) else 0))))) :: (.val (.func (.func 98) #[] #[])) :: (.val (.pointer (some ⟨P0, 12, none⟩))) :: (.val (.bool x.rst)) :: (.val (encB ((if x.rst = true then (4 : UInt8) else 0)))) :: (.val (encB ((((if x.fin = true then (1 : UInt8) else 0) + (if x.syn = true then (2 : UInt8) else 0)) + (if x.rst = true then (4 : UInt8) else 0))))) :: (.val (.func (.func 98) #[] #[])) :: (.val (.pointer (some ⟨P0, 13, none⟩))) :: (.val (.bool x.has)) :: (.val (encB ((if x.has = true then (16 : UInt8) else 0)))) :: (.val (encB (((((if x.fin = true then (1 : UInt8) else 0) + (if x.syn = true then (2 : UInt8) else 0)) + (if x.rst = true then (4 : UInt8) else 0)) + (if x.has = true then (16 : UInt8) else 0))))) :: [] : List Ds) p .any).R (⟨wa.heap.size, wa, (.slice none 0 0), false, P0⟩ : RC) vv nn ww) (RC.C (⟨wa.heap.size, wa, (.slice none 0 0), false, P0⟩ : RC)) (RC.S (⟨wa.heap.size, wa, (.slice none 0 0), false, P0⟩ : RC)) (fun _ => 0) (fun _ => 0)
   (by kernel_rfl) (by kernel_rfl) (by decide) (by kernel_rfl) (fun p vv nn ww n' w' h hs => ds_keep hB _ rfl p vv nn ww n' w' h hs) RC.start ?hX2
  case' hX2 => (apply Exists.intro; refine ⟨fun T => ?hA2, ?hob2, ?hend2⟩)
  case hA2 =>
   simp only [setAll, List.take_succ_cons, List.take_zero, Act.put, List.setIfInBounds_toArray, List.set_cons_succ, List.set_cons_zero, Nat.reduceAdd]
   exact rfl
  case hob2 =>
   refine ⟨?_, ?_, ?_, ?_, ?_, ?_, ?_, ?_, ?_, ?_, ?_, ?_, ?_, ?_, ?_, ?_, ?_, ?_, ?_, trivial⟩
   ·intro T wb n hC hn hp
    have hn : n ≤ 0 := hn
    refine Op1.g fun _ Z => ?_; go_simp; exact Z _ _ ⟨rfl, hC, rR⟩
   ·intro T wb n hC hn hp
    have hn : n ≤ 0 := hn
    refine Op1.g fun _ Z => ?_; go_simp; exact Z _ _ ⟨rfl, hC, rR⟩
   ·intro T wb n hC hn hp
    have hn : n ≤ 0 := hn
    obtain ⟨(d1 : T 1 = .pointer (some ⟨P0, 11, none⟩)), -⟩ := hp
    obtain ⟨-, -, -, -, -, -, -, -, -, -, -, c11, -, -, -, -, -, -, -, f0⟩ := np_cells (show PBlk wb P0 (x.pv (.slice pa pay.length pc)) from hC.2.2.trans HF2.out.p)
    refine Op1.g fun _ Z => ?_; go_simp; exact Z _ _ ⟨rfl, hC, rR⟩
   ·intro T wb n hC hn hp
    have hn : n ≤ 0 := hn
    obtain ⟨(d0 : T 0 = .func (.func 98) #[] #[]), (d2 : T 2 = .bool x.fin), -⟩ := hp
    refine Op1.g fun _ Z => ?_; go_simp; exact calls_post (bit_ob (c := (⟨wa.heap.size, wa, (.slice none 0 0), false, P0⟩ : RC)) hB hC x.fin 1) Z
   ·intro T wb n hC hn hp
    have hn : n ≤ 0 := hn
    refine Op1.g fun _ Z => ?_; go_simp; exact Z _ _ ⟨rfl, hC, rR⟩
   ·intro T wb n hC hn hp
    have hn : n ≤ 0 := hn
    refine Op1.g fun _ Z => ?_; go_simp; exact Z _ _ ⟨rfl, hC, rR⟩
   ·intro T wb n hC hn hp
    have hn : n ≤ 0 := hn
    obtain ⟨(d5 : T 5 = .pointer (some ⟨P0, 10, none⟩)), -⟩ := hp
    obtain ⟨-, -, -, -, -, -, -, -, -, -, c10, -, -, -, -, -, -, -, -, f0⟩ := np_cells (show PBlk wb P0 (x.pv (.slice pa pay.length pc)) from hC.2.2.trans HF2.out.p)
    refine Op1.g fun _ Z => ?_; go_simp; exact Z _ _ ⟨rfl, hC, rR⟩
   ·intro T wb n hC hn hp
    have hn : n ≤ 0 := hn
    obtain ⟨(d4 : T 4 = .func (.func 98) #[] #[]), (d6 : T 6 = .bool x.syn), -⟩ := hp
    refine Op1.g fun _ Z => ?_; go_simp; exact calls_post (bit_ob (c := (⟨wa.heap.size, wa, (.slice none 0 0), false, P0⟩ : RC)) hB hC x.syn 2) Z
   ·intro T wb n hC hn hp
    have hn : n ≤ 0 := hn
    obtain ⟨(d3 : T 3 = encB ((if x.fin = true then (1 : UInt8) else 0))), (d7 : T 7 = encB ((if x.syn = true then (2 : UInt8) else 0))), -⟩ := hp
    unfold encB at d3
    obtain ⟨b3, hb3⟩ : ∃ b : UInt8, b = (if x.fin = true then (1 : UInt8) else 0) := ⟨_, rfl⟩
    rw [← hb3] at d3
    replace hb3 := Lib.hid hb3
    unfold encB at d7
    obtain ⟨b7, hb7⟩ : ∃ b : UInt8, b = (if x.syn = true then (2 : UInt8) else 0) := ⟨_, rfl⟩
    rw [← hb7] at d7
    replace hb7 := Lib.hid hb7
    refine Op1.g fun _ Z => ?_; go_simp
    replace hb3 := hb3.out
    subst hb3
    replace hb7 := hb7.out
    subst hb7
    exact Z _ _ ⟨u8_add _ _, hC, rR⟩
   ·intro T wb n hC hn hp
    have hn : n ≤ 0 := hn
    refine Op1.g fun _ Z => ?_; go_simp; exact Z _ _ ⟨rfl, hC, rR⟩
   ·intro T wb n hC hn hp
    have hn : n ≤ 0 := hn
    refine Op1.g fun _ Z => ?_; go_simp; exact Z _ _ ⟨rfl, hC, rR⟩
   ·intro T wb n hC hn hp
    have hn : n ≤ 0 := hn
    obtain ⟨(d10 : T 10 = .pointer (some ⟨P0, 12, none⟩)), -⟩ := hp
    obtain ⟨-, -, -, -, -, -, -, -, -, -, -, -, c12, -, -, -, -, -, -, f0⟩ := np_cells (show PBlk wb P0 (x.pv (.slice pa pay.length pc)) from hC.2.2.trans HF2.out.p)
    refine Op1.g fun _ Z => ?_; go_simp; exact Z _ _ ⟨rfl, hC, rR⟩
   ·intro T wb n hC hn hp
    have hn : n ≤ 0 := hn
    obtain ⟨(d9 : T 9 = .func (.func 98) #[] #[]), (d11 : T 11 = .bool x.rst), -⟩ := hp
    refine Op1.g fun _ Z => ?_; go_simp; exact calls_post (bit_ob (c := (⟨wa.heap.size, wa, (.slice none 0 0), false, P0⟩ : RC)) hB hC x.rst 4) Z
   ·intro T wb n hC hn hp
    have hn : n ≤ 0 := hn
    obtain ⟨(d8 : T 8 = encB (((if x.fin = true then (1 : UInt8) else 0) + (if x.syn = true then (2 : UInt8) else 0)))), (d12 : T 12 = encB ((if x.rst = true then (4 : UInt8) else 0))), -⟩ := hp
    unfold encB at d8
    obtain ⟨b8, hb8⟩ : ∃ b : UInt8, b = ((if x.fin = true then (1 : UInt8) else 0) + (if x.syn = true then (2 : UInt8) else 0)) := ⟨_, rfl⟩
    rw [← hb8] at d8
    replace hb8 := Lib.hid hb8
    unfold encB at d12
    obtain ⟨b12, hb12⟩ : ∃ b : UInt8, b = (if x.rst = true then (4 : UInt8) else 0) := ⟨_, rfl⟩
    rw [← hb12] at d12
    replace hb12 := Lib.hid hb12
    refine Op1.g fun _ Z => ?_; go_simp
    replace hb8 := hb8.out
    subst hb8
    replace hb12 := hb12.out
    subst hb12
    exact Z _ _ ⟨u8_add _ _, hC, rR⟩
   ·intro T wb n hC hn hp
    have hn : n ≤ 0 := hn
    refine Op1.g fun _ Z => ?_; go_simp; exact Z _ _ ⟨rfl, hC, rR⟩
   ·intro T wb n hC hn hp
    have hn : n ≤ 0 := hn
    refine Op1.g fun _ Z => ?_; go_simp; exact Z _ _ ⟨rfl, hC, rR⟩
   ·intro T wb n hC hn hp
    have hn : n ≤ 0 := hn
    obtain ⟨(d15 : T 15 = .pointer (some ⟨P0, 13, none⟩)), -⟩ := hp
    obtain ⟨-, -, -, -, -, -, -, -, -, -, -, -, -, c13, -, -, -, -, -, f0⟩ := np_cells (show PBlk wb P0 (x.pv (.slice pa pay.length pc)) from hC.2.2.trans HF2.out.p)
    refine Op1.g fun _ Z => ?_; go_simp; exact Z _ _ ⟨rfl, hC, rR⟩
   ·intro T wb n hC hn hp
    have hn : n ≤ 0 := hn
    obtain ⟨(d14 : T 14 = .func (.func 98) #[] #[]), (d16 : T 16 = .bool x.has), -⟩ := hp
    refine Op1.g fun _ Z => ?_; go_simp; exact calls_post (bit_ob (c := (⟨wa.heap.size, wa, (.slice none 0 0), false, P0⟩ : RC)) hB hC x.has 16) Z
   ·intro T wb n hC hn hp
    have hn : n ≤ 0 := hn
    obtain ⟨(d13 : T 13 = encB ((((if x.fin = true then (1 : UInt8) else 0) + (if x.syn = true then (2 : UInt8) else 0)) + (if x.rst = true then (4 : UInt8) else 0)))), (d17 : T 17 = encB ((if x.has = true then (16 : UInt8) else 0))), -⟩ := hp
    unfold encB at d13
    obtain ⟨b13, hb13⟩ : ∃ b : UInt8, b = (((if x.fin = true then (1 : UInt8) else 0) + (if x.syn = true then (2 : UInt8) else 0)) + (if x.rst = true then (4 : UInt8) else 0)) := ⟨_, rfl⟩
    rw [← hb13] at d13
    replace hb13 := Lib.hid hb13
    unfold encB at d17
    obtain ⟨b17, hb17⟩ : ∃ b : UInt8, b = (if x.has = true then (16 : UInt8) else 0) := ⟨_, rfl⟩
    rw [← hb17] at d17
    replace hb17 := Lib.hid hb17
    refine Op1.g fun _ Z => ?_; go_simp
    replace hb13 := hb13.out
    subst hb13
    replace hb17 := hb17.out
    subst hb17
    exact Z _ _ ⟨u8_add _ _, hC, rR⟩
  case hend2 =>
   intro T wb ⟨n, hn, hC, hR⟩
   have r6 : T 18 = encB (((((if x.fin = true then (1 : UInt8) else 0) + (if x.syn = true then (2 : UInt8) else 0)) + (if x.rst = true then (4 : UInt8) else 0)) + (if x.has = true then (16 : UInt8) else 0))) := hR 18 (by omega)
   rw [r6]
   clear r6
   have HC := Lib.hid hC.1
   have hB2 := hC.size
   clear hR hC
   have HF3 := Lib.hid (HF2.out.below HC.out)
   replace HR5 := Lib.hid (HR5.out.below HC.out)
   clear HC hB hB2 HF2
   rw [flag_sum]
   rw [if_pos h.out] at hpb
   generalize b8 (flagN x) = fb at *
   go_upto_region 6 with fail
   have hB : RC.fine (⟨wa.heap.size, wb, (.slice none 0 0), false, P0⟩ : RC) := HF3.out.fine (fun k hk => by cases hk)
   refine Lm.wp_region_lim 15 0 (fun p vv nn ww => (List.getD ((.rd (be x.fp 2 ++ be x.tp 2)) :: (.val (.pointer (some ⟨P0, 14, none⟩))) :: (.val (.int .i64 ((x.seq : Nat) : Int))) :: (.val (.int .u64 ((x.seq : Nat) : Int))) :: (.own 0 (be (x.seq) 4)) :: (.val (.pointer (some ⟨P0, 15, none⟩))) :: (.val (.int .i64 ((x.ack : Nat) : Int))) :: (.val (.int .u64 ((x.ack : Nat) : Int))) :: (.own 0 (be (x.ack) 4)) :: (.val (encB (fb))) :: (.arr 0 ([80, fb, 255, 255, 0, 0, 0, 0])) :: (.val (.pointer (some ⟨P0, 18, none⟩))) :: (.rd (pay)) :: (.arrs 0 [be x.fp 2 ++ be x.tp 2, be (x.seq) 4, be (x.ack) 4, [80, fb, 255, 255, 0, 0, 0, 0], pay]) :: (.own 0 (List.flatten [be x.fp 2 ++ be x.tp 2, be (x.seq) 4, be (x.ack) 4, [80, fb, 255, 255, 0, 0, 0, 0], pay])) :: [] : List Ds) p .any).R (⟨wa.heap.size, wb, (.slice none 0 0), false, P0⟩ : RC) vv nn ww) (RC.C (⟨wa.heap.size, wb, (.slice none 0 0), false, P0⟩ : RC)) (RC.S (⟨wa.heap.size, wb, (.slice none 0 0), false, P0⟩ : RC)) (fun _ => 0) (fun _ => 0)
    (by kernel_rfl) (by kernel_rfl) (by decide) (by kernel_rfl) (fun p vv nn ww n' w' h hs => ds_keep hB _ rfl p vv nn ww n' w' h hs) RC.start ?hX3
   case' hX3 => (apply Exists.intro; refine ⟨fun T => ?hA3, ?hob3, ?hend3⟩)
   case hA3 =>
    simp only [setAll, List.take_succ_cons, List.take_zero, Act.put, List.setIfInBounds_toArray, List.set_cons_succ, List.set_cons_zero, Nat.reduceAdd]
    exact rfl
   case hob3 =>
    refine ⟨?_, ?_, ?_, ?_, ?_, ?_, ?_, ?_, ?_, ?_, ?_, ?_, ?_, ?_, ?_, trivial⟩
    ·intro T wc n hC hn hp
     have hn : n ≤ 0 := hn
     refine Op1.g fun _ Z => ?_; go_simp; exact Z _ _ ⟨HR5.out, hC, rR⟩
    ·intro T wc n hC hn hp
     have hn : n ≤ 0 := hn
     refine Op1.g fun _ Z => ?_; go_simp; exact Z _ _ ⟨rfl, hC, rR⟩
    ·intro T wc n hC hn hp
     have hn : n ≤ 0 := hn
     obtain ⟨(d1 : T 1 = .pointer (some ⟨P0, 14, none⟩)), -⟩ := hp
     obtain ⟨-, -, -, -, -, -, -, -, -, -, -, -, -, -, c14, -, -, -, -, f0⟩ := np_cells (show PBlk wc P0 (x.pv (.slice pa pay.length pc)) from hC.2.2.trans HF3.out.p)
     refine Op1.g fun _ Z => ?_; go_simp; exact Z _ _ ⟨rfl, hC, rR⟩
    ·intro T wc n hC hn hp
     have hn : n ≤ 0 := hn
     obtain ⟨(d2 : T 2 = .int .i64 ((x.seq : Nat) : Int)), -⟩ := hp
     refine Op1.g fun _ Z => ?_; go_simp
     first | exact Z _ _ ⟨rfl, hC, rR⟩ | exact Z _ _ ⟨u8_nat _, hC, rR⟩ | (refine Z _ _ ⟨congrArg (Value.int _) ?_, hC, rR⟩; have := hx.fp; have := hx.tp; have := hx.seq; have := hx.ack; have := hx.id; have := hx.hops; have := hx.proto; have := hx.h1; have := hx.l1; have := hx.h2; have := hx.l2; omega) | (refine Z _ _ ⟨congrArg (Value.int _) ?_, hC, rR⟩; simp only [IntKind.wrap_u64]; have := hx.fp; have := hx.tp; have := hx.seq; have := hx.ack; have := hx.id; have := hx.hops; have := hx.proto; have := hx.h1; have := hx.l1; have := hx.h2; have := hx.l2; omega)
    ·intro T wc n hC hn hp
     have hn : n ≤ 0 := hn
     obtain ⟨(d3 : T 3 = .int .u64 ((x.seq : Nat) : Int)), -⟩ := hp
     have hz : n = 0 := by omega
     refine Op1.g fun _ Z => ?_; go_simp; exact calls_post (big_ob (c := (⟨wa.heap.size, wb, (.slice none 0 0), false, P0⟩ : RC)) hB hC hz rfl (x.seq) 4 (by have := hx.fp; have := hx.tp; have := hx.seq; have := hx.ack; have := hx.id; have := hx.hops; have := hx.proto; have := hx.h1; have := hx.l1; have := hx.h2; have := hx.l2; omega) (by omega)) Z
    ·intro T wc n hC hn hp
     have hn : n ≤ 0 := hn
     refine Op1.g fun _ Z => ?_; go_simp; exact Z _ _ ⟨rfl, hC, rR⟩
    ·intro T wc n hC hn hp
     have hn : n ≤ 0 := hn
     obtain ⟨(d5 : T 5 = .pointer (some ⟨P0, 15, none⟩)), -⟩ := hp
     obtain ⟨-, -, -, -, -, -, -, -, -, -, -, -, -, -, -, c15, -, -, -, f0⟩ := np_cells (show PBlk wc P0 (x.pv (.slice pa pay.length pc)) from hC.2.2.trans HF3.out.p)
     refine Op1.g fun _ Z => ?_; go_simp; exact Z _ _ ⟨rfl, hC, rR⟩
    ·intro T wc n hC hn hp
     have hn : n ≤ 0 := hn
     obtain ⟨(d6 : T 6 = .int .i64 ((x.ack : Nat) : Int)), -⟩ := hp
     refine Op1.g fun _ Z => ?_; go_simp
     first | exact Z _ _ ⟨rfl, hC, rR⟩ | exact Z _ _ ⟨u8_nat _, hC, rR⟩ | (refine Z _ _ ⟨congrArg (Value.int _) ?_, hC, rR⟩; have := hx.fp; have := hx.tp; have := hx.seq; have := hx.ack; have := hx.id; have := hx.hops; have := hx.proto; have := hx.h1; have := hx.l1; have := hx.h2; have := hx.l2; omega) | (refine Z _ _ ⟨congrArg (Value.int _) ?_, hC, rR⟩; simp only [IntKind.wrap_u64]; have := hx.fp; have := hx.tp; have := hx.seq; have := hx.ack; have := hx.id; have := hx.hops; have := hx.proto; have := hx.h1; have := hx.l1; have := hx.h2; have := hx.l2; omega)
    ·intro T wc n hC hn hp
     have hn : n ≤ 0 := hn
     obtain ⟨(d7 : T 7 = .int .u64 ((x.ack : Nat) : Int)), -⟩ := hp
     have hz : n = 0 := by omega
     refine Op1.g fun _ Z => ?_; go_simp; exact calls_post (big_ob (c := (⟨wa.heap.size, wb, (.slice none 0 0), false, P0⟩ : RC)) hB hC hz rfl (x.ack) 4 (by have := hx.fp; have := hx.tp; have := hx.seq; have := hx.ack; have := hx.id; have := hx.hops; have := hx.proto; have := hx.h1; have := hx.l1; have := hx.h2; have := hx.l2; omega) (by omega)) Z
    ·intro T wc n hC hn hp
     have hn : n ≤ 0 := hn
     refine Op1.g fun _ Z => ?_; go_simp; exact Z _ _ ⟨rfl, hC, rR⟩
    ·intro T wc n hC hn hp
     have hn : n ≤ 0 := hn
     obtain ⟨(d9 : T 9 = encB (fb)), -⟩ := hp
     simp only [d9]
     exact Op1.of_run (v := .slice (some ⟨wc.heap.size, 0, none⟩) 8 8) (w2 := wc.alloc (.cells (encBs [80, fb, 255, 255, 0, 0, 0, 0]).toArray 5 (0, 0))) (by kernel_rfl) (arr_ok hB [80, fb, 255, 255, 0, 0, 0, 0] hC _ rfl _ rfl)
    ·intro T wc n hC hn hp
     have hn : n ≤ 0 := hn
     refine Op1.g fun _ Z => ?_; go_simp; exact Z _ _ ⟨rfl, hC, rR⟩
    ·intro T wc n hC hn hp
     have hn : n ≤ 0 := hn
     obtain ⟨(d11 : T 11 = .pointer (some ⟨P0, 18, none⟩)), -⟩ := hp
     obtain ⟨-, -, -, -, -, -, -, -, -, -, -, -, -, -, -, -, -, -, c18, f0⟩ := np_cells (show PBlk wc P0 (x.pv (.slice pa pay.length pc)) from hC.2.2.trans HF3.out.p)
     refine Op1.g fun _ Z => ?_; go_simp; exact Z _ _ ⟨HF3.out.rb, hC, rR⟩
    ·intro T wc n hC hn hp
     have hn : n ≤ 0 := hn
     obtain ⟨(d0 : Ds.R (⟨wa.heap.size, wb, (.slice none 0 0), false, P0⟩ : RC) (.rd (be x.fp 2 ++ be x.tp 2)) (T 0) n wc), (d4 : Ds.R (⟨wa.heap.size, wb, (.slice none 0 0), false, P0⟩ : RC) (.own 0 (be (x.seq) 4)) (T 4) n wc), (d8 : Ds.R (⟨wa.heap.size, wb, (.slice none 0 0), false, P0⟩ : RC) (.own 0 (be (x.ack) 4)) (T 8) n wc), (d10 : Ds.R (⟨wa.heap.size, wb, (.slice none 0 0), false, P0⟩ : RC) (.arr 0 ([80, fb, 255, 255, 0, 0, 0, 0])) (T 10) n wc), (d12 : Ds.R (⟨wa.heap.size, wb, (.slice none 0 0), false, P0⟩ : RC) (.rd (pay)) (T 12) n wc), -⟩ := hp
     obtain ⟨ad0, nn0, cc0, ev0, rb0⟩ := rb_lit ((Rb.below d0 hC.1).mono (Nat.le_trans hB.le hC.size))
     obtain ⟨hO1, -⟩ := d4.2 (by omega)
     obtain ⟨ad1, nn1, cc1, ev1, rb1⟩ := rb_lit (hO1.rb (by first | omega | (simp [be_len] <;> (repeat' split) <;> omega)))
     obtain ⟨hO2, -⟩ := d8.2 (by omega)
     obtain ⟨ad2, nn2, cc2, ev2, rb2⟩ := rb_lit (hO2.rb (by first | omega | (simp [be_len] <;> (repeat' split) <;> omega)))
     obtain ⟨g3, q3, hg3⟩ := d10
     have hr3 : Rb wc.heap.size wc (T 10) ([80, fb, 255, 255, 0, 0, 0, 0]) := q3 ▸ rb_arr (hg3 (by omega)) (by first | omega | (simp <;> (repeat' split) <;> omega))
     clear q3 hg3
     obtain ⟨ad3, nn3, cc3, ev3, rb3⟩ := rb_lit hr3
     obtain ⟨ad4, nn4, cc4, ev4, rb4⟩ := rb_lit ((Rb.below d12 hC.1).mono (Nat.le_trans hB.le hC.size))
     refine Op1.g fun _ Z => ?_; go_simp; exact Z _ _ (arrs_ok hB [.slice ad0 nn0 cc0, .slice ad1 nn1 cc1, .slice ad2 nn2 cc2, .slice ad3 nn3 cc3, .slice ad4 nn4 cc4] [be x.fp 2 ++ be x.tp 2, be (x.seq) 4, be (x.ack) 4, [80, fb, 255, 255, 0, 0, 0, 0], pay] hC ⟨rb0.out, rb1.out, rb2.out, rb3.out, rb4.out, trivial⟩ _ rfl _ rfl)
    ·intro T wc n hC hn hp
     have hn : n ≤ 0 := hn
     obtain ⟨(d13 : Ds.R (⟨wa.heap.size, wb, (.slice none 0 0), false, P0⟩ : RC) (.arrs 0 [be x.fp 2 ++ be x.tp 2, be (x.seq) 4, be (x.ack) 4, [80, fb, 255, 255, 0, 0, 0, 0], pay]) (T 13) n wc), -⟩ := hp
     obtain ⟨g, vs, eg, hg⟩ := d13
     obtain ⟨hg, hRb⟩ := hg (by omega)
     have hz : n = 0 := by omega
     refine Op1.g fun _ Z => ?_; go_simp; exact calls_post (concat_ob (c := (⟨wa.heap.size, wb, (.slice none 0 0), false, P0⟩ : RC)) hB hC hz rfl g vs [be x.fp 2 ++ be x.tp 2, be (x.seq) 4, be (x.ack) 4, [80, fb, 255, 255, 0, 0, 0, 0], pay] hg hRb (by first | omega | (simp [be_len] <;> (repeat' split) <;> omega)) (by simp) _ rfl) Z
   case hend3 =>
    intro T wc ⟨n, hn, hC, hR⟩
    obtain ⟨HO7, HG7⟩ : OwnB wc wa.heap.size (T 14) (List.flatten [be x.fp 2 ++ be x.tp 2, be (x.seq) 4, be (x.ack) 4, [80, fb, 255, 255, 0, 0, 0, 0], pay]) ∧ Grew wb wc (.slice none 0 0) (T 14) := (show Ds.R (⟨wa.heap.size, wb, (.slice none 0 0), false, P0⟩ : RC) (.own 0 (List.flatten [be x.fp 2 ++ be x.tp 2, be (x.seq) 4, be (x.ack) 4, [80, fb, 255, 255, 0, 0, 0, 0], pay])) (T 14) n wc from hR 14 (by omega)).2 (by omega)
    generalize T 14 = v7 at *
    have HO7 := Lib.hid HO7
    have HG7 := Lib.hid HG7
    have HC := Lib.hid hC.1
    have hB2 := hC.size
    clear hR hC
    have HFz := Lib.hid (HF3.out.below HC.out)
    go_upto_region 7 with fail
    go_wp2_with fail
    have hP0 := HP0.out
    subst hP0
    go_ret2
    exact ⟨_, by rw [h.out]; rfl, OwnB.weak (by have := HO7.out; rw [hpb.out]; simpa [List.append_assoc] using this) hsa, HBa.out.trans (HFz.out.bl.mono hsa)⟩
end Go.Proofs.Ytakjopbdkkcnlaa
