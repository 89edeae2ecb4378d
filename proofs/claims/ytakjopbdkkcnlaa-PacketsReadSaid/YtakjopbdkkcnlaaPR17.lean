/-
  A right packet is written: the part behind the addresses (partOf).
-/
import Derived.Test.YtakjopbdkkcnlaaPR8
import Derived.Deep.Cut
set_option linter.unusedVariables false
namespace Go.Proofs.Ytakjopbdkkcnlaa
open Go.RowKit Go
set_option linter.unusedVariables false

set_option maxRecDepth 100000 in
set_option maxHeartbeats 4000000 in
theorem partOf_any (x : NP) (hx : x.fit) (pa : Option Addr) (pc : Nat) (pay : List UInt8) (w : World) (hr : Rb w.heap.size w (.slice pa pay.length pc) pay) (hpl : pay.length ≤ 1401) :
  Calls Try.prog 76 #[.agg (x.pv (.slice pa pay.length pc)).cells] w fun e w' => ∃ v, e = .returned v ∧ OwnB w' w.heap.size v (partB x pay) ∧ Below w.heap.size w w' := by
 have HF := Lib.hid (FS.start (x := x.pv (.slice pa pay.length pc)) hr)
 have hsz : w.heap.size ≤ (w.alloc (.cells (x.pv (.slice pa pay.length pc)).cells 45 (0, 0))).heap.size := by simp
 have HB0 : Hid (Below w.heap.size w (w.alloc (.cells (x.pv (.slice pa pay.length pc)).cells 45 (0, 0)))) := Lib.hid (below_alloc (Below.refl _ _) _)
 clear hr
 go_enter Try.func76, Try.ntmps76
 go_upto_region 2 with fail
 generalize w.alloc (.cells (x.pv (.slice pa pay.length pc)).cells 45 (0, 0)) = w1 at *
 generalize hP0 : w.heap.size = P0 at *
 have HP0 := Lib.hid hP0
 clear hP0
 have HB := Lib.hid (OwnB.nil w1 w1.heap.size)
 obtain ⟨c0, c1, c2, c3, c4, c5, c6, c7, c8, c9, c10, c11, c12, c13, c14, c15, c16, c17, c18, f0⟩ := np_cells HF.out.p
 rcases hx.proto with h | h | h
 ·rw [h] at c7
  have h := Lib.hid h
  go_upto_region 3 with fail
  generalize Value.slice none 0 0 = vn at HB ⊢
  go_wp2_with (first | (refine wpList_load_row rfl 45 (.tmp 1) rfl P0 rfl 45 (x.pv (.slice pa pay.length pc)).cells (0, 0) _ HF.out.p Try.underlying45 rfl (by kernel_rfl) ?_) | fail)
  refine (kindOf_any x _ w1).mono ?_
  rintro e w2 ⟨rfl, hb⟩
  have HF2 := Lib.hid (HF.out.later hb)
  have HO2 := Lib.hid (own_later HB.out hb)
  clear hb
  clear c0 c1 c2 c3 c4 c5 c6 c7 c8 c9 c10 c11 c12 c13 c14 c15 c16 c17 c18 f0
  go_wp2_with (refine wpList_build_fs [b8 (kindN x), 0, 0, 0] _ _ rfl rfl _ rfl (by go_simp; rfl) rfl (.tmp 6) (.tmp 9) rfl rfl HO2.out rfl (by simp) (by simp) HF2.out ?_)
  intro v3 w3 HO3 HF3
  go_upto_region 4 with fail
  have HO3 := HO3
  have hB : RC.fine (⟨w1.heap.size, w3, v3, false, P0⟩ : RC) := HF3.out.fine (own_base HO3.out)
  refine Lm.wp_region_lim 9 2 (fun p vv nn ww => (List.getD ((.own 0 ([] ++ [b8 (kindN x), 0, 0, 0])) :: (.val (.pointer (some ⟨P0, 17, none⟩))) :: (.val (.int .i64 ((x.id : Nat) : Int))) :: (.val (.int .u64 ((x.id : Nat) : Int))) :: (.own 1 ([] ++ [b8 (kindN x), 0, 0, 0] ++ be (x.id) 2)) :: (.val (.pointer (some ⟨P0, 14, none⟩))) :: (.val (.int .i64 ((x.seq : Nat) : Int))) :: (.val (.int .u64 ((x.seq : Nat) : Int))) :: (.own 2 ([] ++ [b8 (kindN x), 0, 0, 0] ++ be (x.id) 2 ++ be (x.seq) 2)) :: [] : List Ds) p .any).R (⟨w1.heap.size, w3, v3, false, P0⟩ : RC) vv nn ww) (RC.C (⟨w1.heap.size, w3, v3, false, P0⟩ : RC)) (RC.S (⟨w1.heap.size, w3, v3, false, P0⟩ : RC)) (fun i => if i = 4 ∨ i = 8 then 1 else 0) (fun i => if i = 5 ∨ i = 6 ∨ i = 7 ∨ i = 8 then 1 else 0)
   (by kernel_rfl) (by kernel_rfl) (by decide) (by kernel_rfl) (fun p vv nn ww n' w' h hs => ds_keep hB _ rfl p vv nn ww n' w' h hs) RC.start ?hX1
  case' hX1 => (apply Exists.intro; refine ⟨fun T => ?hA1, ?hob1, ?hend1⟩)
  case hA1 =>
   simp only [setAll, List.take_succ_cons, List.take_zero, Act.put, List.setIfInBounds_toArray, List.set_cons_succ, List.set_cons_zero, Nat.reduceAdd]
   exact rfl
  case hob1 =>
   refine ⟨?_, ?_, ?_, ?_, ?_, ?_, ?_, ?_, ?_, trivial⟩
   ·intro T wx n hC (hn : n ≤ 0) hp
    refine Op1.g fun _ Z => ?_; go_simp
    have hz : n = 0 := by omega
    exact Z _ _ ⟨own0 hC hz HO3.out, hC, rR⟩
   ·intro T wx n hC (hn : n ≤ 0) hp
    refine Op1.g fun _ Z => ?_; go_simp; exact Z _ _ ⟨rfl, hC, rR⟩
   ·intro T wx n hC (hn : n ≤ 0) hp
    obtain ⟨(d1 : T 1 = .pointer (some ⟨P0, 17, none⟩)), -⟩ := hp
    obtain ⟨-, -, -, -, -, -, -, -, -, -, -, -, -, -, -, -, -, c17, -, f0⟩ := np_cells (show PBlk wx P0 (x.pv (.slice pa pay.length pc)) from hC.2.2.trans HF3.out.p)
    refine Op1.g fun _ Z => ?_; go_simp; exact Z _ _ ⟨rfl, hC, rR⟩
   ·intro T wx n hC (hn : n ≤ 0) hp
    obtain ⟨(d2 : T 2 = .int .i64 ((x.id : Nat) : Int)), -⟩ := hp
    refine Op1.g fun _ Z => ?_; go_simp
    first | exact Z _ _ ⟨rfl, hC, rR⟩ | exact Z _ _ ⟨u8_nat _, hC, rR⟩ | (refine Z _ _ ⟨congrArg (Value.int _) ?_, hC, rR⟩; have := hx.fp; have := hx.tp; have := hx.seq; have := hx.ack; have := hx.id; have := hx.hops; have := hx.proto; have := hx.h1; have := hx.l1; have := hx.h2; have := hx.l2; omega) | (refine Z _ _ ⟨congrArg (Value.int _) ?_, hC, rR⟩; simp only [IntKind.wrap_u64]; have := hx.fp; have := hx.tp; have := hx.seq; have := hx.ack; have := hx.id; have := hx.hops; have := hx.proto; have := hx.h1; have := hx.l1; have := hx.h2; have := hx.l2; omega)
   ·intro T wx n hC (hn : n ≤ 0) hp
    obtain ⟨(d0 : Ds.R (⟨w1.heap.size, w3, v3, false, P0⟩ : RC) (.own 0 ([] ++ [b8 (kindN x), 0, 0, 0])) (T 0) n wx), (d3 : T 3 = .int .u64 ((x.id : Nat) : Int)), -⟩ := hp
    obtain ⟨hO, hGo⟩ := d0.2 (by omega)
    have hk0 := d0.1
    have hk : n = 0 := by omega
    refine Op1.g fun _ Z => ?_; go_simp; exact calls_post (put_ob (c := (⟨w1.heap.size, w3, v3, false, P0⟩ : RC)) hB hC hk hO hGo (.inl rfl) (x.id) 2 (by have := hx.fp; have := hx.tp; have := hx.seq; have := hx.ack; have := hx.id; have := hx.hops; have := hx.proto; have := hx.h1; have := hx.l1; have := hx.h2; have := hx.l2; omega) (by omega) (by first | omega | (simp <;> (repeat' split) <;> omega))) Z
   ·intro T wx n hC (hn : n ≤ 1) hp
    refine Op1.g fun _ Z => ?_; go_simp; exact Z _ _ ⟨rfl, hC, rR⟩
   ·intro T wx n hC (hn : n ≤ 1) hp
    obtain ⟨(d5 : T 5 = .pointer (some ⟨P0, 14, none⟩)), -⟩ := hp
    obtain ⟨-, -, -, -, -, -, -, -, -, -, -, -, -, -, c14, -, -, -, -, f0⟩ := np_cells (show PBlk wx P0 (x.pv (.slice pa pay.length pc)) from hC.2.2.trans HF3.out.p)
    refine Op1.g fun _ Z => ?_; go_simp; exact Z _ _ ⟨rfl, hC, rR⟩
   ·intro T wx n hC (hn : n ≤ 1) hp
    obtain ⟨(d6 : T 6 = .int .i64 ((x.seq : Nat) : Int)), -⟩ := hp
    refine Op1.g fun _ Z => ?_; go_simp
    first | exact Z _ _ ⟨rfl, hC, rR⟩ | exact Z _ _ ⟨u8_nat _, hC, rR⟩ | (refine Z _ _ ⟨congrArg (Value.int _) ?_, hC, rR⟩; have := hx.fp; have := hx.tp; have := hx.seq; have := hx.ack; have := hx.id; have := hx.hops; have := hx.proto; have := hx.h1; have := hx.l1; have := hx.h2; have := hx.l2; omega) | (refine Z _ _ ⟨congrArg (Value.int _) ?_, hC, rR⟩; simp only [IntKind.wrap_u64]; have := hx.fp; have := hx.tp; have := hx.seq; have := hx.ack; have := hx.id; have := hx.hops; have := hx.proto; have := hx.h1; have := hx.l1; have := hx.h2; have := hx.l2; omega)
   ·intro T wx n hC (hn : n ≤ 1) hp
    obtain ⟨(d4 : Ds.R (⟨w1.heap.size, w3, v3, false, P0⟩ : RC) (.own 1 ([] ++ [b8 (kindN x), 0, 0, 0] ++ be (x.id) 2)) (T 4) n wx), (d7 : T 7 = .int .u64 ((x.seq : Nat) : Int)), -⟩ := hp
    obtain ⟨hO, hGo⟩ := d4.2 (by omega)
    have hk0 := d4.1
    have hk : n = 1 := by omega
    refine Op1.g fun _ Z => ?_; go_simp; exact calls_post (put_ob (c := (⟨w1.heap.size, w3, v3, false, P0⟩ : RC)) hB hC hk hO hGo (.inl rfl) (x.seq) 2 (by have := hx.fp; have := hx.tp; have := hx.seq; have := hx.ack; have := hx.id; have := hx.hops; have := hx.proto; have := hx.h1; have := hx.l1; have := hx.h2; have := hx.l2; omega) (by omega) (by first | omega | (simp [be_len] <;> (repeat' split) <;> omega))) Z
  case hend1 =>
   intro T wx ⟨n, hn, hC, hR⟩
   obtain ⟨HO3, HG3⟩ : OwnB wx w1.heap.size (T 8) ([] ++ [b8 (kindN x), 0, 0, 0] ++ be (x.id) 2 ++ be (x.seq) 2) ∧ Grew w3 wx v3 (T 8) := (show Ds.R (⟨w1.heap.size, w3, v3, false, P0⟩ : RC) (.own 2 ([] ++ [b8 (kindN x), 0, 0, 0] ++ be (x.id) 2 ++ be (x.seq) 2)) (T 8) n wx from hR 8 (by omega)).2 (by omega)
   generalize T 8 = v3 at *
   have HO3 := Lib.hid HO3
   have HG3 := Lib.hid HG3
   have HC := Lib.hid hC.1
   have hB2 := hC.size
   clear hR hC
   have HF4 := Lib.hid (HF3.out.below HC.out)
   clear HC HF3
   have hsz2 := HF4.out.bl.size
   obtain ⟨c0, c1, c2, c3, c4, c5, c6, c7, c8, c9, c10, c11, c12, c13, c14, c15, c16, c17, c18, f0⟩ := np_cells HF4.out.p
   go_wp2_with (at_builtin; refine wpList_fs rfl (.tmp 66) (.tmp 68) rfl rfl HO3.out rfl HF4.out.rb (by first | omega | (simp [be_len] <;> (repeat' split) <;> omega)) (by omega) HF4.out ?_)
   intro v9 w9 HO9 HF9
   go_wp2_with fail
   go_ret
   have hP0 := HP0.out
   subst hP0
   exact ⟨_, rfl, OwnB.weak (by have := HO9.out; simpa [partB, h.out, List.append_assoc] using this) hsz, HB0.out.trans (HF9.out.bl.mono hsz)⟩
 ·rw [h] at c7
  have h := Lib.hid h
  go_upto_region 6 with fail
  clear c0 c1 c2 c3 c4 c5 c6 c7 c8 c9 c10 c11 c12 c13 c14 c15 c16 c17 c18 f0
  have hB : RC.fine (⟨w1.heap.size, w1, (.slice none 0 0), false, P0⟩ : RC) := HF.out.fine (fun k hk => by cases hk)
  refine Lm.wp_region_lim 9 2 (fun p vv nn ww => (List.getD ((.own 0 ([])) :: (.val (.pointer (some ⟨P0, 8, none⟩))) :: (.val (.int .i64 ((x.fp : Nat) : Int))) :: (.val (.int .u64 ((x.fp : Nat) : Int))) :: (.own 1 ([] ++ be (x.fp) 2)) :: (.val (.pointer (some ⟨P0, 9, none⟩))) :: (.val (.int .i64 ((x.tp : Nat) : Int))) :: (.val (.int .u64 ((x.tp : Nat) : Int))) :: (.own 2 ([] ++ be (x.fp) 2 ++ be (x.tp) 2)) :: [] : List Ds) p .any).R (⟨w1.heap.size, w1, (.slice none 0 0), false, P0⟩ : RC) vv nn ww) (RC.C (⟨w1.heap.size, w1, (.slice none 0 0), false, P0⟩ : RC)) (RC.S (⟨w1.heap.size, w1, (.slice none 0 0), false, P0⟩ : RC)) (fun i => if i = 4 ∨ i = 8 then 1 else 0) (fun i => if i = 5 ∨ i = 6 ∨ i = 7 ∨ i = 8 then 1 else 0)
   (by kernel_rfl) (by kernel_rfl) (by decide) (by kernel_rfl) (fun p vv nn ww n' w' h hs => ds_keep hB _ rfl p vv nn ww n' w' h hs) RC.start ?hX2
  case' hX2 => (apply Exists.intro; refine ⟨fun T => ?hA2, ?hob2, ?hend2⟩)
  case hA2 =>
   simp only [setAll, List.take_succ_cons, List.take_zero, Act.put, List.setIfInBounds_toArray, List.set_cons_succ, List.set_cons_zero, Nat.reduceAdd]
   exact rfl
  case hob2 =>
   refine ⟨?_, ?_, ?_, ?_, ?_, ?_, ?_, ?_, ?_, trivial⟩
   ·intro T wx n hC (hn : n ≤ 0) hp
    refine Op1.g fun _ Z => ?_; go_simp
    have hz : n = 0 := by omega
    exact Z _ _ ⟨own0 hC hz HB.out, hC, rR⟩
   ·intro T wx n hC (hn : n ≤ 0) hp
    refine Op1.g fun _ Z => ?_; go_simp; exact Z _ _ ⟨rfl, hC, rR⟩
   ·intro T wx n hC (hn : n ≤ 0) hp
    obtain ⟨(d1 : T 1 = .pointer (some ⟨P0, 8, none⟩)), -⟩ := hp
    obtain ⟨-, -, -, -, -, -, -, -, c8, -, -, -, -, -, -, -, -, -, -, f0⟩ := np_cells (show PBlk wx P0 (x.pv (.slice pa pay.length pc)) from hC.2.2.trans HF.out.p)
    refine Op1.g fun _ Z => ?_; go_simp; exact Z _ _ ⟨rfl, hC, rR⟩
   ·intro T wx n hC (hn : n ≤ 0) hp
    obtain ⟨(d2 : T 2 = .int .i64 ((x.fp : Nat) : Int)), -⟩ := hp
    refine Op1.g fun _ Z => ?_; go_simp
    first | exact Z _ _ ⟨rfl, hC, rR⟩ | exact Z _ _ ⟨u8_nat _, hC, rR⟩ | (refine Z _ _ ⟨congrArg (Value.int _) ?_, hC, rR⟩; have := hx.fp; have := hx.tp; have := hx.seq; have := hx.ack; have := hx.id; have := hx.hops; have := hx.proto; have := hx.h1; have := hx.l1; have := hx.h2; have := hx.l2; omega) | (refine Z _ _ ⟨congrArg (Value.int _) ?_, hC, rR⟩; simp only [IntKind.wrap_u64]; have := hx.fp; have := hx.tp; have := hx.seq; have := hx.ack; have := hx.id; have := hx.hops; have := hx.proto; have := hx.h1; have := hx.l1; have := hx.h2; have := hx.l2; omega)
   ·intro T wx n hC (hn : n ≤ 0) hp
    obtain ⟨(d0 : Ds.R (⟨w1.heap.size, w1, (.slice none 0 0), false, P0⟩ : RC) (.own 0 ([])) (T 0) n wx), (d3 : T 3 = .int .u64 ((x.fp : Nat) : Int)), -⟩ := hp
    obtain ⟨hO, hGo⟩ := d0.2 (by omega)
    have hk0 := d0.1
    have hk : n = 0 := by omega
    refine Op1.g fun _ Z => ?_; go_simp; exact calls_post (put_ob (c := (⟨w1.heap.size, w1, (.slice none 0 0), false, P0⟩ : RC)) hB hC hk hO hGo (.inl rfl) (x.fp) 2 (by have := hx.fp; have := hx.tp; have := hx.seq; have := hx.ack; have := hx.id; have := hx.hops; have := hx.proto; have := hx.h1; have := hx.l1; have := hx.h2; have := hx.l2; omega) (by omega) (by first | omega | (simp <;> (repeat' split) <;> omega))) Z
   ·intro T wx n hC (hn : n ≤ 1) hp
    refine Op1.g fun _ Z => ?_; go_simp; exact Z _ _ ⟨rfl, hC, rR⟩
   ·intro T wx n hC (hn : n ≤ 1) hp
    obtain ⟨(d5 : T 5 = .pointer (some ⟨P0, 9, none⟩)), -⟩ := hp
    obtain ⟨-, -, -, -, -, -, -, -, -, c9, -, -, -, -, -, -, -, -, -, f0⟩ := np_cells (show PBlk wx P0 (x.pv (.slice pa pay.length pc)) from hC.2.2.trans HF.out.p)
    refine Op1.g fun _ Z => ?_; go_simp; exact Z _ _ ⟨rfl, hC, rR⟩
   ·intro T wx n hC (hn : n ≤ 1) hp
    obtain ⟨(d6 : T 6 = .int .i64 ((x.tp : Nat) : Int)), -⟩ := hp
    refine Op1.g fun _ Z => ?_; go_simp
    first | exact Z _ _ ⟨rfl, hC, rR⟩ | exact Z _ _ ⟨u8_nat _, hC, rR⟩ | (refine Z _ _ ⟨congrArg (Value.int _) ?_, hC, rR⟩; have := hx.fp; have := hx.tp; have := hx.seq; have := hx.ack; have := hx.id; have := hx.hops; have := hx.proto; have := hx.h1; have := hx.l1; have := hx.h2; have := hx.l2; omega) | (refine Z _ _ ⟨congrArg (Value.int _) ?_, hC, rR⟩; simp only [IntKind.wrap_u64]; have := hx.fp; have := hx.tp; have := hx.seq; have := hx.ack; have := hx.id; have := hx.hops; have := hx.proto; have := hx.h1; have := hx.l1; have := hx.h2; have := hx.l2; omega)
   ·intro T wx n hC (hn : n ≤ 1) hp
    obtain ⟨(d4 : Ds.R (⟨w1.heap.size, w1, (.slice none 0 0), false, P0⟩ : RC) (.own 1 ([] ++ be (x.fp) 2)) (T 4) n wx), (d7 : T 7 = .int .u64 ((x.tp : Nat) : Int)), -⟩ := hp
    obtain ⟨hO, hGo⟩ := d4.2 (by omega)
    have hk0 := d4.1
    have hk : n = 1 := by omega
    refine Op1.g fun _ Z => ?_; go_simp; exact calls_post (put_ob (c := (⟨w1.heap.size, w1, (.slice none 0 0), false, P0⟩ : RC)) hB hC hk hO hGo (.inl rfl) (x.tp) 2 (by have := hx.fp; have := hx.tp; have := hx.seq; have := hx.ack; have := hx.id; have := hx.hops; have := hx.proto; have := hx.h1; have := hx.l1; have := hx.h2; have := hx.l2; omega) (by omega) (by first | omega | (simp [be_len] <;> (repeat' split) <;> omega))) Z
  case hend2 =>
   intro T wx ⟨n, hn, hC, hR⟩
   obtain ⟨HO3, HG3⟩ : OwnB wx w1.heap.size (T 8) ([] ++ be (x.fp) 2 ++ be (x.tp) 2) ∧ Grew w1 wx (.slice none 0 0) (T 8) := (show Ds.R (⟨w1.heap.size, w1, (.slice none 0 0), false, P0⟩ : RC) (.own 2 ([] ++ be (x.fp) 2 ++ be (x.tp) 2)) (T 8) n wx from hR 8 (by omega)).2 (by omega)
   generalize T 8 = v3 at *
   have HO3 := Lib.hid HO3
   have HG3 := Lib.hid HG3
   have HC := Lib.hid hC.1
   have hB2 := hC.size
   clear hR hC
   have HF4 := Lib.hid (HF.out.below HC.out)
   have HO4 := HO3
   clear HC HF HB HG3 HO3 hB
   go_upto_region 7 with fail
   have hB : RC.fine (⟨w1.heap.size, wx, v3, false, P0⟩ : RC) := HF4.out.fine (own_base HO4.out)
   refine Lm.wp_region_lim 9 2 (fun p vv nn ww => (List.getD ((.own 0 ([] ++ be (x.fp) 2 ++ be (x.tp) 2)) :: (.val (.pointer (some ⟨P0, 14, none⟩))) :: (.val (.int .i64 ((x.seq : Nat) : Int))) :: (.val (.int .u64 ((x.seq : Nat) : Int))) :: (.own 1 ([] ++ be (x.fp) 2 ++ be (x.tp) 2 ++ be (x.seq) 4)) :: (.val (.pointer (some ⟨P0, 15, none⟩))) :: (.val (.int .i64 ((x.ack : Nat) : Int))) :: (.val (.int .u64 ((x.ack : Nat) : Int))) :: (.own 2 ([] ++ be (x.fp) 2 ++ be (x.tp) 2 ++ be (x.seq) 4 ++ be (x.ack) 4)) :: [] : List Ds) p .any).R (⟨w1.heap.size, wx, v3, false, P0⟩ : RC) vv nn ww) (RC.C (⟨w1.heap.size, wx, v3, false, P0⟩ : RC)) (RC.S (⟨w1.heap.size, wx, v3, false, P0⟩ : RC)) (fun i => if i = 4 ∨ i = 8 then 1 else 0) (fun i => if i = 5 ∨ i = 6 ∨ i = 7 ∨ i = 8 then 1 else 0)
    (by kernel_rfl) (by kernel_rfl) (by decide) (by kernel_rfl) (fun p vv nn ww n' w' h hs => ds_keep hB _ rfl p vv nn ww n' w' h hs) RC.start ?hX3
   case' hX3 => (apply Exists.intro; refine ⟨fun T => ?hA3, ?hob3, ?hend3⟩)
   case hA3 =>
    simp only [setAll, List.take_succ_cons, List.take_zero, Act.put, List.setIfInBounds_toArray, List.set_cons_succ, List.set_cons_zero, Nat.reduceAdd]
    exact rfl
   case hob3 =>
    refine ⟨?_, ?_, ?_, ?_, ?_, ?_, ?_, ?_, ?_, trivial⟩
    ·intro T wy n hC hn hp
     have hn : n ≤ 0 := hn
     refine Op1.g fun _ Z => ?_; go_simp
     have hz : n = 0 := by omega
     exact Z _ _ ⟨own0 hC hz HO4.out, hC, rR⟩
    ·intro T wy n hC hn hp
     have hn : n ≤ 0 := hn
     refine Op1.g fun _ Z => ?_; go_simp; exact Z _ _ ⟨rfl, hC, rR⟩
    ·intro T wy n hC hn hp
     have hn : n ≤ 0 := hn
     obtain ⟨(d1 : T 1 = .pointer (some ⟨P0, 14, none⟩)), -⟩ := hp
     obtain ⟨-, -, -, -, -, -, -, -, -, -, -, -, -, -, c14, -, -, -, -, f0⟩ := np_cells (show PBlk wy P0 (x.pv (.slice pa pay.length pc)) from hC.2.2.trans HF4.out.p)
     refine Op1.g fun _ Z => ?_; go_simp; exact Z _ _ ⟨rfl, hC, rR⟩
    ·intro T wy n hC hn hp
     have hn : n ≤ 0 := hn
     obtain ⟨(d2 : T 2 = .int .i64 ((x.seq : Nat) : Int)), -⟩ := hp
     refine Op1.g fun _ Z => ?_; go_simp
     first | exact Z _ _ ⟨rfl, hC, rR⟩ | exact Z _ _ ⟨u8_nat _, hC, rR⟩ | (refine Z _ _ ⟨congrArg (Value.int _) ?_, hC, rR⟩; have := hx.fp; have := hx.tp; have := hx.seq; have := hx.ack; have := hx.id; have := hx.hops; have := hx.proto; have := hx.h1; have := hx.l1; have := hx.h2; have := hx.l2; omega) | (refine Z _ _ ⟨congrArg (Value.int _) ?_, hC, rR⟩; simp only [IntKind.wrap_u64]; have := hx.fp; have := hx.tp; have := hx.seq; have := hx.ack; have := hx.id; have := hx.hops; have := hx.proto; have := hx.h1; have := hx.l1; have := hx.h2; have := hx.l2; omega)
    ·intro T wy n hC hn hp
     have hn : n ≤ 0 := hn
     obtain ⟨(d0 : Ds.R (⟨w1.heap.size, wx, v3, false, P0⟩ : RC) (.own 0 ([] ++ be (x.fp) 2 ++ be (x.tp) 2)) (T 0) n wy), (d3 : T 3 = .int .u64 ((x.seq : Nat) : Int)), -⟩ := hp
     obtain ⟨hO, hGo⟩ := d0.2 (by omega)
     have hk0 := d0.1
     have hk : n = 0 := by omega
     refine Op1.g fun _ Z => ?_; go_simp; exact calls_post (put_ob (c := (⟨w1.heap.size, wx, v3, false, P0⟩ : RC)) hB hC hk hO hGo (.inl rfl) (x.seq) 4 (by have := hx.fp; have := hx.tp; have := hx.seq; have := hx.ack; have := hx.id; have := hx.hops; have := hx.proto; have := hx.h1; have := hx.l1; have := hx.h2; have := hx.l2; omega) (by omega) (by first | omega | (simp [be_len] <;> (repeat' split) <;> omega))) Z
    ·intro T wy n hC hn hp
     have hn : n ≤ 1 := hn
     refine Op1.g fun _ Z => ?_; go_simp; exact Z _ _ ⟨rfl, hC, rR⟩
    ·intro T wy n hC hn hp
     have hn : n ≤ 1 := hn
     obtain ⟨(d5 : T 5 = .pointer (some ⟨P0, 15, none⟩)), -⟩ := hp
     obtain ⟨-, -, -, -, -, -, -, -, -, -, -, -, -, -, -, c15, -, -, -, f0⟩ := np_cells (show PBlk wy P0 (x.pv (.slice pa pay.length pc)) from hC.2.2.trans HF4.out.p)
     refine Op1.g fun _ Z => ?_; go_simp; exact Z _ _ ⟨rfl, hC, rR⟩
    ·intro T wy n hC hn hp
     have hn : n ≤ 1 := hn
     obtain ⟨(d6 : T 6 = .int .i64 ((x.ack : Nat) : Int)), -⟩ := hp
     refine Op1.g fun _ Z => ?_; go_simp
     first | exact Z _ _ ⟨rfl, hC, rR⟩ | exact Z _ _ ⟨u8_nat _, hC, rR⟩ | (refine Z _ _ ⟨congrArg (Value.int _) ?_, hC, rR⟩; have := hx.fp; have := hx.tp; have := hx.seq; have := hx.ack; have := hx.id; have := hx.hops; have := hx.proto; have := hx.h1; have := hx.l1; have := hx.h2; have := hx.l2; omega) | (refine Z _ _ ⟨congrArg (Value.int _) ?_, hC, rR⟩; simp only [IntKind.wrap_u64]; have := hx.fp; have := hx.tp; have := hx.seq; have := hx.ack; have := hx.id; have := hx.hops; have := hx.proto; have := hx.h1; have := hx.l1; have := hx.h2; have := hx.l2; omega)
    ·intro T wy n hC hn hp
     have hn : n ≤ 1 := hn
     obtain ⟨(d4 : Ds.R (⟨w1.heap.size, wx, v3, false, P0⟩ : RC) (.own 1 ([] ++ be (x.fp) 2 ++ be (x.tp) 2 ++ be (x.seq) 4)) (T 4) n wy), (d7 : T 7 = .int .u64 ((x.ack : Nat) : Int)), -⟩ := hp
     obtain ⟨hO, hGo⟩ := d4.2 (by omega)
     have hk0 := d4.1
     have hk : n = 1 := by omega
     refine Op1.g fun _ Z => ?_; go_simp; exact calls_post (put_ob (c := (⟨w1.heap.size, wx, v3, false, P0⟩ : RC)) hB hC hk hO hGo (.inl rfl) (x.ack) 4 (by have := hx.fp; have := hx.tp; have := hx.seq; have := hx.ack; have := hx.id; have := hx.hops; have := hx.proto; have := hx.h1; have := hx.l1; have := hx.h2; have := hx.l2; omega) (by omega) (by first | omega | (simp [be_len] <;> (repeat' split) <;> omega))) Z
   case hend3 =>
    intro T wy ⟨n, hn, hC, hR⟩
    obtain ⟨HO3, HG3⟩ : OwnB wy w1.heap.size (T 8) ([] ++ be (x.fp) 2 ++ be (x.tp) 2 ++ be (x.seq) 4 ++ be (x.ack) 4) ∧ Grew wx wy v3 (T 8) := (show Ds.R (⟨w1.heap.size, wx, v3, false, P0⟩ : RC) (.own 2 ([] ++ be (x.fp) 2 ++ be (x.tp) 2 ++ be (x.seq) 4 ++ be (x.ack) 4)) (T 8) n wy from hR 8 (by omega)).2 (by omega)
    generalize T 8 = v5 at *
    have HO3 := Lib.hid HO3
    have HG3 := Lib.hid HG3
    have HC := Lib.hid hC.1
    have hB2 := hC.size
    clear hR hC
    have HF5 := Lib.hid (HF4.out.below HC.out)
    have HO5 := HO3
    clear HC HF4 HO3 HO4 HG3
    obtain ⟨c0, c1, c2, c3, c4, c5, c6, c7, c8, c9, c10, c11, c12, c13, c14, c15, c16, c17, c18, f0⟩ := np_cells HF5.out.p
    go_wp2_with (first | (refine wpList_load_row rfl 45 (.tmp 1) rfl P0 rfl 45 (x.pv (.slice pa pay.length pc)).cells (0, 0) _ HF5.out.p Try.underlying45 rfl (by kernel_rfl) ?_) | fail)
    refine (flags_any x _ wy).mono ?_
    rintro e w6 ⟨rfl, hb⟩
    have HF6 := Lib.hid (HF5.out.later hb)
    have HO6 := Lib.hid (own_later HO5.out hb)
    clear hb
    clear c0 c1 c2 c3 c4 c5 c6 c7 c8 c9 c10 c11 c12 c13 c14 c15 c16 c17 c18 f0
    go_wp2_with (refine wpList_build_fs [80, b8 (flagN x), 255, 255, 0, 0, 0, 0] _ _ rfl rfl _ rfl (by go_simp; rfl) rfl (.tmp 40) (.tmp 43) rfl rfl HO6.out rfl (by simp [be_len]) (by simp) HF6.out ?_)
    intro v7 w7 HO7 HF7
    go_upto_region 13 with fail
    have hsz2 := HF7.out.bl.size
    obtain ⟨c0, c1, c2, c3, c4, c5, c6, c7, c8, c9, c10, c11, c12, c13, c14, c15, c16, c17, c18, f0⟩ := np_cells HF7.out.p
    go_wp2_with (at_builtin; refine wpList_fs rfl (.tmp 66) (.tmp 68) rfl rfl HO7.out rfl HF7.out.rb (by first | omega | (simp [be_len] <;> (repeat' split) <;> omega)) (by omega) HF7.out ?_)
    intro v9 w9 HO9 HF9
    go_wp2_with fail
    go_ret
    have hP0 := HP0.out
    subst hP0
    exact ⟨_, rfl, OwnB.weak (by have := HO9.out; simpa [partB, h.out, List.append_assoc] using this) hsz, HB0.out.trans (HF9.out.bl.mono hsz)⟩
 ·rw [h] at c7
  have h := Lib.hid h
  go_upto_region 10 with fail
  clear c0 c1 c2 c3 c4 c5 c6 c7 c8 c9 c10 c11 c12 c13 c14 c15 c16 c17 c18 f0
  have hB : RC.fine (⟨w1.heap.size, w1, (.slice none 0 0), false, P0⟩ : RC) := HF.out.fine (fun k hk => by cases hk)
  refine Lm.wp_region_lim 9 2 (fun p vv nn ww => (List.getD ((.own 0 ([])) :: (.val (.pointer (some ⟨P0, 8, none⟩))) :: (.val (.int .i64 ((x.fp : Nat) : Int))) :: (.val (.int .u64 ((x.fp : Nat) : Int))) :: (.own 1 ([] ++ be (x.fp) 2)) :: (.val (.pointer (some ⟨P0, 9, none⟩))) :: (.val (.int .i64 ((x.tp : Nat) : Int))) :: (.val (.int .u64 ((x.tp : Nat) : Int))) :: (.own 2 ([] ++ be (x.fp) 2 ++ be (x.tp) 2)) :: [] : List Ds) p .any).R (⟨w1.heap.size, w1, (.slice none 0 0), false, P0⟩ : RC) vv nn ww) (RC.C (⟨w1.heap.size, w1, (.slice none 0 0), false, P0⟩ : RC)) (RC.S (⟨w1.heap.size, w1, (.slice none 0 0), false, P0⟩ : RC)) (fun i => if i = 4 ∨ i = 8 then 1 else 0) (fun i => if i = 5 ∨ i = 6 ∨ i = 7 ∨ i = 8 then 1 else 0)
   (by kernel_rfl) (by kernel_rfl) (by decide) (by kernel_rfl) (fun p vv nn ww n' w' h hs => ds_keep hB _ rfl p vv nn ww n' w' h hs) RC.start ?hX4
  case' hX4 => (apply Exists.intro; refine ⟨fun T => ?hA4, ?hob4, ?hend4⟩)
  case hA4 =>
   simp only [setAll, List.take_succ_cons, List.take_zero, Act.put, List.setIfInBounds_toArray, List.set_cons_succ, List.set_cons_zero, Nat.reduceAdd]
   exact rfl
  case hob4 =>
   refine ⟨?_, ?_, ?_, ?_, ?_, ?_, ?_, ?_, ?_, trivial⟩
   ·intro T wx n hC (hn : n ≤ 0) hp
    refine Op1.g fun _ Z => ?_; go_simp
    have hz : n = 0 := by omega
    exact Z _ _ ⟨own0 hC hz HB.out, hC, rR⟩
   ·intro T wx n hC (hn : n ≤ 0) hp
    refine Op1.g fun _ Z => ?_; go_simp; exact Z _ _ ⟨rfl, hC, rR⟩
   ·intro T wx n hC (hn : n ≤ 0) hp
    obtain ⟨(d1 : T 1 = .pointer (some ⟨P0, 8, none⟩)), -⟩ := hp
    obtain ⟨-, -, -, -, -, -, -, -, c8, -, -, -, -, -, -, -, -, -, -, f0⟩ := np_cells (show PBlk wx P0 (x.pv (.slice pa pay.length pc)) from hC.2.2.trans HF.out.p)
    refine Op1.g fun _ Z => ?_; go_simp; exact Z _ _ ⟨rfl, hC, rR⟩
   ·intro T wx n hC (hn : n ≤ 0) hp
    obtain ⟨(d2 : T 2 = .int .i64 ((x.fp : Nat) : Int)), -⟩ := hp
    refine Op1.g fun _ Z => ?_; go_simp
    first | exact Z _ _ ⟨rfl, hC, rR⟩ | exact Z _ _ ⟨u8_nat _, hC, rR⟩ | (refine Z _ _ ⟨congrArg (Value.int _) ?_, hC, rR⟩; have := hx.fp; have := hx.tp; have := hx.seq; have := hx.ack; have := hx.id; have := hx.hops; have := hx.proto; have := hx.h1; have := hx.l1; have := hx.h2; have := hx.l2; omega) | (refine Z _ _ ⟨congrArg (Value.int _) ?_, hC, rR⟩; simp only [IntKind.wrap_u64]; have := hx.fp; have := hx.tp; have := hx.seq; have := hx.ack; have := hx.id; have := hx.hops; have := hx.proto; have := hx.h1; have := hx.l1; have := hx.h2; have := hx.l2; omega)
   ·intro T wx n hC (hn : n ≤ 0) hp
    obtain ⟨(d0 : Ds.R (⟨w1.heap.size, w1, (.slice none 0 0), false, P0⟩ : RC) (.own 0 ([])) (T 0) n wx), (d3 : T 3 = .int .u64 ((x.fp : Nat) : Int)), -⟩ := hp
    obtain ⟨hO, hGo⟩ := d0.2 (by omega)
    have hk0 := d0.1
    have hk : n = 0 := by omega
    refine Op1.g fun _ Z => ?_; go_simp; exact calls_post (put_ob (c := (⟨w1.heap.size, w1, (.slice none 0 0), false, P0⟩ : RC)) hB hC hk hO hGo (.inl rfl) (x.fp) 2 (by have := hx.fp; have := hx.tp; have := hx.seq; have := hx.ack; have := hx.id; have := hx.hops; have := hx.proto; have := hx.h1; have := hx.l1; have := hx.h2; have := hx.l2; omega) (by omega) (by first | omega | (simp <;> (repeat' split) <;> omega))) Z
   ·intro T wx n hC (hn : n ≤ 1) hp
    refine Op1.g fun _ Z => ?_; go_simp; exact Z _ _ ⟨rfl, hC, rR⟩
   ·intro T wx n hC (hn : n ≤ 1) hp
    obtain ⟨(d5 : T 5 = .pointer (some ⟨P0, 9, none⟩)), -⟩ := hp
    obtain ⟨-, -, -, -, -, -, -, -, -, c9, -, -, -, -, -, -, -, -, -, f0⟩ := np_cells (show PBlk wx P0 (x.pv (.slice pa pay.length pc)) from hC.2.2.trans HF.out.p)
    refine Op1.g fun _ Z => ?_; go_simp; exact Z _ _ ⟨rfl, hC, rR⟩
   ·intro T wx n hC (hn : n ≤ 1) hp
    obtain ⟨(d6 : T 6 = .int .i64 ((x.tp : Nat) : Int)), -⟩ := hp
    refine Op1.g fun _ Z => ?_; go_simp
    first | exact Z _ _ ⟨rfl, hC, rR⟩ | exact Z _ _ ⟨u8_nat _, hC, rR⟩ | (refine Z _ _ ⟨congrArg (Value.int _) ?_, hC, rR⟩; have := hx.fp; have := hx.tp; have := hx.seq; have := hx.ack; have := hx.id; have := hx.hops; have := hx.proto; have := hx.h1; have := hx.l1; have := hx.h2; have := hx.l2; omega) | (refine Z _ _ ⟨congrArg (Value.int _) ?_, hC, rR⟩; simp only [IntKind.wrap_u64]; have := hx.fp; have := hx.tp; have := hx.seq; have := hx.ack; have := hx.id; have := hx.hops; have := hx.proto; have := hx.h1; have := hx.l1; have := hx.h2; have := hx.l2; omega)
   ·intro T wx n hC (hn : n ≤ 1) hp
    obtain ⟨(d4 : Ds.R (⟨w1.heap.size, w1, (.slice none 0 0), false, P0⟩ : RC) (.own 1 ([] ++ be (x.fp) 2)) (T 4) n wx), (d7 : T 7 = .int .u64 ((x.tp : Nat) : Int)), -⟩ := hp
    obtain ⟨hO, hGo⟩ := d4.2 (by omega)
    have hk0 := d4.1
    have hk : n = 1 := by omega
    refine Op1.g fun _ Z => ?_; go_simp; exact calls_post (put_ob (c := (⟨w1.heap.size, w1, (.slice none 0 0), false, P0⟩ : RC)) hB hC hk hO hGo (.inl rfl) (x.tp) 2 (by have := hx.fp; have := hx.tp; have := hx.seq; have := hx.ack; have := hx.id; have := hx.hops; have := hx.proto; have := hx.h1; have := hx.l1; have := hx.h2; have := hx.l2; omega) (by omega) (by first | omega | (simp [be_len] <;> (repeat' split) <;> omega))) Z
  case hend4 =>
   intro T wx ⟨n, hn, hC, hR⟩
   obtain ⟨HO3, HG3⟩ : OwnB wx w1.heap.size (T 8) ([] ++ be (x.fp) 2 ++ be (x.tp) 2) ∧ Grew w1 wx (.slice none 0 0) (T 8) := (show Ds.R (⟨w1.heap.size, w1, (.slice none 0 0), false, P0⟩ : RC) (.own 2 ([] ++ be (x.fp) 2 ++ be (x.tp) 2)) (T 8) n wx from hR 8 (by omega)).2 (by omega)
   generalize T 8 = v3 at *
   have HO3 := Lib.hid HO3
   have HG3 := Lib.hid HG3
   have HC := Lib.hid hC.1
   have hB2 := hC.size
   clear hR hC
   have HF4 := Lib.hid (HF.out.below HC.out)
   have HO4 := HO3
   clear HC HF HB HG3 HO3
   obtain ⟨c0, c1, c2, c3, c4, c5, c6, c7, c8, c9, c10, c11, c12, c13, c14, c15, c16, c17, c18, f0⟩ := np_cells HF4.out.p
   go_wp2_with fail
   refine (put_fs HF4.out HO4.out (8 + pay.length) 2 (by omega) (by omega) (by simp [be_len])).mono ?_
   rintro e w5 ⟨v5, rfl, HO5, HF5⟩
   clear c0 c1 c2 c3 c4 c5 c6 c7 c8 c9 c10 c11 c12 c13 c14 c15 c16 c17 c18 f0
   go_wp2_with (refine wpList_build_fs [0, 0] _ _ rfl rfl _ rfl (by go_simp; rfl) rfl (.tmp 63) (.tmp 64) rfl rfl HO5.out rfl (by simp [be_len]) (by simp) HF5.out ?_)
   intro v7 w7 HO7 HF7
   go_upto_region 13 with fail
   have hsz2 := HF7.out.bl.size
   obtain ⟨c0, c1, c2, c3, c4, c5, c6, c7, c8, c9, c10, c11, c12, c13, c14, c15, c16, c17, c18, f0⟩ := np_cells HF7.out.p
   go_wp2_with (at_builtin; refine wpList_fs rfl (.tmp 66) (.tmp 68) rfl rfl HO7.out rfl HF7.out.rb (by first | omega | (simp [be_len] <;> (repeat' split) <;> omega)) (by omega) HF7.out ?_)
   intro v9 w9 HO9 HF9
   go_wp2_with fail
   go_ret
   have hP0 := HP0.out
   subst hP0
   exact ⟨_, rfl, OwnB.weak (by have := HO9.out; simpa [partB, h.out, List.append_assoc] using this) hsz, HB0.out.trans (HF9.out.bl.mono hsz)⟩
end Go.Proofs.Ytakjopbdkkcnlaa
