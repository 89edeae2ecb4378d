/-
  A right packet is written: the sum of a part.
-/
import Derived.Test.YtakjopbdkkcnlaaPR8
import Derived.Deep.Cut
set_option linter.unusedVariables false
namespace Go.Proofs.Ytakjopbdkkcnlaa
open Go.RowKit Go
set_option linter.unusedVariables false

set_option maxRecDepth 100000 in
set_option maxHeartbeats 4000000 in
theorem partSum_any (x : NP) (hx : x.fit) (pa : Option Addr) (pc : Nat) (pay : List UInt8) (w : World) (hr : Rb w.heap.size w (.slice pa pay.length pc) pay) (hpl : pay.length ≤ 1401) (pv : Value) (part : List UInt8) (hpt : Rb w.heap.size w pv part) (hl : part.length ≤ 2000) :
  Calls Try.prog 75 #[.agg (x.pv (.slice pa pay.length pc)).cells, pv] w (Ret (.int .i64 ((partSumN x part : Nat) : Int)) w) := by
 obtain ⟨qa, qc, rfl, -⟩ := id hpt
 have HR : Hid (Rb (w.alloc (.cells (x.pv (.slice pa pay.length pc)).cells 45 (0, 0))).heap.size (w.alloc (.cells (x.pv (.slice pa pay.length pc)).cells 45 (0, 0))) (.slice qa part.length qc) part) := Lib.hid ((hpt.below (below_alloc (Below.refl _ _) _)).mono (by simp))
 clear hpt
 have HF := Lib.hid (FS.start (x := x.pv (.slice pa pay.length pc)) hr)
 have hsz : w.heap.size ≤ (w.alloc (.cells (x.pv (.slice pa pay.length pc)).cells 45 (0, 0))).heap.size := by simp
 have HB0 : Hid (Below w.heap.size w (w.alloc (.cells (x.pv (.slice pa pay.length pc)).cells 45 (0, 0)))) := Lib.hid (below_alloc (Below.refl _ _) _)
 clear hr
 go_enter Try.func75, Try.ntmps75
 go_upto_region 2 with fail
 generalize w.alloc (.cells (x.pv (.slice pa pay.length pc)).cells 45 (0, 0)) = w1 at *
 generalize hP0 : w.heap.size = P0 at *
 have HP0 := Lib.hid hP0
 clear hP0
 have HB := Lib.hid (OwnB.nil w1 w1.heap.size)
 rcases hs : x.s1 with _ | _
 ·replace hs := Lib.hid hs
  obtain ⟨c0, -, -, -, -, -, -, c7, -, -, -, -, -, -, -, -, -, -, -, f0⟩ := np_cells HF.out.p
  rw [hs.out] at c0
  by_cases hq : x.proto = 1
  ·rw [hq] at c7
   replace hq := Lib.hid hq
   have hlen := aheadB_len x part.length
   go_wp2_with (at_builtin; refine wpList_fs rfl (.tmp 49) (.tmp 50) rfl rfl HB.out rfl (HR.out.below HF.out.bl) (by first | omega | (simp <;> (repeat' split) <;> omega)) (by first | omega | (simp [be_len, addrB_len, bodyB_len, partB_len, leastN] <;> (repeat' split) <;> omega)) HF.out ?_)
   intro v9 w9 HO9 HF9
   have hdef := Lib.hid (show partSumN x part = if x.proto = 17 ∧ sumN (aheadB x part.length ++ part) = 0 then 65535 else sumN (aheadB x part.length ++ part) from rfl)
   have HOa : Hid (OwnB w9 w1.heap.size v9 (aheadB x part.length ++ part)) := Lib.hid (by have := HO9.out; simpa [aheadB, hs.out, hq.out, List.append_assoc] using this)
   have hlena : (aheadB x part.length ++ part).length ≤ 1000000 := by simp; omega
   clear HO9
   generalize aheadB x part.length ++ part = AL at *
   go_wp2_with fail
   refine (sum_rb (HOa.out.rb hlena)).mono ?_
   rintro e w10 ⟨rfl, rfl⟩
   generalize sumN AL = sn at *
   obtain ⟨c0, -, -, -, -, -, -, c7, -, -, -, -, -, -, -, -, -, -, -, f0⟩ := np_cells HF9.out.p
   have hP0 := HP0.out
   subst hP0
   have hbl := Lib.hid (HB0.out.trans (HF9.out.bl.mono hsz))
   by_cases h17 : x.proto = 17
   ·rw [h17] at c7
    go_wp2_with fail
    all_goals (go_ret; refine ⟨?_, hbl.out⟩; rw [hdef.out]; simp_all)
   ·have h17' : ¬ ((x.proto : Nat) : Int) = 17 := by omega
    go_wp2_with fail
    all_goals (go_ret; refine ⟨?_, hbl.out⟩; rw [hdef.out]; simp_all)
  ·have hq' : ¬ ((x.proto : Nat) : Int) = 1 := by omega
   replace hq := Lib.hid hq
   go_upto_region 6 with fail
   clear c0 c7 f0
   have hB : RC.fine (⟨w1.heap.size, w1, (.slice none 0 0), true, P0⟩ : RC) := HF.out.fine (fun k hk => by cases hk)
   refine Lm.wp_region_lim 12 3 (fun p vv nn ww => (List.getD ((.val (.slice none 0 0)) :: (.val (.pointer (some ⟨P0, 0, none⟩))) :: (.val (.agg #[.bool x.s1, .int .u64 ((x.h1 : Nat) : Int), .int .u64 ((x.l1 : Nat) : Int)])) :: (.own 1 ([] ++ addrB x.s1 x.h1 x.l1)) :: (.val (.pointer (some ⟨P0, 3, none⟩))) :: (.val (.agg #[.bool x.s2, .int .u64 ((x.h2 : Nat) : Int), .int .u64 ((x.l2 : Nat) : Int)])) :: (.own 2 ([] ++ addrB x.s1 x.h1 x.l1 ++ addrB x.s2 x.h2 x.l2)) :: (.val (.pointer (some ⟨P0, 7, none⟩))) :: (.val (.int .i64 ((x.proto : Nat) : Int))) :: (.val (encB (b8 (x.proto)))) :: (.arr 2 ([0, b8 (x.proto)])) :: (.own 3 ([] ++ addrB x.s1 x.h1 x.l1 ++ addrB x.s2 x.h2 x.l2 ++ [0, b8 (x.proto)])) :: [] : List Ds) p .any).R (⟨w1.heap.size, w1, (.slice none 0 0), true, P0⟩ : RC) vv nn ww) (RC.C (⟨w1.heap.size, w1, (.slice none 0 0), true, P0⟩ : RC)) (RC.S (⟨w1.heap.size, w1, (.slice none 0 0), true, P0⟩ : RC)) (fun i => if i = 3 ∨ i = 6 ∨ i = 11 then 1 else 0) (fun i => if i = 0 ∨ i = 1 ∨ i = 2 ∨ i = 3 then 0 else if i = 4 ∨ i = 5 ∨ i = 6 then 1 else 2)
    (by kernel_rfl) (by kernel_rfl) (by decide) (by kernel_rfl) (fun p vv nn ww n' w' h hs => ds_keep hB _ rfl p vv nn ww n' w' h hs) RC.start ?hX1
   case' hX1 => (apply Exists.intro; refine ⟨fun T => ?hA1, ?hob1, ?hend1⟩)
   case hA1 =>
    simp only [setAll, List.take_succ_cons, List.take_zero, Act.put, List.setIfInBounds_toArray, List.set_cons_succ, List.set_cons_zero, Nat.reduceAdd]
    exact rfl
   case hob1 =>
    refine ⟨?_, ?_, ?_, ?_, ?_, ?_, ?_, ?_, ?_, ?_, ?_, ?_, trivial⟩
    ·intro T wx n hC (hn : n ≤ 0) hp
     refine Op1.g fun _ Z => ?_; go_simp; exact Z _ _ ⟨rfl, hC, rR⟩
    ·intro T wx n hC (hn : n ≤ 0) hp
     refine Op1.g fun _ Z => ?_; go_simp; exact Z _ _ ⟨rfl, hC, rR⟩
    ·intro T wx n hC (hn : n ≤ 0) hp
     obtain ⟨(d1 : T 1 = .pointer (some ⟨P0, 0, none⟩)), -⟩ := hp
     obtain ⟨c0, c1, c2, -, -, -, -, -, -, -, -, -, -, -, -, -, -, -, -, f0⟩ := np_cells (show PBlk wx P0 (x.pv (.slice pa pay.length pc)) from hC.2.2.trans HF.out.p)
     refine Op1.g fun _ Z => ?_; go_simp; exact Z _ _ ⟨rfl, hC, rR⟩
    ·intro T wx n hC (hn : n ≤ 0) hp
     obtain ⟨(d0 : T 0 = .slice none 0 0), (d2 : T 2 = .agg #[.bool x.s1, .int .u64 ((x.h1 : Nat) : Int), .int .u64 ((x.l1 : Nat) : Int)]), -⟩ := hp
     have hO : OwnB wx (w1.heap.size) (.slice none 0 0) [] := OwnB.nil wx _
     have hGo := Grew.same (hC.2.1 (by omega)) (.slice none 0 0)
     have hk : n = 0 := by omega
     refine Op1.g fun _ Z => ?_; go_simp; exact calls_post (putAddr_ob (c := (⟨w1.heap.size, w1, (.slice none 0 0), true, P0⟩ : RC)) hB hC hk hO hGo (.inr (.inl rfl)) x.s1 x.h1 x.l1 hx.h1 hx.l1 (by first | omega | (simp <;> (repeat' split) <;> omega))) Z
    ·intro T wx n hC (hn : n ≤ 1) hp
     refine Op1.g fun _ Z => ?_; go_simp; exact Z _ _ ⟨rfl, hC, rR⟩
    ·intro T wx n hC (hn : n ≤ 1) hp
     obtain ⟨(d4 : T 4 = .pointer (some ⟨P0, 3, none⟩)), -⟩ := hp
     obtain ⟨-, -, -, c3, c4, c5, -, -, -, -, -, -, -, -, -, -, -, -, -, f0⟩ := np_cells (show PBlk wx P0 (x.pv (.slice pa pay.length pc)) from hC.2.2.trans HF.out.p)
     refine Op1.g fun _ Z => ?_; go_simp; exact Z _ _ ⟨rfl, hC, rR⟩
    ·intro T wx n hC (hn : n ≤ 1) hp
     obtain ⟨(d3 : Ds.R (⟨w1.heap.size, w1, (.slice none 0 0), true, P0⟩ : RC) (.own 1 ([] ++ addrB x.s1 x.h1 x.l1)) (T 3) n wx), (d5 : T 5 = .agg #[.bool x.s2, .int .u64 ((x.h2 : Nat) : Int), .int .u64 ((x.l2 : Nat) : Int)]), -⟩ := hp
     obtain ⟨hO, hGo⟩ := d3.2 (by omega)
     have hk0 := d3.1
     have hk : n = 1 := by omega
     refine Op1.g fun _ Z => ?_; go_simp; exact calls_post (putAddr_ob (c := (⟨w1.heap.size, w1, (.slice none 0 0), true, P0⟩ : RC)) hB hC hk hO hGo (.inr (.inr (by first | omega | (simp [addrB_len] <;> (repeat' split) <;> omega)))) x.s2 x.h2 x.l2 hx.h2 hx.l2 (by first | omega | (simp [addrB_len] <;> (repeat' split) <;> omega))) Z
    ·intro T wx n hC (hn : n ≤ 2) hp
     refine Op1.g fun _ Z => ?_; go_simp; exact Z _ _ ⟨rfl, hC, rR⟩
    ·intro T wx n hC (hn : n ≤ 2) hp
     obtain ⟨(d7 : T 7 = .pointer (some ⟨P0, 7, none⟩)), -⟩ := hp
     obtain ⟨-, -, -, -, -, -, -, c7, -, -, -, -, -, -, -, -, -, -, -, f0⟩ := np_cells (show PBlk wx P0 (x.pv (.slice pa pay.length pc)) from hC.2.2.trans HF.out.p)
     refine Op1.g fun _ Z => ?_; go_simp; exact Z _ _ ⟨rfl, hC, rR⟩
    ·intro T wx n hC (hn : n ≤ 2) hp
     obtain ⟨(d8 : T 8 = .int .i64 ((x.proto : Nat) : Int)), -⟩ := hp
     refine Op1.g fun _ Z => ?_; go_simp
     first | exact Z _ _ ⟨rfl, hC, rR⟩ | exact Z _ _ ⟨u8_nat _, hC, rR⟩ | (refine Z _ _ ⟨congrArg (Value.int _) ?_, hC, rR⟩; have := hx.fp; have := hx.tp; have := hx.seq; have := hx.ack; have := hx.id; have := hx.hops; have := hx.proto; have := hx.h1; have := hx.l1; have := hx.h2; have := hx.l2; omega) | (refine Z _ _ ⟨congrArg (Value.int _) ?_, hC, rR⟩; simp only [IntKind.wrap_u64, IntKind.wrap_i64, IntKind.wrap_u8]; have := hx.fp; have := hx.tp; have := hx.seq; have := hx.ack; have := hx.id; have := hx.hops; have := hx.proto; have := hx.h1; have := hx.l1; have := hx.h2; have := hx.l2; omega)
    ·intro T wx n hC (hn : n ≤ 2) hp
     obtain ⟨(d9 : T 9 = encB (b8 (x.proto))), -⟩ := hp
     refine Op1.g fun _ Z => ?_; go_simp; exact Z _ _ (arr_ok hB [0, b8 (x.proto)] hC _ rfl _ rfl)
    ·intro T wx n hC (hn : n ≤ 2) hp
     obtain ⟨(d6 : Ds.R (⟨w1.heap.size, w1, (.slice none 0 0), true, P0⟩ : RC) (.own 2 ([] ++ addrB x.s1 x.h1 x.l1 ++ addrB x.s2 x.h2 x.l2)) (T 6) n wx), (d10 : Ds.R (⟨w1.heap.size, w1, (.slice none 0 0), true, P0⟩ : RC) (.arr 2 ([0, b8 (x.proto)])) (T 10) n wx), -⟩ := hp
     obtain ⟨hO, hGo⟩ := d6.2 (by omega)
     obtain ⟨g2, q2, hg2⟩ := d10
     have hr2 : Rb wx.heap.size wx (T 10) _ := q2 ▸ rb_arr (hg2 (by omega)) (by first | omega | (simp <;> (repeat' split) <;> omega))
     have hk0 := d6.1
     have hk : n = 2 := by omega
     exact app_ob hB rfl hC hk rfl hO hGo (.inr (.inr (by first | omega | (simp [addrB_len] <;> (repeat' split) <;> omega)))) rfl hr2 (by first | omega | (simp [addrB_len] <;> (repeat' split) <;> omega)) (by first | omega | (simp <;> (repeat' split) <;> omega))
   case hend1 =>
    intro T wx ⟨n, hn, hC, hR⟩
    obtain ⟨HO5, HG5⟩ : OwnB wx w1.heap.size (T 11) ([] ++ addrB x.s1 x.h1 x.l1 ++ addrB x.s2 x.h2 x.l2 ++ [0, b8 (x.proto)]) ∧ Grew w1 wx (.slice none 0 0) (T 11) := (show Ds.R (⟨w1.heap.size, w1, (.slice none 0 0), true, P0⟩ : RC) (.own 3 ([] ++ addrB x.s1 x.h1 x.l1 ++ addrB x.s2 x.h2 x.l2 ++ [0, b8 (x.proto)])) (T 11) n wx from hR 11 (by omega)).2 (by omega)
    generalize T 11 = v5 at *
    have HO5 := Lib.hid HO5
    have HG5 := Lib.hid HG5
    have HC := Lib.hid hC.1
    have hB2 := hC.size
    clear hR hC
    have HF4 := Lib.hid (HF.out.below HC.out)
    have HO4 := HO5
    clear HC HF HB HG5 HO5 hB
    go_wp2_with fail
    refine (put_fs HF4.out HO4.out part.length 2 (by omega) (by omega) (by simp [addrB_len] <;> (repeat' split) <;> omega)).mono ?_
    rintro e w5 ⟨v5', rfl, HO5, HF5⟩
    have hlen := aheadB_len x part.length
    go_wp2_with (at_builtin; refine wpList_fs rfl (.tmp 49) (.tmp 50) rfl rfl HO5.out rfl (HR.out.below HF5.out.bl) (by first | omega | (simp [be_len, addrB_len] <;> (repeat' split) <;> omega)) (by first | omega | (simp [be_len, addrB_len, bodyB_len, partB_len, leastN] <;> (repeat' split) <;> omega)) HF5.out ?_)
    intro v9 w9 HO9 HF9
    have hdef := Lib.hid (show partSumN x part = if x.proto = 17 ∧ sumN (aheadB x part.length ++ part) = 0 then 65535 else sumN (aheadB x part.length ++ part) from rfl)
    have HOa : Hid (OwnB w9 w1.heap.size v9 (aheadB x part.length ++ part)) := Lib.hid (by have := HO9.out; simpa [aheadB, hs.out, hq.out, List.append_assoc] using this)
    have hlena : (aheadB x part.length ++ part).length ≤ 1000000 := by simp; omega
    clear HO9
    generalize aheadB x part.length ++ part = AL at *
    go_wp2_with fail
    refine (sum_rb (HOa.out.rb hlena)).mono ?_
    rintro e w10 ⟨rfl, rfl⟩
    generalize sumN AL = sn at *
    obtain ⟨c0, -, -, -, -, -, -, c7, -, -, -, -, -, -, -, -, -, -, -, f0⟩ := np_cells HF9.out.p
    have hP0 := HP0.out
    subst hP0
    have hbl := Lib.hid (HB0.out.trans (HF9.out.bl.mono hsz))
    by_cases h17 : x.proto = 17
    ·rw [h17] at c7
     go_wp2_with fail
     all_goals (go_ret; refine ⟨?_, hbl.out⟩; rw [hdef.out]; simp_all)
    ·have h17' : ¬ ((x.proto : Nat) : Int) = 17 := by omega
     go_wp2_with fail
     all_goals (go_ret; refine ⟨?_, hbl.out⟩; rw [hdef.out]; simp_all)
 ·replace hs := Lib.hid hs
  have hq := Lib.hid True.intro
  obtain ⟨c0, -, -, -, -, -, -, c7, -, -, -, -, -, -, -, -, -, -, -, f0⟩ := np_cells HF.out.p
  rw [hs.out] at c0
  go_upto_region 3 with fail
  clear c0 c7 f0
  have hB : RC.fine (⟨w1.heap.size, w1, (.slice none 0 0), false, P0⟩ : RC) := HF.out.fine (fun k hk => by cases hk)
  refine Lm.wp_region_lim 11 3 (fun p vv nn ww => (List.getD ((.val (.slice none 0 0)) :: (.val (.pointer (some ⟨P0, 0, none⟩))) :: (.val (.agg #[.bool x.s1, .int .u64 ((x.h1 : Nat) : Int), .int .u64 ((x.l1 : Nat) : Int)])) :: (.own 1 ([] ++ addrB x.s1 x.h1 x.l1)) :: (.val (.pointer (some ⟨P0, 3, none⟩))) :: (.val (.agg #[.bool x.s2, .int .u64 ((x.h2 : Nat) : Int), .int .u64 ((x.l2 : Nat) : Int)])) :: (.own 2 ([] ++ addrB x.s1 x.h1 x.l1 ++ addrB x.s2 x.h2 x.l2)) :: (.rd (part)) :: (.val (.int .i64 (((part).length : Nat) : Int))) :: (.val (.int .u64 (((part).length : Nat) : Int))) :: (.own 3 ([] ++ addrB x.s1 x.h1 x.l1 ++ addrB x.s2 x.h2 x.l2 ++ be ((part).length) 4)) :: [] : List Ds) p .any).R (⟨w1.heap.size, w1, (.slice none 0 0), false, P0⟩ : RC) vv nn ww) (RC.C (⟨w1.heap.size, w1, (.slice none 0 0), false, P0⟩ : RC)) (RC.S (⟨w1.heap.size, w1, (.slice none 0 0), false, P0⟩ : RC)) (fun i => if i = 3 ∨ i = 6 ∨ i = 10 then 1 else 0) (fun i => if i = 4 ∨ i = 5 ∨ i = 6 then 1 else if i = 7 ∨ i = 8 ∨ i = 9 ∨ i = 10 then 2 else 0)
   (by kernel_rfl) (by kernel_rfl) (by decide) (by kernel_rfl) (fun p vv nn ww n' w' h hs => ds_keep hB _ rfl p vv nn ww n' w' h hs) RC.start ?hX2
  case' hX2 => (apply Exists.intro; refine ⟨fun T => ?hA2, ?hob2, ?hend2⟩)
  case hA2 =>
   simp only [setAll, List.take_succ_cons, List.take_zero, Act.put, List.setIfInBounds_toArray, List.set_cons_succ, List.set_cons_zero, Nat.reduceAdd]
   exact rfl
  case hob2 =>
   refine ⟨?_, ?_, ?_, ?_, ?_, ?_, ?_, ?_, ?_, ?_, ?_, trivial⟩
   ·intro T wx n hC (hn : n ≤ 0) hp
    refine Op1.g fun _ Z => ?_; go_simp; exact Z _ _ ⟨rfl, hC, rR⟩
   ·intro T wx n hC (hn : n ≤ 0) hp
    refine Op1.g fun _ Z => ?_; go_simp; exact Z _ _ ⟨rfl, hC, rR⟩
   ·intro T wx n hC (hn : n ≤ 0) hp
    obtain ⟨(d1 : T 1 = .pointer (some ⟨P0, 0, none⟩)), -⟩ := hp
    obtain ⟨c0, c1, c2, -, -, -, -, -, -, -, -, -, -, -, -, -, -, -, -, f0⟩ := np_cells (show PBlk wx P0 (x.pv (.slice pa pay.length pc)) from hC.2.2.trans HF.out.p)
    refine Op1.g fun _ Z => ?_; go_simp; exact Z _ _ ⟨rfl, hC, rR⟩
   ·intro T wx n hC (hn : n ≤ 0) hp
    obtain ⟨(d0 : T 0 = .slice none 0 0), (d2 : T 2 = .agg #[.bool x.s1, .int .u64 ((x.h1 : Nat) : Int), .int .u64 ((x.l1 : Nat) : Int)]), -⟩ := hp
    have hO : OwnB wx (w1.heap.size) (.slice none 0 0) [] := OwnB.nil wx _
    have hGo := Grew.same (hC.2.1 (by omega)) (.slice none 0 0)
    have hk : n = 0 := by omega
    refine Op1.g fun _ Z => ?_; go_simp; exact calls_post (putAddr_ob (c := (⟨w1.heap.size, w1, (.slice none 0 0), false, P0⟩ : RC)) hB hC hk hO hGo (.inl rfl) x.s1 x.h1 x.l1 hx.h1 hx.l1 (by first | omega | (simp <;> (repeat' split) <;> omega))) Z
   ·intro T wx n hC (hn : n ≤ 1) hp
    refine Op1.g fun _ Z => ?_; go_simp; exact Z _ _ ⟨rfl, hC, rR⟩
   ·intro T wx n hC (hn : n ≤ 1) hp
    obtain ⟨(d4 : T 4 = .pointer (some ⟨P0, 3, none⟩)), -⟩ := hp
    obtain ⟨-, -, -, c3, c4, c5, -, -, -, -, -, -, -, -, -, -, -, -, -, f0⟩ := np_cells (show PBlk wx P0 (x.pv (.slice pa pay.length pc)) from hC.2.2.trans HF.out.p)
    refine Op1.g fun _ Z => ?_; go_simp; exact Z _ _ ⟨rfl, hC, rR⟩
   ·intro T wx n hC (hn : n ≤ 1) hp
    obtain ⟨(d3 : Ds.R (⟨w1.heap.size, w1, (.slice none 0 0), false, P0⟩ : RC) (.own 1 ([] ++ addrB x.s1 x.h1 x.l1)) (T 3) n wx), (d5 : T 5 = .agg #[.bool x.s2, .int .u64 ((x.h2 : Nat) : Int), .int .u64 ((x.l2 : Nat) : Int)]), -⟩ := hp
    obtain ⟨hO, hGo⟩ := d3.2 (by omega)
    have hk0 := d3.1
    have hk : n = 1 := by omega
    refine Op1.g fun _ Z => ?_; go_simp; exact calls_post (putAddr_ob (c := (⟨w1.heap.size, w1, (.slice none 0 0), false, P0⟩ : RC)) hB hC hk hO hGo (.inl rfl) x.s2 x.h2 x.l2 hx.h2 hx.l2 (by first | omega | (simp [addrB_len] <;> (repeat' split) <;> omega))) Z
   ·intro T wx n hC (hn : n ≤ 2) hp
    refine Op1.g fun _ Z => ?_; go_simp; exact Z _ _ ⟨HR.out, hC, rR⟩
   ·intro T wx n hC (hn : n ≤ 2) hp
    obtain ⟨(d7 : Ds.R (⟨w1.heap.size, w1, (.slice none 0 0), false, P0⟩ : RC) (.rd (part)) (T 7) n wx), -⟩ := hp
    obtain ⟨ad, cc, ev, -⟩ := d7
    refine Op1.g fun _ Z => ?_; go_simp; exact Z _ _ ⟨rfl, hC, rR⟩
   ·intro T wx n hC (hn : n ≤ 2) hp
    obtain ⟨(d8 : T 8 = .int .i64 (((part).length : Nat) : Int)), -⟩ := hp
    refine Op1.g fun _ Z => ?_; go_simp
    first | exact Z _ _ ⟨rfl, hC, rR⟩ | exact Z _ _ ⟨u8_nat _, hC, rR⟩ | (refine Z _ _ ⟨congrArg (Value.int _) ?_, hC, rR⟩; have := hx.fp; have := hx.tp; have := hx.seq; have := hx.ack; have := hx.id; have := hx.hops; have := hx.proto; have := hx.h1; have := hx.l1; have := hx.h2; have := hx.l2; omega) | (refine Z _ _ ⟨congrArg (Value.int _) ?_, hC, rR⟩; simp only [IntKind.wrap_u64]; have := hx.fp; have := hx.tp; have := hx.seq; have := hx.ack; have := hx.id; have := hx.hops; have := hx.proto; have := hx.h1; have := hx.l1; have := hx.h2; have := hx.l2; omega)
   ·intro T wx n hC (hn : n ≤ 2) hp
    obtain ⟨(d6 : Ds.R (⟨w1.heap.size, w1, (.slice none 0 0), false, P0⟩ : RC) (.own 2 ([] ++ addrB x.s1 x.h1 x.l1 ++ addrB x.s2 x.h2 x.l2)) (T 6) n wx), (d9 : T 9 = .int .u64 (((part).length : Nat) : Int)), -⟩ := hp
    obtain ⟨hO, hGo⟩ := d6.2 (by omega)
    have hk0 := d6.1
    have hk : n = 2 := by omega
    refine Op1.g fun _ Z => ?_; go_simp; exact calls_post (put_ob (c := (⟨w1.heap.size, w1, (.slice none 0 0), false, P0⟩ : RC)) hB hC hk hO hGo (.inl rfl) ((part).length) 4 (by have := hx.fp; have := hx.tp; have := hx.seq; have := hx.ack; have := hx.id; have := hx.hops; have := hx.proto; have := hx.h1; have := hx.l1; have := hx.h2; have := hx.l2; omega) (by omega) (by first | omega | (simp [addrB_len] <;> (repeat' split) <;> omega))) Z
  case hend2 =>
   intro T wx ⟨n, hn, hC, hR⟩
   obtain ⟨HO5, HG5⟩ : OwnB wx w1.heap.size (T 10) ([] ++ addrB x.s1 x.h1 x.l1 ++ addrB x.s2 x.h2 x.l2 ++ be ((part).length) 4) ∧ Grew w1 wx (.slice none 0 0) (T 10) := (show Ds.R (⟨w1.heap.size, w1, (.slice none 0 0), false, P0⟩ : RC) (.own 3 ([] ++ addrB x.s1 x.h1 x.l1 ++ addrB x.s2 x.h2 x.l2 ++ be ((part).length) 4)) (T 10) n wx from hR 10 (by omega)).2 (by omega)
   generalize T 10 = v5 at *
   have HO5 := Lib.hid HO5
   have HG5 := Lib.hid HG5
   have HC := Lib.hid hC.1
   have hB2 := hC.size
   clear hR hC
   have HF4 := Lib.hid (HF.out.below HC.out)
   have HO4 := HO5
   clear HC HF HB HG5 HO5 hB
   obtain ⟨c0, -, -, -, -, -, -, c7, -, -, -, -, -, -, -, -, -, -, -, f0⟩ := np_cells HF4.out.p
   go_wp2_with (first | (refine wpList_load_row rfl 45 (.tmp 2) rfl P0 rfl 45 (x.pv (.slice pa pay.length pc)).cells (0, 0) _ HF4.out.p Try.underlying45 rfl (by kernel_rfl) ?_) | fail)
   refine (wire_any x _ _ hx).mono ?_
   rintro e w5 ⟨rfl, hb⟩
   have HF5 := Lib.hid (HF4.out.later hb)
   have HO5 := Lib.hid (own_later HO4.out hb)
   clear hb c0 c7 f0
   go_wp2_with (refine wpList_build_fs [0, 0, 0, b8 (codeN x)] _ _ rfl rfl _ rfl (by go_simp; first | rfl | (rw [u8_nat]; rfl)) rfl (.tmp 22) (.tmp 26) rfl rfl HO5.out rfl (by simp [be_len, addrB_len] <;> (repeat' split) <;> omega) (by simp) HF5.out ?_)
   intro v6 w6 HO6 HF6
   have hlen := aheadB_len x part.length
   go_wp2_with (at_builtin; refine wpList_fs rfl (.tmp 49) (.tmp 50) rfl rfl HO6.out rfl (HR.out.below HF6.out.bl) (by first | omega | (simp [be_len, addrB_len] <;> (repeat' split) <;> omega)) (by first | omega | (simp [be_len, addrB_len, bodyB_len, partB_len, leastN] <;> (repeat' split) <;> omega)) HF6.out ?_)
   intro v9 w9 HO9 HF9
   have hdef := Lib.hid (show partSumN x part = if x.proto = 17 ∧ sumN (aheadB x part.length ++ part) = 0 then 65535 else sumN (aheadB x part.length ++ part) from rfl)
   have HOa : Hid (OwnB w9 w1.heap.size v9 (aheadB x part.length ++ part)) := Lib.hid (by have := HO9.out; simpa [aheadB, hs.out, hq.out, List.append_assoc] using this)
   have hlena : (aheadB x part.length ++ part).length ≤ 1000000 := by simp; omega
   clear HO9
   generalize aheadB x part.length ++ part = AL at *
   go_wp2_with fail
   refine (sum_rb (HOa.out.rb hlena)).mono ?_
   rintro e w10 ⟨rfl, rfl⟩
   generalize sumN AL = sn at *
   obtain ⟨c0, -, -, -, -, -, -, c7, -, -, -, -, -, -, -, -, -, -, -, f0⟩ := np_cells HF9.out.p
   have hP0 := HP0.out
   subst hP0
   have hbl := Lib.hid (HB0.out.trans (HF9.out.bl.mono hsz))
   by_cases h17 : x.proto = 17
   ·rw [h17] at c7
    go_wp2_with fail
    all_goals (go_ret; refine ⟨?_, hbl.out⟩; rw [hdef.out]; simp_all)
   ·have h17' : ¬ ((x.proto : Nat) : Int) = 17 := by omega
    go_wp2_with fail
    all_goals (go_ret; refine ⟨?_, hbl.out⟩; rw [hdef.out]; simp_all)
end Go.Proofs.Ytakjopbdkkcnlaa
