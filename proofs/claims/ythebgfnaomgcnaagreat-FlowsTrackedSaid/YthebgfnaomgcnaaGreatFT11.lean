/-
  Packets: the reference's PacketFault.
-/
import Derived.Test.YthebgfnaomgcnaaGreatFT9
import Derived.BigQuiet
import Derived.Deep.Cut
set_option linter.unusedVariables false
set_option maxRecDepth 100000
set_option maxHeartbeats 4000000
namespace Go.Proofs.YthebgfnaomgcnaaGreat
open Go.RowKit Go
theorem packetFault_any (x : PV) (pa : Option Addr) (pn pc : Nat) (w : World) (hx : x.ok) (hp : x.pay = .slice pa pn pc) : Calls Tryz.prog 93 #[.agg x.cells] w (Ret (.int .i64 (pktFault x pn)) w) := by
 have HP : Hid (PBlk (w.alloc (.cells x.cells 52 (0,0))) w.heap.size x) := Lib.hid (Blk.new w _ _)
 have HB : Hid (Below w.heap.size w (w.alloc (.cells x.cells 52 (0,0)))) := Lib.hid (below_alloc (Below.refl _ _) _)
 have HU := Lib.hid hx
 have hlt : w.heap.size < (w.alloc (.cells x.cells 52 (0,0))).heap.size := by simp
 have hUn := Lib.hid (show unusedB x = ((x.proto == 1 && (x.fp != 0 || x.tp != 0)) || (x.proto != 6 && (x.syn || x.fin || x.rst || x.has || x.ack != 0)) || (x.proto != 6 && x.proto != 1 && x.seq != 0) || (x.proto != 1 && (x.reply || x.id != 0))) from rfl)
 clear hx
 have hrf := Lib.hid (pktFault_ref x pn)
 go_enter Tryz.func93,Tryz.ntmps93
 go_upto_region 1 with fail
 generalize w.alloc (.cells x.cells 52 (0,0)) = w1 at *
 generalize hP0 : w.heap.size = P0 at *
 have HP0 := Lib.hid hP0
 clear hP0
 obtain ⟨c0,c1,c2,c3,c4,c5,c6,c7,c8,c9,c10,c11,c12,c13,c14,c15,c16,c17,c18,f0⟩ := PBlk.cells HP.out
 rw [hp] at c18
 go_wp2_with fail
 refine wp_loop_rounds 3 ?_
 rw [rounds_succ]
 go_upto_region 8 with (first | rw [rounds_succ] | (go_at_call 114;refine (addrFault_any _ _ _ _ (by first | exact HU.out.1 | exact HU.out.2.2.1) (by first | exact HU.out.2.1 | exact HU.out.2.2.2.1)).mono ?_;rintro e w' ⟨rfl,o,rfl⟩))
 ·go_wp2_with fail
  have hP0 := HP0.out
  subst hP0
  go_ret
  refine ⟨?_,HB.out.trans (Below.mono (by repeat (first | exact Below.refl _ _ | apply below_alloc)) (by omega))⟩
  have h1 : (aFault x.s1 x.h1 x.l1 != 0) = true := by assumption
  rw [hrf.out,if_pos (by simpa using h1)]
  rfl
 ·go_wp2_with fail
  have hP0 := HP0.out
  subst hP0
  go_ret
  refine ⟨?_,HB.out.trans (Below.mono (by repeat (first | exact Below.refl _ _ | apply below_alloc)) (by omega))⟩
  have h1 : (aFault x.s1 x.h1 x.l1 != 0) = false := by assumption
  have h2 : (aFault x.s2 x.h2 x.l2 != 0) = true := by assumption
  rw [hrf.out,if_neg (by simpa using h1),if_pos (by simpa using h2)]
  rfl
 ·refine gen_world (fun wx => Below w1.heap.size w1 wx) (by repeat (first | exact Below.refl _ _ | apply below_alloc)) ?_
  intro wx hbx
  clear c0 c1 c2 c3 c4 c5 c6 c7 c8 c9 c10 c11 c12 c13 c14 c15 c16 c17 c18 f0
  have HPx := Lib.hid (Blk.below HP.out hbx hlt)
  have HBx := Lib.hid (HB.out.trans (hbx.mono (Nat.le_of_lt hlt)))
  clear hbx HP HB
  obtain ⟨c0,c1,c2,c3,c4,c5,c6,c7,c8,c9,c10,c11,c12,c13,c14,c15,c16,c17,c18,f0⟩ := PBlk.cells HPx.out
  rw [hp] at c18
  clear c0 c1 c2 c3 c4 c5 c6 c7 c8 c9 c10 c11 c12 c13 c14 c15 c16 c17 c18 f0
  -- regions
  have ha1 : aFault x.s1 x.h1 x.l1 = 0 := by
   have : (aFault x.s1 x.h1 x.l1 != 0) = false := by assumption
   simpa using this
  have ha2 : aFault x.s2 x.h2 x.l2 = 0 := by
   have : (aFault x.s2 x.h2 x.l2 != 0) = false := by assumption
   simpa using this
  replace ha1 := Lib.hid ha1
  replace ha2 := Lib.hid ha2
  have HP := HPx
  clear HPx
  go_upto_region 8 with fail
  have hB : RC.fine (⟨wx.heap.size,wx,(.slice none 0 0),false,P0⟩ : RC) := ⟨Nat.le_refl _,Blk.lt HP.out,by simp [Value.ownBlock]⟩
  refine Lm.wp_region_lim 11 0 (fun p vv nn ww => (List.getD ((.val (.pointer (some ⟨P0,7,none⟩))) :: (.val (.int .i64 (x.proto))) :: (.val (.bool (x.proto == 6))) :: (.val (.pointer (some ⟨P0,7,none⟩))) :: (.val (.int .i64 (x.proto))) :: (.val (.bool (x.proto == 17))) :: (.val (.pointer (some ⟨P0,7,none⟩))) :: (.val (.int .i64 (x.proto))) :: (.val (.bool (x.proto == 1))) :: (.val (.bool (x.proto == 6))) :: (.val (.bool (x.proto == 17))) :: [] : List Ds) p .any).R (⟨wx.heap.size,wx,(.slice none 0 0),false,P0⟩ : RC) vv nn ww) (RC.C (⟨wx.heap.size,wx,(.slice none 0 0),false,P0⟩ : RC)) (RC.S (⟨wx.heap.size,wx,(.slice none 0 0),false,P0⟩ : RC)) (fun _ => 0) (fun _ => 0)
   (by kernel_rfl) (by kernel_rfl) (by decide) (by kernel_rfl) (fun p vv nn ww n' w' h hs => ds_keep hB _ rfl p vv nn ww n' w' h hs) RC.start ?hX1
  case' hX1 => (apply Exists.intro;refine ⟨fun T => ?hA1,?hob1,?hend1⟩)
  case hA1 =>
   simp only [setAll,List.take_succ_cons,List.take_zero,Act.put,List.setIfInBounds_toArray,List.set_cons_succ,List.set_cons_zero,Nat.reduceAdd]
   exact rfl
  case hob1 =>
   refine ⟨?_,?_,?_,?_,?_,?_,?_,?_,?_,?_,?_,trivial⟩
   ·intro T wx n hC (hn : n ≤ 0) hp
    refine Op1.g fun _ Z => ?_;go_simp;exact Z _ _ ⟨rfl,hC,rR⟩
   ·intro T wx n hC (hn : n ≤ 0) hp
    obtain ⟨(d0 : T 0 = .pointer (some ⟨P0,7,none⟩)), -⟩ := hp
    obtain ⟨-, -, -, -, -, -, -,c7, -, -, -, -, -, -, -, -, -, -, -,f0⟩ := PBlk.cells (show PBlk wx P0 x from hC.2.2.trans HP.out)
    refine Op1.g fun _ Z => ?_;go_simp;exact Z _ _ ⟨rfl,hC,rR⟩
   ·intro T wx n hC (hn : n ≤ 0) hp
    obtain ⟨(d1 : T 1 = .int .i64 (x.proto)), -⟩ := hp
    refine Op1.g fun _ Z => ?_;go_simp;exact Z _ _ ⟨rfl,hC,rR⟩
   ·intro T wx n hC (hn : n ≤ 0) hp
    refine Op1.g fun _ Z => ?_;go_simp;exact Z _ _ ⟨rfl,hC,rR⟩
   ·intro T wx n hC (hn : n ≤ 0) hp
    obtain ⟨(d3 : T 3 = .pointer (some ⟨P0,7,none⟩)), -⟩ := hp
    obtain ⟨-, -, -, -, -, -, -,c7, -, -, -, -, -, -, -, -, -, -, -,f0⟩ := PBlk.cells (show PBlk wx P0 x from hC.2.2.trans HP.out)
    refine Op1.g fun _ Z => ?_;go_simp;exact Z _ _ ⟨rfl,hC,rR⟩
   ·intro T wx n hC (hn : n ≤ 0) hp
    obtain ⟨(d4 : T 4 = .int .i64 (x.proto)), -⟩ := hp
    refine Op1.g fun _ Z => ?_;go_simp;exact Z _ _ ⟨rfl,hC,rR⟩
   ·intro T wx n hC (hn : n ≤ 0) hp
    refine Op1.g fun _ Z => ?_;go_simp;exact Z _ _ ⟨rfl,hC,rR⟩
   ·intro T wx n hC (hn : n ≤ 0) hp
    obtain ⟨(d6 : T 6 = .pointer (some ⟨P0,7,none⟩)), -⟩ := hp
    obtain ⟨-, -, -, -, -, -, -,c7, -, -, -, -, -, -, -, -, -, -, -,f0⟩ := PBlk.cells (show PBlk wx P0 x from hC.2.2.trans HP.out)
    refine Op1.g fun _ Z => ?_;go_simp;exact Z _ _ ⟨rfl,hC,rR⟩
   ·intro T wx n hC (hn : n ≤ 0) hp
    obtain ⟨(d7 : T 7 = .int .i64 (x.proto)), -⟩ := hp
    refine Op1.g fun _ Z => ?_;go_simp;exact Z _ _ ⟨rfl,hC,rR⟩
   ·intro T wx n hC (hn : n ≤ 0) hp
    obtain ⟨(d2 : T 2 = .bool (x.proto == 6)), -⟩ := hp
    refine Op1.g fun _ Z => ?_;go_simp;exact Z _ _ ⟨rfl,hC,rR⟩
   ·intro T wx n hC (hn : n ≤ 0) hp
    obtain ⟨(d5 : T 5 = .bool (x.proto == 17)), -⟩ := hp
    refine Op1.g fun _ Z => ?_;go_simp;exact Z _ _ ⟨rfl,hC,rR⟩
  case hend1 =>
   intro T wy1 ⟨n,hn,hC,hR⟩
   have r8 : T 8 = .bool (x.proto == 1) := hR 8 (by omega)
   rw [r8]
   clear r8
   have r6 : T 9 = .bool (x.proto == 6) := hR 9 (by omega)
   rw [r6]
   clear r6
   have r7 : T 10 = .bool (x.proto == 17) := hR 10 (by omega)
   rw [r7]
   clear r7
   have HC := Lib.hid hC.1
   have hB2 := hC.size
   clear hR hC
   replace HBx := Lib.hid (HBx.out.trans (HC.out.mono (Nat.le_of_lt (Blk.lt HP.out))))
   replace HP := Lib.hid (Blk.below HP.out HC.out (Blk.lt HP.out))
   clear HC hB hB2
   go_upto_region 9 with fail
   have hB : RC.fine (⟨wy1.heap.size,wy1,(.slice none 0 0),false,P0⟩ : RC) := ⟨Nat.le_refl _,Blk.lt HP.out,by simp [Value.ownBlock]⟩
   refine Lm.wp_region_seq 7 0 (fun p vv nn ww => (List.getD ((.val (.pointer (some ⟨P0,0,none⟩))) :: (.val (.pointer (some ⟨P0,0,none⟩))) :: (.val (.bool x.s1)) :: (.val (.pointer (some ⟨P0,3,none⟩))) :: (.val (.pointer (some ⟨P0,3,none⟩))) :: (.val (.bool x.s2)) :: (.val (.bool (x.s1 != x.s2))) :: [] : List Ds) p .any).R (⟨wy1.heap.size,wy1,(.slice none 0 0),false,P0⟩ : RC) vv nn ww) (RC.C (⟨wy1.heap.size,wy1,(.slice none 0 0),false,P0⟩ : RC)) (RC.S (⟨wy1.heap.size,wy1,(.slice none 0 0),false,P0⟩ : RC)) (fun _ => 0) (fun _ => 0)
    (by kernel_rfl) (by kernel_rfl) (by decide) (by kernel_rfl) (fun p vv nn ww n' w' h hs => ds_keep hB _ rfl p vv nn ww n' w' h hs) RC.start0 ?hX2
   case' hX2 => (apply Exists.intro;refine ⟨fun T => ?hA2,?hob2,?hend2⟩)
   case hA2 =>
    simp only [setAll,List.take_succ_cons,List.take_zero,Act.put,List.setIfInBounds_toArray,List.set_cons_succ,List.set_cons_zero,Nat.reduceAdd]
    exact rfl
   case hob2 =>
    refine ⟨?_,?_,?_,?_,?_,?_,?_,trivial⟩
    ·intro T wx n hC (hn : n ≤ 0) hp
     refine Op1.g fun _ Z => ?_;go_simp;exact Z _ _ ⟨rfl,hC,rR⟩
    ·intro T wx n hC (hn : n ≤ 0) hp
     obtain ⟨(d0 : T 0 = .pointer (some ⟨P0,0,none⟩)), -⟩ := hp
     refine Op1.g fun _ Z => ?_;go_simp;exact Z _ _ ⟨rfl,hC,rR⟩
    ·intro T wx n hC (hn : n ≤ 0) hp
     obtain ⟨(d1 : T 1 = .pointer (some ⟨P0,0,none⟩)), -⟩ := hp
     obtain ⟨c0, -, -, -, -, -, -, -, -, -, -, -, -, -, -, -, -, -, -,f0⟩ := PBlk.cells (show PBlk wx P0 x from hC.2.2.trans HP.out)
     refine Op1.g fun _ Z => ?_;go_simp;exact Z _ _ ⟨rfl,hC,rR⟩
    ·intro T wx n hC (hn : n ≤ 0) hp
     refine Op1.g fun _ Z => ?_;go_simp;exact Z _ _ ⟨rfl,hC,rR⟩
    ·intro T wx n hC (hn : n ≤ 0) hp
     obtain ⟨(d3 : T 3 = .pointer (some ⟨P0,3,none⟩)), -⟩ := hp
     refine Op1.g fun _ Z => ?_;go_simp;exact Z _ _ ⟨rfl,hC,rR⟩
    ·intro T wx n hC (hn : n ≤ 0) hp
     obtain ⟨(d4 : T 4 = .pointer (some ⟨P0,3,none⟩)), -⟩ := hp
     obtain ⟨-, -, -,c3, -, -, -, -, -, -, -, -, -, -, -, -, -, -, -,f0⟩ := PBlk.cells (show PBlk wx P0 x from hC.2.2.trans HP.out)
     refine Op1.g fun _ Z => ?_;go_simp;exact Z _ _ ⟨rfl,hC,rR⟩
    ·intro T wx n hC (hn : n ≤ 0) hp
     obtain ⟨(d2 : T 2 = .bool x.s1),(d5 : T 5 = .bool x.s2), -⟩ := hp
     refine Op1.g fun _ Z => ?_;go_simp;exact Z _ _ ⟨rfl,hC,rR⟩
   case hend2 =>
    intro T wy2 ⟨n,hn,hC,hR⟩
    have r34 : T 6 = .bool (x.s1 != x.s2) := hR 6 (by omega)
    rw [r34]
    clear r34
    have HC := Lib.hid hC.1
    have hB2 := hC.size
    clear hR hC
    replace HBx := Lib.hid (HBx.out.trans (HC.out.mono (Nat.le_of_lt (Blk.lt HP.out))))
    replace HP := Lib.hid (Blk.below HP.out HC.out (Blk.lt HP.out))
    clear HC hB hB2
    rcases Bool.eq_false_or_eq_true (x.s1 != x.s2) with hE2 | hE2
    ·rw [hE2]
     replace hE2 := Lib.hid hE2
     go_wp2_with fail
     have hP0 := HP0.out
     subst hP0
     go_ret
     refine ⟨?_,HBx.out⟩
     rw [hrf.out];simp only [hE2.out,ha1.out,ha2.out,ne_eq,not_true_eq_false,if_true,if_false] <;> rfl
    ·rw [hE2]
     replace hE2 := Lib.hid hE2
     go_upto_region 11 with fail
     have hB : RC.fine (⟨wy2.heap.size,wy2,(.slice none 0 0),false,P0⟩ : RC) := ⟨Nat.le_refl _,Blk.lt HP.out,by simp [Value.ownBlock]⟩
     refine Lm.wp_region_seq 4 0 (fun p vv nn ww => (List.getD ((.val (.pointer (some ⟨P0,6,none⟩))) :: (.val (.int .i64 (x.hops))) :: (.val (.bool (inB x.hops 0 255))) :: (.val (.bool (!(inB x.hops 0 255)))) :: [] : List Ds) p .any).R (⟨wy2.heap.size,wy2,(.slice none 0 0),false,P0⟩ : RC) vv nn ww) (RC.C (⟨wy2.heap.size,wy2,(.slice none 0 0),false,P0⟩ : RC)) (RC.S (⟨wy2.heap.size,wy2,(.slice none 0 0),false,P0⟩ : RC)) (fun _ => 0) (fun _ => 0)
      (by kernel_rfl) (by kernel_rfl) (by decide) (by kernel_rfl) (fun p vv nn ww n' w' h hs => ds_keep hB _ rfl p vv nn ww n' w' h hs) RC.start0 ?hX3
     case' hX3 => (apply Exists.intro;refine ⟨fun T => ?hA3,?hob3,?hend3⟩)
     case hA3 =>
      simp only [setAll,List.take_succ_cons,List.take_zero,Act.put,List.setIfInBounds_toArray,List.set_cons_succ,List.set_cons_zero,Nat.reduceAdd]
      exact rfl
     case hob3 =>
      refine ⟨?_,?_,?_,?_,trivial⟩
      ·intro T wx n hC (hn : n ≤ 0) hp
       refine Op1.g fun _ Z => ?_;go_simp;exact Z _ _ ⟨rfl,hC,rR⟩
      ·intro T wx n hC (hn : n ≤ 0) hp
       obtain ⟨(d0 : T 0 = .pointer (some ⟨P0,6,none⟩)), -⟩ := hp
       obtain ⟨-, -, -, -, -, -,c6, -, -, -, -, -, -, -, -, -, -, -, -,f0⟩ := PBlk.cells (show PBlk wx P0 x from hC.2.2.trans HP.out)
       refine Op1.g fun _ Z => ?_;go_simp;exact Z _ _ ⟨rfl,hC,rR⟩
      ·intro T wx n hC (hn : n ≤ 0) hp
       obtain ⟨(d1 : T 1 = .int .i64 (x.hops)), -⟩ := hp
       refine Op1.g fun _ Z => ?_;go_simp;exact same_post (in_any _ _ _ _) (Z _ _ ⟨rfl,hC,rR⟩)
      ·intro T wx n hC (hn : n ≤ 0) hp
       obtain ⟨(d2 : T 2 = .bool (inB x.hops 0 255)), -⟩ := hp
       refine Op1.g fun _ Z => ?_;go_simp;exact Z _ _ ⟨rfl,hC,rR⟩
     case hend3 =>
      intro T wy3 ⟨n,hn,hC,hR⟩
      have r42 : T 3 = .bool (!(inB x.hops 0 255)) := hR 3 (by omega)
      rw [r42]
      clear r42
      have HC := Lib.hid hC.1
      have hB2 := hC.size
      clear hR hC
      replace HBx := Lib.hid (HBx.out.trans (HC.out.mono (Nat.le_of_lt (Blk.lt HP.out))))
      replace HP := Lib.hid (Blk.below HP.out HC.out (Blk.lt HP.out))
      clear HC hB hB2
      rcases Bool.eq_false_or_eq_true (!(inB x.hops 0 255)) with hE3 | hE3
      ·rw [hE3]
       replace hE3 := Lib.hid hE3
       go_wp2_with fail
       have hP0 := HP0.out
       subst hP0
       go_ret
       refine ⟨?_,HBx.out⟩
       rw [hrf.out];simp only [hE2.out,hE3.out,ha1.out,ha2.out,ne_eq,not_true_eq_false,if_true,if_false,Bool.false_eq_true] <;> rfl
      ·rw [hE3]
       replace hE3 := Lib.hid hE3
       go_upto_region 13 with fail
       have hB : RC.fine (⟨wy3.heap.size,wy3,(.slice none 0 0),false,P0⟩ : RC) := ⟨Nat.le_refl _,Blk.lt HP.out,by simp [Value.ownBlock]⟩
       refine Lm.wp_region_seq 10 0 (fun p vv nn ww => (List.getD ((.val (.bool (x.proto == 6))) :: (.val (.bool (!(x.proto == 6)))) :: (.val (.bool (!(x.proto == 6)))) :: (.gval ((!(x.proto == 6))) (.bool (x.proto == 17))) :: (.gval ((!(x.proto == 6))) (.bool (!(x.proto == 17)))) :: (.val (.bool ((!(x.proto == 6)) && (!(x.proto == 17))))) :: (.val (.bool ((!(x.proto == 6)) && (!(x.proto == 17))))) :: (.gval (((!(x.proto == 6)) && (!(x.proto == 17)))) (.bool (x.proto == 1))) :: (.gval (((!(x.proto == 6)) && (!(x.proto == 17)))) (.bool (!(x.proto == 1)))) :: (.val (.bool (((!(x.proto == 6)) && (!(x.proto == 17))) && (!(x.proto == 1))))) :: [] : List Ds) p .any).R (⟨wy3.heap.size,wy3,(.slice none 0 0),false,P0⟩ : RC) vv nn ww) (RC.C (⟨wy3.heap.size,wy3,(.slice none 0 0),false,P0⟩ : RC)) (RC.S (⟨wy3.heap.size,wy3,(.slice none 0 0),false,P0⟩ : RC)) (fun _ => 0) (fun _ => 0)
        (by kernel_rfl) (by kernel_rfl) (by decide) (by kernel_rfl) (fun p vv nn ww n' w' h hs => ds_keep hB _ rfl p vv nn ww n' w' h hs) RC.start0 ?hX4
       case' hX4 => (apply Exists.intro;refine ⟨fun T => ?hA4,?hob4,?hend4⟩)
       case hA4 =>
        simp only [setAll,List.take_succ_cons,List.take_zero,Act.put,List.setIfInBounds_toArray,List.set_cons_succ,List.set_cons_zero,Nat.reduceAdd]
        exact rfl
       case hob4 =>
        refine ⟨?_,?_,?_,?_,?_,?_,?_,?_,?_,?_,trivial⟩
        ·intro T wx n hC (hn : n ≤ 0) hp
         refine Op1.g fun _ Z => ?_;go_simp;exact Z _ _ ⟨rfl,hC,rR⟩
        ·intro T wx n hC (hn : n ≤ 0) hp
         obtain ⟨(d0 : T 0 = .bool (x.proto == 6)), -⟩ := hp
         refine Op1.g fun _ Z => ?_;go_simp;exact Z _ _ ⟨rfl,hC,rR⟩
        ·intro T wx n hC (hn : n ≤ 0) hp
         obtain ⟨(d1 : T 1 = .bool (!(x.proto == 6))), -⟩ := hp
         refine Op1.g fun _ Z => ?_;go_simp;exact Z _ _ ⟨rfl,hC,rR⟩
        ·intro T wx n hC (hn : n ≤ 0) hp
         obtain ⟨(d2 : T 2 = .bool (!(x.proto == 6))), -⟩ := hp
         refine ⟨fun hT => ?_,fun hT => ?_⟩
         ·have hc : (!(x.proto == 6)) = true := by rw [d2] at hT;injection hT
          refine Op1.g fun _ Z => ?_;go_simp;exact Z _ _ ⟨⟨fun _ => rfl,fun h => by rw [hc] at h;cases h⟩,hC,rR⟩
         ·exact ⟨⟨fun hc => absurd (d2.trans (congrArg Value.bool hc)) hT,fun _ => rfl⟩,hC,rR⟩
        ·intro T wx n hC (hn : n ≤ 0) hp
         obtain ⟨(d3 : ((!(x.proto == 6)) = true → T 3 = .bool (x.proto == 17)) ∧ ((!(x.proto == 6)) = false → T 3 = undef)),(d2 : T 2 = .bool (!(x.proto == 6))), -⟩ := hp
         refine ⟨fun hT => ?_,fun hT => ?_⟩
         ·have hc : (!(x.proto == 6)) = true := by rw [d2] at hT;injection hT
          replace d3 := d3.1 (by first | exact hc | (simp only [Bool.and_eq_true] at hc ⊢;first | exact hc.1 | exact hc.1.1 | simp_all))
          refine Op1.g fun _ Z => ?_;go_simp;exact Z _ _ ⟨⟨fun _ => rfl,fun h => by rw [hc] at h;cases h⟩,hC,rR⟩
         ·exact ⟨⟨fun hc => absurd (d2.trans (congrArg Value.bool hc)) hT,fun _ => rfl⟩,hC,rR⟩
        ·intro T wx n hC (hn : n ≤ 0) hp
         obtain ⟨(d2 : T 2 = .bool (!(x.proto == 6))),(d4 : ((!(x.proto == 6)) = true → T 4 = .bool (!(x.proto == 17))) ∧ ((!(x.proto == 6)) = false → T 4 = undef)), -⟩ := hp
         cases ha : (!(x.proto == 6))
         ·rw [ha] at d2
          refine Op1.g fun _ Z => ?_;go_simp;exact Z _ _ ⟨congrArg Value.bool (by simp),hC,rR⟩
         ·have dz := d4.1 (by first | exact hc | (simp [ha];done) | (simp only [ha,Bool.not_false,Bool.not_true,Bool.and_true,Bool.true_and];exact hc) | simp_all)
          rw [ha] at d2
          refine Op1.g fun _ Z => ?_;go_simp;exact Z _ _ ⟨congrArg Value.bool (by simp),hC,rR⟩
        ·intro T wx n hC (hn : n ≤ 0) hp
         obtain ⟨(d5 : T 5 = .bool ((!(x.proto == 6)) && (!(x.proto == 17)))), -⟩ := hp
         refine Op1.g fun _ Z => ?_;go_simp;exact Z _ _ ⟨rfl,hC,rR⟩
        ·intro T wx n hC (hn : n ≤ 0) hp
         obtain ⟨(d6 : T 6 = .bool ((!(x.proto == 6)) && (!(x.proto == 17)))), -⟩ := hp
         refine ⟨fun hT => ?_,fun hT => ?_⟩
         ·have hc : ((!(x.proto == 6)) && (!(x.proto == 17))) = true := by rw [d6] at hT;injection hT
          refine Op1.g fun _ Z => ?_;go_simp;exact Z _ _ ⟨⟨fun _ => rfl,fun h => by rw [hc] at h;cases h⟩,hC,rR⟩
         ·exact ⟨⟨fun hc => absurd (d6.trans (congrArg Value.bool hc)) hT,fun _ => rfl⟩,hC,rR⟩
        ·intro T wx n hC (hn : n ≤ 0) hp
         obtain ⟨(d7 : (((!(x.proto == 6)) && (!(x.proto == 17))) = true → T 7 = .bool (x.proto == 1)) ∧ (((!(x.proto == 6)) && (!(x.proto == 17))) = false → T 7 = undef)),(d6 : T 6 = .bool ((!(x.proto == 6)) && (!(x.proto == 17)))), -⟩ := hp
         refine ⟨fun hT => ?_,fun hT => ?_⟩
         ·have hc : ((!(x.proto == 6)) && (!(x.proto == 17))) = true := by rw [d6] at hT;injection hT
          replace d7 := d7.1 (by first | exact hc | (simp only [Bool.and_eq_true] at hc ⊢;first | exact hc.1 | exact hc.1.1 | simp_all))
          refine Op1.g fun _ Z => ?_;go_simp;exact Z _ _ ⟨⟨fun _ => rfl,fun h => by rw [hc] at h;cases h⟩,hC,rR⟩
         ·exact ⟨⟨fun hc => absurd (d6.trans (congrArg Value.bool hc)) hT,fun _ => rfl⟩,hC,rR⟩
        ·intro T wx n hC (hn : n ≤ 0) hp
         obtain ⟨(d6 : T 6 = .bool ((!(x.proto == 6)) && (!(x.proto == 17)))),(d8 : (((!(x.proto == 6)) && (!(x.proto == 17))) = true → T 8 = .bool (!(x.proto == 1))) ∧ (((!(x.proto == 6)) && (!(x.proto == 17))) = false → T 8 = undef)), -⟩ := hp
         cases ha : ((!(x.proto == 6)) && (!(x.proto == 17)))
         ·rw [ha] at d6
          refine Op1.g fun _ Z => ?_;go_simp;exact Z _ _ ⟨congrArg Value.bool (by simp),hC,rR⟩
         ·have dz := d8.1 (by first | exact hc | (simp [ha];done) | (simp only [ha,Bool.not_false,Bool.not_true,Bool.and_true,Bool.true_and];exact hc) | simp_all)
          rw [ha] at d6
          refine Op1.g fun _ Z => ?_;go_simp;exact Z _ _ ⟨congrArg Value.bool (by simp),hC,rR⟩
       case hend4 =>
        intro T wy4 ⟨n,hn,hC,hR⟩
        have r47 : T 9 = .bool (((!(x.proto == 6)) && (!(x.proto == 17))) && (!(x.proto == 1))) := hR 9 (by omega)
        rw [r47]
        clear r47
        have HC := Lib.hid hC.1
        have hB2 := hC.size
        clear hR hC
        replace HBx := Lib.hid (HBx.out.trans (HC.out.mono (Nat.le_of_lt (Blk.lt HP.out))))
        replace HP := Lib.hid (Blk.below HP.out HC.out (Blk.lt HP.out))
        clear HC hB hB2
        rcases Bool.eq_false_or_eq_true (((!(x.proto == 6)) && (!(x.proto == 17))) && (!(x.proto == 1))) with hE4 | hE4
        ·rw [hE4]
         replace hE4 := Lib.hid hE4
         go_wp2_with fail
         have hP0 := HP0.out
         subst hP0
         go_ret
         refine ⟨?_,HBx.out⟩
         rw [hrf.out];simp only [hE2.out,hE3.out,hE4.out,ha1.out,ha2.out,ne_eq,not_true_eq_false,if_true,if_false,Bool.false_eq_true] <;> rfl
        ·rw [hE4]
         replace hE4 := Lib.hid hE4
         go_upto_region 15 with fail
         have hB : RC.fine (⟨wy4.heap.size,wy4,(.slice none 0 0),false,P0⟩ : RC) := ⟨Nat.le_refl _,Blk.lt HP.out,by simp [Value.ownBlock]⟩
         refine Lm.wp_region_seq 36 0 (fun p vv nn ww => (List.getD ((.val (.pointer (some ⟨P0,8,none⟩))) :: (.val (.int .i64 (x.fp))) :: (.val (.bool (inB x.fp 0 65535))) :: (.val (.bool (!(inB x.fp 0 65535)))) :: (.val (.bool (!(inB x.fp 0 65535)))) :: (.gval ((!(!(inB x.fp 0 65535)))) (.pointer (some ⟨P0,9,none⟩))) :: (.gval ((!(!(inB x.fp 0 65535)))) (.int .i64 (x.tp))) :: (.gval ((!(!(inB x.fp 0 65535)))) (.bool (inB x.tp 0 65535))) :: (.gval ((!(!(inB x.fp 0 65535)))) (.bool (!(inB x.tp 0 65535)))) :: (.val (.bool ((!(inB x.fp 0 65535)) || (!(inB x.tp 0 65535))))) :: (.val (.bool ((!(inB x.fp 0 65535)) || (!(inB x.tp 0 65535))))) :: (.gval ((!((!(inB x.fp 0 65535)) || (!(inB x.tp 0 65535))))) (.pointer (some ⟨P0,14,none⟩))) :: (.gval ((!((!(inB x.fp 0 65535)) || (!(inB x.tp 0 65535))))) (.int .i64 (x.seq))) :: (.gval ((!((!(inB x.fp 0 65535)) || (!(inB x.tp 0 65535))))) (.bool (inB x.seq 0 4294967295))) :: (.gval ((!((!(inB x.fp 0 65535)) || (!(inB x.tp 0 65535))))) (.bool (!(inB x.seq 0 4294967295)))) :: (.val (.bool (((!(inB x.fp 0 65535)) || (!(inB x.tp 0 65535))) || (!(inB x.seq 0 4294967295))))) :: (.val (.bool (((!(inB x.fp 0 65535)) || (!(inB x.tp 0 65535))) || (!(inB x.seq 0 4294967295))))) :: (.gval ((!(((!(inB x.fp 0 65535)) || (!(inB x.tp 0 65535))) || (!(inB x.seq 0 4294967295))))) (.pointer (some ⟨P0,15,none⟩))) :: (.gval ((!(((!(inB x.fp 0 65535)) || (!(inB x.tp 0 65535))) || (!(inB x.seq 0 4294967295))))) (.int .i64 (x.ack))) :: (.gval ((!(((!(inB x.fp 0 65535)) || (!(inB x.tp 0 65535))) || (!(inB x.seq 0 4294967295))))) (.bool (inB x.ack 0 4294967295))) :: (.gval ((!(((!(inB x.fp 0 65535)) || (!(inB x.tp 0 65535))) || (!(inB x.seq 0 4294967295))))) (.bool (!(inB x.ack 0 4294967295)))) :: (.val (.bool ((((!(inB x.fp 0 65535)) || (!(inB x.tp 0 65535))) || (!(inB x.seq 0 4294967295))) || (!(inB x.ack 0 4294967295))))) :: (.val (.bool ((((!(inB x.fp 0 65535)) || (!(inB x.tp 0 65535))) || (!(inB x.seq 0 4294967295))) || (!(inB x.ack 0 4294967295))))) :: (.gval ((!((((!(inB x.fp 0 65535)) || (!(inB x.tp 0 65535))) || (!(inB x.seq 0 4294967295))) || (!(inB x.ack 0 4294967295))))) (.pointer (some ⟨P0,17,none⟩))) :: (.gval ((!((((!(inB x.fp 0 65535)) || (!(inB x.tp 0 65535))) || (!(inB x.seq 0 4294967295))) || (!(inB x.ack 0 4294967295))))) (.int .i64 (x.id))) :: (.gval ((!((((!(inB x.fp 0 65535)) || (!(inB x.tp 0 65535))) || (!(inB x.seq 0 4294967295))) || (!(inB x.ack 0 4294967295))))) (.bool (inB x.id 0 65535))) :: (.gval ((!((((!(inB x.fp 0 65535)) || (!(inB x.tp 0 65535))) || (!(inB x.seq 0 4294967295))) || (!(inB x.ack 0 4294967295))))) (.bool (!(inB x.id 0 65535)))) :: (.val (.bool (((((!(inB x.fp 0 65535)) || (!(inB x.tp 0 65535))) || (!(inB x.seq 0 4294967295))) || (!(inB x.ack 0 4294967295))) || (!(inB x.id 0 65535))))) :: (.val (.bool (((((!(inB x.fp 0 65535)) || (!(inB x.tp 0 65535))) || (!(inB x.seq 0 4294967295))) || (!(inB x.ack 0 4294967295))) || (!(inB x.id 0 65535))))) :: (.gval ((!(((((!(inB x.fp 0 65535)) || (!(inB x.tp 0 65535))) || (!(inB x.seq 0 4294967295))) || (!(inB x.ack 0 4294967295))) || (!(inB x.id 0 65535))))) (.bool (x.proto == 1))) :: (.gval ((!(((((!(inB x.fp 0 65535)) || (!(inB x.tp 0 65535))) || (!(inB x.seq 0 4294967295))) || (!(inB x.ack 0 4294967295))) || (!(inB x.id 0 65535))))) (.bool (x.proto == 1))) :: (.gval (((!(((((!(inB x.fp 0 65535)) || (!(inB x.tp 0 65535))) || (!(inB x.seq 0 4294967295))) || (!(inB x.ack 0 4294967295))) || (!(inB x.id 0 65535)))) && (x.proto == 1))) (.pointer (some ⟨P0,14,none⟩))) :: (.gval (((!(((((!(inB x.fp 0 65535)) || (!(inB x.tp 0 65535))) || (!(inB x.seq 0 4294967295))) || (!(inB x.ack 0 4294967295))) || (!(inB x.id 0 65535)))) && (x.proto == 1))) (.int .i64 (x.seq))) :: (.gval (((!(((((!(inB x.fp 0 65535)) || (!(inB x.tp 0 65535))) || (!(inB x.seq 0 4294967295))) || (!(inB x.ack 0 4294967295))) || (!(inB x.id 0 65535)))) && (x.proto == 1))) (.bool (decide (65535 < x.seq)))) :: (.gval ((!(((((!(inB x.fp 0 65535)) || (!(inB x.tp 0 65535))) || (!(inB x.seq 0 4294967295))) || (!(inB x.ack 0 4294967295))) || (!(inB x.id 0 65535))))) (.bool ((x.proto == 1) && (decide (65535 < x.seq))))) :: (.val (.bool ((((((!(inB x.fp 0 65535)) || (!(inB x.tp 0 65535))) || (!(inB x.seq 0 4294967295))) || (!(inB x.ack 0 4294967295))) || (!(inB x.id 0 65535))) || ((x.proto == 1) && (decide (65535 < x.seq)))))) :: [] : List Ds) p .any).R (⟨wy4.heap.size,wy4,(.slice none 0 0),false,P0⟩ : RC) vv nn ww) (RC.C (⟨wy4.heap.size,wy4,(.slice none 0 0),false,P0⟩ : RC)) (RC.S (⟨wy4.heap.size,wy4,(.slice none 0 0),false,P0⟩ : RC)) (fun _ => 0) (fun _ => 0)
          (by kernel_rfl) (by kernel_rfl) (by decide) (by kernel_rfl) (fun p vv nn ww n' w' h hs => ds_keep hB _ rfl p vv nn ww n' w' h hs) RC.start0 ?hX5
         case' hX5 => (apply Exists.intro;refine ⟨fun T => ?hA5,?hob5,?hend5⟩)
         case hA5 =>
          simp only [setAll,List.take_succ_cons,List.take_zero,Act.put,List.setIfInBounds_toArray,List.set_cons_succ,List.set_cons_zero,Nat.reduceAdd]
          exact rfl
         case hob5 =>
          refine ⟨?_,?_,?_,?_,?_,?_,?_,?_,?_,?_,?_,?_,?_,?_,?_,?_,?_,?_,?_,?_,?_,?_,?_,?_,?_,?_,?_,?_,?_,?_,?_,?_,?_,?_,?_,?_,trivial⟩
          ·intro T wx n hC (hn : n ≤ 0) hp
           refine Op1.g fun _ Z => ?_;go_simp;exact Z _ _ ⟨rfl,hC,rR⟩
          ·intro T wx n hC (hn : n ≤ 0) hp
           obtain ⟨(d0 : T 0 = .pointer (some ⟨P0,8,none⟩)), -⟩ := hp
           obtain ⟨-, -, -, -, -, -, -, -,c8, -, -, -, -, -, -, -, -, -, -,f0⟩ := PBlk.cells (show PBlk wx P0 x from hC.2.2.trans HP.out)
           refine Op1.g fun _ Z => ?_;go_simp;exact Z _ _ ⟨rfl,hC,rR⟩
          ·intro T wx n hC (hn : n ≤ 0) hp
           obtain ⟨(d1 : T 1 = .int .i64 (x.fp)), -⟩ := hp
           refine Op1.g fun _ Z => ?_;go_simp;exact same_post (in_any _ _ _ _) (Z _ _ ⟨rfl,hC,rR⟩)
          ·intro T wx n hC (hn : n ≤ 0) hp
           obtain ⟨(d2 : T 2 = .bool (inB x.fp 0 65535)), -⟩ := hp
           refine Op1.g fun _ Z => ?_;go_simp;exact Z _ _ ⟨rfl,hC,rR⟩
          ·intro T wx n hC (hn : n ≤ 0) hp
           obtain ⟨(d3 : T 3 = .bool (!(inB x.fp 0 65535))), -⟩ := hp
           refine Op1.g fun _ Z => ?_;go_simp;exact Z _ _ ⟨rfl,hC,rR⟩
          ·intro T wx n hC (hn : n ≤ 0) hp
           obtain ⟨(d4 : T 4 = .bool (!(inB x.fp 0 65535))), -⟩ := hp
           refine ⟨fun hT => ?_,fun hT => ?_⟩
           ·have hc : (!(!(inB x.fp 0 65535))) = true := by rw [d4] at hT;first | (injection hT with hT;simp [hT];done) | (injection hT;done) | simp_all
            refine Op1.g fun _ Z => ?_;go_simp;exact Z _ _ ⟨⟨fun _ => rfl,fun h => by rw [hc] at h;cases h⟩,hC,rR⟩
           ·exact ⟨⟨fun hc => absurd (d4.trans (congrArg Value.bool (by simpa using hc))) hT,fun _ => rfl⟩,hC,rR⟩
          ·intro T wx n hC (hn : n ≤ 0) hp
           obtain ⟨(d5 : ((!(!(inB x.fp 0 65535))) = true → T 5 = .pointer (some ⟨P0,9,none⟩)) ∧ ((!(!(inB x.fp 0 65535))) = false → T 5 = undef)),(d4 : T 4 = .bool (!(inB x.fp 0 65535))), -⟩ := hp
           refine ⟨fun hT => ?_,fun hT => ?_⟩
           ·have hc : (!(!(inB x.fp 0 65535))) = true := by rw [d4] at hT;first | (injection hT with hT;simp [hT];done) | (injection hT;done) | simp_all
            replace d5 := d5.1 (by first | exact hc | (simp only [Bool.and_eq_true] at hc ⊢;first | exact hc.1 | exact hc.1.1 | simp_all))
            obtain ⟨-, -, -, -, -, -, -, -, -,c9, -, -, -, -, -, -, -, -, -,f0⟩ := PBlk.cells (show PBlk wx P0 x from hC.2.2.trans HP.out)
            refine Op1.g fun _ Z => ?_;go_simp;exact Z _ _ ⟨⟨fun _ => rfl,fun h => by rw [hc] at h;cases h⟩,hC,rR⟩
           ·exact ⟨⟨fun hc => absurd (d4.trans (congrArg Value.bool (by simpa using hc))) hT,fun _ => rfl⟩,hC,rR⟩
          ·intro T wx n hC (hn : n ≤ 0) hp
           obtain ⟨(d6 : ((!(!(inB x.fp 0 65535))) = true → T 6 = .int .i64 (x.tp)) ∧ ((!(!(inB x.fp 0 65535))) = false → T 6 = undef)),(d4 : T 4 = .bool (!(inB x.fp 0 65535))), -⟩ := hp
           refine ⟨fun hT => ?_,fun hT => ?_⟩
           ·have hc : (!(!(inB x.fp 0 65535))) = true := by rw [d4] at hT;first | (injection hT with hT;simp [hT];done) | (injection hT;done) | simp_all
            replace d6 := d6.1 (by first | exact hc | (simp only [Bool.and_eq_true] at hc ⊢;first | exact hc.1 | exact hc.1.1 | simp_all))
            refine Op1.g fun _ Z => ?_;go_simp;exact same_post (in_any _ _ _ _) (Z _ _ ⟨⟨fun _ => rfl,fun h => by rw [hc] at h;cases h⟩,hC,rR⟩)
           ·exact ⟨⟨fun hc => absurd (d4.trans (congrArg Value.bool (by simpa using hc))) hT,fun _ => rfl⟩,hC,rR⟩
          ·intro T wx n hC (hn : n ≤ 0) hp
           obtain ⟨(d7 : ((!(!(inB x.fp 0 65535))) = true → T 7 = .bool (inB x.tp 0 65535)) ∧ ((!(!(inB x.fp 0 65535))) = false → T 7 = undef)),(d4 : T 4 = .bool (!(inB x.fp 0 65535))), -⟩ := hp
           refine ⟨fun hT => ?_,fun hT => ?_⟩
           ·have hc : (!(!(inB x.fp 0 65535))) = true := by rw [d4] at hT;first | (injection hT with hT;simp [hT];done) | (injection hT;done) | simp_all
            replace d7 := d7.1 (by first | exact hc | (simp only [Bool.and_eq_true] at hc ⊢;first | exact hc.1 | exact hc.1.1 | simp_all))
            refine Op1.g fun _ Z => ?_;go_simp;exact Z _ _ ⟨⟨fun _ => rfl,fun h => by rw [hc] at h;cases h⟩,hC,rR⟩
           ·exact ⟨⟨fun hc => absurd (d4.trans (congrArg Value.bool (by simpa using hc))) hT,fun _ => rfl⟩,hC,rR⟩
          ·intro T wx n hC (hn : n ≤ 0) hp
           obtain ⟨(d4 : T 4 = .bool (!(inB x.fp 0 65535))),(d8 : ((!(!(inB x.fp 0 65535))) = true → T 8 = .bool (!(inB x.tp 0 65535))) ∧ ((!(!(inB x.fp 0 65535))) = false → T 8 = undef)), -⟩ := hp
           cases ha : (!(inB x.fp 0 65535))
           ·have dz := d8.1 (by first | exact hc | (simp [ha];done) | (simp only [ha,Bool.not_false,Bool.not_true,Bool.and_true,Bool.true_and];exact hc) | simp_all)
            rw [ha] at d4
            refine Op1.g fun _ Z => ?_;go_simp;exact Z _ _ ⟨congrArg Value.bool (by simp),hC,rR⟩
           ·rw [ha] at d4
            refine Op1.g fun _ Z => ?_;go_simp;exact Z _ _ ⟨congrArg Value.bool (by simp),hC,rR⟩
          ·intro T wx n hC (hn : n ≤ 0) hp
           obtain ⟨(d9 : T 9 = .bool ((!(inB x.fp 0 65535)) || (!(inB x.tp 0 65535)))), -⟩ := hp
           refine Op1.g fun _ Z => ?_;go_simp;exact Z _ _ ⟨rfl,hC,rR⟩
          ·intro T wx n hC (hn : n ≤ 0) hp
           obtain ⟨(d10 : T 10 = .bool ((!(inB x.fp 0 65535)) || (!(inB x.tp 0 65535)))), -⟩ := hp
           refine ⟨fun hT => ?_,fun hT => ?_⟩
           ·have hc : (!((!(inB x.fp 0 65535)) || (!(inB x.tp 0 65535)))) = true := by rw [d10] at hT;first | (injection hT with hT;simp [hT];done) | (injection hT;done) | simp_all
            refine Op1.g fun _ Z => ?_;go_simp;exact Z _ _ ⟨⟨fun _ => rfl,fun h => by rw [hc] at h;cases h⟩,hC,rR⟩
           ·exact ⟨⟨fun hc => absurd (d10.trans (congrArg Value.bool (by simpa using hc))) hT,fun _ => rfl⟩,hC,rR⟩
          ·intro T wx n hC (hn : n ≤ 0) hp
           obtain ⟨(d11 : ((!((!(inB x.fp 0 65535)) || (!(inB x.tp 0 65535)))) = true → T 11 = .pointer (some ⟨P0,14,none⟩)) ∧ ((!((!(inB x.fp 0 65535)) || (!(inB x.tp 0 65535)))) = false → T 11 = undef)),(d10 : T 10 = .bool ((!(inB x.fp 0 65535)) || (!(inB x.tp 0 65535)))), -⟩ := hp
           refine ⟨fun hT => ?_,fun hT => ?_⟩
           ·have hc : (!((!(inB x.fp 0 65535)) || (!(inB x.tp 0 65535)))) = true := by rw [d10] at hT;first | (injection hT with hT;simp [hT];done) | (injection hT;done) | simp_all
            replace d11 := d11.1 (by first | exact hc | (simp only [Bool.and_eq_true] at hc ⊢;first | exact hc.1 | exact hc.1.1 | simp_all))
            obtain ⟨-, -, -, -, -, -, -, -, -, -, -, -, -, -,c14, -, -, -, -,f0⟩ := PBlk.cells (show PBlk wx P0 x from hC.2.2.trans HP.out)
            refine Op1.g fun _ Z => ?_;go_simp;exact Z _ _ ⟨⟨fun _ => rfl,fun h => by rw [hc] at h;cases h⟩,hC,rR⟩
           ·exact ⟨⟨fun hc => absurd (d10.trans (congrArg Value.bool (by simpa using hc))) hT,fun _ => rfl⟩,hC,rR⟩
          ·intro T wx n hC (hn : n ≤ 0) hp
           obtain ⟨(d12 : ((!((!(inB x.fp 0 65535)) || (!(inB x.tp 0 65535)))) = true → T 12 = .int .i64 (x.seq)) ∧ ((!((!(inB x.fp 0 65535)) || (!(inB x.tp 0 65535)))) = false → T 12 = undef)),(d10 : T 10 = .bool ((!(inB x.fp 0 65535)) || (!(inB x.tp 0 65535)))), -⟩ := hp
           refine ⟨fun hT => ?_,fun hT => ?_⟩
           ·have hc : (!((!(inB x.fp 0 65535)) || (!(inB x.tp 0 65535)))) = true := by rw [d10] at hT;first | (injection hT with hT;simp [hT];done) | (injection hT;done) | simp_all
            replace d12 := d12.1 (by first | exact hc | (simp only [Bool.and_eq_true] at hc ⊢;first | exact hc.1 | exact hc.1.1 | simp_all))
            refine Op1.g fun _ Z => ?_;go_simp;exact same_post (in_any _ _ _ _) (Z _ _ ⟨⟨fun _ => rfl,fun h => by rw [hc] at h;cases h⟩,hC,rR⟩)
           ·exact ⟨⟨fun hc => absurd (d10.trans (congrArg Value.bool (by simpa using hc))) hT,fun _ => rfl⟩,hC,rR⟩
          ·intro T wx n hC (hn : n ≤ 0) hp
           obtain ⟨(d13 : ((!((!(inB x.fp 0 65535)) || (!(inB x.tp 0 65535)))) = true → T 13 = .bool (inB x.seq 0 4294967295)) ∧ ((!((!(inB x.fp 0 65535)) || (!(inB x.tp 0 65535)))) = false → T 13 = undef)),(d10 : T 10 = .bool ((!(inB x.fp 0 65535)) || (!(inB x.tp 0 65535)))), -⟩ := hp
           refine ⟨fun hT => ?_,fun hT => ?_⟩
           ·have hc : (!((!(inB x.fp 0 65535)) || (!(inB x.tp 0 65535)))) = true := by rw [d10] at hT;first | (injection hT with hT;simp [hT];done) | (injection hT;done) | simp_all
            replace d13 := d13.1 (by first | exact hc | (simp only [Bool.and_eq_true] at hc ⊢;first | exact hc.1 | exact hc.1.1 | simp_all))
            refine Op1.g fun _ Z => ?_;go_simp;exact Z _ _ ⟨⟨fun _ => rfl,fun h => by rw [hc] at h;cases h⟩,hC,rR⟩
           ·exact ⟨⟨fun hc => absurd (d10.trans (congrArg Value.bool (by simpa using hc))) hT,fun _ => rfl⟩,hC,rR⟩
          ·intro T wx n hC (hn : n ≤ 0) hp
           obtain ⟨(d10 : T 10 = .bool ((!(inB x.fp 0 65535)) || (!(inB x.tp 0 65535)))),(d14 : ((!((!(inB x.fp 0 65535)) || (!(inB x.tp 0 65535)))) = true → T 14 = .bool (!(inB x.seq 0 4294967295))) ∧ ((!((!(inB x.fp 0 65535)) || (!(inB x.tp 0 65535)))) = false → T 14 = undef)), -⟩ := hp
           cases ha : ((!(inB x.fp 0 65535)) || (!(inB x.tp 0 65535)))
           ·have dz := d14.1 (by first | exact hc | (simp [ha];done) | (simp only [ha,Bool.not_false,Bool.not_true,Bool.and_true,Bool.true_and];exact hc) | simp_all)
            rw [ha] at d10
            refine Op1.g fun _ Z => ?_;go_simp;exact Z _ _ ⟨congrArg Value.bool (by simp),hC,rR⟩
           ·rw [ha] at d10
            refine Op1.g fun _ Z => ?_;go_simp;exact Z _ _ ⟨congrArg Value.bool (by simp),hC,rR⟩
          ·intro T wx n hC (hn : n ≤ 0) hp
           obtain ⟨(d15 : T 15 = .bool (((!(inB x.fp 0 65535)) || (!(inB x.tp 0 65535))) || (!(inB x.seq 0 4294967295)))), -⟩ := hp
           refine Op1.g fun _ Z => ?_;go_simp;exact Z _ _ ⟨rfl,hC,rR⟩
          ·intro T wx n hC (hn : n ≤ 0) hp
           obtain ⟨(d16 : T 16 = .bool (((!(inB x.fp 0 65535)) || (!(inB x.tp 0 65535))) || (!(inB x.seq 0 4294967295)))), -⟩ := hp
           refine ⟨fun hT => ?_,fun hT => ?_⟩
           ·have hc : (!(((!(inB x.fp 0 65535)) || (!(inB x.tp 0 65535))) || (!(inB x.seq 0 4294967295)))) = true := by rw [d16] at hT;first | (injection hT with hT;simp [hT];done) | (injection hT;done) | simp_all
            refine Op1.g fun _ Z => ?_;go_simp;exact Z _ _ ⟨⟨fun _ => rfl,fun h => by rw [hc] at h;cases h⟩,hC,rR⟩
           ·exact ⟨⟨fun hc => absurd (d16.trans (congrArg Value.bool (by simpa using hc))) hT,fun _ => rfl⟩,hC,rR⟩
          ·intro T wx n hC (hn : n ≤ 0) hp
           obtain ⟨(d17 : ((!(((!(inB x.fp 0 65535)) || (!(inB x.tp 0 65535))) || (!(inB x.seq 0 4294967295)))) = true → T 17 = .pointer (some ⟨P0,15,none⟩)) ∧ ((!(((!(inB x.fp 0 65535)) || (!(inB x.tp 0 65535))) || (!(inB x.seq 0 4294967295)))) = false → T 17 = undef)),(d16 : T 16 = .bool (((!(inB x.fp 0 65535)) || (!(inB x.tp 0 65535))) || (!(inB x.seq 0 4294967295)))), -⟩ := hp
           refine ⟨fun hT => ?_,fun hT => ?_⟩
           ·have hc : (!(((!(inB x.fp 0 65535)) || (!(inB x.tp 0 65535))) || (!(inB x.seq 0 4294967295)))) = true := by rw [d16] at hT;first | (injection hT with hT;simp [hT];done) | (injection hT;done) | simp_all
            replace d17 := d17.1 (by first | exact hc | (simp only [Bool.and_eq_true] at hc ⊢;first | exact hc.1 | exact hc.1.1 | simp_all))
            obtain ⟨-, -, -, -, -, -, -, -, -, -, -, -, -, -, -,c15, -, -, -,f0⟩ := PBlk.cells (show PBlk wx P0 x from hC.2.2.trans HP.out)
            refine Op1.g fun _ Z => ?_;go_simp;exact Z _ _ ⟨⟨fun _ => rfl,fun h => by rw [hc] at h;cases h⟩,hC,rR⟩
           ·exact ⟨⟨fun hc => absurd (d16.trans (congrArg Value.bool (by simpa using hc))) hT,fun _ => rfl⟩,hC,rR⟩
          ·intro T wx n hC (hn : n ≤ 0) hp
           obtain ⟨(d18 : ((!(((!(inB x.fp 0 65535)) || (!(inB x.tp 0 65535))) || (!(inB x.seq 0 4294967295)))) = true → T 18 = .int .i64 (x.ack)) ∧ ((!(((!(inB x.fp 0 65535)) || (!(inB x.tp 0 65535))) || (!(inB x.seq 0 4294967295)))) = false → T 18 = undef)),(d16 : T 16 = .bool (((!(inB x.fp 0 65535)) || (!(inB x.tp 0 65535))) || (!(inB x.seq 0 4294967295)))), -⟩ := hp
           refine ⟨fun hT => ?_,fun hT => ?_⟩
           ·have hc : (!(((!(inB x.fp 0 65535)) || (!(inB x.tp 0 65535))) || (!(inB x.seq 0 4294967295)))) = true := by rw [d16] at hT;first | (injection hT with hT;simp [hT];done) | (injection hT;done) | simp_all
            replace d18 := d18.1 (by first | exact hc | (simp only [Bool.and_eq_true] at hc ⊢;first | exact hc.1 | exact hc.1.1 | simp_all))
            refine Op1.g fun _ Z => ?_;go_simp;exact same_post (in_any _ _ _ _) (Z _ _ ⟨⟨fun _ => rfl,fun h => by rw [hc] at h;cases h⟩,hC,rR⟩)
           ·exact ⟨⟨fun hc => absurd (d16.trans (congrArg Value.bool (by simpa using hc))) hT,fun _ => rfl⟩,hC,rR⟩
          ·intro T wx n hC (hn : n ≤ 0) hp
           obtain ⟨(d19 : ((!(((!(inB x.fp 0 65535)) || (!(inB x.tp 0 65535))) || (!(inB x.seq 0 4294967295)))) = true → T 19 = .bool (inB x.ack 0 4294967295)) ∧ ((!(((!(inB x.fp 0 65535)) || (!(inB x.tp 0 65535))) || (!(inB x.seq 0 4294967295)))) = false → T 19 = undef)),(d16 : T 16 = .bool (((!(inB x.fp 0 65535)) || (!(inB x.tp 0 65535))) || (!(inB x.seq 0 4294967295)))), -⟩ := hp
           refine ⟨fun hT => ?_,fun hT => ?_⟩
           ·have hc : (!(((!(inB x.fp 0 65535)) || (!(inB x.tp 0 65535))) || (!(inB x.seq 0 4294967295)))) = true := by rw [d16] at hT;first | (injection hT with hT;simp [hT];done) | (injection hT;done) | simp_all
            replace d19 := d19.1 (by first | exact hc | (simp only [Bool.and_eq_true] at hc ⊢;first | exact hc.1 | exact hc.1.1 | simp_all))
            refine Op1.g fun _ Z => ?_;go_simp;exact Z _ _ ⟨⟨fun _ => rfl,fun h => by rw [hc] at h;cases h⟩,hC,rR⟩
           ·exact ⟨⟨fun hc => absurd (d16.trans (congrArg Value.bool (by simpa using hc))) hT,fun _ => rfl⟩,hC,rR⟩
          ·intro T wx n hC (hn : n ≤ 0) hp
           obtain ⟨(d16 : T 16 = .bool (((!(inB x.fp 0 65535)) || (!(inB x.tp 0 65535))) || (!(inB x.seq 0 4294967295)))),(d20 : ((!(((!(inB x.fp 0 65535)) || (!(inB x.tp 0 65535))) || (!(inB x.seq 0 4294967295)))) = true → T 20 = .bool (!(inB x.ack 0 4294967295))) ∧ ((!(((!(inB x.fp 0 65535)) || (!(inB x.tp 0 65535))) || (!(inB x.seq 0 4294967295)))) = false → T 20 = undef)), -⟩ := hp
           cases ha : (((!(inB x.fp 0 65535)) || (!(inB x.tp 0 65535))) || (!(inB x.seq 0 4294967295)))
           ·have dz := d20.1 (by first | exact hc | (simp [ha];done) | (simp only [ha,Bool.not_false,Bool.not_true,Bool.and_true,Bool.true_and];exact hc) | simp_all)
            rw [ha] at d16
            refine Op1.g fun _ Z => ?_;go_simp;exact Z _ _ ⟨congrArg Value.bool (by simp),hC,rR⟩
           ·rw [ha] at d16
            refine Op1.g fun _ Z => ?_;go_simp;exact Z _ _ ⟨congrArg Value.bool (by simp),hC,rR⟩
          ·intro T wx n hC (hn : n ≤ 0) hp
           obtain ⟨(d21 : T 21 = .bool ((((!(inB x.fp 0 65535)) || (!(inB x.tp 0 65535))) || (!(inB x.seq 0 4294967295))) || (!(inB x.ack 0 4294967295)))), -⟩ := hp
           refine Op1.g fun _ Z => ?_;go_simp;exact Z _ _ ⟨rfl,hC,rR⟩
          ·intro T wx n hC (hn : n ≤ 0) hp
           obtain ⟨(d22 : T 22 = .bool ((((!(inB x.fp 0 65535)) || (!(inB x.tp 0 65535))) || (!(inB x.seq 0 4294967295))) || (!(inB x.ack 0 4294967295)))), -⟩ := hp
           refine ⟨fun hT => ?_,fun hT => ?_⟩
           ·have hc : (!((((!(inB x.fp 0 65535)) || (!(inB x.tp 0 65535))) || (!(inB x.seq 0 4294967295))) || (!(inB x.ack 0 4294967295)))) = true := by rw [d22] at hT;first | (injection hT with hT;simp [hT];done) | (injection hT;done) | simp_all
            refine Op1.g fun _ Z => ?_;go_simp;exact Z _ _ ⟨⟨fun _ => rfl,fun h => by rw [hc] at h;cases h⟩,hC,rR⟩
           ·exact ⟨⟨fun hc => absurd (d22.trans (congrArg Value.bool (by simpa using hc))) hT,fun _ => rfl⟩,hC,rR⟩
          ·intro T wx n hC (hn : n ≤ 0) hp
           obtain ⟨(d23 : ((!((((!(inB x.fp 0 65535)) || (!(inB x.tp 0 65535))) || (!(inB x.seq 0 4294967295))) || (!(inB x.ack 0 4294967295)))) = true → T 23 = .pointer (some ⟨P0,17,none⟩)) ∧ ((!((((!(inB x.fp 0 65535)) || (!(inB x.tp 0 65535))) || (!(inB x.seq 0 4294967295))) || (!(inB x.ack 0 4294967295)))) = false → T 23 = undef)),(d22 : T 22 = .bool ((((!(inB x.fp 0 65535)) || (!(inB x.tp 0 65535))) || (!(inB x.seq 0 4294967295))) || (!(inB x.ack 0 4294967295)))), -⟩ := hp
           refine ⟨fun hT => ?_,fun hT => ?_⟩
           ·have hc : (!((((!(inB x.fp 0 65535)) || (!(inB x.tp 0 65535))) || (!(inB x.seq 0 4294967295))) || (!(inB x.ack 0 4294967295)))) = true := by rw [d22] at hT;first | (injection hT with hT;simp [hT];done) | (injection hT;done) | simp_all
            replace d23 := d23.1 (by first | exact hc | (simp only [Bool.and_eq_true] at hc ⊢;first | exact hc.1 | exact hc.1.1 | simp_all))
            obtain ⟨-, -, -, -, -, -, -, -, -, -, -, -, -, -, -, -, -,c17, -,f0⟩ := PBlk.cells (show PBlk wx P0 x from hC.2.2.trans HP.out)
            refine Op1.g fun _ Z => ?_;go_simp;exact Z _ _ ⟨⟨fun _ => rfl,fun h => by rw [hc] at h;cases h⟩,hC,rR⟩
           ·exact ⟨⟨fun hc => absurd (d22.trans (congrArg Value.bool (by simpa using hc))) hT,fun _ => rfl⟩,hC,rR⟩
          ·intro T wx n hC (hn : n ≤ 0) hp
           obtain ⟨(d24 : ((!((((!(inB x.fp 0 65535)) || (!(inB x.tp 0 65535))) || (!(inB x.seq 0 4294967295))) || (!(inB x.ack 0 4294967295)))) = true → T 24 = .int .i64 (x.id)) ∧ ((!((((!(inB x.fp 0 65535)) || (!(inB x.tp 0 65535))) || (!(inB x.seq 0 4294967295))) || (!(inB x.ack 0 4294967295)))) = false → T 24 = undef)),(d22 : T 22 = .bool ((((!(inB x.fp 0 65535)) || (!(inB x.tp 0 65535))) || (!(inB x.seq 0 4294967295))) || (!(inB x.ack 0 4294967295)))), -⟩ := hp
           refine ⟨fun hT => ?_,fun hT => ?_⟩
           ·have hc : (!((((!(inB x.fp 0 65535)) || (!(inB x.tp 0 65535))) || (!(inB x.seq 0 4294967295))) || (!(inB x.ack 0 4294967295)))) = true := by rw [d22] at hT;first | (injection hT with hT;simp [hT];done) | (injection hT;done) | simp_all
            replace d24 := d24.1 (by first | exact hc | (simp only [Bool.and_eq_true] at hc ⊢;first | exact hc.1 | exact hc.1.1 | simp_all))
            refine Op1.g fun _ Z => ?_;go_simp;exact same_post (in_any _ _ _ _) (Z _ _ ⟨⟨fun _ => rfl,fun h => by rw [hc] at h;cases h⟩,hC,rR⟩)
           ·exact ⟨⟨fun hc => absurd (d22.trans (congrArg Value.bool (by simpa using hc))) hT,fun _ => rfl⟩,hC,rR⟩
          ·intro T wx n hC (hn : n ≤ 0) hp
           obtain ⟨(d25 : ((!((((!(inB x.fp 0 65535)) || (!(inB x.tp 0 65535))) || (!(inB x.seq 0 4294967295))) || (!(inB x.ack 0 4294967295)))) = true → T 25 = .bool (inB x.id 0 65535)) ∧ ((!((((!(inB x.fp 0 65535)) || (!(inB x.tp 0 65535))) || (!(inB x.seq 0 4294967295))) || (!(inB x.ack 0 4294967295)))) = false → T 25 = undef)),(d22 : T 22 = .bool ((((!(inB x.fp 0 65535)) || (!(inB x.tp 0 65535))) || (!(inB x.seq 0 4294967295))) || (!(inB x.ack 0 4294967295)))), -⟩ := hp
           refine ⟨fun hT => ?_,fun hT => ?_⟩
           ·have hc : (!((((!(inB x.fp 0 65535)) || (!(inB x.tp 0 65535))) || (!(inB x.seq 0 4294967295))) || (!(inB x.ack 0 4294967295)))) = true := by rw [d22] at hT;first | (injection hT with hT;simp [hT];done) | (injection hT;done) | simp_all
            replace d25 := d25.1 (by first | exact hc | (simp only [Bool.and_eq_true] at hc ⊢;first | exact hc.1 | exact hc.1.1 | simp_all))
            refine Op1.g fun _ Z => ?_;go_simp;exact Z _ _ ⟨⟨fun _ => rfl,fun h => by rw [hc] at h;cases h⟩,hC,rR⟩
           ·exact ⟨⟨fun hc => absurd (d22.trans (congrArg Value.bool (by simpa using hc))) hT,fun _ => rfl⟩,hC,rR⟩
          ·intro T wx n hC (hn : n ≤ 0) hp
           obtain ⟨(d22 : T 22 = .bool ((((!(inB x.fp 0 65535)) || (!(inB x.tp 0 65535))) || (!(inB x.seq 0 4294967295))) || (!(inB x.ack 0 4294967295)))),(d26 : ((!((((!(inB x.fp 0 65535)) || (!(inB x.tp 0 65535))) || (!(inB x.seq 0 4294967295))) || (!(inB x.ack 0 4294967295)))) = true → T 26 = .bool (!(inB x.id 0 65535))) ∧ ((!((((!(inB x.fp 0 65535)) || (!(inB x.tp 0 65535))) || (!(inB x.seq 0 4294967295))) || (!(inB x.ack 0 4294967295)))) = false → T 26 = undef)), -⟩ := hp
           cases ha : ((((!(inB x.fp 0 65535)) || (!(inB x.tp 0 65535))) || (!(inB x.seq 0 4294967295))) || (!(inB x.ack 0 4294967295)))
           ·have dz := d26.1 (by first | exact hc | (simp [ha];done) | (simp only [ha,Bool.not_false,Bool.not_true,Bool.and_true,Bool.true_and];exact hc) | simp_all)
            rw [ha] at d22
            refine Op1.g fun _ Z => ?_;go_simp;exact Z _ _ ⟨congrArg Value.bool (by simp),hC,rR⟩
           ·rw [ha] at d22
            refine Op1.g fun _ Z => ?_;go_simp;exact Z _ _ ⟨congrArg Value.bool (by simp),hC,rR⟩
          ·intro T wx n hC (hn : n ≤ 0) hp
           obtain ⟨(d27 : T 27 = .bool (((((!(inB x.fp 0 65535)) || (!(inB x.tp 0 65535))) || (!(inB x.seq 0 4294967295))) || (!(inB x.ack 0 4294967295))) || (!(inB x.id 0 65535)))), -⟩ := hp
           refine Op1.g fun _ Z => ?_;go_simp;exact Z _ _ ⟨rfl,hC,rR⟩
          ·intro T wx n hC (hn : n ≤ 0) hp
           obtain ⟨(d28 : T 28 = .bool (((((!(inB x.fp 0 65535)) || (!(inB x.tp 0 65535))) || (!(inB x.seq 0 4294967295))) || (!(inB x.ack 0 4294967295))) || (!(inB x.id 0 65535)))), -⟩ := hp
           refine ⟨fun hT => ?_,fun hT => ?_⟩
           ·have hc : (!(((((!(inB x.fp 0 65535)) || (!(inB x.tp 0 65535))) || (!(inB x.seq 0 4294967295))) || (!(inB x.ack 0 4294967295))) || (!(inB x.id 0 65535)))) = true := by rw [d28] at hT;first | (injection hT with hT;simp [hT];done) | (injection hT;done) | simp_all
            refine Op1.g fun _ Z => ?_;go_simp;exact Z _ _ ⟨⟨fun _ => rfl,fun h => by rw [hc] at h;cases h⟩,hC,rR⟩
           ·exact ⟨⟨fun hc => absurd (d28.trans (congrArg Value.bool (by simpa using hc))) hT,fun _ => rfl⟩,hC,rR⟩
          ·intro T wx n hC (hn : n ≤ 0) hp
           obtain ⟨(d29 : ((!(((((!(inB x.fp 0 65535)) || (!(inB x.tp 0 65535))) || (!(inB x.seq 0 4294967295))) || (!(inB x.ack 0 4294967295))) || (!(inB x.id 0 65535)))) = true → T 29 = .bool (x.proto == 1)) ∧ ((!(((((!(inB x.fp 0 65535)) || (!(inB x.tp 0 65535))) || (!(inB x.seq 0 4294967295))) || (!(inB x.ack 0 4294967295))) || (!(inB x.id 0 65535)))) = false → T 29 = undef)),(d28 : T 28 = .bool (((((!(inB x.fp 0 65535)) || (!(inB x.tp 0 65535))) || (!(inB x.seq 0 4294967295))) || (!(inB x.ack 0 4294967295))) || (!(inB x.id 0 65535)))), -⟩ := hp
           refine ⟨fun hT => ?_,fun hT => ?_⟩
           ·have hc : (!(((((!(inB x.fp 0 65535)) || (!(inB x.tp 0 65535))) || (!(inB x.seq 0 4294967295))) || (!(inB x.ack 0 4294967295))) || (!(inB x.id 0 65535)))) = true := by rw [d28] at hT;first | (injection hT with hT;simp [hT];done) | (injection hT;done) | simp_all
            replace d29 := d29.1 (by first | exact hc | (simp only [Bool.and_eq_true] at hc ⊢;first | exact hc.1 | exact hc.1.1 | simp_all))
            refine Op1.g fun _ Z => ?_;go_simp;exact Z _ _ ⟨⟨fun _ => rfl,fun h => by rw [hc] at h;cases h⟩,hC,rR⟩
           ·exact ⟨⟨fun hc => absurd (d28.trans (congrArg Value.bool (by simpa using hc))) hT,fun _ => rfl⟩,hC,rR⟩
          ·intro T wx n hC (hn : n ≤ 0) hp
           obtain ⟨(d30 : ((!(((((!(inB x.fp 0 65535)) || (!(inB x.tp 0 65535))) || (!(inB x.seq 0 4294967295))) || (!(inB x.ack 0 4294967295))) || (!(inB x.id 0 65535)))) = true → T 30 = .bool (x.proto == 1)) ∧ ((!(((((!(inB x.fp 0 65535)) || (!(inB x.tp 0 65535))) || (!(inB x.seq 0 4294967295))) || (!(inB x.ack 0 4294967295))) || (!(inB x.id 0 65535)))) = false → T 30 = undef)), -⟩ := hp
           refine ⟨fun hT => ?_,fun hT => ?_⟩
           ·have hc : ((!(((((!(inB x.fp 0 65535)) || (!(inB x.tp 0 65535))) || (!(inB x.seq 0 4294967295))) || (!(inB x.ack 0 4294967295))) || (!(inB x.id 0 65535)))) && (x.proto == 1)) = true := by
             cases h9 : (!(((((!(inB x.fp 0 65535)) || (!(inB x.tp 0 65535))) || (!(inB x.seq 0 4294967295))) || (!(inB x.ack 0 4294967295))) || (!(inB x.id 0 65535)))) with
             | false => rw [d30.2 h9] at hT;cases hT
             | true => rw [d30.1 h9] at hT;first | (injection hT with hT;simp [hT];done) | (injection hT;done) | simp_all
            replace d30 := d30.1 (by simp only [Bool.and_eq_true] at hc ⊢;exact hc.1)
            refine Op1.g fun _ Z => ?_;go_simp;exact Z _ _ ⟨⟨fun _ => rfl,fun h => by rw [hc] at h;cases h⟩,hC,rR⟩
           ·exact ⟨⟨fun hc => absurd ((d30.1 (by simp only [Bool.and_eq_true] at hc ⊢;exact hc.1)).trans (congrArg Value.bool (by simp only [Bool.and_eq_true,Bool.not_eq_true'] at hc;exact hc.2))) hT,fun _ => rfl⟩,hC,rR⟩
          ·intro T wx n hC (hn : n ≤ 0) hp
           obtain ⟨(d31 : (((!(((((!(inB x.fp 0 65535)) || (!(inB x.tp 0 65535))) || (!(inB x.seq 0 4294967295))) || (!(inB x.ack 0 4294967295))) || (!(inB x.id 0 65535)))) && (x.proto == 1)) = true → T 31 = .pointer (some ⟨P0,14,none⟩)) ∧ (((!(((((!(inB x.fp 0 65535)) || (!(inB x.tp 0 65535))) || (!(inB x.seq 0 4294967295))) || (!(inB x.ack 0 4294967295))) || (!(inB x.id 0 65535)))) && (x.proto == 1)) = false → T 31 = undef)),(d30 : ((!(((((!(inB x.fp 0 65535)) || (!(inB x.tp 0 65535))) || (!(inB x.seq 0 4294967295))) || (!(inB x.ack 0 4294967295))) || (!(inB x.id 0 65535)))) = true → T 30 = .bool (x.proto == 1)) ∧ ((!(((((!(inB x.fp 0 65535)) || (!(inB x.tp 0 65535))) || (!(inB x.seq 0 4294967295))) || (!(inB x.ack 0 4294967295))) || (!(inB x.id 0 65535)))) = false → T 30 = undef)), -⟩ := hp
           refine ⟨fun hT => ?_,fun hT => ?_⟩
           ·have hc : ((!(((((!(inB x.fp 0 65535)) || (!(inB x.tp 0 65535))) || (!(inB x.seq 0 4294967295))) || (!(inB x.ack 0 4294967295))) || (!(inB x.id 0 65535)))) && (x.proto == 1)) = true := by
             cases h9 : (!(((((!(inB x.fp 0 65535)) || (!(inB x.tp 0 65535))) || (!(inB x.seq 0 4294967295))) || (!(inB x.ack 0 4294967295))) || (!(inB x.id 0 65535)))) with
             | false => rw [d30.2 h9] at hT;cases hT
             | true => rw [d30.1 h9] at hT;first | (injection hT with hT;simp [hT];done) | (injection hT;done) | simp_all
            replace d30 := d30.1 (by simp only [Bool.and_eq_true] at hc ⊢;exact hc.1)
            replace d31 := d31.1 (by first | exact hc | (simp only [Bool.and_eq_true] at hc ⊢;first | exact hc.1 | exact hc.1.1 | simp_all))
            obtain ⟨-, -, -, -, -, -, -, -, -, -, -, -, -, -,c14, -, -, -, -,f0⟩ := PBlk.cells (show PBlk wx P0 x from hC.2.2.trans HP.out)
            refine Op1.g fun _ Z => ?_;go_simp;exact Z _ _ ⟨⟨fun _ => rfl,fun h => by rw [hc] at h;cases h⟩,hC,rR⟩
           ·exact ⟨⟨fun hc => absurd ((d30.1 (by simp only [Bool.and_eq_true] at hc ⊢;exact hc.1)).trans (congrArg Value.bool (by simp only [Bool.and_eq_true,Bool.not_eq_true'] at hc;exact hc.2))) hT,fun _ => rfl⟩,hC,rR⟩
          ·intro T wx n hC (hn : n ≤ 0) hp
           obtain ⟨(d32 : (((!(((((!(inB x.fp 0 65535)) || (!(inB x.tp 0 65535))) || (!(inB x.seq 0 4294967295))) || (!(inB x.ack 0 4294967295))) || (!(inB x.id 0 65535)))) && (x.proto == 1)) = true → T 32 = .int .i64 (x.seq)) ∧ (((!(((((!(inB x.fp 0 65535)) || (!(inB x.tp 0 65535))) || (!(inB x.seq 0 4294967295))) || (!(inB x.ack 0 4294967295))) || (!(inB x.id 0 65535)))) && (x.proto == 1)) = false → T 32 = undef)),(d30 : ((!(((((!(inB x.fp 0 65535)) || (!(inB x.tp 0 65535))) || (!(inB x.seq 0 4294967295))) || (!(inB x.ack 0 4294967295))) || (!(inB x.id 0 65535)))) = true → T 30 = .bool (x.proto == 1)) ∧ ((!(((((!(inB x.fp 0 65535)) || (!(inB x.tp 0 65535))) || (!(inB x.seq 0 4294967295))) || (!(inB x.ack 0 4294967295))) || (!(inB x.id 0 65535)))) = false → T 30 = undef)), -⟩ := hp
           refine ⟨fun hT => ?_,fun hT => ?_⟩
           ·have hc : ((!(((((!(inB x.fp 0 65535)) || (!(inB x.tp 0 65535))) || (!(inB x.seq 0 4294967295))) || (!(inB x.ack 0 4294967295))) || (!(inB x.id 0 65535)))) && (x.proto == 1)) = true := by
             cases h9 : (!(((((!(inB x.fp 0 65535)) || (!(inB x.tp 0 65535))) || (!(inB x.seq 0 4294967295))) || (!(inB x.ack 0 4294967295))) || (!(inB x.id 0 65535)))) with
             | false => rw [d30.2 h9] at hT;cases hT
             | true => rw [d30.1 h9] at hT;first | (injection hT with hT;simp [hT];done) | (injection hT;done) | simp_all
            replace d30 := d30.1 (by simp only [Bool.and_eq_true] at hc ⊢;exact hc.1)
            replace d32 := d32.1 (by first | exact hc | (simp only [Bool.and_eq_true] at hc ⊢;first | exact hc.1 | exact hc.1.1 | simp_all))
            refine Op1.g fun _ Z => ?_;go_simp;exact Z _ _ ⟨⟨fun _ => rfl,fun h => by rw [hc] at h;cases h⟩,hC,rR⟩
           ·exact ⟨⟨fun hc => absurd ((d30.1 (by simp only [Bool.and_eq_true] at hc ⊢;exact hc.1)).trans (congrArg Value.bool (by simp only [Bool.and_eq_true,Bool.not_eq_true'] at hc;exact hc.2))) hT,fun _ => rfl⟩,hC,rR⟩
          ·intro T wx n hC (hn : n ≤ 0) hp
           obtain ⟨(d30 : ((!(((((!(inB x.fp 0 65535)) || (!(inB x.tp 0 65535))) || (!(inB x.seq 0 4294967295))) || (!(inB x.ack 0 4294967295))) || (!(inB x.id 0 65535)))) = true → T 30 = .bool (x.proto == 1)) ∧ ((!(((((!(inB x.fp 0 65535)) || (!(inB x.tp 0 65535))) || (!(inB x.seq 0 4294967295))) || (!(inB x.ack 0 4294967295))) || (!(inB x.id 0 65535)))) = false → T 30 = undef)),(d33 : (((!(((((!(inB x.fp 0 65535)) || (!(inB x.tp 0 65535))) || (!(inB x.seq 0 4294967295))) || (!(inB x.ack 0 4294967295))) || (!(inB x.id 0 65535)))) && (x.proto == 1)) = true → T 33 = .bool (decide (65535 < x.seq))) ∧ (((!(((((!(inB x.fp 0 65535)) || (!(inB x.tp 0 65535))) || (!(inB x.seq 0 4294967295))) || (!(inB x.ack 0 4294967295))) || (!(inB x.id 0 65535)))) && (x.proto == 1)) = false → T 33 = undef)),(d28 : T 28 = .bool (((((!(inB x.fp 0 65535)) || (!(inB x.tp 0 65535))) || (!(inB x.seq 0 4294967295))) || (!(inB x.ack 0 4294967295))) || (!(inB x.id 0 65535)))), -⟩ := hp
           refine ⟨fun hT => ?_,fun hT => ?_⟩
           ·have hc : (!(((((!(inB x.fp 0 65535)) || (!(inB x.tp 0 65535))) || (!(inB x.seq 0 4294967295))) || (!(inB x.ack 0 4294967295))) || (!(inB x.id 0 65535)))) = true := by rw [d28] at hT;first | (injection hT with hT;simp [hT];done) | (injection hT;done) | simp_all
            replace d30 := d30.1 (by first | exact hc | (simp only [Bool.and_eq_true] at hc ⊢;first | exact hc.1 | exact hc.1.1 | simp_all))
            cases ha : (x.proto == 1)
            ·rw [ha] at d30
             refine Op1.g fun _ Z => ?_;go_simp;exact Z _ _ ⟨⟨fun _ => congrArg Value.bool (by simp),fun h => by rw [hc] at h;cases h⟩,hC,rR⟩
            ·have dz := d33.1 (by first | exact hc | (simp [ha];done) | (simp only [ha,Bool.and_true];exact hc) | simp_all)
             rw [ha] at d30
             refine Op1.g fun _ Z => ?_;go_simp;exact Z _ _ ⟨⟨fun _ => congrArg Value.bool (by simp),fun h => by rw [hc] at h;cases h⟩,hC,rR⟩
           ·exact ⟨⟨fun hc => absurd (d28.trans (congrArg Value.bool (by simpa using hc))) hT,fun _ => rfl⟩,hC,rR⟩
          ·intro T wx n hC (hn : n ≤ 0) hp
           obtain ⟨(d28 : T 28 = .bool (((((!(inB x.fp 0 65535)) || (!(inB x.tp 0 65535))) || (!(inB x.seq 0 4294967295))) || (!(inB x.ack 0 4294967295))) || (!(inB x.id 0 65535)))),(d34 : ((!(((((!(inB x.fp 0 65535)) || (!(inB x.tp 0 65535))) || (!(inB x.seq 0 4294967295))) || (!(inB x.ack 0 4294967295))) || (!(inB x.id 0 65535)))) = true → T 34 = .bool ((x.proto == 1) && (decide (65535 < x.seq)))) ∧ ((!(((((!(inB x.fp 0 65535)) || (!(inB x.tp 0 65535))) || (!(inB x.seq 0 4294967295))) || (!(inB x.ack 0 4294967295))) || (!(inB x.id 0 65535)))) = false → T 34 = undef)), -⟩ := hp
           cases ha : (((((!(inB x.fp 0 65535)) || (!(inB x.tp 0 65535))) || (!(inB x.seq 0 4294967295))) || (!(inB x.ack 0 4294967295))) || (!(inB x.id 0 65535)))
           ·have dz := d34.1 (by first | exact hc | (simp [ha];done) | (simp only [ha,Bool.not_false,Bool.not_true,Bool.and_true,Bool.true_and];exact hc) | simp_all)
            rw [ha] at d28
            refine Op1.g fun _ Z => ?_;go_simp;exact Z _ _ ⟨congrArg Value.bool (by simp),hC,rR⟩
           ·rw [ha] at d28
            refine Op1.g fun _ Z => ?_;go_simp;exact Z _ _ ⟨congrArg Value.bool (by simp),hC,rR⟩
         case hend5 =>
          intro T wy5 ⟨n,hn,hC,hR⟩
          have r58 : T 35 = .bool ((((((!(inB x.fp 0 65535)) || (!(inB x.tp 0 65535))) || (!(inB x.seq 0 4294967295))) || (!(inB x.ack 0 4294967295))) || (!(inB x.id 0 65535))) || ((x.proto == 1) && (decide (65535 < x.seq)))) := hR 35 (by omega)
          rw [r58]
          clear r58
          have HC := Lib.hid hC.1
          have hB2 := hC.size
          clear hR hC
          replace HBx := Lib.hid (HBx.out.trans (HC.out.mono (Nat.le_of_lt (Blk.lt HP.out))))
          replace HP := Lib.hid (Blk.below HP.out HC.out (Blk.lt HP.out))
          clear HC hB hB2
          rcases Bool.eq_false_or_eq_true ((((((!(inB x.fp 0 65535)) || (!(inB x.tp 0 65535))) || (!(inB x.seq 0 4294967295))) || (!(inB x.ack 0 4294967295))) || (!(inB x.id 0 65535))) || ((x.proto == 1) && (decide (65535 < x.seq)))) with hE5 | hE5
          ·rw [hE5]
           replace hE5 := Lib.hid hE5
           go_wp2_with fail
           have hP0 := HP0.out
           subst hP0
           go_ret
           refine ⟨?_,HBx.out⟩
           rw [hrf.out];simp only [hE2.out,hE3.out,hE4.out,hE5.out,ha1.out,ha2.out,ne_eq,not_true_eq_false,if_true,if_false,Bool.false_eq_true] <;> rfl
          ·rw [hE5]
           replace hE5 := Lib.hid hE5
           go_upto_region 17 with fail
           have hB : RC.fine (⟨wy5.heap.size,wy5,(.slice none 0 0),false,P0⟩ : RC) := ⟨Nat.le_refl _,Blk.lt HP.out,by simp [Value.ownBlock]⟩
           refine Lm.wp_region_seq 11 0 (fun p vv nn ww => (List.getD ((.val (.bool (x.proto == 1))) :: (.val (.bool (x.proto == 1))) :: (.gval ((x.proto == 1)) (.pointer (some ⟨P0,8,none⟩))) :: (.gval ((x.proto == 1)) (.int .i64 (x.fp))) :: (.gval ((x.proto == 1)) (.bool (x.fp != 0))) :: (.gval ((x.proto == 1)) (.bool (x.fp != 0))) :: (.gval (((x.proto == 1) && !(x.fp != 0))) (.pointer (some ⟨P0,9,none⟩))) :: (.gval (((x.proto == 1) && !(x.fp != 0))) (.int .i64 (x.tp))) :: (.gval (((x.proto == 1) && !(x.fp != 0))) (.bool (x.tp != 0))) :: (.gval ((x.proto == 1)) (.bool ((x.fp != 0) || (x.tp != 0)))) :: (.val (.bool ((x.proto == 1) && ((x.fp != 0) || (x.tp != 0))))) :: [] : List Ds) p .any).R (⟨wy5.heap.size,wy5,(.slice none 0 0),false,P0⟩ : RC) vv nn ww) (RC.C (⟨wy5.heap.size,wy5,(.slice none 0 0),false,P0⟩ : RC)) (RC.S (⟨wy5.heap.size,wy5,(.slice none 0 0),false,P0⟩ : RC)) (fun _ => 0) (fun _ => 0)
            (by kernel_rfl) (by kernel_rfl) (by decide) (by kernel_rfl) (fun p vv nn ww n' w' h hs => ds_keep hB _ rfl p vv nn ww n' w' h hs) RC.start0 ?hX6
           case' hX6 => (apply Exists.intro;refine ⟨fun T => ?hA6,?hob6,?hend6⟩)
           case hA6 =>
            simp only [setAll,List.take_succ_cons,List.take_zero,Act.put,List.setIfInBounds_toArray,List.set_cons_succ,List.set_cons_zero,Nat.reduceAdd]
            exact rfl
           case hob6 =>
            refine ⟨?_,?_,?_,?_,?_,?_,?_,?_,?_,?_,?_,trivial⟩
            ·intro T wx n hC (hn : n ≤ 0) hp
             refine Op1.g fun _ Z => ?_;go_simp;exact Z _ _ ⟨rfl,hC,rR⟩
            ·intro T wx n hC (hn : n ≤ 0) hp
             obtain ⟨(d0 : T 0 = .bool (x.proto == 1)), -⟩ := hp
             refine Op1.g fun _ Z => ?_;go_simp;exact Z _ _ ⟨rfl,hC,rR⟩
            ·intro T wx n hC (hn : n ≤ 0) hp
             obtain ⟨(d1 : T 1 = .bool (x.proto == 1)), -⟩ := hp
             refine ⟨fun hT => ?_,fun hT => ?_⟩
             ·have hc : (x.proto == 1) = true := by rw [d1] at hT;injection hT
              refine Op1.g fun _ Z => ?_;go_simp;exact Z _ _ ⟨⟨fun _ => rfl,fun h => by rw [hc] at h;cases h⟩,hC,rR⟩
             ·exact ⟨⟨fun hc => absurd (d1.trans (congrArg Value.bool hc)) hT,fun _ => rfl⟩,hC,rR⟩
            ·intro T wx n hC (hn : n ≤ 0) hp
             obtain ⟨(d2 : ((x.proto == 1) = true → T 2 = .pointer (some ⟨P0,8,none⟩)) ∧ ((x.proto == 1) = false → T 2 = undef)),(d1 : T 1 = .bool (x.proto == 1)), -⟩ := hp
             refine ⟨fun hT => ?_,fun hT => ?_⟩
             ·have hc : (x.proto == 1) = true := by rw [d1] at hT;injection hT
              replace d2 := d2.1 (by first | exact hc | (simp only [Bool.and_eq_true] at hc ⊢;first | exact hc.1 | exact hc.1.1 | simp_all))
              obtain ⟨-, -, -, -, -, -, -, -,c8, -, -, -, -, -, -, -, -, -, -,f0⟩ := PBlk.cells (show PBlk wx P0 x from hC.2.2.trans HP.out)
              refine Op1.g fun _ Z => ?_;go_simp;exact Z _ _ ⟨⟨fun _ => rfl,fun h => by rw [hc] at h;cases h⟩,hC,rR⟩
             ·exact ⟨⟨fun hc => absurd (d1.trans (congrArg Value.bool hc)) hT,fun _ => rfl⟩,hC,rR⟩
            ·intro T wx n hC (hn : n ≤ 0) hp
             obtain ⟨(d3 : ((x.proto == 1) = true → T 3 = .int .i64 (x.fp)) ∧ ((x.proto == 1) = false → T 3 = undef)),(d1 : T 1 = .bool (x.proto == 1)), -⟩ := hp
             refine ⟨fun hT => ?_,fun hT => ?_⟩
             ·have hc : (x.proto == 1) = true := by rw [d1] at hT;injection hT
              replace d3 := d3.1 (by first | exact hc | (simp only [Bool.and_eq_true] at hc ⊢;first | exact hc.1 | exact hc.1.1 | simp_all))
              refine Op1.g fun _ Z => ?_;go_simp;exact Z _ _ ⟨⟨fun _ => rfl,fun h => by rw [hc] at h;cases h⟩,hC,rR⟩
             ·exact ⟨⟨fun hc => absurd (d1.trans (congrArg Value.bool hc)) hT,fun _ => rfl⟩,hC,rR⟩
            ·intro T wx n hC (hn : n ≤ 0) hp
             obtain ⟨(d4 : ((x.proto == 1) = true → T 4 = .bool (x.fp != 0)) ∧ ((x.proto == 1) = false → T 4 = undef)),(d1 : T 1 = .bool (x.proto == 1)), -⟩ := hp
             refine ⟨fun hT => ?_,fun hT => ?_⟩
             ·have hc : (x.proto == 1) = true := by rw [d1] at hT;injection hT
              replace d4 := d4.1 (by first | exact hc | (simp only [Bool.and_eq_true] at hc ⊢;first | exact hc.1 | exact hc.1.1 | simp_all))
              refine Op1.g fun _ Z => ?_;go_simp;exact Z _ _ ⟨⟨fun _ => rfl,fun h => by rw [hc] at h;cases h⟩,hC,rR⟩
             ·exact ⟨⟨fun hc => absurd (d1.trans (congrArg Value.bool hc)) hT,fun _ => rfl⟩,hC,rR⟩
            ·intro T wx n hC (hn : n ≤ 0) hp
             obtain ⟨(d5 : ((x.proto == 1) = true → T 5 = .bool (x.fp != 0)) ∧ ((x.proto == 1) = false → T 5 = undef)), -⟩ := hp
             refine ⟨fun hT => ?_,fun hT => ?_⟩
             ·have hc : ((x.proto == 1) && !(x.fp != 0)) = true := by
               cases h9 : (x.proto == 1) with
               | false => rw [d5.2 h9] at hT;cases hT
               | true => rw [d5.1 h9] at hT;first | (injection hT with hT;simp [hT];done) | (injection hT;done) | simp_all
              replace d5 := d5.1 (by simp only [Bool.and_eq_true] at hc ⊢;exact hc.1)
              refine Op1.g fun _ Z => ?_;go_simp;exact Z _ _ ⟨⟨fun _ => rfl,fun h => by rw [hc] at h;cases h⟩,hC,rR⟩
             ·exact ⟨⟨fun hc => absurd ((d5.1 (by simp only [Bool.and_eq_true] at hc ⊢;exact hc.1)).trans (congrArg Value.bool (by simp only [Bool.and_eq_true,Bool.not_eq_true'] at hc;exact hc.2))) hT,fun _ => rfl⟩,hC,rR⟩
            ·intro T wx n hC (hn : n ≤ 0) hp
             obtain ⟨(d6 : (((x.proto == 1) && !(x.fp != 0)) = true → T 6 = .pointer (some ⟨P0,9,none⟩)) ∧ (((x.proto == 1) && !(x.fp != 0)) = false → T 6 = undef)),(d5 : ((x.proto == 1) = true → T 5 = .bool (x.fp != 0)) ∧ ((x.proto == 1) = false → T 5 = undef)), -⟩ := hp
             refine ⟨fun hT => ?_,fun hT => ?_⟩
             ·have hc : ((x.proto == 1) && !(x.fp != 0)) = true := by
               cases h9 : (x.proto == 1) with
               | false => rw [d5.2 h9] at hT;cases hT
               | true => rw [d5.1 h9] at hT;first | (injection hT with hT;simp [hT];done) | (injection hT;done) | simp_all
              replace d5 := d5.1 (by simp only [Bool.and_eq_true] at hc ⊢;exact hc.1)
              replace d6 := d6.1 (by first | exact hc | (simp only [Bool.and_eq_true] at hc ⊢;first | exact hc.1 | exact hc.1.1 | simp_all))
              obtain ⟨-, -, -, -, -, -, -, -, -,c9, -, -, -, -, -, -, -, -, -,f0⟩ := PBlk.cells (show PBlk wx P0 x from hC.2.2.trans HP.out)
              refine Op1.g fun _ Z => ?_;go_simp;exact Z _ _ ⟨⟨fun _ => rfl,fun h => by rw [hc] at h;cases h⟩,hC,rR⟩
             ·exact ⟨⟨fun hc => absurd ((d5.1 (by simp only [Bool.and_eq_true] at hc ⊢;exact hc.1)).trans (congrArg Value.bool (by simp only [Bool.and_eq_true,Bool.not_eq_true'] at hc;exact hc.2))) hT,fun _ => rfl⟩,hC,rR⟩
            ·intro T wx n hC (hn : n ≤ 0) hp
             obtain ⟨(d7 : (((x.proto == 1) && !(x.fp != 0)) = true → T 7 = .int .i64 (x.tp)) ∧ (((x.proto == 1) && !(x.fp != 0)) = false → T 7 = undef)),(d5 : ((x.proto == 1) = true → T 5 = .bool (x.fp != 0)) ∧ ((x.proto == 1) = false → T 5 = undef)), -⟩ := hp
             refine ⟨fun hT => ?_,fun hT => ?_⟩
             ·have hc : ((x.proto == 1) && !(x.fp != 0)) = true := by
               cases h9 : (x.proto == 1) with
               | false => rw [d5.2 h9] at hT;cases hT
               | true => rw [d5.1 h9] at hT;first | (injection hT with hT;simp [hT];done) | (injection hT;done) | simp_all
              replace d5 := d5.1 (by simp only [Bool.and_eq_true] at hc ⊢;exact hc.1)
              replace d7 := d7.1 (by first | exact hc | (simp only [Bool.and_eq_true] at hc ⊢;first | exact hc.1 | exact hc.1.1 | simp_all))
              refine Op1.g fun _ Z => ?_;go_simp;exact Z _ _ ⟨⟨fun _ => rfl,fun h => by rw [hc] at h;cases h⟩,hC,rR⟩
             ·exact ⟨⟨fun hc => absurd ((d5.1 (by simp only [Bool.and_eq_true] at hc ⊢;exact hc.1)).trans (congrArg Value.bool (by simp only [Bool.and_eq_true,Bool.not_eq_true'] at hc;exact hc.2))) hT,fun _ => rfl⟩,hC,rR⟩
            ·intro T wx n hC (hn : n ≤ 0) hp
             obtain ⟨(d5 : ((x.proto == 1) = true → T 5 = .bool (x.fp != 0)) ∧ ((x.proto == 1) = false → T 5 = undef)),(d8 : (((x.proto == 1) && !(x.fp != 0)) = true → T 8 = .bool (x.tp != 0)) ∧ (((x.proto == 1) && !(x.fp != 0)) = false → T 8 = undef)),(d1 : T 1 = .bool (x.proto == 1)), -⟩ := hp
             refine ⟨fun hT => ?_,fun hT => ?_⟩
             ·have hc : (x.proto == 1) = true := by rw [d1] at hT;injection hT
              replace d5 := d5.1 (by first | exact hc | (simp only [Bool.and_eq_true] at hc ⊢;first | exact hc.1 | exact hc.1.1 | simp_all))
              cases ha : (x.fp != 0)
              ·have dz := d8.1 (by first | exact hc | (simp [ha];done) | (simp only [ha,Bool.not_false,Bool.and_true];exact hc) | simp_all)
               rw [ha] at d5
               refine Op1.g fun _ Z => ?_;go_simp;exact Z _ _ ⟨⟨fun _ => congrArg Value.bool (by simp),fun h => by rw [hc] at h;cases h⟩,hC,rR⟩
              ·rw [ha] at d5
               refine Op1.g fun _ Z => ?_;go_simp;exact Z _ _ ⟨⟨fun _ => congrArg Value.bool (by simp),fun h => by rw [hc] at h;cases h⟩,hC,rR⟩
             ·exact ⟨⟨fun hc => absurd (d1.trans (congrArg Value.bool hc)) hT,fun _ => rfl⟩,hC,rR⟩
            ·intro T wx n hC (hn : n ≤ 0) hp
             obtain ⟨(d1 : T 1 = .bool (x.proto == 1)),(d9 : ((x.proto == 1) = true → T 9 = .bool ((x.fp != 0) || (x.tp != 0))) ∧ ((x.proto == 1) = false → T 9 = undef)), -⟩ := hp
             cases ha : (x.proto == 1)
             ·rw [ha] at d1
              refine Op1.g fun _ Z => ?_;go_simp;exact Z _ _ ⟨congrArg Value.bool (by simp),hC,rR⟩
             ·have dz := d9.1 (by first | exact hc | (simp [ha];done) | (simp only [ha,Bool.not_false,Bool.not_true,Bool.and_true,Bool.true_and];exact hc) | simp_all)
              rw [ha] at d1
              refine Op1.g fun _ Z => ?_;go_simp;exact Z _ _ ⟨congrArg Value.bool (by simp),hC,rR⟩
           case hend6 =>
            intro T wy6 ⟨n,hn,hC,hR⟩
            have r95 : T 10 = .bool ((x.proto == 1) && ((x.fp != 0) || (x.tp != 0))) := hR 10 (by omega)
            rw [r95]
            clear r95
            have HC := Lib.hid hC.1
            have hB2 := hC.size
            clear hR hC
            replace HBx := Lib.hid (HBx.out.trans (HC.out.mono (Nat.le_of_lt (Blk.lt HP.out))))
            replace HP := Lib.hid (Blk.below HP.out HC.out (Blk.lt HP.out))
            clear HC hB hB2
            rcases Bool.eq_false_or_eq_true ((x.proto == 1) && ((x.fp != 0) || (x.tp != 0))) with hE6 | hE6
            ·rw [hE6]
             replace hE6 := Lib.hid hE6
             go_wp2_with fail
             have hP0 := HP0.out
             subst hP0
             go_ret
             refine ⟨?_,HBx.out⟩
             rw [hrf.out];simp only [hE2.out,hE3.out,hE4.out,hE5.out,hE6.out,ha1.out,ha2.out,ne_eq,not_true_eq_false,if_true,if_false,Bool.false_eq_true] <;> rfl
            ·rw [hE6]
             replace hE6 := Lib.hid hE6
             go_upto_region 18 with fail
             have hB : RC.fine (⟨wy6.heap.size,wy6,(.slice none 0 0),false,P0⟩ : RC) := ⟨Nat.le_refl _,Blk.lt HP.out,by simp [Value.ownBlock]⟩
             refine Lm.wp_region_seq 23 0 (fun p vv nn ww => (List.getD ((.val (.bool (x.proto == 6))) :: (.val (.bool (!(x.proto == 6)))) :: (.val (.bool (!(x.proto == 6)))) :: (.gval ((!(x.proto == 6))) (.pointer (some ⟨P0,10,none⟩))) :: (.gval ((!(x.proto == 6))) (.bool x.syn)) :: (.gval ((!(x.proto == 6))) (.bool x.syn)) :: (.gval (((!(x.proto == 6)) && !x.syn)) (.pointer (some ⟨P0,11,none⟩))) :: (.gval (((!(x.proto == 6)) && !x.syn)) (.bool x.fin)) :: (.gval ((!(x.proto == 6))) (.bool (x.syn || x.fin))) :: (.gval ((!(x.proto == 6))) (.bool (x.syn || x.fin))) :: (.gval (((!(x.proto == 6)) && !(x.syn || x.fin))) (.pointer (some ⟨P0,12,none⟩))) :: (.gval (((!(x.proto == 6)) && !(x.syn || x.fin))) (.bool x.rst)) :: (.gval ((!(x.proto == 6))) (.bool ((x.syn || x.fin) || x.rst))) :: (.gval ((!(x.proto == 6))) (.bool ((x.syn || x.fin) || x.rst))) :: (.gval (((!(x.proto == 6)) && !((x.syn || x.fin) || x.rst))) (.pointer (some ⟨P0,13,none⟩))) :: (.gval (((!(x.proto == 6)) && !((x.syn || x.fin) || x.rst))) (.bool x.has)) :: (.gval ((!(x.proto == 6))) (.bool (((x.syn || x.fin) || x.rst) || x.has))) :: (.gval ((!(x.proto == 6))) (.bool (((x.syn || x.fin) || x.rst) || x.has))) :: (.gval (((!(x.proto == 6)) && !(((x.syn || x.fin) || x.rst) || x.has))) (.pointer (some ⟨P0,15,none⟩))) :: (.gval (((!(x.proto == 6)) && !(((x.syn || x.fin) || x.rst) || x.has))) (.int .i64 (x.ack))) :: (.gval (((!(x.proto == 6)) && !(((x.syn || x.fin) || x.rst) || x.has))) (.bool (x.ack != 0))) :: (.gval ((!(x.proto == 6))) (.bool ((((x.syn || x.fin) || x.rst) || x.has) || (x.ack != 0)))) :: (.val (.bool ((!(x.proto == 6)) && ((((x.syn || x.fin) || x.rst) || x.has) || (x.ack != 0))))) :: [] : List Ds) p .any).R (⟨wy6.heap.size,wy6,(.slice none 0 0),false,P0⟩ : RC) vv nn ww) (RC.C (⟨wy6.heap.size,wy6,(.slice none 0 0),false,P0⟩ : RC)) (RC.S (⟨wy6.heap.size,wy6,(.slice none 0 0),false,P0⟩ : RC)) (fun _ => 0) (fun _ => 0)
              (by kernel_rfl) (by kernel_rfl) (by decide) (by kernel_rfl) (fun p vv nn ww n' w' h hs => ds_keep hB _ rfl p vv nn ww n' w' h hs) RC.start0 ?hX7
             case' hX7 => (apply Exists.intro;refine ⟨fun T => ?hA7,?hob7,?hend7⟩)
             case hA7 =>
              simp only [setAll,List.take_succ_cons,List.take_zero,Act.put,List.setIfInBounds_toArray,List.set_cons_succ,List.set_cons_zero,Nat.reduceAdd]
              exact rfl
             case hob7 =>
              refine ⟨?_,?_,?_,?_,?_,?_,?_,?_,?_,?_,?_,?_,?_,?_,?_,?_,?_,?_,?_,?_,?_,?_,?_,trivial⟩
              ·intro T wx n hC (hn : n ≤ 0) hp
               refine Op1.g fun _ Z => ?_;go_simp;exact Z _ _ ⟨rfl,hC,rR⟩
              ·intro T wx n hC (hn : n ≤ 0) hp
               obtain ⟨(d0 : T 0 = .bool (x.proto == 6)), -⟩ := hp
               refine Op1.g fun _ Z => ?_;go_simp;exact Z _ _ ⟨rfl,hC,rR⟩
              ·intro T wx n hC (hn : n ≤ 0) hp
               obtain ⟨(d1 : T 1 = .bool (!(x.proto == 6))), -⟩ := hp
               refine Op1.g fun _ Z => ?_;go_simp;exact Z _ _ ⟨rfl,hC,rR⟩
              ·intro T wx n hC (hn : n ≤ 0) hp
               obtain ⟨(d2 : T 2 = .bool (!(x.proto == 6))), -⟩ := hp
               refine ⟨fun hT => ?_,fun hT => ?_⟩
               ·have hc : (!(x.proto == 6)) = true := by rw [d2] at hT;injection hT
                refine Op1.g fun _ Z => ?_;go_simp;exact Z _ _ ⟨⟨fun _ => rfl,fun h => by rw [hc] at h;cases h⟩,hC,rR⟩
               ·exact ⟨⟨fun hc => absurd (d2.trans (congrArg Value.bool hc)) hT,fun _ => rfl⟩,hC,rR⟩
              ·intro T wx n hC (hn : n ≤ 0) hp
               obtain ⟨(d3 : ((!(x.proto == 6)) = true → T 3 = .pointer (some ⟨P0,10,none⟩)) ∧ ((!(x.proto == 6)) = false → T 3 = undef)),(d2 : T 2 = .bool (!(x.proto == 6))), -⟩ := hp
               refine ⟨fun hT => ?_,fun hT => ?_⟩
               ·have hc : (!(x.proto == 6)) = true := by rw [d2] at hT;injection hT
                replace d3 := d3.1 (by first | exact hc | (simp only [Bool.and_eq_true] at hc ⊢;first | exact hc.1 | exact hc.1.1 | simp_all))
                obtain ⟨-, -, -, -, -, -, -, -, -, -,c10, -, -, -, -, -, -, -, -,f0⟩ := PBlk.cells (show PBlk wx P0 x from hC.2.2.trans HP.out)
                refine Op1.g fun _ Z => ?_;go_simp;exact Z _ _ ⟨⟨fun _ => rfl,fun h => by rw [hc] at h;cases h⟩,hC,rR⟩
               ·exact ⟨⟨fun hc => absurd (d2.trans (congrArg Value.bool hc)) hT,fun _ => rfl⟩,hC,rR⟩
              ·intro T wx n hC (hn : n ≤ 0) hp
               obtain ⟨(d4 : ((!(x.proto == 6)) = true → T 4 = .bool x.syn) ∧ ((!(x.proto == 6)) = false → T 4 = undef)),(d2 : T 2 = .bool (!(x.proto == 6))), -⟩ := hp
               refine ⟨fun hT => ?_,fun hT => ?_⟩
               ·have hc : (!(x.proto == 6)) = true := by rw [d2] at hT;injection hT
                replace d4 := d4.1 (by first | exact hc | (simp only [Bool.and_eq_true] at hc ⊢;first | exact hc.1 | exact hc.1.1 | simp_all))
                refine Op1.g fun _ Z => ?_;go_simp;exact Z _ _ ⟨⟨fun _ => rfl,fun h => by rw [hc] at h;cases h⟩,hC,rR⟩
               ·exact ⟨⟨fun hc => absurd (d2.trans (congrArg Value.bool hc)) hT,fun _ => rfl⟩,hC,rR⟩
              ·intro T wx n hC (hn : n ≤ 0) hp
               obtain ⟨(d5 : ((!(x.proto == 6)) = true → T 5 = .bool x.syn) ∧ ((!(x.proto == 6)) = false → T 5 = undef)), -⟩ := hp
               refine ⟨fun hT => ?_,fun hT => ?_⟩
               ·have hc : ((!(x.proto == 6)) && !x.syn) = true := by
                 cases h9 : (!(x.proto == 6)) with
                 | false => rw [d5.2 h9] at hT;cases hT
                 | true => rw [d5.1 h9] at hT;first | (injection hT with hT;simp [hT];done) | (injection hT;done) | simp_all
                replace d5 := d5.1 (by simp only [Bool.and_eq_true] at hc ⊢;exact hc.1)
                refine Op1.g fun _ Z => ?_;go_simp;exact Z _ _ ⟨⟨fun _ => rfl,fun h => by rw [hc] at h;cases h⟩,hC,rR⟩
               ·exact ⟨⟨fun hc => absurd ((d5.1 (by simp only [Bool.and_eq_true] at hc ⊢;exact hc.1)).trans (congrArg Value.bool (by simp only [Bool.and_eq_true,Bool.not_eq_true'] at hc;exact hc.2))) hT,fun _ => rfl⟩,hC,rR⟩
              ·intro T wx n hC (hn : n ≤ 0) hp
               obtain ⟨(d6 : (((!(x.proto == 6)) && !x.syn) = true → T 6 = .pointer (some ⟨P0,11,none⟩)) ∧ (((!(x.proto == 6)) && !x.syn) = false → T 6 = undef)),(d5 : ((!(x.proto == 6)) = true → T 5 = .bool x.syn) ∧ ((!(x.proto == 6)) = false → T 5 = undef)), -⟩ := hp
               refine ⟨fun hT => ?_,fun hT => ?_⟩
               ·have hc : ((!(x.proto == 6)) && !x.syn) = true := by
                 cases h9 : (!(x.proto == 6)) with
                 | false => rw [d5.2 h9] at hT;cases hT
                 | true => rw [d5.1 h9] at hT;first | (injection hT with hT;simp [hT];done) | (injection hT;done) | simp_all
                replace d5 := d5.1 (by simp only [Bool.and_eq_true] at hc ⊢;exact hc.1)
                replace d6 := d6.1 (by first | exact hc | (simp only [Bool.and_eq_true] at hc ⊢;first | exact hc.1 | exact hc.1.1 | simp_all))
                obtain ⟨-, -, -, -, -, -, -, -, -, -, -,c11, -, -, -, -, -, -, -,f0⟩ := PBlk.cells (show PBlk wx P0 x from hC.2.2.trans HP.out)
                refine Op1.g fun _ Z => ?_;go_simp;exact Z _ _ ⟨⟨fun _ => rfl,fun h => by rw [hc] at h;cases h⟩,hC,rR⟩
               ·exact ⟨⟨fun hc => absurd ((d5.1 (by simp only [Bool.and_eq_true] at hc ⊢;exact hc.1)).trans (congrArg Value.bool (by simp only [Bool.and_eq_true,Bool.not_eq_true'] at hc;exact hc.2))) hT,fun _ => rfl⟩,hC,rR⟩
              ·intro T wx n hC (hn : n ≤ 0) hp
               obtain ⟨(d5 : ((!(x.proto == 6)) = true → T 5 = .bool x.syn) ∧ ((!(x.proto == 6)) = false → T 5 = undef)),(d7 : (((!(x.proto == 6)) && !x.syn) = true → T 7 = .bool x.fin) ∧ (((!(x.proto == 6)) && !x.syn) = false → T 7 = undef)),(d2 : T 2 = .bool (!(x.proto == 6))), -⟩ := hp
               refine ⟨fun hT => ?_,fun hT => ?_⟩
               ·have hc : (!(x.proto == 6)) = true := by rw [d2] at hT;injection hT
                replace d5 := d5.1 (by first | exact hc | (simp only [Bool.and_eq_true] at hc ⊢;first | exact hc.1 | exact hc.1.1 | simp_all))
                cases ha : x.syn
                ·have dz := d7.1 (by first | exact hc | (simp [ha];done) | (simp only [ha,Bool.not_false,Bool.and_true];exact hc) | simp_all)
                 rw [ha] at d5
                 refine Op1.g fun _ Z => ?_;go_simp;exact Z _ _ ⟨⟨fun _ => congrArg Value.bool (by simp),fun h => by rw [hc] at h;cases h⟩,hC,rR⟩
                ·rw [ha] at d5
                 refine Op1.g fun _ Z => ?_;go_simp;exact Z _ _ ⟨⟨fun _ => congrArg Value.bool (by simp),fun h => by rw [hc] at h;cases h⟩,hC,rR⟩
               ·exact ⟨⟨fun hc => absurd (d2.trans (congrArg Value.bool hc)) hT,fun _ => rfl⟩,hC,rR⟩
              ·intro T wx n hC (hn : n ≤ 0) hp
               obtain ⟨(d8 : ((!(x.proto == 6)) = true → T 8 = .bool (x.syn || x.fin)) ∧ ((!(x.proto == 6)) = false → T 8 = undef)), -,(d2 : T 2 = .bool (!(x.proto == 6))), -⟩ := hp
               refine ⟨fun hT => ?_,fun hT => ?_⟩
               ·have hc : (!(x.proto == 6)) = true := by rw [d2] at hT;injection hT
                replace d8 := d8.1 (by first | exact hc | (simp only [Bool.and_eq_true] at hc ⊢;first | exact hc.1 | exact hc.1.1 | simp_all))
                refine Op1.g fun _ Z => ?_;go_simp;exact Z _ _ ⟨⟨fun _ => rfl,fun h => by rw [hc] at h;cases h⟩,hC,rR⟩
               ·exact ⟨⟨fun hc => absurd (d2.trans (congrArg Value.bool hc)) hT,fun _ => rfl⟩,hC,rR⟩
              ·intro T wx n hC (hn : n ≤ 0) hp
               obtain ⟨(d9 : ((!(x.proto == 6)) = true → T 9 = .bool (x.syn || x.fin)) ∧ ((!(x.proto == 6)) = false → T 9 = undef)), -⟩ := hp
               refine ⟨fun hT => ?_,fun hT => ?_⟩
               ·have hc : ((!(x.proto == 6)) && !(x.syn || x.fin)) = true := by
                 cases h9 : (!(x.proto == 6)) with
                 | false => rw [d9.2 h9] at hT;cases hT
                 | true => rw [d9.1 h9] at hT;first | (injection hT with hT;simp [hT];done) | (injection hT;done) | simp_all
                replace d9 := d9.1 (by simp only [Bool.and_eq_true] at hc ⊢;exact hc.1)
                refine Op1.g fun _ Z => ?_;go_simp;exact Z _ _ ⟨⟨fun _ => rfl,fun h => by rw [hc] at h;cases h⟩,hC,rR⟩
               ·exact ⟨⟨fun hc => absurd ((d9.1 (by simp only [Bool.and_eq_true] at hc ⊢;exact hc.1)).trans (congrArg Value.bool (by simp only [Bool.and_eq_true,Bool.not_eq_true'] at hc;exact hc.2))) hT,fun _ => rfl⟩,hC,rR⟩
              ·intro T wx n hC (hn : n ≤ 0) hp
               obtain ⟨(d10 : (((!(x.proto == 6)) && !(x.syn || x.fin)) = true → T 10 = .pointer (some ⟨P0,12,none⟩)) ∧ (((!(x.proto == 6)) && !(x.syn || x.fin)) = false → T 10 = undef)),(d9 : ((!(x.proto == 6)) = true → T 9 = .bool (x.syn || x.fin)) ∧ ((!(x.proto == 6)) = false → T 9 = undef)), -⟩ := hp
               refine ⟨fun hT => ?_,fun hT => ?_⟩
               ·have hc : ((!(x.proto == 6)) && !(x.syn || x.fin)) = true := by
                 cases h9 : (!(x.proto == 6)) with
                 | false => rw [d9.2 h9] at hT;cases hT
                 | true => rw [d9.1 h9] at hT;first | (injection hT with hT;simp [hT];done) | (injection hT;done) | simp_all
                replace d9 := d9.1 (by simp only [Bool.and_eq_true] at hc ⊢;exact hc.1)
                replace d10 := d10.1 (by first | exact hc | (simp only [Bool.and_eq_true] at hc ⊢;first | exact hc.1 | exact hc.1.1 | simp_all))
                obtain ⟨-, -, -, -, -, -, -, -, -, -, -, -,c12, -, -, -, -, -, -,f0⟩ := PBlk.cells (show PBlk wx P0 x from hC.2.2.trans HP.out)
                refine Op1.g fun _ Z => ?_;go_simp;exact Z _ _ ⟨⟨fun _ => rfl,fun h => by rw [hc] at h;cases h⟩,hC,rR⟩
               ·exact ⟨⟨fun hc => absurd ((d9.1 (by simp only [Bool.and_eq_true] at hc ⊢;exact hc.1)).trans (congrArg Value.bool (by simp only [Bool.and_eq_true,Bool.not_eq_true'] at hc;exact hc.2))) hT,fun _ => rfl⟩,hC,rR⟩
              ·intro T wx n hC (hn : n ≤ 0) hp
               obtain ⟨(d9 : ((!(x.proto == 6)) = true → T 9 = .bool (x.syn || x.fin)) ∧ ((!(x.proto == 6)) = false → T 9 = undef)),(d11 : (((!(x.proto == 6)) && !(x.syn || x.fin)) = true → T 11 = .bool x.rst) ∧ (((!(x.proto == 6)) && !(x.syn || x.fin)) = false → T 11 = undef)),(d2 : T 2 = .bool (!(x.proto == 6))), -⟩ := hp
               refine ⟨fun hT => ?_,fun hT => ?_⟩
               ·have hc : (!(x.proto == 6)) = true := by rw [d2] at hT;injection hT
                replace d9 := d9.1 (by first | exact hc | (simp only [Bool.and_eq_true] at hc ⊢;first | exact hc.1 | exact hc.1.1 | simp_all))
                cases ha : (x.syn || x.fin)
                ·have dz := d11.1 (by first | exact hc | (simp [ha];done) | (simp only [ha,Bool.not_false,Bool.and_true];exact hc) | simp_all)
                 rw [ha] at d9
                 refine Op1.g fun _ Z => ?_;go_simp;exact Z _ _ ⟨⟨fun _ => congrArg Value.bool (by simp),fun h => by rw [hc] at h;cases h⟩,hC,rR⟩
                ·rw [ha] at d9
                 refine Op1.g fun _ Z => ?_;go_simp;exact Z _ _ ⟨⟨fun _ => congrArg Value.bool (by simp),fun h => by rw [hc] at h;cases h⟩,hC,rR⟩
               ·exact ⟨⟨fun hc => absurd (d2.trans (congrArg Value.bool hc)) hT,fun _ => rfl⟩,hC,rR⟩
              ·intro T wx n hC (hn : n ≤ 0) hp
               obtain ⟨(d12 : ((!(x.proto == 6)) = true → T 12 = .bool ((x.syn || x.fin) || x.rst)) ∧ ((!(x.proto == 6)) = false → T 12 = undef)), -,(d2 : T 2 = .bool (!(x.proto == 6))), -⟩ := hp
               refine ⟨fun hT => ?_,fun hT => ?_⟩
               ·have hc : (!(x.proto == 6)) = true := by rw [d2] at hT;injection hT
                replace d12 := d12.1 (by first | exact hc | (simp only [Bool.and_eq_true] at hc ⊢;first | exact hc.1 | exact hc.1.1 | simp_all))
                refine Op1.g fun _ Z => ?_;go_simp;exact Z _ _ ⟨⟨fun _ => rfl,fun h => by rw [hc] at h;cases h⟩,hC,rR⟩
               ·exact ⟨⟨fun hc => absurd (d2.trans (congrArg Value.bool hc)) hT,fun _ => rfl⟩,hC,rR⟩
              ·intro T wx n hC (hn : n ≤ 0) hp
               obtain ⟨(d13 : ((!(x.proto == 6)) = true → T 13 = .bool ((x.syn || x.fin) || x.rst)) ∧ ((!(x.proto == 6)) = false → T 13 = undef)), -⟩ := hp
               refine ⟨fun hT => ?_,fun hT => ?_⟩
               ·have hc : ((!(x.proto == 6)) && !((x.syn || x.fin) || x.rst)) = true := by
                 cases h9 : (!(x.proto == 6)) with
                 | false => rw [d13.2 h9] at hT;cases hT
                 | true => rw [d13.1 h9] at hT;first | (injection hT with hT;simp [hT];done) | (injection hT;done) | simp_all
                replace d13 := d13.1 (by simp only [Bool.and_eq_true] at hc ⊢;exact hc.1)
                refine Op1.g fun _ Z => ?_;go_simp;exact Z _ _ ⟨⟨fun _ => rfl,fun h => by rw [hc] at h;cases h⟩,hC,rR⟩
               ·exact ⟨⟨fun hc => absurd ((d13.1 (by simp only [Bool.and_eq_true] at hc ⊢;exact hc.1)).trans (congrArg Value.bool (by simp only [Bool.and_eq_true,Bool.not_eq_true'] at hc;exact hc.2))) hT,fun _ => rfl⟩,hC,rR⟩
              ·intro T wx n hC (hn : n ≤ 0) hp
               obtain ⟨(d14 : (((!(x.proto == 6)) && !((x.syn || x.fin) || x.rst)) = true → T 14 = .pointer (some ⟨P0,13,none⟩)) ∧ (((!(x.proto == 6)) && !((x.syn || x.fin) || x.rst)) = false → T 14 = undef)),(d13 : ((!(x.proto == 6)) = true → T 13 = .bool ((x.syn || x.fin) || x.rst)) ∧ ((!(x.proto == 6)) = false → T 13 = undef)), -⟩ := hp
               refine ⟨fun hT => ?_,fun hT => ?_⟩
               ·have hc : ((!(x.proto == 6)) && !((x.syn || x.fin) || x.rst)) = true := by
                 cases h9 : (!(x.proto == 6)) with
                 | false => rw [d13.2 h9] at hT;cases hT
                 | true => rw [d13.1 h9] at hT;first | (injection hT with hT;simp [hT];done) | (injection hT;done) | simp_all
                replace d13 := d13.1 (by simp only [Bool.and_eq_true] at hc ⊢;exact hc.1)
                replace d14 := d14.1 (by first | exact hc | (simp only [Bool.and_eq_true] at hc ⊢;first | exact hc.1 | exact hc.1.1 | simp_all))
                obtain ⟨-, -, -, -, -, -, -, -, -, -, -, -, -,c13, -, -, -, -, -,f0⟩ := PBlk.cells (show PBlk wx P0 x from hC.2.2.trans HP.out)
                refine Op1.g fun _ Z => ?_;go_simp;exact Z _ _ ⟨⟨fun _ => rfl,fun h => by rw [hc] at h;cases h⟩,hC,rR⟩
               ·exact ⟨⟨fun hc => absurd ((d13.1 (by simp only [Bool.and_eq_true] at hc ⊢;exact hc.1)).trans (congrArg Value.bool (by simp only [Bool.and_eq_true,Bool.not_eq_true'] at hc;exact hc.2))) hT,fun _ => rfl⟩,hC,rR⟩
              ·intro T wx n hC (hn : n ≤ 0) hp
               obtain ⟨(d13 : ((!(x.proto == 6)) = true → T 13 = .bool ((x.syn || x.fin) || x.rst)) ∧ ((!(x.proto == 6)) = false → T 13 = undef)),(d15 : (((!(x.proto == 6)) && !((x.syn || x.fin) || x.rst)) = true → T 15 = .bool x.has) ∧ (((!(x.proto == 6)) && !((x.syn || x.fin) || x.rst)) = false → T 15 = undef)),(d2 : T 2 = .bool (!(x.proto == 6))), -⟩ := hp
               refine ⟨fun hT => ?_,fun hT => ?_⟩
               ·have hc : (!(x.proto == 6)) = true := by rw [d2] at hT;injection hT
                replace d13 := d13.1 (by first | exact hc | (simp only [Bool.and_eq_true] at hc ⊢;first | exact hc.1 | exact hc.1.1 | simp_all))
                cases ha : ((x.syn || x.fin) || x.rst)
                ·have dz := d15.1 (by first | exact hc | (simp [ha];done) | (simp only [ha,Bool.not_false,Bool.and_true];exact hc) | simp_all)
                 rw [ha] at d13
                 refine Op1.g fun _ Z => ?_;go_simp;exact Z _ _ ⟨⟨fun _ => congrArg Value.bool (by simp),fun h => by rw [hc] at h;cases h⟩,hC,rR⟩
                ·rw [ha] at d13
                 refine Op1.g fun _ Z => ?_;go_simp;exact Z _ _ ⟨⟨fun _ => congrArg Value.bool (by simp),fun h => by rw [hc] at h;cases h⟩,hC,rR⟩
               ·exact ⟨⟨fun hc => absurd (d2.trans (congrArg Value.bool hc)) hT,fun _ => rfl⟩,hC,rR⟩
              ·intro T wx n hC (hn : n ≤ 0) hp
               obtain ⟨(d16 : ((!(x.proto == 6)) = true → T 16 = .bool (((x.syn || x.fin) || x.rst) || x.has)) ∧ ((!(x.proto == 6)) = false → T 16 = undef)), -,(d2 : T 2 = .bool (!(x.proto == 6))), -⟩ := hp
               refine ⟨fun hT => ?_,fun hT => ?_⟩
               ·have hc : (!(x.proto == 6)) = true := by rw [d2] at hT;injection hT
                replace d16 := d16.1 (by first | exact hc | (simp only [Bool.and_eq_true] at hc ⊢;first | exact hc.1 | exact hc.1.1 | simp_all))
                refine Op1.g fun _ Z => ?_;go_simp;exact Z _ _ ⟨⟨fun _ => rfl,fun h => by rw [hc] at h;cases h⟩,hC,rR⟩
               ·exact ⟨⟨fun hc => absurd (d2.trans (congrArg Value.bool hc)) hT,fun _ => rfl⟩,hC,rR⟩
              ·intro T wx n hC (hn : n ≤ 0) hp
               obtain ⟨(d17 : ((!(x.proto == 6)) = true → T 17 = .bool (((x.syn || x.fin) || x.rst) || x.has)) ∧ ((!(x.proto == 6)) = false → T 17 = undef)), -⟩ := hp
               refine ⟨fun hT => ?_,fun hT => ?_⟩
               ·have hc : ((!(x.proto == 6)) && !(((x.syn || x.fin) || x.rst) || x.has)) = true := by
                 cases h9 : (!(x.proto == 6)) with
                 | false => rw [d17.2 h9] at hT;cases hT
                 | true => rw [d17.1 h9] at hT;first | (injection hT with hT;simp [hT];done) | (injection hT;done) | simp_all
                replace d17 := d17.1 (by simp only [Bool.and_eq_true] at hc ⊢;exact hc.1)
                refine Op1.g fun _ Z => ?_;go_simp;exact Z _ _ ⟨⟨fun _ => rfl,fun h => by rw [hc] at h;cases h⟩,hC,rR⟩
               ·exact ⟨⟨fun hc => absurd ((d17.1 (by simp only [Bool.and_eq_true] at hc ⊢;exact hc.1)).trans (congrArg Value.bool (by simp only [Bool.and_eq_true,Bool.not_eq_true'] at hc;exact hc.2))) hT,fun _ => rfl⟩,hC,rR⟩
              ·intro T wx n hC (hn : n ≤ 0) hp
               obtain ⟨(d18 : (((!(x.proto == 6)) && !(((x.syn || x.fin) || x.rst) || x.has)) = true → T 18 = .pointer (some ⟨P0,15,none⟩)) ∧ (((!(x.proto == 6)) && !(((x.syn || x.fin) || x.rst) || x.has)) = false → T 18 = undef)),(d17 : ((!(x.proto == 6)) = true → T 17 = .bool (((x.syn || x.fin) || x.rst) || x.has)) ∧ ((!(x.proto == 6)) = false → T 17 = undef)), -⟩ := hp
               refine ⟨fun hT => ?_,fun hT => ?_⟩
               ·have hc : ((!(x.proto == 6)) && !(((x.syn || x.fin) || x.rst) || x.has)) = true := by
                 cases h9 : (!(x.proto == 6)) with
                 | false => rw [d17.2 h9] at hT;cases hT
                 | true => rw [d17.1 h9] at hT;first | (injection hT with hT;simp [hT];done) | (injection hT;done) | simp_all
                replace d17 := d17.1 (by simp only [Bool.and_eq_true] at hc ⊢;exact hc.1)
                replace d18 := d18.1 (by first | exact hc | (simp only [Bool.and_eq_true] at hc ⊢;first | exact hc.1 | exact hc.1.1 | simp_all))
                obtain ⟨-, -, -, -, -, -, -, -, -, -, -, -, -, -, -,c15, -, -, -,f0⟩ := PBlk.cells (show PBlk wx P0 x from hC.2.2.trans HP.out)
                refine Op1.g fun _ Z => ?_;go_simp;exact Z _ _ ⟨⟨fun _ => rfl,fun h => by rw [hc] at h;cases h⟩,hC,rR⟩
               ·exact ⟨⟨fun hc => absurd ((d17.1 (by simp only [Bool.and_eq_true] at hc ⊢;exact hc.1)).trans (congrArg Value.bool (by simp only [Bool.and_eq_true,Bool.not_eq_true'] at hc;exact hc.2))) hT,fun _ => rfl⟩,hC,rR⟩
              ·intro T wx n hC (hn : n ≤ 0) hp
               obtain ⟨(d19 : (((!(x.proto == 6)) && !(((x.syn || x.fin) || x.rst) || x.has)) = true → T 19 = .int .i64 (x.ack)) ∧ (((!(x.proto == 6)) && !(((x.syn || x.fin) || x.rst) || x.has)) = false → T 19 = undef)),(d17 : ((!(x.proto == 6)) = true → T 17 = .bool (((x.syn || x.fin) || x.rst) || x.has)) ∧ ((!(x.proto == 6)) = false → T 17 = undef)), -⟩ := hp
               refine ⟨fun hT => ?_,fun hT => ?_⟩
               ·have hc : ((!(x.proto == 6)) && !(((x.syn || x.fin) || x.rst) || x.has)) = true := by
                 cases h9 : (!(x.proto == 6)) with
                 | false => rw [d17.2 h9] at hT;cases hT
                 | true => rw [d17.1 h9] at hT;first | (injection hT with hT;simp [hT];done) | (injection hT;done) | simp_all
                replace d17 := d17.1 (by simp only [Bool.and_eq_true] at hc ⊢;exact hc.1)
                replace d19 := d19.1 (by first | exact hc | (simp only [Bool.and_eq_true] at hc ⊢;first | exact hc.1 | exact hc.1.1 | simp_all))
                refine Op1.g fun _ Z => ?_;go_simp;exact Z _ _ ⟨⟨fun _ => rfl,fun h => by rw [hc] at h;cases h⟩,hC,rR⟩
               ·exact ⟨⟨fun hc => absurd ((d17.1 (by simp only [Bool.and_eq_true] at hc ⊢;exact hc.1)).trans (congrArg Value.bool (by simp only [Bool.and_eq_true,Bool.not_eq_true'] at hc;exact hc.2))) hT,fun _ => rfl⟩,hC,rR⟩
              ·intro T wx n hC (hn : n ≤ 0) hp
               obtain ⟨(d17 : ((!(x.proto == 6)) = true → T 17 = .bool (((x.syn || x.fin) || x.rst) || x.has)) ∧ ((!(x.proto == 6)) = false → T 17 = undef)),(d20 : (((!(x.proto == 6)) && !(((x.syn || x.fin) || x.rst) || x.has)) = true → T 20 = .bool (x.ack != 0)) ∧ (((!(x.proto == 6)) && !(((x.syn || x.fin) || x.rst) || x.has)) = false → T 20 = undef)),(d2 : T 2 = .bool (!(x.proto == 6))), -⟩ := hp
               refine ⟨fun hT => ?_,fun hT => ?_⟩
               ·have hc : (!(x.proto == 6)) = true := by rw [d2] at hT;injection hT
                replace d17 := d17.1 (by first | exact hc | (simp only [Bool.and_eq_true] at hc ⊢;first | exact hc.1 | exact hc.1.1 | simp_all))
                cases ha : (((x.syn || x.fin) || x.rst) || x.has)
                ·have dz := d20.1 (by first | exact hc | (simp [ha];done) | (simp only [ha,Bool.not_false,Bool.and_true];exact hc) | simp_all)
                 rw [ha] at d17
                 refine Op1.g fun _ Z => ?_;go_simp;exact Z _ _ ⟨⟨fun _ => congrArg Value.bool (by simp),fun h => by rw [hc] at h;cases h⟩,hC,rR⟩
                ·rw [ha] at d17
                 refine Op1.g fun _ Z => ?_;go_simp;exact Z _ _ ⟨⟨fun _ => congrArg Value.bool (by simp),fun h => by rw [hc] at h;cases h⟩,hC,rR⟩
               ·exact ⟨⟨fun hc => absurd (d2.trans (congrArg Value.bool hc)) hT,fun _ => rfl⟩,hC,rR⟩
              ·intro T wx n hC (hn : n ≤ 0) hp
               obtain ⟨(d2 : T 2 = .bool (!(x.proto == 6))),(d21 : ((!(x.proto == 6)) = true → T 21 = .bool ((((x.syn || x.fin) || x.rst) || x.has) || (x.ack != 0))) ∧ ((!(x.proto == 6)) = false → T 21 = undef)), -⟩ := hp
               cases ha : (!(x.proto == 6))
               ·rw [ha] at d2
                refine Op1.g fun _ Z => ?_;go_simp;exact Z _ _ ⟨congrArg Value.bool (by simp),hC,rR⟩
               ·have dz := d21.1 (by first | exact hc | (simp [ha];done) | (simp only [ha,Bool.not_false,Bool.not_true,Bool.and_true,Bool.true_and];exact hc) | simp_all)
                rw [ha] at d2
                refine Op1.g fun _ Z => ?_;go_simp;exact Z _ _ ⟨congrArg Value.bool (by simp),hC,rR⟩
             case hend7 =>
              intro T wy7 ⟨n,hn,hC,hR⟩
              have r95 : T 22 = .bool ((!(x.proto == 6)) && ((((x.syn || x.fin) || x.rst) || x.has) || (x.ack != 0))) := hR 22 (by omega)
              rw [r95]
              clear r95
              have HC := Lib.hid hC.1
              have hB2 := hC.size
              clear hR hC
              replace HBx := Lib.hid (HBx.out.trans (HC.out.mono (Nat.le_of_lt (Blk.lt HP.out))))
              replace HP := Lib.hid (Blk.below HP.out HC.out (Blk.lt HP.out))
              clear HC hB hB2
              rcases Bool.eq_false_or_eq_true ((!(x.proto == 6)) && ((((x.syn || x.fin) || x.rst) || x.has) || (x.ack != 0))) with hE7 | hE7
              ·rw [hE7]
               replace hE7 := Lib.hid hE7
               go_wp2_with fail
               have hP0 := HP0.out
               subst hP0
               go_ret
               refine ⟨?_,HBx.out⟩
               rw [hrf.out];simp only [hE2.out,hE3.out,hE4.out,hE5.out,hE6.out,hE7.out,ha1.out,ha2.out,ne_eq,not_true_eq_false,if_true,if_false,Bool.false_eq_true] <;> rfl
              ·rw [hE7]
               replace hE7 := Lib.hid hE7
               go_upto_region 19 with fail
               have hB : RC.fine (⟨wy7.heap.size,wy7,(.slice none 0 0),false,P0⟩ : RC) := ⟨Nat.le_refl _,Blk.lt HP.out,by simp [Value.ownBlock]⟩
               refine Lm.wp_region_seq 6 0 (fun p vv nn ww => (List.getD ((.val (.bool (x.proto == 17))) :: (.val (.bool (x.proto == 17))) :: (.gval ((x.proto == 17)) (.pointer (some ⟨P0,14,none⟩))) :: (.gval ((x.proto == 17)) (.int .i64 (x.seq))) :: (.gval ((x.proto == 17)) (.bool (x.seq != 0))) :: (.val (.bool ((x.proto == 17) && (x.seq != 0)))) :: [] : List Ds) p .any).R (⟨wy7.heap.size,wy7,(.slice none 0 0),false,P0⟩ : RC) vv nn ww) (RC.C (⟨wy7.heap.size,wy7,(.slice none 0 0),false,P0⟩ : RC)) (RC.S (⟨wy7.heap.size,wy7,(.slice none 0 0),false,P0⟩ : RC)) (fun _ => 0) (fun _ => 0)
                (by kernel_rfl) (by kernel_rfl) (by decide) (by kernel_rfl) (fun p vv nn ww n' w' h hs => ds_keep hB _ rfl p vv nn ww n' w' h hs) RC.start0 ?hX8
               case' hX8 => (apply Exists.intro;refine ⟨fun T => ?hA8,?hob8,?hend8⟩)
               case hA8 =>
                simp only [setAll,List.take_succ_cons,List.take_zero,Act.put,List.setIfInBounds_toArray,List.set_cons_succ,List.set_cons_zero,Nat.reduceAdd]
                exact rfl
               case hob8 =>
                refine ⟨?_,?_,?_,?_,?_,?_,trivial⟩
                ·intro T wx n hC (hn : n ≤ 0) hp
                 refine Op1.g fun _ Z => ?_;go_simp;exact Z _ _ ⟨rfl,hC,rR⟩
                ·intro T wx n hC (hn : n ≤ 0) hp
                 obtain ⟨(d0 : T 0 = .bool (x.proto == 17)), -⟩ := hp
                 refine Op1.g fun _ Z => ?_;go_simp;exact Z _ _ ⟨rfl,hC,rR⟩
                ·intro T wx n hC (hn : n ≤ 0) hp
                 obtain ⟨(d1 : T 1 = .bool (x.proto == 17)), -⟩ := hp
                 refine ⟨fun hT => ?_,fun hT => ?_⟩
                 ·have hc : (x.proto == 17) = true := by rw [d1] at hT;injection hT
                  refine Op1.g fun _ Z => ?_;go_simp;exact Z _ _ ⟨⟨fun _ => rfl,fun h => by rw [hc] at h;cases h⟩,hC,rR⟩
                 ·exact ⟨⟨fun hc => absurd (d1.trans (congrArg Value.bool hc)) hT,fun _ => rfl⟩,hC,rR⟩
                ·intro T wx n hC (hn : n ≤ 0) hp
                 obtain ⟨(d2 : ((x.proto == 17) = true → T 2 = .pointer (some ⟨P0,14,none⟩)) ∧ ((x.proto == 17) = false → T 2 = undef)),(d1 : T 1 = .bool (x.proto == 17)), -⟩ := hp
                 refine ⟨fun hT => ?_,fun hT => ?_⟩
                 ·have hc : (x.proto == 17) = true := by rw [d1] at hT;injection hT
                  replace d2 := d2.1 (by first | exact hc | (simp only [Bool.and_eq_true] at hc ⊢;first | exact hc.1 | exact hc.1.1 | simp_all))
                  obtain ⟨-, -, -, -, -, -, -, -, -, -, -, -, -, -,c14, -, -, -, -,f0⟩ := PBlk.cells (show PBlk wx P0 x from hC.2.2.trans HP.out)
                  refine Op1.g fun _ Z => ?_;go_simp;exact Z _ _ ⟨⟨fun _ => rfl,fun h => by rw [hc] at h;cases h⟩,hC,rR⟩
                 ·exact ⟨⟨fun hc => absurd (d1.trans (congrArg Value.bool hc)) hT,fun _ => rfl⟩,hC,rR⟩
                ·intro T wx n hC (hn : n ≤ 0) hp
                 obtain ⟨(d3 : ((x.proto == 17) = true → T 3 = .int .i64 (x.seq)) ∧ ((x.proto == 17) = false → T 3 = undef)),(d1 : T 1 = .bool (x.proto == 17)), -⟩ := hp
                 refine ⟨fun hT => ?_,fun hT => ?_⟩
                 ·have hc : (x.proto == 17) = true := by rw [d1] at hT;injection hT
                  replace d3 := d3.1 (by first | exact hc | (simp only [Bool.and_eq_true] at hc ⊢;first | exact hc.1 | exact hc.1.1 | simp_all))
                  refine Op1.g fun _ Z => ?_;go_simp;exact Z _ _ ⟨⟨fun _ => rfl,fun h => by rw [hc] at h;cases h⟩,hC,rR⟩
                 ·exact ⟨⟨fun hc => absurd (d1.trans (congrArg Value.bool hc)) hT,fun _ => rfl⟩,hC,rR⟩
                ·intro T wx n hC (hn : n ≤ 0) hp
                 obtain ⟨(d1 : T 1 = .bool (x.proto == 17)),(d4 : ((x.proto == 17) = true → T 4 = .bool (x.seq != 0)) ∧ ((x.proto == 17) = false → T 4 = undef)), -⟩ := hp
                 cases ha : (x.proto == 17)
                 ·rw [ha] at d1
                  refine Op1.g fun _ Z => ?_;go_simp;exact Z _ _ ⟨congrArg Value.bool (by simp),hC,rR⟩
                 ·have dz := d4.1 (by first | exact hc | (simp [ha];done) | (simp only [ha,Bool.not_false,Bool.not_true,Bool.and_true,Bool.true_and];exact hc) | simp_all)
                  rw [ha] at d1
                  refine Op1.g fun _ Z => ?_;go_simp;exact Z _ _ ⟨congrArg Value.bool (by simp),hC,rR⟩
               case hend8 =>
                intro T wy8 ⟨n,hn,hC,hR⟩
                have r95 : T 5 = .bool ((x.proto == 17) && (x.seq != 0)) := hR 5 (by omega)
                rw [r95]
                clear r95
                have HC := Lib.hid hC.1
                have hB2 := hC.size
                clear hR hC
                replace HBx := Lib.hid (HBx.out.trans (HC.out.mono (Nat.le_of_lt (Blk.lt HP.out))))
                replace HP := Lib.hid (Blk.below HP.out HC.out (Blk.lt HP.out))
                clear HC hB hB2
                rcases Bool.eq_false_or_eq_true ((x.proto == 17) && (x.seq != 0)) with hE8 | hE8
                ·rw [hE8]
                 replace hE8 := Lib.hid hE8
                 go_wp2_with fail
                 have hP0 := HP0.out
                 subst hP0
                 go_ret
                 refine ⟨?_,HBx.out⟩
                 rw [hrf.out];simp only [hE2.out,hE3.out,hE4.out,hE5.out,hE6.out,hE7.out,hE8.out,ha1.out,ha2.out,ne_eq,not_true_eq_false,if_true,if_false,Bool.false_eq_true] <;> rfl
                ·rw [hE8]
                 replace hE8 := Lib.hid hE8
                 go_upto_region 20 with fail
                 have hB : RC.fine (⟨wy8.heap.size,wy8,(.slice none 0 0),false,P0⟩ : RC) := ⟨Nat.le_refl _,Blk.lt HP.out,by simp [Value.ownBlock]⟩
                 refine Lm.wp_region_seq 11 0 (fun p vv nn ww => (List.getD ((.val (.bool (x.proto == 1))) :: (.val (.bool (!(x.proto == 1)))) :: (.val (.bool (!(x.proto == 1)))) :: (.gval ((!(x.proto == 1))) (.pointer (some ⟨P0,16,none⟩))) :: (.gval ((!(x.proto == 1))) (.bool x.reply)) :: (.gval ((!(x.proto == 1))) (.bool x.reply)) :: (.gval (((!(x.proto == 1)) && !x.reply)) (.pointer (some ⟨P0,17,none⟩))) :: (.gval (((!(x.proto == 1)) && !x.reply)) (.int .i64 (x.id))) :: (.gval (((!(x.proto == 1)) && !x.reply)) (.bool (x.id != 0))) :: (.gval ((!(x.proto == 1))) (.bool (x.reply || (x.id != 0)))) :: (.val (.bool ((!(x.proto == 1)) && (x.reply || (x.id != 0))))) :: [] : List Ds) p .any).R (⟨wy8.heap.size,wy8,(.slice none 0 0),false,P0⟩ : RC) vv nn ww) (RC.C (⟨wy8.heap.size,wy8,(.slice none 0 0),false,P0⟩ : RC)) (RC.S (⟨wy8.heap.size,wy8,(.slice none 0 0),false,P0⟩ : RC)) (fun _ => 0) (fun _ => 0)
                  (by kernel_rfl) (by kernel_rfl) (by decide) (by kernel_rfl) (fun p vv nn ww n' w' h hs => ds_keep hB _ rfl p vv nn ww n' w' h hs) RC.start0 ?hX9
                 case' hX9 => (apply Exists.intro;refine ⟨fun T => ?hA9,?hob9,?hend9⟩)
                 case hA9 =>
                  simp only [setAll,List.take_succ_cons,List.take_zero,Act.put,List.setIfInBounds_toArray,List.set_cons_succ,List.set_cons_zero,Nat.reduceAdd]
                  exact rfl
                 case hob9 =>
                  refine ⟨?_,?_,?_,?_,?_,?_,?_,?_,?_,?_,?_,trivial⟩
                  ·intro T wx n hC (hn : n ≤ 0) hp
                   refine Op1.g fun _ Z => ?_;go_simp;exact Z _ _ ⟨rfl,hC,rR⟩
                  ·intro T wx n hC (hn : n ≤ 0) hp
                   obtain ⟨(d0 : T 0 = .bool (x.proto == 1)), -⟩ := hp
                   refine Op1.g fun _ Z => ?_;go_simp;exact Z _ _ ⟨rfl,hC,rR⟩
                  ·intro T wx n hC (hn : n ≤ 0) hp
                   obtain ⟨(d1 : T 1 = .bool (!(x.proto == 1))), -⟩ := hp
                   refine Op1.g fun _ Z => ?_;go_simp;exact Z _ _ ⟨rfl,hC,rR⟩
                  ·intro T wx n hC (hn : n ≤ 0) hp
                   obtain ⟨(d2 : T 2 = .bool (!(x.proto == 1))), -⟩ := hp
                   refine ⟨fun hT => ?_,fun hT => ?_⟩
                   ·have hc : (!(x.proto == 1)) = true := by rw [d2] at hT;injection hT
                    refine Op1.g fun _ Z => ?_;go_simp;exact Z _ _ ⟨⟨fun _ => rfl,fun h => by rw [hc] at h;cases h⟩,hC,rR⟩
                   ·exact ⟨⟨fun hc => absurd (d2.trans (congrArg Value.bool hc)) hT,fun _ => rfl⟩,hC,rR⟩
                  ·intro T wx n hC (hn : n ≤ 0) hp
                   obtain ⟨(d3 : ((!(x.proto == 1)) = true → T 3 = .pointer (some ⟨P0,16,none⟩)) ∧ ((!(x.proto == 1)) = false → T 3 = undef)),(d2 : T 2 = .bool (!(x.proto == 1))), -⟩ := hp
                   refine ⟨fun hT => ?_,fun hT => ?_⟩
                   ·have hc : (!(x.proto == 1)) = true := by rw [d2] at hT;injection hT
                    replace d3 := d3.1 (by first | exact hc | (simp only [Bool.and_eq_true] at hc ⊢;first | exact hc.1 | exact hc.1.1 | simp_all))
                    obtain ⟨-, -, -, -, -, -, -, -, -, -, -, -, -, -, -, -,c16, -, -,f0⟩ := PBlk.cells (show PBlk wx P0 x from hC.2.2.trans HP.out)
                    refine Op1.g fun _ Z => ?_;go_simp;exact Z _ _ ⟨⟨fun _ => rfl,fun h => by rw [hc] at h;cases h⟩,hC,rR⟩
                   ·exact ⟨⟨fun hc => absurd (d2.trans (congrArg Value.bool hc)) hT,fun _ => rfl⟩,hC,rR⟩
                  ·intro T wx n hC (hn : n ≤ 0) hp
                   obtain ⟨(d4 : ((!(x.proto == 1)) = true → T 4 = .bool x.reply) ∧ ((!(x.proto == 1)) = false → T 4 = undef)),(d2 : T 2 = .bool (!(x.proto == 1))), -⟩ := hp
                   refine ⟨fun hT => ?_,fun hT => ?_⟩
                   ·have hc : (!(x.proto == 1)) = true := by rw [d2] at hT;injection hT
                    replace d4 := d4.1 (by first | exact hc | (simp only [Bool.and_eq_true] at hc ⊢;first | exact hc.1 | exact hc.1.1 | simp_all))
                    refine Op1.g fun _ Z => ?_;go_simp;exact Z _ _ ⟨⟨fun _ => rfl,fun h => by rw [hc] at h;cases h⟩,hC,rR⟩
                   ·exact ⟨⟨fun hc => absurd (d2.trans (congrArg Value.bool hc)) hT,fun _ => rfl⟩,hC,rR⟩
                  ·intro T wx n hC (hn : n ≤ 0) hp
                   obtain ⟨(d5 : ((!(x.proto == 1)) = true → T 5 = .bool x.reply) ∧ ((!(x.proto == 1)) = false → T 5 = undef)), -⟩ := hp
                   refine ⟨fun hT => ?_,fun hT => ?_⟩
                   ·have hc : ((!(x.proto == 1)) && !x.reply) = true := by
                     cases h9 : (!(x.proto == 1)) with
                     | false => rw [d5.2 h9] at hT;cases hT
                     | true => rw [d5.1 h9] at hT;first | (injection hT with hT;simp [hT];done) | (injection hT;done) | simp_all
                    replace d5 := d5.1 (by simp only [Bool.and_eq_true] at hc ⊢;exact hc.1)
                    refine Op1.g fun _ Z => ?_;go_simp;exact Z _ _ ⟨⟨fun _ => rfl,fun h => by rw [hc] at h;cases h⟩,hC,rR⟩
                   ·exact ⟨⟨fun hc => absurd ((d5.1 (by simp only [Bool.and_eq_true] at hc ⊢;exact hc.1)).trans (congrArg Value.bool (by simp only [Bool.and_eq_true,Bool.not_eq_true'] at hc;exact hc.2))) hT,fun _ => rfl⟩,hC,rR⟩
                  ·intro T wx n hC (hn : n ≤ 0) hp
                   obtain ⟨(d6 : (((!(x.proto == 1)) && !x.reply) = true → T 6 = .pointer (some ⟨P0,17,none⟩)) ∧ (((!(x.proto == 1)) && !x.reply) = false → T 6 = undef)),(d5 : ((!(x.proto == 1)) = true → T 5 = .bool x.reply) ∧ ((!(x.proto == 1)) = false → T 5 = undef)), -⟩ := hp
                   refine ⟨fun hT => ?_,fun hT => ?_⟩
                   ·have hc : ((!(x.proto == 1)) && !x.reply) = true := by
                     cases h9 : (!(x.proto == 1)) with
                     | false => rw [d5.2 h9] at hT;cases hT
                     | true => rw [d5.1 h9] at hT;first | (injection hT with hT;simp [hT];done) | (injection hT;done) | simp_all
                    replace d5 := d5.1 (by simp only [Bool.and_eq_true] at hc ⊢;exact hc.1)
                    replace d6 := d6.1 (by first | exact hc | (simp only [Bool.and_eq_true] at hc ⊢;first | exact hc.1 | exact hc.1.1 | simp_all))
                    obtain ⟨-, -, -, -, -, -, -, -, -, -, -, -, -, -, -, -, -,c17, -,f0⟩ := PBlk.cells (show PBlk wx P0 x from hC.2.2.trans HP.out)
                    refine Op1.g fun _ Z => ?_;go_simp;exact Z _ _ ⟨⟨fun _ => rfl,fun h => by rw [hc] at h;cases h⟩,hC,rR⟩
                   ·exact ⟨⟨fun hc => absurd ((d5.1 (by simp only [Bool.and_eq_true] at hc ⊢;exact hc.1)).trans (congrArg Value.bool (by simp only [Bool.and_eq_true,Bool.not_eq_true'] at hc;exact hc.2))) hT,fun _ => rfl⟩,hC,rR⟩
                  ·intro T wx n hC (hn : n ≤ 0) hp
                   obtain ⟨(d7 : (((!(x.proto == 1)) && !x.reply) = true → T 7 = .int .i64 (x.id)) ∧ (((!(x.proto == 1)) && !x.reply) = false → T 7 = undef)),(d5 : ((!(x.proto == 1)) = true → T 5 = .bool x.reply) ∧ ((!(x.proto == 1)) = false → T 5 = undef)), -⟩ := hp
                   refine ⟨fun hT => ?_,fun hT => ?_⟩
                   ·have hc : ((!(x.proto == 1)) && !x.reply) = true := by
                     cases h9 : (!(x.proto == 1)) with
                     | false => rw [d5.2 h9] at hT;cases hT
                     | true => rw [d5.1 h9] at hT;first | (injection hT with hT;simp [hT];done) | (injection hT;done) | simp_all
                    replace d5 := d5.1 (by simp only [Bool.and_eq_true] at hc ⊢;exact hc.1)
                    replace d7 := d7.1 (by first | exact hc | (simp only [Bool.and_eq_true] at hc ⊢;first | exact hc.1 | exact hc.1.1 | simp_all))
                    refine Op1.g fun _ Z => ?_;go_simp;exact Z _ _ ⟨⟨fun _ => rfl,fun h => by rw [hc] at h;cases h⟩,hC,rR⟩
                   ·exact ⟨⟨fun hc => absurd ((d5.1 (by simp only [Bool.and_eq_true] at hc ⊢;exact hc.1)).trans (congrArg Value.bool (by simp only [Bool.and_eq_true,Bool.not_eq_true'] at hc;exact hc.2))) hT,fun _ => rfl⟩,hC,rR⟩
                  ·intro T wx n hC (hn : n ≤ 0) hp
                   obtain ⟨(d5 : ((!(x.proto == 1)) = true → T 5 = .bool x.reply) ∧ ((!(x.proto == 1)) = false → T 5 = undef)),(d8 : (((!(x.proto == 1)) && !x.reply) = true → T 8 = .bool (x.id != 0)) ∧ (((!(x.proto == 1)) && !x.reply) = false → T 8 = undef)),(d2 : T 2 = .bool (!(x.proto == 1))), -⟩ := hp
                   refine ⟨fun hT => ?_,fun hT => ?_⟩
                   ·have hc : (!(x.proto == 1)) = true := by rw [d2] at hT;injection hT
                    replace d5 := d5.1 (by first | exact hc | (simp only [Bool.and_eq_true] at hc ⊢;first | exact hc.1 | exact hc.1.1 | simp_all))
                    cases ha : x.reply
                    ·have dz := d8.1 (by first | exact hc | (simp [ha];done) | (simp only [ha,Bool.not_false,Bool.and_true];exact hc) | simp_all)
                     rw [ha] at d5
                     refine Op1.g fun _ Z => ?_;go_simp;exact Z _ _ ⟨⟨fun _ => congrArg Value.bool (by simp),fun h => by rw [hc] at h;cases h⟩,hC,rR⟩
                    ·rw [ha] at d5
                     refine Op1.g fun _ Z => ?_;go_simp;exact Z _ _ ⟨⟨fun _ => congrArg Value.bool (by simp),fun h => by rw [hc] at h;cases h⟩,hC,rR⟩
                   ·exact ⟨⟨fun hc => absurd (d2.trans (congrArg Value.bool hc)) hT,fun _ => rfl⟩,hC,rR⟩
                  ·intro T wx n hC (hn : n ≤ 0) hp
                   obtain ⟨(d2 : T 2 = .bool (!(x.proto == 1))),(d9 : ((!(x.proto == 1)) = true → T 9 = .bool (x.reply || (x.id != 0))) ∧ ((!(x.proto == 1)) = false → T 9 = undef)), -⟩ := hp
                   cases ha : (!(x.proto == 1))
                   ·rw [ha] at d2
                    refine Op1.g fun _ Z => ?_;go_simp;exact Z _ _ ⟨congrArg Value.bool (by simp),hC,rR⟩
                   ·have dz := d9.1 (by first | exact hc | (simp [ha];done) | (simp only [ha,Bool.not_false,Bool.not_true,Bool.and_true,Bool.true_and];exact hc) | simp_all)
                    rw [ha] at d2
                    refine Op1.g fun _ Z => ?_;go_simp;exact Z _ _ ⟨congrArg Value.bool (by simp),hC,rR⟩
                 case hend9 =>
                  intro T wy9 ⟨n,hn,hC,hR⟩
                  have r95 : T 10 = .bool ((!(x.proto == 1)) && (x.reply || (x.id != 0))) := hR 10 (by omega)
                  rw [r95]
                  clear r95
                  have HC := Lib.hid hC.1
                  have hB2 := hC.size
                  clear hR hC
                  replace HBx := Lib.hid (HBx.out.trans (HC.out.mono (Nat.le_of_lt (Blk.lt HP.out))))
                  replace HP := Lib.hid (Blk.below HP.out HC.out (Blk.lt HP.out))
                  clear HC hB hB2
                  rcases Bool.eq_false_or_eq_true ((!(x.proto == 1)) && (x.reply || (x.id != 0))) with hE9 | hE9
                  ·rw [hE9]
                   replace hE9 := Lib.hid hE9
                   go_wp2_with fail
                   have hP0 := HP0.out
                   subst hP0
                   go_ret
                   refine ⟨?_,HBx.out⟩
                   rw [hrf.out];simp only [hE2.out,hE3.out,hE4.out,hE5.out,hE6.out,hE7.out,hE8.out,hE9.out,ha1.out,ha2.out,ne_eq,not_true_eq_false,if_true,if_false,Bool.false_eq_true] <;> rfl
                  ·rw [hE9]
                   replace hE9 := Lib.hid hE9
                   go_upto_region 21 with fail
                   have hB : RC.fine (⟨wy9.heap.size,wy9,(.slice none 0 0),false,P0⟩ : RC) := ⟨Nat.le_refl _,Blk.lt HP.out,by simp [Value.ownBlock]⟩
                   refine Lm.wp_region_seq 8 0 (fun p vv nn ww => (List.getD ((.val (.pointer (some ⟨P0,13,none⟩))) :: (.val (.bool x.has)) :: (.val (.bool (!x.has))) :: (.val (.bool (!x.has))) :: (.gval ((!x.has)) (.pointer (some ⟨P0,15,none⟩))) :: (.gval ((!x.has)) (.int .i64 (x.ack))) :: (.gval ((!x.has)) (.bool (x.ack != 0))) :: (.val (.bool ((!x.has) && (x.ack != 0)))) :: [] : List Ds) p .any).R (⟨wy9.heap.size,wy9,(.slice none 0 0),false,P0⟩ : RC) vv nn ww) (RC.C (⟨wy9.heap.size,wy9,(.slice none 0 0),false,P0⟩ : RC)) (RC.S (⟨wy9.heap.size,wy9,(.slice none 0 0),false,P0⟩ : RC)) (fun _ => 0) (fun _ => 0)
                    (by kernel_rfl) (by kernel_rfl) (by decide) (by kernel_rfl) (fun p vv nn ww n' w' h hs => ds_keep hB _ rfl p vv nn ww n' w' h hs) RC.start0 ?hXa
                   case' hXa => (apply Exists.intro;refine ⟨fun T => ?hAa,?hoba,?henda⟩)
                   case hAa =>
                    simp only [setAll,List.take_succ_cons,List.take_zero,Act.put,List.setIfInBounds_toArray,List.set_cons_succ,List.set_cons_zero,Nat.reduceAdd]
                    exact rfl
                   case hoba =>
                    refine ⟨?_,?_,?_,?_,?_,?_,?_,?_,trivial⟩
                    ·intro T wx n hC (hn : n ≤ 0) hp
                     refine Op1.g fun _ Z => ?_;go_simp;exact Z _ _ ⟨rfl,hC,rR⟩
                    ·intro T wx n hC (hn : n ≤ 0) hp
                     obtain ⟨(d0 : T 0 = .pointer (some ⟨P0,13,none⟩)), -⟩ := hp
                     obtain ⟨-, -, -, -, -, -, -, -, -, -, -, -, -,c13, -, -, -, -, -,f0⟩ := PBlk.cells (show PBlk wx P0 x from hC.2.2.trans HP.out)
                     refine Op1.g fun _ Z => ?_;go_simp;exact Z _ _ ⟨rfl,hC,rR⟩
                    ·intro T wx n hC (hn : n ≤ 0) hp
                     obtain ⟨(d1 : T 1 = .bool x.has), -⟩ := hp
                     refine Op1.g fun _ Z => ?_;go_simp;exact Z _ _ ⟨rfl,hC,rR⟩
                    ·intro T wx n hC (hn : n ≤ 0) hp
                     obtain ⟨(d2 : T 2 = .bool (!x.has)), -⟩ := hp
                     refine Op1.g fun _ Z => ?_;go_simp;exact Z _ _ ⟨rfl,hC,rR⟩
                    ·intro T wx n hC (hn : n ≤ 0) hp
                     obtain ⟨(d3 : T 3 = .bool (!x.has)), -⟩ := hp
                     refine ⟨fun hT => ?_,fun hT => ?_⟩
                     ·have hc : (!x.has) = true := by rw [d3] at hT;injection hT
                      refine Op1.g fun _ Z => ?_;go_simp;exact Z _ _ ⟨⟨fun _ => rfl,fun h => by rw [hc] at h;cases h⟩,hC,rR⟩
                     ·exact ⟨⟨fun hc => absurd (d3.trans (congrArg Value.bool hc)) hT,fun _ => rfl⟩,hC,rR⟩
                    ·intro T wx n hC (hn : n ≤ 0) hp
                     obtain ⟨(d4 : ((!x.has) = true → T 4 = .pointer (some ⟨P0,15,none⟩)) ∧ ((!x.has) = false → T 4 = undef)),(d3 : T 3 = .bool (!x.has)), -⟩ := hp
                     refine ⟨fun hT => ?_,fun hT => ?_⟩
                     ·have hc : (!x.has) = true := by rw [d3] at hT;injection hT
                      replace d4 := d4.1 (by first | exact hc | (simp only [Bool.and_eq_true] at hc ⊢;first | exact hc.1 | exact hc.1.1 | simp_all))
                      obtain ⟨-, -, -, -, -, -, -, -, -, -, -, -, -, -, -,c15, -, -, -,f0⟩ := PBlk.cells (show PBlk wx P0 x from hC.2.2.trans HP.out)
                      refine Op1.g fun _ Z => ?_;go_simp;exact Z _ _ ⟨⟨fun _ => rfl,fun h => by rw [hc] at h;cases h⟩,hC,rR⟩
                     ·exact ⟨⟨fun hc => absurd (d3.trans (congrArg Value.bool hc)) hT,fun _ => rfl⟩,hC,rR⟩
                    ·intro T wx n hC (hn : n ≤ 0) hp
                     obtain ⟨(d5 : ((!x.has) = true → T 5 = .int .i64 (x.ack)) ∧ ((!x.has) = false → T 5 = undef)),(d3 : T 3 = .bool (!x.has)), -⟩ := hp
                     refine ⟨fun hT => ?_,fun hT => ?_⟩
                     ·have hc : (!x.has) = true := by rw [d3] at hT;injection hT
                      replace d5 := d5.1 (by first | exact hc | (simp only [Bool.and_eq_true] at hc ⊢;first | exact hc.1 | exact hc.1.1 | simp_all))
                      refine Op1.g fun _ Z => ?_;go_simp;exact Z _ _ ⟨⟨fun _ => rfl,fun h => by rw [hc] at h;cases h⟩,hC,rR⟩
                     ·exact ⟨⟨fun hc => absurd (d3.trans (congrArg Value.bool hc)) hT,fun _ => rfl⟩,hC,rR⟩
                    ·intro T wx n hC (hn : n ≤ 0) hp
                     obtain ⟨(d3 : T 3 = .bool (!x.has)),(d6 : ((!x.has) = true → T 6 = .bool (x.ack != 0)) ∧ ((!x.has) = false → T 6 = undef)), -⟩ := hp
                     cases ha : (!x.has)
                     ·rw [ha] at d3
                      refine Op1.g fun _ Z => ?_;go_simp;exact Z _ _ ⟨congrArg Value.bool (by simp),hC,rR⟩
                     ·have dz := d6.1 (by first | exact hc | (simp [ha];done) | (simp only [ha,Bool.not_false,Bool.not_true,Bool.and_true,Bool.true_and];exact hc) | simp_all)
                      rw [ha] at d3
                      refine Op1.g fun _ Z => ?_;go_simp;exact Z _ _ ⟨congrArg Value.bool (by simp),hC,rR⟩
                   case henda =>
                    intro T wy10 ⟨n,hn,hC,hR⟩
                    have r95 : T 7 = .bool ((!x.has) && (x.ack != 0)) := hR 7 (by omega)
                    rw [r95]
                    clear r95
                    have HC := Lib.hid hC.1
                    have hB2 := hC.size
                    clear hR hC
                    replace HBx := Lib.hid (HBx.out.trans (HC.out.mono (Nat.le_of_lt (Blk.lt HP.out))))
                    replace HP := Lib.hid (Blk.below HP.out HC.out (Blk.lt HP.out))
                    clear HC hB hB2
                    rcases Bool.eq_false_or_eq_true ((!x.has) && (x.ack != 0)) with hEa | hEa
                    ·rw [hEa]
                     replace hEa := Lib.hid hEa
                     go_wp2_with fail
                     have hP0 := HP0.out
                     subst hP0
                     go_ret
                     refine ⟨?_,HBx.out⟩
                     rw [hrf.out];simp only [hE2.out,hE3.out,hE4.out,hE5.out,hE6.out,hE7.out,hE8.out,hE9.out,hEa.out,ha1.out,ha2.out,ne_eq,not_true_eq_false,if_true,if_false,Bool.false_eq_true] <;> rfl
                    ·rw [hEa]
                     replace hEa := Lib.hid hEa
                     go_upto_region 23 with fail
                     have hB : RC.fine (⟨wy10.heap.size,wy10,(.slice none 0 0),false,P0⟩ : RC) := ⟨Nat.le_refl _,Blk.lt HP.out,by simp [Value.ownBlock]⟩
                     refine Lm.wp_region_seq 4 0 (fun p vv nn ww => (List.getD ((.val (.pointer (some ⟨P0,18,none⟩))) :: (.val (.slice pa pn pc)) :: (.val (.int .i64 ((pn : Int)))) :: (.val (.bool (decide (1400 < (pn : Int))))) :: [] : List Ds) p .any).R (⟨wy10.heap.size,wy10,(.slice none 0 0),false,P0⟩ : RC) vv nn ww) (RC.C (⟨wy10.heap.size,wy10,(.slice none 0 0),false,P0⟩ : RC)) (RC.S (⟨wy10.heap.size,wy10,(.slice none 0 0),false,P0⟩ : RC)) (fun _ => 0) (fun _ => 0)
                      (by kernel_rfl) (by kernel_rfl) (by decide) (by kernel_rfl) (fun p vv nn ww n' w' h hs => ds_keep hB _ rfl p vv nn ww n' w' h hs) RC.start0 ?hXb
                     case' hXb => (apply Exists.intro;refine ⟨fun T => ?hAb,?hobb,?hendb⟩)
                     case hAb =>
                      simp only [setAll,List.take_succ_cons,List.take_zero,Act.put,List.setIfInBounds_toArray,List.set_cons_succ,List.set_cons_zero,Nat.reduceAdd]
                      exact rfl
                     case hobb =>
                      refine ⟨?_,?_,?_,?_,trivial⟩
                      ·intro T wx n hC (hn : n ≤ 0) hp
                       refine Op1.g fun _ Z => ?_;go_simp;exact Z _ _ ⟨rfl,hC,rR⟩
                      ·intro T wx n hC (hn : n ≤ 0) hp
                       obtain ⟨(d0 : T 0 = .pointer (some ⟨P0,18,none⟩)), -⟩ := hp
                       obtain ⟨-, -, -, -, -, -, -, -, -, -, -, -, -, -, -, -, -, -,c18,f0⟩ := PBlk.cells (show PBlk wx P0 x from hC.2.2.trans HP.out)
                       rw [hp] at c18
                       refine Op1.g fun _ Z => ?_;go_simp;exact Z _ _ ⟨rfl,hC,rR⟩
                      ·intro T wx n hC (hn : n ≤ 0) hp
                       obtain ⟨(d1 : T 1 = .slice pa pn pc), -⟩ := hp
                       refine Op1.g fun _ Z => ?_;go_simp;exact Z _ _ ⟨rfl,hC,rR⟩
                      ·intro T wx n hC (hn : n ≤ 0) hp
                       obtain ⟨(d2 : T 2 = .int .i64 ((pn : Int))), -⟩ := hp
                       refine Op1.g fun _ Z => ?_;go_simp;exact Z _ _ ⟨rfl,hC,rR⟩
                     case hendb =>
                      intro T wy11 ⟨n,hn,hC,hR⟩
                      have r155 : T 3 = .bool (decide (1400 < (pn : Int))) := hR 3 (by omega)
                      rw [r155]
                      clear r155
                      have HC := Lib.hid hC.1
                      have hB2 := hC.size
                      clear hR hC
                      replace HBx := Lib.hid (HBx.out.trans (HC.out.mono (Nat.le_of_lt (Blk.lt HP.out))))
                      replace HP := Lib.hid (Blk.below HP.out HC.out (Blk.lt HP.out))
                      clear HC hB hB2
                      rcases Bool.eq_false_or_eq_true (decide (1400 < (pn : Int))) with hEb | hEb
                      ·rw [hEb]
                       replace hEb := Lib.hid hEb
                       go_wp2_with fail
                       have hP0 := HP0.out
                       subst hP0
                       go_ret
                       refine ⟨?_,HBx.out⟩
                       rw [hrf.out];simp only [hE2.out,hE3.out,hE4.out,hE5.out,hE6.out,hE7.out,hE8.out,hE9.out,hEa.out,hEb.out,ha1.out,ha2.out,ne_eq,not_true_eq_false,if_true,if_false,Bool.false_eq_true] <;> rfl
                      ·rw [hEb]
                       replace hEb := Lib.hid hEb
                       go_wp2_with fail
                       have hP0 := HP0.out
                       subst hP0
                       go_ret
                       refine ⟨?_,HBx.out⟩
                       rw [hrf.out];simp only [hE2.out,hE3.out,hE4.out,hE5.out,hE6.out,hE7.out,hE8.out,hE9.out,hEa.out,hEb.out,ha1.out,ha2.out,ne_eq,not_true_eq_false,if_false,Bool.false_eq_true] <;> rfl
end Go.Proofs.YthebgfnaomgcnaaGreat
