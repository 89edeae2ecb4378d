/-
  An address of eight groups as text: AddrText of the reference.
  addr.Text of the program, AddrText of the reference at any right address: one text.
  Parse and AddrParse = parseF. Condition: at most a million bytes.
  Lists without the elements that are alike to the one ahead of them, in plain words.
  Functions of package slices at a row of structs.
  Functions of package slices at a row of structs.
  cmp.Or of a row of ints, cmp.Compare of ints, the order of bools, slices.Compare of two rows of two ints.
  The program's order of flows and of reports; the count of draws never goes down.
-/
import Derived.Test.YtgkhcdjoilgfmaaGreatDoorRPX13
import Derived.Test.YtgkhcdjoilgfmaaGreatDoorRPX6
import Derived.Test.YtgkhcdjoilgfmaaGreatDoorRPX12
import Derived.Test.YtgkhcdjoilgfmaaGreatDoorRPX8
import Derived.Test.YtgkhcdjoilgfmaaGreatDoorRPX10
import Derived.WalkSpells
import Derived.Test.YtgkhcdjoilgfmaaGreatDoorRPX7
import Derived.Test.YtgkhcdjoilgfmaaGreatDoorRPX4
set_option linter.unusedVariables false
set_option maxRecDepth 100000
set_option maxHeartbeats 8000000
namespace Go.Proofs.YtgkhcdjoilgfmaaGreatDoor
open Go.RowKit Go
theorem rIn_stop {z:Nat→Bool} {n i:Nat} (h:¬ i + n≤8):∀ q,rIn z n q i=none
 | 0 => rfl
 | q + 1 => by unfold rIn;rw [if_neg h]
theorem hit_iff (z:Nat→Bool) (L:List ByteArray) (s:ByteArray) (i n:Nat) (h:∀ j x,L[j]?=some x→(x=s ↔ z j=true)) (hl:i + n≤L.length):hit z i n=true ↔ ∀ x ∈ (L.drop i).take n,x=s:=by
 unfold hit
 rw [List.all_eq_true]
 constructor
 ·intro h1 x hx
  obtain ⟨j,hj,rfl⟩:=List.getElem_of_mem hx
  have hj':j < n:=by simp at hj;omega
  refine (h (i + j) _ ?_).2 (h1 j (List.mem_range.2 hj'))
  rw [List.getElem_take,List.getElem_drop, ← List.getElem?_eq_getElem]
 ·intro h1 j hj
  have hj':j < n:=List.mem_range.1 hj
  have hlt:i + j < L.length:=by omega
  refine (h (i + j) L[i + j] (List.getElem?_eq_getElem hlt)).1 (h1 _ ?_)
  refine List.mem_iff_getElem.2 ⟨j,by simp;omega,?_⟩
  rw [List.getElem_take,List.getElem_drop]
theorem slice_mid (g c i D n:Nat) (W:World) (hD:i + n=D) (h8:D≤8) (hn:1≤n) (hc:8≤c):(Instr.slice 119 (.slice (some ⟨g,0,none⟩) 8 c) (some (.int .i64 (i:Int))) (some (.int .i64 (D:Int))) none).run Tryz.prog W=.ok (.slice (some ⟨g,i,none⟩) n (c - i)) W:=by
 have h:=Lib.run_slice_window (P:=Tryz.prog) W 119 9 (by kernel_rfl) Tryz.sizeOf9 g 0 8 c i D (by omega) (by omega)
 rw [Nat.zero_add,show D - i=n by omega] at h
 exact h
theorem addrTextSix_any (hi lo:Nat) (w:World) (h1:hi < 18446744073709551616) (h2:lo < 18446744073709551616) (ht:Tabs w):Calls Tryz.prog 103 #[.agg #[.bool true, .int .u64 (hi:Int), .int .u64 (lo:Int)]] w (Ret (.string (sixT (dg hi lo))) w):=by
 have HGr:=Lib.hid fun wx => groupsQ_any hi lo wx h1 h2
 have hls:=sixL_short (dg hi lo)
 have HR:=Lib.hid (sixT_search (dg hi lo))
 have HZ8:=Lib.hid fun j (hj:j < 8) => (show zB (dg hi lo) j=(dg hi lo (7 - j) == 0) from rfl)
 have hL8:∀ j x,(sixL (dg hi lo))[j]?=some x→(x=⟨#[48]⟩ ↔ zB (dg hi lo) j=true):=fun j x hx => by
  have hj:j < 8:=(List.getElem?_eq_some_iff.1 hx).1
  have:j=0 ∨ j=1 ∨ j=2 ∨ j=3 ∨ j=4 ∨ j=5 ∨ j=6 ∨ j=7:=by omega
  have key:∀ d,(hexS (dg hi lo d)=⟨#[48]⟩ ↔ (dg hi lo d == 0)=true):=fun d => by rw [hexS_zero _ (dg_lt hi lo d)];simp
  rcases this with rfl | rfl | rfl | rfl | rfl | rfl | rfl | rfl <;> (have h3:=Option.some.inj hx;rw [← h3];exact key _)
 have HL8:=Lib.hid hL8
 clear hL8 HZ8
 generalize sixT (dg hi lo)=R at *
 generalize zB (dg hi lo)=z at *
 unfold sixL at hls HR HL8
 unfold I8 at HGr
 have hd0:=dg_lt hi lo 0
 generalize dg hi lo 0=g0 at *
 have H0:=Lib.hid fun wx (ht:Tabs wx) => fmtI16_any g0 wx hd0 ht.2
 generalize hexS g0=d0 at *
 have hd1:=dg_lt hi lo 1
 generalize dg hi lo 1=g1 at *
 have H1:=Lib.hid fun wx (ht:Tabs wx) => fmtI16_any g1 wx hd1 ht.2
 generalize hexS g1=d1 at *
 have hd2:=dg_lt hi lo 2
 generalize dg hi lo 2=g2 at *
 have H2:=Lib.hid fun wx (ht:Tabs wx) => fmtI16_any g2 wx hd2 ht.2
 generalize hexS g2=d2 at *
 have hd3:=dg_lt hi lo 3
 generalize dg hi lo 3=g3 at *
 have H3:=Lib.hid fun wx (ht:Tabs wx) => fmtI16_any g3 wx hd3 ht.2
 generalize hexS g3=d3 at *
 have hd4:=dg_lt hi lo 4
 generalize dg hi lo 4=g4 at *
 have H4:=Lib.hid fun wx (ht:Tabs wx) => fmtI16_any g4 wx hd4 ht.2
 generalize hexS g4=d4 at *
 have hd5:=dg_lt hi lo 5
 generalize dg hi lo 5=g5 at *
 have H5:=Lib.hid fun wx (ht:Tabs wx) => fmtI16_any g5 wx hd5 ht.2
 generalize hexS g5=d5 at *
 have hd6:=dg_lt hi lo 6
 generalize dg hi lo 6=g6 at *
 have H6:=Lib.hid fun wx (ht:Tabs wx) => fmtI16_any g6 wx hd6 ht.2
 generalize hexS g6=d6 at *
 have hd7:=dg_lt hi lo 7
 generalize dg hi lo 7=g7 at *
 have H7:=Lib.hid fun wx (ht:Tabs wx) => fmtI16_any g7 wx hd7 ht.2
 generalize hexS g7=d7 at *
 have HP:Hid (Blk (w.alloc (.cells #[.bool true, .int .u64 (hi:Int), .int .u64 (lo:Int)] 28 (0,0))) w.heap.size 28 #[.bool true, .int .u64 (hi:Int), .int .u64 (lo:Int)]):=Lib.hid (Blk.new w _ _)
 have HB:Hid (Below w.heap.size w (w.alloc (.cells #[.bool true, .int .u64 (hi:Int), .int .u64 (lo:Int)] 28 (0,0)))):=Lib.hid (below_alloc (Below.refl _ _) _)
 have HT:=Lib.hid (ht.below HB.out)
 have HLs:=Lib.hid hls
 clear ht hls
 go_enter Tryz.func103,Tryz.ntmps103
 go_upto_region 1 with fail
 generalize w.alloc (.cells #[.bool true, .int .u64 (hi:Int), .int .u64 (lo:Int)] 28 (0,0))=w0 at *
 have p0:=HP.out.cell 0
 have p1:=HP.out.cell 1
 have p2:=HP.out.cell 2
 simp at p0 p1 p2
 go_wp2_with fail
 refine (HGr.out _).mono ?_
 rintro e w2 ⟨gr,gc,rfl,hgr,hgc,hb⟩
 have HB2:=Lib.hid (HB.out.trans (hb.mono HB.out.size))
 have HT2:=Lib.hid (HT.out.below hb)
 have HGc:=Lib.hid hgc
 clear hb HB HT HP p0 p1 p2 HGr hgc
 go_wp2_with fail
 go_loopw [7,9,46] (fun v iv i wr => ∃ k:Nat,k≤8∧i=.int .i64 k∧Hid (OwnS wr w2.heap.size v (([d7,d6,d5,d4,d3,d2,d1,d0]:List ByteArray).take k))∧Hid (Below w2.heap.size w2 wr)) (fun _ _ i _ => 8 - (intOf i).toNat)
 case atStart => exact ⟨0,Nat.zero_le _,rfl,Lib.hid (OwnS.nil _ _),Lib.hid (Below.refl _ _)⟩
 case round =>
  obtain ⟨k,hk,rfl,HO,HBr⟩:=hrel
  by_cases hlt:k < 8
  ·have hk8:k=0 ∨ k=1 ∨ k=2 ∨ k=3 ∨ k=4 ∨ k=5 ∨ k=6 ∨ k=7:=by omega
   have HTr:=Lib.hid (HT2.out.below HBr.out)
   rcases hk8 with rfl | rfl | rfl | rfl | rfl | rfl | rfl | rfl
   ·have p:=Later.cell_of (HGc.out 0 _ rfl) ⟨wr,HBr.out⟩
    simp only at p
    go_wp2_with fail
    refine (H7.out _ HTr.out).mono ?_
    rintro e w' ⟨rfl,hb⟩
    have HO1:=Lib.hid (HO.out.later hb)
    have HBr1:=Lib.hid (HBr.out.trans (hb.mono HBr.out.size))
    clear hb HO HBr HTr p
    go_wp2_with (at_builtin;refine wpList_app strE rfl (.tmp 50) (.tmp 53) rfl rfl (World.ownsRow.alloc HO1.out _) rfl (src_one_new _ _ _) ?c1 ?c2 ?c3 ?c4 ?_)
    case c1 => first | rfl | (intro u hu;simp at hu;subst hu;rfl)
    case c2 => unfold maxLen;simp
    case c3 => simp
    case c4 => have:=HBr1.out.size;simp;omega
    intro v' w4 hO hG
    have HO':=Lib.hid (show OwnS w4 w2.heap.size v' (([d7,d6,d5,d4,d3,d2,d1,d0]:List ByteArray).take 1) from hO)
    have HB':Hid (Below w2.heap.size w2 w4):=Lib.hid ((Below.alloc HBr1.out HBr1.out.size _).trans (hG.below (by have:=HBr1.out.size;simp;omega) (own_base HO1.out)))
    clear hO hG
    go_wp2
    exact ⟨⟨1,by decide,rfl,HO',HB'⟩,by simp [intOf]⟩
   ·have p:=Later.cell_of (HGc.out 1 _ rfl) ⟨wr,HBr.out⟩
    simp only at p
    go_wp2_with fail
    refine (H6.out _ HTr.out).mono ?_
    rintro e w' ⟨rfl,hb⟩
    have HO1:=Lib.hid (HO.out.later hb)
    have HBr1:=Lib.hid (HBr.out.trans (hb.mono HBr.out.size))
    clear hb HO HBr HTr p
    go_wp2_with (at_builtin;refine wpList_app strE rfl (.tmp 50) (.tmp 53) rfl rfl (World.ownsRow.alloc HO1.out _) rfl (src_one_new _ _ _) ?c1 ?c2 ?c3 ?c4 ?_)
    case c1 => first | rfl | (intro u hu;simp at hu;subst hu;rfl)
    case c2 => unfold maxLen;simp
    case c3 => simp
    case c4 => have:=HBr1.out.size;simp;omega
    intro v' w4 hO hG
    have HO':=Lib.hid (show OwnS w4 w2.heap.size v' (([d7,d6,d5,d4,d3,d2,d1,d0]:List ByteArray).take 2) from hO)
    have HB':Hid (Below w2.heap.size w2 w4):=Lib.hid ((Below.alloc HBr1.out HBr1.out.size _).trans (hG.below (by have:=HBr1.out.size;simp;omega) (own_base HO1.out)))
    clear hO hG
    go_wp2
    exact ⟨⟨2,by decide,rfl,HO',HB'⟩,by simp [intOf]⟩
   ·have p:=Later.cell_of (HGc.out 2 _ rfl) ⟨wr,HBr.out⟩
    simp only at p
    go_wp2_with fail
    refine (H5.out _ HTr.out).mono ?_
    rintro e w' ⟨rfl,hb⟩
    have HO1:=Lib.hid (HO.out.later hb)
    have HBr1:=Lib.hid (HBr.out.trans (hb.mono HBr.out.size))
    clear hb HO HBr HTr p
    go_wp2_with (at_builtin;refine wpList_app strE rfl (.tmp 50) (.tmp 53) rfl rfl (World.ownsRow.alloc HO1.out _) rfl (src_one_new _ _ _) ?c1 ?c2 ?c3 ?c4 ?_)
    case c1 => first | rfl | (intro u hu;simp at hu;subst hu;rfl)
    case c2 => unfold maxLen;simp
    case c3 => simp
    case c4 => have:=HBr1.out.size;simp;omega
    intro v' w4 hO hG
    have HO':=Lib.hid (show OwnS w4 w2.heap.size v' (([d7,d6,d5,d4,d3,d2,d1,d0]:List ByteArray).take 3) from hO)
    have HB':Hid (Below w2.heap.size w2 w4):=Lib.hid ((Below.alloc HBr1.out HBr1.out.size _).trans (hG.below (by have:=HBr1.out.size;simp;omega) (own_base HO1.out)))
    clear hO hG
    go_wp2
    exact ⟨⟨3,by decide,rfl,HO',HB'⟩,by simp [intOf]⟩
   ·have p:=Later.cell_of (HGc.out 3 _ rfl) ⟨wr,HBr.out⟩
    simp only at p
    go_wp2_with fail
    refine (H4.out _ HTr.out).mono ?_
    rintro e w' ⟨rfl,hb⟩
    have HO1:=Lib.hid (HO.out.later hb)
    have HBr1:=Lib.hid (HBr.out.trans (hb.mono HBr.out.size))
    clear hb HO HBr HTr p
    go_wp2_with (at_builtin;refine wpList_app strE rfl (.tmp 50) (.tmp 53) rfl rfl (World.ownsRow.alloc HO1.out _) rfl (src_one_new _ _ _) ?c1 ?c2 ?c3 ?c4 ?_)
    case c1 => first | rfl | (intro u hu;simp at hu;subst hu;rfl)
    case c2 => unfold maxLen;simp
    case c3 => simp
    case c4 => have:=HBr1.out.size;simp;omega
    intro v' w4 hO hG
    have HO':=Lib.hid (show OwnS w4 w2.heap.size v' (([d7,d6,d5,d4,d3,d2,d1,d0]:List ByteArray).take 4) from hO)
    have HB':Hid (Below w2.heap.size w2 w4):=Lib.hid ((Below.alloc HBr1.out HBr1.out.size _).trans (hG.below (by have:=HBr1.out.size;simp;omega) (own_base HO1.out)))
    clear hO hG
    go_wp2
    exact ⟨⟨4,by decide,rfl,HO',HB'⟩,by simp [intOf]⟩
   ·have p:=Later.cell_of (HGc.out 4 _ rfl) ⟨wr,HBr.out⟩
    simp only at p
    go_wp2_with fail
    refine (H3.out _ HTr.out).mono ?_
    rintro e w' ⟨rfl,hb⟩
    have HO1:=Lib.hid (HO.out.later hb)
    have HBr1:=Lib.hid (HBr.out.trans (hb.mono HBr.out.size))
    clear hb HO HBr HTr p
    go_wp2_with (at_builtin;refine wpList_app strE rfl (.tmp 50) (.tmp 53) rfl rfl (World.ownsRow.alloc HO1.out _) rfl (src_one_new _ _ _) ?c1 ?c2 ?c3 ?c4 ?_)
    case c1 => first | rfl | (intro u hu;simp at hu;subst hu;rfl)
    case c2 => unfold maxLen;simp
    case c3 => simp
    case c4 => have:=HBr1.out.size;simp;omega
    intro v' w4 hO hG
    have HO':=Lib.hid (show OwnS w4 w2.heap.size v' (([d7,d6,d5,d4,d3,d2,d1,d0]:List ByteArray).take 5) from hO)
    have HB':Hid (Below w2.heap.size w2 w4):=Lib.hid ((Below.alloc HBr1.out HBr1.out.size _).trans (hG.below (by have:=HBr1.out.size;simp;omega) (own_base HO1.out)))
    clear hO hG
    go_wp2
    exact ⟨⟨5,by decide,rfl,HO',HB'⟩,by simp [intOf]⟩
   ·have p:=Later.cell_of (HGc.out 5 _ rfl) ⟨wr,HBr.out⟩
    simp only at p
    go_wp2_with fail
    refine (H2.out _ HTr.out).mono ?_
    rintro e w' ⟨rfl,hb⟩
    have HO1:=Lib.hid (HO.out.later hb)
    have HBr1:=Lib.hid (HBr.out.trans (hb.mono HBr.out.size))
    clear hb HO HBr HTr p
    go_wp2_with (at_builtin;refine wpList_app strE rfl (.tmp 50) (.tmp 53) rfl rfl (World.ownsRow.alloc HO1.out _) rfl (src_one_new _ _ _) ?c1 ?c2 ?c3 ?c4 ?_)
    case c1 => first | rfl | (intro u hu;simp at hu;subst hu;rfl)
    case c2 => unfold maxLen;simp
    case c3 => simp
    case c4 => have:=HBr1.out.size;simp;omega
    intro v' w4 hO hG
    have HO':=Lib.hid (show OwnS w4 w2.heap.size v' (([d7,d6,d5,d4,d3,d2,d1,d0]:List ByteArray).take 6) from hO)
    have HB':Hid (Below w2.heap.size w2 w4):=Lib.hid ((Below.alloc HBr1.out HBr1.out.size _).trans (hG.below (by have:=HBr1.out.size;simp;omega) (own_base HO1.out)))
    clear hO hG
    go_wp2
    exact ⟨⟨6,by decide,rfl,HO',HB'⟩,by simp [intOf]⟩
   ·have p:=Later.cell_of (HGc.out 6 _ rfl) ⟨wr,HBr.out⟩
    simp only at p
    go_wp2_with fail
    refine (H1.out _ HTr.out).mono ?_
    rintro e w' ⟨rfl,hb⟩
    have HO1:=Lib.hid (HO.out.later hb)
    have HBr1:=Lib.hid (HBr.out.trans (hb.mono HBr.out.size))
    clear hb HO HBr HTr p
    go_wp2_with (at_builtin;refine wpList_app strE rfl (.tmp 50) (.tmp 53) rfl rfl (World.ownsRow.alloc HO1.out _) rfl (src_one_new _ _ _) ?c1 ?c2 ?c3 ?c4 ?_)
    case c1 => first | rfl | (intro u hu;simp at hu;subst hu;rfl)
    case c2 => unfold maxLen;simp
    case c3 => simp
    case c4 => have:=HBr1.out.size;simp;omega
    intro v' w4 hO hG
    have HO':=Lib.hid (show OwnS w4 w2.heap.size v' (([d7,d6,d5,d4,d3,d2,d1,d0]:List ByteArray).take 7) from hO)
    have HB':Hid (Below w2.heap.size w2 w4):=Lib.hid ((Below.alloc HBr1.out HBr1.out.size _).trans (hG.below (by have:=HBr1.out.size;simp;omega) (own_base HO1.out)))
    clear hO hG
    go_wp2
    exact ⟨⟨7,by decide,rfl,HO',HB'⟩,by simp [intOf]⟩
   ·have p:=Later.cell_of (HGc.out 7 _ rfl) ⟨wr,HBr.out⟩
    simp only at p
    go_wp2_with fail
    refine (H0.out _ HTr.out).mono ?_
    rintro e w' ⟨rfl,hb⟩
    have HO1:=Lib.hid (HO.out.later hb)
    have HBr1:=Lib.hid (HBr.out.trans (hb.mono HBr.out.size))
    clear hb HO HBr HTr p
    go_wp2_with (at_builtin;refine wpList_app strE rfl (.tmp 50) (.tmp 53) rfl rfl (World.ownsRow.alloc HO1.out _) rfl (src_one_new _ _ _) ?c1 ?c2 ?c3 ?c4 ?_)
    case c1 => first | rfl | (intro u hu;simp at hu;subst hu;rfl)
    case c2 => unfold maxLen;simp
    case c3 => simp
    case c4 => have:=HBr1.out.size;simp;omega
    intro v' w4 hO hG
    have HO':=Lib.hid (show OwnS w4 w2.heap.size v' (([d7,d6,d5,d4,d3,d2,d1,d0]:List ByteArray).take 8) from hO)
    have HB':Hid (Below w2.heap.size w2 w4):=Lib.hid ((Below.alloc HBr1.out HBr1.out.size _).trans (hG.below (by have:=HBr1.out.size;simp;omega) (own_base HO1.out)))
    clear hO hG
    go_wp2
    exact ⟨⟨8,by decide,rfl,HO',HB'⟩,by simp [intOf]⟩
  ·obtain rfl:k=8:=by omega
   obtain ⟨g,c,hv,_,hg,hc,hcm,hcell⟩:=HO.out.one (by simp)
   have hv':u7=.slice (some ⟨g,0,none⟩) 8 c:=hv
   have hc':8≤c:=hc
   rw [show ([d7,d6,d5,d4,d3,d2,d1,d0]:List ByteArray).take 8=([d7,d6,d5,d4,d3,d2,d1,d0]:List ByteArray) from rfl] at hcell
   have hLn:([d7,d6,d5,d4,d3,d2,d1,d0]:List ByteArray).length=8:=rfl
   generalize ([d7,d6,d5,d4,d3,d2,d1,d0]:List ByteArray)=L at *
   have HCell:=Lib.hid hcell
   have HLn:=Lib.hid hLn
   have HB5:=Lib.hid (HB2.out.trans (HBr.out.mono HB2.out.size))
   clear hv hc hcell hLn HO HBr
   subst hv'
   obtain ⟨w5,hw5⟩:∃ x,x=wr:=⟨wr,rfl⟩
   subst hw5
   obtain ⟨Z,hZ⟩:∃ Z,rOut z 7=Z:=⟨_,rfl⟩
   rw [hZ] at HR
   have HZ:=Lib.hid hZ
   clear hZ
   go_wp2_with fail
   go_loopw [10,11] (fun a b wx => ∃ k:Nat,k≤7∧a=.int .i64 ((k:Int) + 1)∧Hid (rOut z k=Z)∧Hid (Below w5.heap.size w5 wx)) (fun a _ _ => (intOf a).toNat)
   case atStart => exact ⟨7,Nat.le_refl _,rfl,HZ,Lib.hid (Below.refl _ _)⟩
   case round =>
    clear HZ
    obtain ⟨k,hk,rfl,HZ,HBx⟩:=hrel
    by_cases hk0:k=0
    ·subst hk0
     have hz:Z=none:=HZ.out.symm
     subst hz
     have hR:R=joinS L ⟨#[58]⟩:=HR.out
     have HJ:=Lib.hid (joinAt_any g 0 c L 58 wr HLs.out (Nat.lt_of_lt_of_le hg HBx.out.size) (by rw [HLn.out];exact hc') (fun j x hx => by rw [Nat.zero_add];exact Later.cell_of (HCell.out j x hx) ⟨wr,HBx.out⟩))
     rw [HLn.out, ← hR] at HJ
     have e1:(((0:Nat):Int) + 1)=1:=by decide
     rw [e1]
     clear hR HR HZ
     go_wp2_with fail
     refine HJ.out.mono ?_
     rintro e w' ⟨rfl,hb⟩
     go_wp2_with fail
     go_ret
     exact ⟨rfl,HB5.out.trans ((HBx.out.trans (hb.mono HBx.out.size)).mono HB5.out.size)⟩
    ·obtain ⟨k,rfl⟩:∃ k',k=k' + 1:=⟨k - 1,by omega⟩
     have hz:=HZ.out
     unfold rOut at hz
     have HZk:=Lib.hid hz
     clear hz HZ
     have e1:(((k + 1:Nat):Int) + 1)=((k + 2:Nat):Int):=by omega
     rw [e1]
     obtain ⟨n,hn⟩:∃ n,k + 2=n:=⟨_,rfl⟩
     rw [hn] at HZk ⊢
     have hn2:2≤n∧n≤8:=by omega
     have Hn:=Lib.hid hn
     clear hn e1
     have hge:(n:Int) ≥ 2:=by omega
     obtain ⟨w6,hw6⟩:∃ x,x=wr:=⟨wr,rfl⟩
     subst hw6
     go_wp2_with fail
     go_loopw [11] (fun b wx => ∃ q i:Nat,9 - i≤q∧i≤9∧b=.int .i64 (i:Int)∧Hid ((match rIn z n q i with | some x => some x | none => rOut z k)=Z)∧Hid (Below w5.heap.size w5 wx)) (fun b _ => 9 - (intOf b).toNat)
     case atStart => exact ⟨9,0,by omega,by omega,rfl,HZk,HBx⟩
     case round =>
      obtain ⟨q,i,hq,hi,rfl,HZi,HBi⟩:=hrel
      by_cases hin:i + n≤8
      ·obtain ⟨q,rfl⟩:∃ q',q=q' + 1:=⟨q - 1,by omega⟩
       have hz:=HZi.out
       unfold rIn at hz
       rw [if_pos hin] at hz
       have hHit:=hit_iff z L ⟨#[48]⟩ i n HL8.out (by rw [HLn.out];exact hin)
       have hCF:=containsFunc_any g i n (c - i) ((L.drop i).take n) (hit z i n) wr (by rw [List.length_take,List.length_drop,HLn.out];omega) (by omega) (fun j x hx => by
        rw [List.getElem?_take] at hx
        split at hx
        ·rw [List.getElem?_drop] at hx
         exact Later.cell_of (HCell.out _ x hx) ⟨wr,HBi.out⟩
        ·cases hx) hHit
       obtain ⟨D,hD⟩:∃ D,i + n=D:=⟨_,rfl⟩
       have hD8:D≤8:=by omega
       have hsl:=fun W => slice_mid g c i D n W (by omega) hD8 (by omega) hc'
       have e2:(i:Int) + (n:Int)=(D:Int):=by omega
       have e3:(D:Int)≤8:=by omega
       have e4:(0:Int)≤(D:Int):=by omega
       have HD:=Lib.hid hD
       clear hHit HZi hin hD
       by_cases hh:hit z i n=true
       ·rw [if_pos hh] at hz
        rw [hh] at hCF
        have HCF:=Lib.hid hCF
        have HZ3:Hid (some (i,n)=Z):=Lib.hid hz
        clear hz hh hCF
        go_wp2_with fail
        refine HCF.out.mono ?_
        rintro e w' ⟨rfl,rfl⟩
        obtain rfl:=HZ3.out
        have hR:R=gapS L i n:=HR.out
        have hDn:=HD.out
        have HJ1:=Lib.hid fun wx (hb:Below w5.heap.size w5 wx) => joinAt_any g 0 c (L.take i) 58 wx (HLs.out.take i) (Nat.lt_of_lt_of_le hg hb.size) (by rw [List.length_take];omega) (fun j x hx => by
         rw [Nat.zero_add]
         rw [List.getElem?_take] at hx
         split at hx
         ·exact Later.cell_of (HCell.out j x hx) ⟨wx,hb⟩
         ·cases hx)
        have HJ2:=Lib.hid fun wx (hb:Below w5.heap.size w5 wx) => joinAt_any g (if c=D then 0 else D) (c - D) (L.drop D) 58 wx (HLs.out.drop D) (Nat.lt_of_lt_of_le hg hb.size) (by rw [List.length_drop,HLn.out];omega) (fun j x hx => by
         rw [List.getElem?_drop] at hx
         have hlt:D + j < L.length:=(List.getElem?_eq_some_iff.1 hx).1
         rw [HLn.out] at hlt
         rw [if_neg (by omega)]
         exact Later.cell_of (HCell.out _ x hx) ⟨wx,hb⟩)
        rw [show (L.take i).length=i by rw [List.length_take,HLn.out];omega] at HJ1
        rw [show (L.drop D).length=8 - D by rw [List.length_drop,HLn.out]] at HJ2
        have z1:=joinS_size (HLs.out.take i) 58
        have z2:=joinS_size (HLs.out.drop D) 58
        unfold gapS at hR
        rw [hDn] at hR
        generalize joinS (L.take i) ⟨#[58]⟩=J1 at *
        generalize joinS (L.drop D) ⟨#[58]⟩=J2 at *
        subst hR
        clear HR hDn
        have hA1:=add_str J1 ⟨#[58,58]⟩ (by omega) (by decide)
        have hA2:=add_str (J1 ++ ⟨#[58,58]⟩) J2 (by rw [ByteArray.size_append];have:(⟨#[58,58]⟩:ByteArray).size=2:=rfl;omega) (by omega)
        obtain ⟨w6,hw6⟩:∃ x,x=w':=⟨w',rfl⟩
        subst hw6
        have hJ1:=fun m:Later w6 => Calls.later m (HJ1.out m.1 (HBi.out.trans (m.2.mono HBi.out.size)))
        have hJ2:=fun m:Later w6 => Calls.later m (HJ2.out m.1 (HBi.out.trans (m.2.mono HBi.out.size)))
        have f1:(0:Int)≤(i:Int):=by omega
        have f2:(i:Int)≤(c:Int):=by omega
        have hs2:=fun W => slice_from g c D W hD8 hc'
        obtain ⟨O,hO⟩:∃ O,(if c=D then 0 else D)=O:=⟨_,rfl⟩
        rw [hO] at hJ2 hs2
        clear hO hD8 hsl
        go_upto_region 23 with fail
        refine wp_region_later (by kernel_rfl) (by kernel_rfl) ?_
        iterate 3 (go_big_quiet_step (fail))
        go_big_quiet_step ((go_at_call 99;exact hJ1 _))
        repeat (go_big_quiet_step (fail))
        go_big_quiet_step ((go_at_call 99;exact hJ2 _))
        repeat (go_big_quiet_step (fail))
        refine wpQuiet_nil ?_
        rintro w8 ⟨n8,hn8⟩
        have hb8:Below w6.heap.size w6 w8:=by rw [hn8];exact n8.2
        clear hn8 n8
        have HB8:=Lib.hid (HB5.out.trans ((HBi.out.trans (hb8.mono HBi.out.size)).mono HB5.out.size))
        clear hb8
        go_wp2_with fail
        go_ret
        exact ⟨rfl,HB8.out⟩
       ·have hh':hit z i n=false:=by simpa using hh
        rw [if_neg hh] at hz
        rw [hh'] at hCF
        have HCF:=Lib.hid hCF
        have HZ3:Hid ((match rIn z n q (i + 1) with | some x => some x | none => rOut z k)=Z):=Lib.hid hz
        clear hz hh hh' hCF
        go_wp2_with fail
        refine HCF.out.mono ?_
        rintro e w' ⟨rfl,rfl⟩
        go_wp2_with fail
        go_roundw
        case rel =>
         (repeat apply Exists.intro)
         exact ⟨⟨q,i + 1,by omega,by omega,by go_num,HZ3,HBi⟩,rfl⟩
        case measure => simp [intOf];omega
      ·have hz:=HZi.out
       rw [rIn_stop hin] at hz
       have HZ2:Hid (rOut z k=Z):=Lib.hid hz
       have hnk:=Hn.out
       have hlt2:¬ (i:Int) + (n:Int)≤8:=by omega
       clear hz HZi
       go_wp2_with fail
       exact ⟨⟨k,by omega,congrArg _ (by omega),HZ2,HBi⟩,by simp [intOf];omega⟩
def txtA (six:Bool) (hi lo:Nat):ByteArray:=if six=true then sixT (dg hi lo) else joinS (fourL lo) ⟨#[46]⟩
theorem aFault_lo {six:Bool} {hi lo:Nat} (h:aFault six (hi:Int) (lo:Int)=0):six=false→lo < 4294967296:=by
 rintro rfl
 unfold aFault at h
 by_cases h2:false=false∧((hi:Int) ≠ 0 ∨ 4294967296≤(lo:Int))
 ·rw [if_pos h2] at h;cases h
 ·simp at h2;omega
theorem textOf_any (six:Bool) (hi lo:Nat) (w:World) (h1:U64N hi) (h2:U64N lo) (hf:aFault six (hi:Int) (lo:Int)=0) (ht:Tabs w) :
  Calls Tryz.prog 144 #[.agg #[.bool six, .int .u64 (hi:Int), .int .u64 (lo:Int)]] w (Ret (.string (txtA six hi lo)) w):=by
 cases six
 ·exact textFour_any hi lo w (aFault_lo hf rfl) ht
 ·exact textSix_any hi lo w h1 h2 ht
theorem addrTextU_any (six:Bool) (hi lo:Nat) (w:World) (h1:U64N hi) (h2:U64N lo) (ht:Tabs w) :
  Calls Tryz.prog 103 #[.agg #[.bool six, .int .u64 (hi:Int), .int .u64 (lo:Int)]] w (Ret (.string (txtA six hi lo)) w):=by
 cases six
 ·exact addrTextFour_any hi lo w h1 h2 ht
 ·exact addrTextSix_any hi lo w h1 h2 ht
theorem addrText_any (six:Bool) (hi lo:Nat) (w:World) (h1:U64N hi) (h2:U64N lo) (hf:aFault six (hi:Int) (lo:Int)=0) (ht:Tabs w) :
  Calls Tryz.prog 103 #[.agg #[.bool six, .int .u64 (hi:Int), .int .u64 (lo:Int)]] w (Ret (.string (txtA six hi lo)) w):=by
 cases six
 ·exact addrTextFour_any hi lo w h1 h2 ht
 ·exact addrTextSix_any hi lo w h1 h2 ht
def txtR (six:Bool) (hi lo:Nat):ByteArray:=if aFault six (hi:Int) (lo:Int)=0 then txtA six hi lo else ⟨#[]⟩
theorem aText_any (six:Bool) (hi lo:Nat) (w:World) (h1:U64N hi) (h2:U64N lo) (ht:Tabs w) :
  Calls Tryz.prog 71 #[.agg #[.bool six, .int .u64 (hi:Int), .int .u64 (lo:Int)]] w (Ret (.tuple #[.string (txtR six hi lo), .int .i64 (aFault six (hi:Int) (lo:Int))]) w):=by
 have HC:=Lib.hid fun wx => checkAddr_any six (hi:Int) (lo:Int) wx (u64_le h1) (u64_le h2)
 have HT:=Lib.hid fun hf wx (ht:Tabs wx) => textOf_any six hi lo wx h1 h2 hf ht
 have HR:Hid (txtR six hi lo=if aFault six (hi:Int) (lo:Int)=0 then txtA six hi lo else ⟨#[]⟩):=Lib.hid rfl
 have hv:=aFault_vals six (hi:Int) (lo:Int)
 generalize txtR six hi lo=R at *
 generalize txtA six hi lo=X at *
 generalize aFault six (hi:Int) (lo:Int)=F at *
 unfold vAddr at HC
 have HP:Hid (Blk (w.alloc (.cells #[.bool six, .int .u64 (hi:Int), .int .u64 (lo:Int)] 28 (0,0))) w.heap.size 28 #[.bool six, .int .u64 (hi:Int), .int .u64 (lo:Int)]):=Lib.hid (Blk.new w _ _)
 have HB:Hid (Below w.heap.size w (w.alloc (.cells #[.bool six, .int .u64 (hi:Int), .int .u64 (lo:Int)] 28 (0,0)))):=Lib.hid (below_alloc (Below.refl _ _) _)
 have HT0:=Lib.hid (ht.below HB.out)
 clear ht
 go_enter Tryz.func71,Tryz.ntmps71
 go_upto_region 1 with fail
 generalize w.alloc (.cells #[.bool six, .int .u64 (hi:Int), .int .u64 (lo:Int)] 28 (0,0))=w0 at *
 have p0:=HP.out.cell 0
 have p1:=HP.out.cell 1
 have p2:=HP.out.cell 2
 simp at p0 p1 p2
 go_wp2_with fail
 refine (HC.out _).mono ?_
 rintro e w1 ⟨rfl,o,ho⟩
 have hb:Below w0.heap.size w0 w1:=by rw [ho];exact below_alloc (Below.refl _ _) _
 clear ho o
 have HP1:=Lib.hid (HP.out.below hb HP.out.lt)
 have HB1:=Lib.hid (HB.out.trans (hb.mono HB.out.size))
 have HT1:=Lib.hid (HT0.out.below hb)
 clear hb HP HB HT0 p0 p1 p2 HC
 have p0:=HP1.out.cell 0
 have p1:=HP1.out.cell 1
 have p2:=HP1.out.cell 2
 simp at p0 p1 p2
 rcases hv with rfl | rfl
 ·have hR:=HR.out
  rw [if_pos rfl] at hR
  subst hR
  have HT2:=Lib.hid (HT.out rfl _ HT1.out)
  clear HR HT
  go_wp2_with fail
  refine HT2.out.mono ?_
  rintro e w2 ⟨rfl,hb⟩
  go_wp2_with fail
  go_ret2
  exact ⟨rfl,HB1.out.trans (hb.mono HB1.out.size)⟩
 ·have hR:=HR.out
  rw [if_neg (by decide)] at hR
  subst hR
  clear HR HT
  go_wp2_with fail
  go_ret2
  exact ⟨rfl,HB1.out⟩
open Go.RowKit Go Go.Sort
theorem looseF_ok {s:List UInt8} {six:Bool} {hi lo:Nat} (hs:s.length≤1000000) (h:looseF s=some (six,hi,lo)):U64N hi∧U64N lo∧aFault six (hi:Int) (lo:Int)=0:=by
 rw [loose_same2] at h
 cases hf:fourF s with
 | some n =>
   rw [hf] at h
   have h:some (false,0,n)=some (six,hi,lo):=h
   injection h with h
   injection h with h1 h
   injection h with h2 h3
   subst h1 h2 h3
   have:=fourF_lt hf
   refine ⟨by unfold U64N;omega,by unfold U64N;omega,?_⟩
   unfold aFault
   simp
   omega
 | none =>
   rw [hf] at h
   have h:sixF s=some (six,hi,lo):=h
   unfold sixF at h
   cases hA:grpF (cutC s).1 (!(cutC s).2.2) with
   | none => rw [hA] at h;cases h
   | some a =>
     cases hB:grpF (cutC s).2.1 true with
     | none => rw [hA,hB] at h;cases h
     | some b =>
       rw [hA,hB] at h
       unfold mkA at h
       simp only at h
       have ha:=grpF_lt (Nat.le_trans (cut_le s [58,58]).1 hs) hA
       have hb:=grpF_lt (Nat.le_trans (cut_le s [58,58]).2 hs) hB
       split at h
       ·cases h
       ·injection h with h
        injection h with h1 h
        injection h with h2 h3
        subst h1 h2 h3
        have g1:=wdg_lt (g:=gq a b) (fun i => gq_lt ha hb i) 4
        have g2:=wdg_lt (g:=fun i => gq a b (4 + i)) (fun i => gq_lt ha hb (4 + i)) 4
        exact ⟨g1,g2,rfl⟩
def parseF (s:List UInt8):Option (Bool × Nat × Nat):=match looseF s with
 | some (x,h,l) => if txtA x h l=strL s then some (x,h,l) else none
 | none => none
theorem parse_any (s:List UInt8) (w:World) (hv:Vr w) (hs:s.length≤1000000) :
  Calls Tryz.prog 165 #[.string (strL s)] w (Ret (lsV (parseF s)) w):=by
 have HP:Hid (Blk (w.alloc (.cells #[.bool false, .int .u64 0, .int .u64 0] 28 (0,0))) w.heap.size 28 #[.bool false, .int .u64 0, .int .u64 0]):=Lib.hid (Blk.new w _ _)
 have HB:Hid (Below w.heap.size w (w.alloc (.cells #[.bool false, .int .u64 0, .int .u64 0] 28 (0,0)))):=Lib.hid (below_alloc (Below.refl _ _) _)
 have HV:=Lib.hid (hv.below (below_alloc (Below.refl _ _) (.cells #[.bool false, .int .u64 0, .int .u64 0] 28 (0,0))))
 have HL:=Lib.hid fun wx (hv:Vr wx) => loose_any s wx hv hs
 have HT:Hid (∀ six hi lo,looseF s=some (six,hi,lo)→∀ wx,Vr wx→Calls Tryz.prog 144 #[.agg #[.bool six, .int .u64 (hi:Int), .int .u64 (lo:Int)]] wx (Ret (.string (txtA six hi lo)) wx)):=Lib.hid fun six hi lo h wx hv => by
  obtain ⟨h1,h2,h3⟩:=looseF_ok hs h
  exact textOf_any six hi lo wx h1 h2 h3 hv.tb
 have HPf:Hid (parseF s=match looseF s with
  | some (x,h,l) => if txtA x h l=strL s then some (x,h,l) else none
  | none => none):=Lib.hid rfl
 obtain ⟨PR,hPR⟩:∃ q,parseF s=q:=⟨_,rfl⟩
 rw [hPR] at HPf ⊢
 generalize looseF s=R at *
 generalize strL s=SS at *
 clear hv hPR
 go_enter Tryz.func165,Tryz.ntmps165
 go_upto_region 1 with fail
 generalize w.alloc (.cells #[.bool false, .int .u64 0, .int .u64 0] 28 (0,0))=w1 at *
 obtain ⟨bx,hbx⟩:∃ q,w.heap.size=q:=⟨_,rfl⟩
 have Hbx:=Lib.hid hbx
 rw [hbx] at HP HB ⊢
 clear hbx
 have HRet:Hid (∀ wx (sx:Bool) (h l:Int),Blk wx bx 28 #[.bool false, .int .u64 0, .int .u64 0]→Below bx w wx→Below bx w (((wx.setCell ⟨bx,0,none⟩ (.bool sx)).setCell ⟨bx,1,none⟩ (.int .u64 h)).setCell ⟨bx,2,none⟩ (.int .u64 l))):=Lib.hid fun wx sx h l hp hb => hb.grown (grown_setCells bx [.bool sx, .int .u64 h, .int .u64 l] 0 wx) (Nat.le_of_lt hp.lt) (fun k hk => by injection hk with hk;omega)
 go_wp2_with fail
 refine (HL.out _ HV.out).mono ?_
 rintro e w2 ⟨rfl,hb⟩
 have HP2:=Lib.hid (HP.out.below hb HP.out.lt)
 have HB2:=Lib.hid (HB.out.trans (hb.mono (Nat.le_of_lt HP.out.lt)))
 have HV2:=Lib.hid (HV.out.below hb)
 clear hb HP HB HV HL
 rcases R with _ | ⟨six,hi,lo⟩
 ·have hR:PR=none:=HPf.out
  subst hR
  have HP3:=Lib.hid (HP2.out.alloc (.cells #[.bool false, .int .u64 0, .int .u64 0] 28 (0,0)))
  have HB3:=Lib.hid (HB2.out.alloc (Nat.le_of_lt HP2.out.lt) (.cells #[.bool false, .int .u64 0, .int .u64 0] 28 (0,0)))
  clear HP2 HB2 HV2 HT HPf
  unfold lsV
  go_upto_region 2 with fail
  generalize w2.alloc (.cells #[.bool false, .int .u64 0, .int .u64 0] 28 (0,0))=w3 at *
  have q0:=HP3.out.cell 0
  have q1:=HP3.out.cell 1
  have q2:=HP3.out.cell 2
  have qf:=HP3.out.free
  simp at q0 q1 q2
  have c3:=(HP3.out.set3 (x':=.bool false) (y':=.int .u64 0) (z':=.int .u64 0))
  have HBf:=Lib.hid (HRet.out w3 false 0 0 HP3.out HB3.out)
  have d0:=c3.cell 0
  have d1:=c3.cell 1
  have d2:=c3.cell 2
  simp at d0 d1 d2
  clear c3
  go_wp2_with fail
  refine bodyPost_ret (v:=.tuple #[.agg #[.bool false, .int .u64 0, .int .u64 0], .int .i64 9]) (by simp [results,Tryz.results165,go_sem, *]) rfl ⟨rfl,by rw [Hbx.out];exact HBf.out⟩
 ·have hR:PR=if txtA six hi lo=SS then some (six,hi,lo) else none:=HPf.out
  have HR:=Lib.hid hR
  have HTx:=Lib.hid (HT.out six hi lo rfl)
  have HP3:=Lib.hid (HP2.out.alloc (.cells #[.bool six, .int .u64 (hi:Int), .int .u64 (lo:Int)] 28 (0,0)))
  have HA3:Hid (Blk (w2.alloc (.cells #[.bool six, .int .u64 (hi:Int), .int .u64 (lo:Int)] 28 (0,0))) w2.heap.size 28 #[.bool six, .int .u64 (hi:Int), .int .u64 (lo:Int)]):=Lib.hid (Blk.new w2 _ _)
  have HB3:=Lib.hid (HB2.out.alloc (Nat.le_of_lt HP2.out.lt) (.cells #[.bool six, .int .u64 (hi:Int), .int .u64 (lo:Int)] 28 (0,0)))
  have HV3:=Lib.hid (HV2.out.below (below_alloc (Below.refl _ _) (.cells #[.bool six, .int .u64 (hi:Int), .int .u64 (lo:Int)] 28 (0,0))))
  clear hR HP2 HB2 HV2 HT HPf
  rw [show lsV (some (six,hi,lo))=.tuple #[.agg #[.bool six, .int .u64 (hi:Int), .int .u64 (lo:Int)], .int .i64 0] from rfl]
  go_upto_region 2 with fail
  generalize w2.alloc (.cells #[.bool six, .int .u64 (hi:Int), .int .u64 (lo:Int)] 28 (0,0))=w3 at *
  generalize w2.heap.size=ab at *
  have a0:=HA3.out.cell 0
  have a1:=HA3.out.cell 1
  have a2:=HA3.out.cell 2
  simp at a0 a1 a2
  have HTy:=Lib.hid (HTx.out _ HV3.out)
  clear HTx
  go_wp2_with fail
  refine HTy.out.mono ?_
  rintro e w4 ⟨rfl,hb⟩
  have HP4:=Lib.hid (HP3.out.below hb HP3.out.lt)
  have HA4:=Lib.hid (HA3.out.below hb HA3.out.lt)
  have HB4:=Lib.hid (HB3.out.trans (hb.mono (Nat.le_of_lt HP3.out.lt)))
  clear hb HP3 HA3 HB3 HV3 HTy a0 a1 a2
  have a0:=HA4.out.cell 0
  have a1:=HA4.out.cell 1
  have a2:=HA4.out.cell 2
  simp at a0 a1 a2
  have hcmp:((txtA six hi lo).toList == SS.toList)=decide (txtA six hi lo=SS):=by
   by_cases e:txtA six hi lo=SS
   ·rw [decide_eq_true e,e];exact beq_self_eq_true _
   ·rw [decide_eq_false e]
    exact beq_eq_false_iff_ne.2 fun h => e (by
     rw [ByteArray.toList_eq,ByteArray.toList_eq] at h
     exact ByteArray.ext (Array.toList_inj.1 h))
  by_cases he:txtA six hi lo=SS
  ·have hR:=HR.out
   rw [if_pos he] at hR
   subst hR
   rw [decide_eq_true he] at hcmp
   have hcmp2:(txtA six hi lo).toList=SS.toList:=by rw [he]
   clear HR
   generalize txtA six hi lo=TX at *
   have q0:=HP4.out.cell 0
   have q1:=HP4.out.cell 1
   have q2:=HP4.out.cell 2
   have qf:=HP4.out.free
   simp at q0 q1 q2
   have c3:=(HP4.out.set3 (x':=.bool six) (y':=.int .u64 (hi:Int)) (z':=.int .u64 (lo:Int)))
   have HBf:=Lib.hid (HRet.out w4 six (hi:Int) (lo:Int) HP4.out HB4.out)
   have d0:=c3.cell 0
   have d1:=c3.cell 1
   have d2:=c3.cell 2
   simp at d0 d1 d2
   clear c3
   go_wp2_with fail
   refine bodyPost_ret (v:=.tuple #[.agg #[.bool six, .int .u64 (hi:Int), .int .u64 (lo:Int)], .int .i64 0]) (by simp [results,Tryz.results165,go_sem, *]) rfl ⟨rfl,by rw [Hbx.out];exact HBf.out⟩
  ·have hR:=HR.out
   rw [if_neg he] at hR
   subst hR
   rw [decide_eq_false he] at hcmp
   have hcmp2:¬ (txtA six hi lo).toList=SS.toList:=by
    intro h
    have:((txtA six hi lo).toList == SS.toList)=true:=by rw [h];exact beq_self_eq_true _
    rw [hcmp] at this
    cases this
   clear HR
   generalize txtA six hi lo=TX at *
   have q0:=HP4.out.cell 0
   have q1:=HP4.out.cell 1
   have q2:=HP4.out.cell 2
   have qf:=HP4.out.free
   simp at q0 q1 q2
   have c3:=(HP4.out.set3 (x':=.bool false) (y':=.int .u64 0) (z':=.int .u64 0))
   have HBf:=Lib.hid (HRet.out w4 false 0 0 HP4.out HB4.out)
   have d0:=c3.cell 0
   have d1:=c3.cell 1
   have d2:=c3.cell 2
   simp at d0 d1 d2
   clear c3
   go_wp2_with fail
   refine bodyPost_ret (v:=.tuple #[.agg #[.bool false, .int .u64 0, .int .u64 0], .int .i64 9]) (by simp [results,Tryz.results165,go_sem, *]) rfl ⟨rfl,by rw [Hbx.out];exact HBf.out⟩
theorem addrParse_any (s:List UInt8) (w:World) (hv:Vr w) (hs:s.length≤1000000) :
  Calls Tryz.prog 111 #[.string (strL s)] w (Ret (lsV (parseF s)) w):=by
 have HP:Hid (Blk (w.alloc (.cells #[.bool false, .int .u64 0, .int .u64 0] 28 (0,0))) w.heap.size 28 #[.bool false, .int .u64 0, .int .u64 0]):=Lib.hid (Blk.new w _ _)
 have HB:Hid (Below w.heap.size w (w.alloc (.cells #[.bool false, .int .u64 0, .int .u64 0] 28 (0,0)))):=Lib.hid (below_alloc (Below.refl _ _) _)
 have HV:=Lib.hid (hv.below (below_alloc (Below.refl _ _) (.cells #[.bool false, .int .u64 0, .int .u64 0] 28 (0,0))))
 have HL:=Lib.hid fun wx (hv:Vr wx) => addrLoose_any s wx hv hs
 have HT:Hid (∀ six hi lo,looseF s=some (six,hi,lo)→∀ wx,Vr wx→Calls Tryz.prog 103 #[.agg #[.bool six, .int .u64 (hi:Int), .int .u64 (lo:Int)]] wx (Ret (.string (txtA six hi lo)) wx)):=Lib.hid fun six hi lo h wx hv => by
  obtain ⟨h1,h2,h3⟩:=looseF_ok hs h
  exact addrText_any six hi lo wx h1 h2 h3 hv.tb
 have HPf:Hid (parseF s=match looseF s with
  | some (x,h,l) => if txtA x h l=strL s then some (x,h,l) else none
  | none => none):=Lib.hid rfl
 obtain ⟨PR,hPR⟩:∃ q,parseF s=q:=⟨_,rfl⟩
 rw [hPR] at HPf ⊢
 generalize looseF s=R at *
 generalize strL s=SS at *
 clear hv hPR
 go_enter Tryz.func111,Tryz.ntmps111
 go_upto_region 1 with fail
 generalize w.alloc (.cells #[.bool false, .int .u64 0, .int .u64 0] 28 (0,0))=w1 at *
 obtain ⟨bx,hbx⟩:∃ q,w.heap.size=q:=⟨_,rfl⟩
 have Hbx:=Lib.hid hbx
 rw [hbx] at HP HB ⊢
 clear hbx
 have HRet:Hid (∀ wx (sx:Bool) (h l:Int),Blk wx bx 28 #[.bool false, .int .u64 0, .int .u64 0]→Below bx w wx→Below bx w (((wx.setCell ⟨bx,0,none⟩ (.bool sx)).setCell ⟨bx,1,none⟩ (.int .u64 h)).setCell ⟨bx,2,none⟩ (.int .u64 l))):=Lib.hid fun wx sx h l hp hb => hb.grown (grown_setCells bx [.bool sx, .int .u64 h, .int .u64 l] 0 wx) (Nat.le_of_lt hp.lt) (fun k hk => by injection hk with hk;omega)
 go_wp2_with fail
 refine (HL.out _ HV.out).mono ?_
 rintro e w2 ⟨rfl,hb⟩
 have HP2:=Lib.hid (HP.out.below hb HP.out.lt)
 have HB2:=Lib.hid (HB.out.trans (hb.mono (Nat.le_of_lt HP.out.lt)))
 have HV2:=Lib.hid (HV.out.below hb)
 clear hb HP HB HV HL
 rcases R with _ | ⟨six,hi,lo⟩
 ·have hR:PR=none:=HPf.out
  subst hR
  have HP3:=Lib.hid (HP2.out.alloc (.cells #[.bool false, .int .u64 0, .int .u64 0] 28 (0,0)))
  have HB3:=Lib.hid (HB2.out.alloc (Nat.le_of_lt HP2.out.lt) (.cells #[.bool false, .int .u64 0, .int .u64 0] 28 (0,0)))
  clear HP2 HB2 HV2 HT HPf
  unfold lsV
  go_upto_region 2 with fail
  generalize w2.alloc (.cells #[.bool false, .int .u64 0, .int .u64 0] 28 (0,0))=w3 at *
  have q0:=HP3.out.cell 0
  have q1:=HP3.out.cell 1
  have q2:=HP3.out.cell 2
  have qf:=HP3.out.free
  simp at q0 q1 q2
  have c3:=(HP3.out.set3 (x':=.bool false) (y':=.int .u64 0) (z':=.int .u64 0))
  have HBf:=Lib.hid (HRet.out w3 false 0 0 HP3.out HB3.out)
  have d0:=c3.cell 0
  have d1:=c3.cell 1
  have d2:=c3.cell 2
  simp at d0 d1 d2
  clear c3
  go_wp2_with fail
  refine bodyPost_ret (v:=.tuple #[.agg #[.bool false, .int .u64 0, .int .u64 0], .int .i64 9]) (by simp [results,Tryz.results111,go_sem, *]) rfl ⟨rfl,by rw [Hbx.out];exact HBf.out⟩
 ·have hR:PR=if txtA six hi lo=SS then some (six,hi,lo) else none:=HPf.out
  have HR:=Lib.hid hR
  have HTx:=Lib.hid (HT.out six hi lo rfl)
  have HP3:=Lib.hid (HP2.out.alloc (.cells #[.bool six, .int .u64 (hi:Int), .int .u64 (lo:Int)] 28 (0,0)))
  have HA3:Hid (Blk (w2.alloc (.cells #[.bool six, .int .u64 (hi:Int), .int .u64 (lo:Int)] 28 (0,0))) w2.heap.size 28 #[.bool six, .int .u64 (hi:Int), .int .u64 (lo:Int)]):=Lib.hid (Blk.new w2 _ _)
  have HB3:=Lib.hid (HB2.out.alloc (Nat.le_of_lt HP2.out.lt) (.cells #[.bool six, .int .u64 (hi:Int), .int .u64 (lo:Int)] 28 (0,0)))
  have HV3:=Lib.hid (HV2.out.below (below_alloc (Below.refl _ _) (.cells #[.bool six, .int .u64 (hi:Int), .int .u64 (lo:Int)] 28 (0,0))))
  clear hR HP2 HB2 HV2 HT HPf
  rw [show lsV (some (six,hi,lo))=.tuple #[.agg #[.bool six, .int .u64 (hi:Int), .int .u64 (lo:Int)], .int .i64 0] from rfl]
  go_upto_region 2 with fail
  generalize w2.alloc (.cells #[.bool six, .int .u64 (hi:Int), .int .u64 (lo:Int)] 28 (0,0))=w3 at *
  generalize w2.heap.size=ab at *
  have a0:=HA3.out.cell 0
  have a1:=HA3.out.cell 1
  have a2:=HA3.out.cell 2
  simp at a0 a1 a2
  have HTy:=Lib.hid (HTx.out _ HV3.out)
  clear HTx
  go_wp2_with fail
  refine HTy.out.mono ?_
  rintro e w4 ⟨rfl,hb⟩
  have HP4:=Lib.hid (HP3.out.below hb HP3.out.lt)
  have HA4:=Lib.hid (HA3.out.below hb HA3.out.lt)
  have HB4:=Lib.hid (HB3.out.trans (hb.mono (Nat.le_of_lt HP3.out.lt)))
  clear hb HP3 HA3 HB3 HV3 HTy a0 a1 a2
  have a0:=HA4.out.cell 0
  have a1:=HA4.out.cell 1
  have a2:=HA4.out.cell 2
  simp at a0 a1 a2
  have hcmp:((txtA six hi lo).toList == SS.toList)=decide (txtA six hi lo=SS):=by
   by_cases e:txtA six hi lo=SS
   ·rw [decide_eq_true e,e];exact beq_self_eq_true _
   ·rw [decide_eq_false e]
    exact beq_eq_false_iff_ne.2 fun h => e (by
     rw [ByteArray.toList_eq,ByteArray.toList_eq] at h
     exact ByteArray.ext (Array.toList_inj.1 h))
  by_cases he:txtA six hi lo=SS
  ·have hR:=HR.out
   rw [if_pos he] at hR
   subst hR
   rw [decide_eq_true he] at hcmp
   have hcmp2:(txtA six hi lo).toList=SS.toList:=by rw [he]
   clear HR
   generalize txtA six hi lo=TX at *
   have q0:=HP4.out.cell 0
   have q1:=HP4.out.cell 1
   have q2:=HP4.out.cell 2
   have qf:=HP4.out.free
   simp at q0 q1 q2
   have c3:=(HP4.out.set3 (x':=.bool six) (y':=.int .u64 (hi:Int)) (z':=.int .u64 (lo:Int)))
   have HBf:=Lib.hid (HRet.out w4 six (hi:Int) (lo:Int) HP4.out HB4.out)
   have d0:=c3.cell 0
   have d1:=c3.cell 1
   have d2:=c3.cell 2
   simp at d0 d1 d2
   clear c3
   go_wp2_with fail
   refine bodyPost_ret (v:=.tuple #[.agg #[.bool six, .int .u64 (hi:Int), .int .u64 (lo:Int)], .int .i64 0]) (by simp [results,Tryz.results111,go_sem, *]) rfl ⟨rfl,by rw [Hbx.out];exact HBf.out⟩
  ·have hR:=HR.out
   rw [if_neg he] at hR
   subst hR
   rw [decide_eq_false he] at hcmp
   have hcmp2:¬ (txtA six hi lo).toList=SS.toList:=by
    intro h
    have:((txtA six hi lo).toList == SS.toList)=true:=by rw [h];exact beq_self_eq_true _
    rw [hcmp] at this
    cases this
   clear HR
   generalize txtA six hi lo=TX at *
   have q0:=HP4.out.cell 0
   have q1:=HP4.out.cell 1
   have q2:=HP4.out.cell 2
   have qf:=HP4.out.free
   simp at q0 q1 q2
   have c3:=(HP4.out.set3 (x':=.bool false) (y':=.int .u64 0) (z':=.int .u64 0))
   have HBf:=Lib.hid (HRet.out w4 false 0 0 HP4.out HB4.out)
   have d0:=c3.cell 0
   have d1:=c3.cell 1
   have d2:=c3.cell 2
   simp at d0 d1 d2
   clear c3
   go_wp2_with fail
   refine bodyPost_ret (v:=.tuple #[.agg #[.bool false, .int .u64 0, .int .u64 0], .int .i64 9]) (by simp [results,Tryz.results111,go_sem, *]) rfl ⟨rfl,by rw [Hbx.out];exact HBf.out⟩
section
variable {α:Type} (eq:α→α→Bool)
def compF:α→List α→List α
 | _, [] => []
 | p,y :: l => if eq y p=true then compF y l else y :: compF y l
def compL:List α→List α
 | [] => []
 | x :: l => x :: compF eq x l
theorem compF_len:∀ (p:α) (l:List α),(compF eq p l).length≤l.length
 | _, [] => Nat.le_refl _
 | p,y :: l => by
   unfold compF
   have:=compF_len y l
   split
   ·simp;omega
   ·simp;omega
theorem compL_len:∀ l:List α,(compL eq l).length≤l.length
 | [] => Nat.le_refl _
 | x :: l => by
   have:=compF_len eq x l
   simp [compL];omega
theorem compF_mem:∀ (p:α) (l:List α) (x:α),x ∈ compF eq p l→x ∈ l
 | _, [],x,h => h
 | p,y :: l,x,h => by
   unfold compF at h
   split at h
   ·exact List.mem_cons_of_mem _ (compF_mem y l x h)
   ·rcases List.mem_cons.1 h with rfl | h
    ·exact List.mem_cons_self
    ·exact List.mem_cons_of_mem _ (compF_mem y l x h)
theorem compF_take:∀ (L:List α) (p:α) (j:Nat) (x y:α),L[j]?=some x→(p :: L)[j]?=some y→compF eq p (L.take (j + 1))=compF eq p (L.take j) ++ (if eq x y=true then [] else [x])
 | [],p,j,x,y,h,_ => by simp at h
 | z :: L,p,0,x,y,h,h2 => by
   have e1:z=x:=by simpa using h
   have e2:p=y:=by simpa using h2
   subst e1;subst e2
   simp only [List.take_succ_cons,List.take_zero,compF]
   split <;> simp
 | z :: L,p,j + 1,x,y,h,h2 => by
   have ih:=compF_take L z j x y (by simpa using h) (by simpa using h2)
   rw [List.take_succ_cons,List.take_succ_cons]
   simp only [compF]
   rw [ih]
   split <;> simp
theorem compL_take {L:List α} {j:Nat} {x y:α} (hx:L[j + 1]?=some x) (hy:L[j]?=some y):compL eq (L.take (j + 2))=compL eq (L.take (j + 1)) ++ (if eq x y=true then [] else [x]):=by
 cases L with
 | nil => simp at hx
 | cons z L =>
   rw [List.take_succ_cons,List.take_succ_cons]
   simp only [compL,List.cons_append]
   rw [compF_take eq L z j x y (by simpa using hx) hy]
theorem compL_all (L:List α) (n:Nat) (h:L.length≤n):compL eq (L.take n)=compL eq L:=by rw [List.take_of_length_le h]
end
theorem compactFuncRb_any (B:Nat) (ad:Option Addr) (n c:Nat) (L:List RB) (w:World) (h:OwnK layRb w B (.slice ad n c) L) (hs:n≤1000000) (hB:B≤w.heap.size) (eq:RB→RB→Bool) (hc:∀ x y wx,Calls Tryz.prog 93 #[.agg (layRb.enc x).toArray, .agg (layRb.enc y).toArray] wx (Ret (.bool (eq x y)) wx)) :
  Calls Tryz.prog 92 #[.slice ad n c, .func (.func 93) #[] #[]] w fun e w' => ∃ v,e=.returned v∧OwnK layRb w' B v (compL eq L)∧Grew w w' (.slice ad n c) v:=by
 have hn:L.length=n:=by
  obtain ⟨_,_,hv,_⟩:=h.form
  injection hv with _ e _
  exact e.symm
 have HO:=Lib.hid h
 have Hn:=Lib.hid hn
 have HCl:=Lib.hid hc
 clear h hc
 by_cases h2:n < 2
 ·have HF:Hid (compL eq L=L):=Lib.hid (by
   cases L with
   | nil => rfl
   | cons x l =>
     cases l with
     | nil => rfl
     | cons y l => simp at hn;omega)
  clear hn
  go_enter Tryz.func92,Tryz.ntmps92
  go_wp2_with fail
  go_ret
  exact ⟨_,rfl,by rw [HF.out];exact HO.out,Grew.refl _ _⟩
 ·obtain ⟨g,c',hv,hBg, -⟩:=HO.out.one (by rw [hn];omega)
  injection hv with hv q1 q2
  subst hv
  clear q1 q2 hn
  have hgw:g < w.heap.size:=own_lt HO.out g rfl
  have hnc:n≤c:=HO.out.block.2.2.1
  have hcm:c≤9223372036854775807:=by have:=HO.out.block.2.2.2.1;unfold maxLen at this;omega
  have b0:¬ (n:Int) < 2:=by omega
  go_enter Tryz.func92,Tryz.ntmps92
  go_wp2_with fail
  go_loopw [5] (fun i wr => ∃ k:Nat,k + 1≤n∧i=.int .i64 ((k + 1:Nat):Int)∧Hid (compL eq (L.take (k + 1))=L.take (k + 1))∧Hid (Below w.heap.size w wr)) (fun i _ => n - (intOf i).toNat)
  case atStart => exact ⟨0,by omega,by first | rfl | simp,Lib.hid (by
   cases L with
   | nil => rfl
   | cons x l => rfl),Lib.hid (Below.refl _ _)⟩
  case round =>
   obtain ⟨k,hk,rfl,HD,HB⟩:=hrel
   by_cases hlt:k + 1 < n
   ·obtain ⟨x,hx⟩:∃ x,L[k + 1]?=some x:=⟨_,List.getElem?_eq_getElem (by rw [Hn.out];exact hlt)⟩
    obtain ⟨y,hy⟩:∃ x,L[k]?=some x:=⟨_,List.getElem?_eq_getElem (by rw [Hn.out];omega)⟩
    have HOr:Hid (OwnK layRb wr B (.slice (some ⟨g,0,none⟩) n c) L):=Lib.hid (HO.out.later HB.out)
    have HX:Hid (∀ wx,(∃ m:Later wr,wx=m.1)→wx.rangeAt g ((k + 1) * 14) ((layRb.enc x).toArray).toList):=Lib.hid fun wx ⟨m,hm⟩ => by subst hm;exact (HOr.out.later m.2).cellsAt hx
    have HY:Hid (∀ wx,(∃ m:Later wr,wx=m.1)→wx.rangeAt g (k * 14) ((layRb.enc y).toArray).toList):=Lib.hid fun wx ⟨m,hm⟩ => by subst hm;exact (HOr.out.later m.2).cellsAt hy
    have HT:=Lib.hid (compL_take eq hx hy)
    have hQ:=fun m:Later wr => Calls.later m (HCl.out x y m.1)
    have Xs:((layRb.enc x).toArray).size=14:=by simp [layRb.len];rfl
    have Ys:((layRb.enc y).toArray).size=14:=by simp [layRb.len];rfl
    obtain ⟨X,hX⟩:∃ X,(layRb.enc x).toArray=X:=⟨_,rfl⟩
    obtain ⟨Y,hY⟩:∃ Y,(layRb.enc y).toArray=Y:=⟨_,rfl⟩
    have Hx:=Lib.hid hx
    have Hy:=Lib.hid hy
    rw [hX] at HX Xs hQ
    rw [hY] at HY Ys hQ
    clear hX hY hx hy
    have e1:(((k + 1:Nat):Int) - 1)=(k:Int):=by omega
    have e2:IntKind.i64.wrap (k:Int)=(k:Int):=by rw [IntKind.wrap_i64];omega
    have e3:wrap64 (((k + 1:Nat):Int) - 1)=(k:Int):=by unfold wrap64;omega
    have b1:(0:Int)≤(k:Int):=by omega
    have b2:(k:Int) < (n:Int):=by omega
    have b3:(0:Int)≤((k + 1:Nat):Int):=by omega
    have b4:((k + 1:Nat):Int) < (n:Int):=by omega
    obtain ⟨E,hE⟩:∃ E,eq x y=E:=⟨_,rfl⟩
    rw [hE] at hQ HT
    clear hE
    go_upto_region 6 with fail
    refine wp_region_later (by kernel_rfl) (by kernel_rfl) ?_
    repeat (first | (refine wpQuiet_loadn rfl 74 _ rfl _ rfl g ((k + 1) * 14) rfl X HX.out _ under_rb rfl 14 size_rb Xs ?_;go_simp) | (refine wpQuiet_loadn rfl 74 _ rfl _ rfl g (k * 14) rfl Y HY.out _ under_rb rfl 14 size_rb Ys ?_;go_simp) | go_big_quiet_step ((go_at_call 93;exact hQ _)))
    refine wpQuiet_nil ?_
    rintro ⟨w3,hb⟩
    dsimp only
    clear hQ HX HY Xs Ys
    have HB3:Hid (Below w.heap.size w w3):=Lib.hid (HB.out.trans (hb.mono HB.out.size))
    have HO3:Hid (OwnK layRb w3 B (.slice (some ⟨g,0,none⟩) n c) L):=Lib.hid (HO.out.later HB3.out)
    clear hb HB HOr
    cases E
    ·have HD2:Hid (compL eq (L.take (k + 1 + 1))=L.take (k + 1 + 1)):=Lib.hid (by
      rw [HT.out,HD.out,if_neg (by simp)]
      have hk1:k + 1 < L.length:=by rw [Hn.out];exact hlt
      rw [List.take_succ_eq_append_getElem hk1]
      have:=Hx.out
      rw [List.getElem?_eq_getElem hk1] at this
      injection this with this
      rw [this])
     clear HT HD
     go_wp2_with fail
     exact ⟨⟨k + 1,by omega,by go_num,HD2,HB3⟩,by simp [intOf];omega⟩
    ·have HD2:Hid (∃ D:List RB,OwnK layRb w3 B (.slice (some ⟨g,0,none⟩) n c) D∧D.take (k + 1)=compL eq (L.take (k + 1 + 1))∧∀ t,k + 1≤t→D[t]?=L[t]?):=Lib.hid ⟨L,HO3.out,by rw [HT.out,HD.out,if_pos rfl,List.append_nil],fun t _ => rfl⟩
     have HG3:Hid (Grew w w3 (.slice (some ⟨g,0,none⟩) n c) (.slice (some ⟨g,0,none⟩) n c)):=Lib.hid ⟨⟨HB3.out.os,HB3.out.tape,HB3.out.output,HB3.out.size,fun j hj _ => HB3.out.block j hj⟩, .inl rfl⟩
     clear HT HD HO3 HB3 Hx Hy e1 e2 e3 b1 b2
     have hck:¬ c=(k + 1):=by omega
     have b5:((k + 1:Nat):Int)≤(c:Int):=by omega
     have b6:((k + 1:Nat):Int)≤(n:Int):=by omega
     have b7:(n:Int)≤(c:Int):=by omega
     go_wp2_with fail
     go_loopw [5,7] (fun iv jv wr => ∃ (i q:Nat),i < (k + 1) + q + 1∧(k + 1) + q + 1≤n∧iv=.int .i64 (i:Int)∧jv=.int .i64 ((q + 1:Nat):Int)∧Hid (∃ D:List RB,OwnK layRb wr B (.slice (some ⟨g,0,none⟩) n c) D∧D.take i=compL eq (L.take ((k + 1) + q + 1))∧∀ t,(k + 1) + q≤t→D[t]?=L[t]?)∧Hid (Grew w wr (.slice (some ⟨g,0,none⟩) n c) (.slice (some ⟨g,0,none⟩) n c))) (fun _ jv _ => n - (intOf jv).toNat)
     case atStart => exact ⟨k + 1,0,by omega,by omega,by first | rfl | simp,by first | rfl | simp,HD2,HG3⟩
     case round =>
      clear HD2 HG3
      obtain ⟨i,q,hiq,hqn,rfl,rfl,HD,HG⟩:=hrel
      obtain ⟨D,hD,hDi,hDj⟩:=HD.out
      have HDo:=Lib.hid hD
      have HDi:=Lib.hid hDi
      have HDj:=Lib.hid hDj
      clear hD hDi hDj HD
      have hDl:D.length=n:=HDo.out.block.1.symm
      have HDl:=Lib.hid hDl
      clear hDl
      have e6:(n:Int) - ((k + 1:Nat):Int)=((n - (k + 1):Nat):Int):=by omega
      by_cases hlt2:(k + 1) + q + 1 < n
      ·obtain ⟨x,hx⟩:∃ x,L[(k + 1) + q + 1]?=some x:=⟨_,List.getElem?_eq_getElem (by rw [Hn.out];exact hlt2)⟩
       obtain ⟨y,hy⟩:∃ x,L[(k + 1) + q]?=some x:=⟨_,List.getElem?_eq_getElem (by rw [Hn.out];omega)⟩
       have HX:Hid (∀ wx,(∃ m:Later wr,wx=m.1)→wx.rangeAt g ((k + 1) * 14 + (q + 1) * 14) ((layRb.enc x).toArray).toList):=Lib.hid fun wx ⟨m,hm⟩ => by
        subst hm
        rw [← Nat.add_mul, ← Nat.add_assoc]
        exact (HDo.out.later m.2).cellsAt ((HDj.out _ (by omega)).trans hx)
       have HY:Hid (∀ wx,(∃ m:Later wr,wx=m.1)→wx.rangeAt g ((k + 1) * 14 + q * 14) ((layRb.enc y).toArray).toList):=Lib.hid fun wx ⟨m,hm⟩ => by
        subst hm
        rw [← Nat.add_mul]
        exact (HDo.out.later m.2).cellsAt ((HDj.out _ (by omega)).trans hy)
       have HT:=Lib.hid (compL_take eq hx hy)
       have hQ:=fun m:Later wr => Calls.later m (HCl.out x y m.1)
       have Xs:((layRb.enc x).toArray).size=14:=by simp [layRb.len];rfl
       have Ys:((layRb.enc y).toArray).size=14:=by simp [layRb.len];rfl
       have Xo:((layRb.enc x).toArray).all (·.oneCell')=true:=all_oneCell_toArray (layRb.one x)
       have HXe:Hid (∀ wx,OwnK layRb wx B (.slice (some ⟨g,0,none⟩) n c) D→i < n→OwnK layRb (wx.setCells g (i * 14) ((layRb.enc x).toArray).toList) B (.slice (some ⟨g,0,none⟩) n c) (D.set i x)):=Lib.hid fun wx h hi => h.setRow hi x
       obtain ⟨X,hX⟩:∃ X,(layRb.enc x).toArray=X:=⟨_,rfl⟩
       obtain ⟨Y,hY⟩:∃ Y,(layRb.enc y).toArray=Y:=⟨_,rfl⟩
       have Hx:=Lib.hid hx
       rw [hX] at HX Xs Xo HXe hQ
       rw [hY] at HY Ys hQ
       clear hX hY hx hy
       have e1:(((q + 1:Nat):Int) - 1)=(q:Int):=by omega
       have e2:IntKind.i64.wrap (q:Int)=(q:Int):=by rw [IntKind.wrap_i64];omega
       have e3:wrap64 (((q + 1:Nat):Int) - 1)=(q:Int):=by unfold wrap64;omega
       have c1:(0:Int)≤(q:Int):=by omega
       have c2:(q:Int) < ((n - (k + 1):Nat):Int):=by omega
       have c3:(0:Int)≤((q + 1:Nat):Int):=by omega
       have c4:((q + 1:Nat):Int) < ((n - (k + 1):Nat):Int):=by omega
       obtain ⟨E,hE⟩:∃ E,eq x y=E:=⟨_,rfl⟩
       rw [hE] at hQ HT
       clear hE
       go_upto_region 11 with fail
       refine wp_region_later (by kernel_rfl) (by kernel_rfl) ?_
       repeat (first | (refine wpQuiet_loadn rfl 74 _ rfl _ rfl g ((k + 1) * 14 + (q + 1) * 14) rfl X HX.out _ under_rb rfl 14 size_rb Xs ?_;go_simp) | (refine wpQuiet_loadn rfl 74 _ rfl _ rfl g ((k + 1) * 14 + q * 14) rfl Y HY.out _ under_rb rfl 14 size_rb Ys ?_;go_simp) | go_big_quiet_step ((go_at_call 93;exact hQ _)))
       refine wpQuiet_nil ?_
       rintro ⟨w3,hb⟩
       dsimp only
       have HX3:Hid (w3.rangeAt g ((k + 1) * 14 + (q + 1) * 14) X.toList):=Lib.hid (HX.out w3 ⟨⟨w3,hb⟩,rfl⟩)
       clear hQ HX HY Ys
       have HD3:=Lib.hid (HDo.out.later hb)
       have HG3:Hid (Grew w w3 (.slice (some ⟨g,0,none⟩) n c) (.slice (some ⟨g,0,none⟩) n c)):=Lib.hid (HG.out.trans ⟨⟨hb.os,hb.tape,hb.output,hb.size,fun j hj _ => hb.block j hj⟩, .inl rfl⟩)
       clear hb HDo HG
       cases E
       ·have HQ:Hid (compL eq (L.take ((k + 1) + q + 1 + 1))=compL eq (L.take ((k + 1) + q + 1)) ++ [x]):=Lib.hid (by rw [HT.out,if_neg (by simp)])
        have hin:i < n:=by omega
        have i1:(i:Int) < (n:Int):=by omega
        have HTH:Hid (w3.there g (i * 14) X.size):=Lib.hid (by rw [Xs];exact HD3.out.there (by show i * 14 + 14≤n * 14;omega))
        have HI4:Hid ((Tryz.prog.info? 74).map (·.size)=some X.size):=Lib.hid (by rw [Xs];exact size_rb)
        have HD5:=Lib.hid (HXe.out w3 HD3.out hin)
        have HG5:Hid (Grew w (w3.setCells g (i * 14) X.toList) (.slice (some ⟨g,0,none⟩) n c) (.slice (some ⟨g,0,none⟩) n c)):=Lib.hid (HG3.out.trans ⟨grown_setCells g X.toList (i * 14) w3, .inl rfl⟩)
        have HDn:Hid (∃ D:List RB,OwnK layRb (w3.setCells g (i * 14) X.toList) B (.slice (some ⟨g,0,none⟩) n c) D∧D.take (i + 1)=compL eq (L.take ((k + 1) + (q + 1) + 1))∧∀ t,(k + 1) + (q + 1)≤t→D[t]?=L[t]?):=Lib.hid ⟨D.set i x,HD5.out,by
         have hi:i < D.length:=by rw [HDl.out];omega
         rw [show (k + 1) + (q + 1) + 1=(k + 1) + q + 1 + 1 by omega,HQ.out, ← HDi.out,List.take_succ_eq_append_getElem (by simpa using hi),List.getElem_set_self,List.take_set_of_le (Nat.le_refl _)],fun t ht => by
         rw [List.getElem?_set_ne (by omega)]
         exact HDj.out t (by omega)⟩
        clear HDi HDj HD5 HQ HD3 HG3 HT HXe
        go_upto_region 13 with (first | (refine wpList_loadn rfl 74 _ rfl g ((k + 1) * 14 + (q + 1) * 14) rfl X.toList _ HX3.out under_rb rfl 14 size_rb (by simpa using Xs) ?_;go_simp) | (refine wpList_store_mid rfl 74 _ _ rfl g (i * 14) X rfl rfl HTH.out HI4.out Xo ?_;show wpList _ _ _ _ _ (w3.setCells g (i * 14) X.toList)))
        generalize w3.setCells g (i * 14) X.toList=w5 at *
        clear HX3 HTH HI4 Xs Xo
        go_wp2_with fail
        exact ⟨⟨i + 1,q + 1,by omega,by omega,by go_num,by go_num,HDn,HG5⟩,by simp [intOf];omega⟩
       ·have HDn:Hid (∃ D:List RB,OwnK layRb w3 B (.slice (some ⟨g,0,none⟩) n c) D∧D.take i=compL eq (L.take ((k + 1) + (q + 1) + 1))∧∀ t,(k + 1) + (q + 1)≤t→D[t]?=L[t]?):=Lib.hid ⟨D,HD3.out,by
         rw [show (k + 1) + (q + 1) + 1=(k + 1) + q + 1 + 1 by omega,HT.out,if_pos rfl,List.append_nil];exact HDi.out,fun t ht => HDj.out t (by omega)⟩
        clear HDi HDj HT HD3 HXe HX3 Xs Xo
        go_wp2_with fail
        exact ⟨⟨i,q + 1,by omega,by omega,rfl,by go_num,HDn,HG3⟩,by simp [intOf];omega⟩
      ·obtain rfl:n=(k + 1) + q + 1:=by omega
       have HT:Hid (D.take i=compL eq L):=Lib.hid (by rw [HDi.out,compL_all _ _ _ (by rw [Hn.out];exact Nat.le_refl _)])
       have hgr:g < wr.heap.size:=own_lt HDo.out g rfl
       have hci:¬ c=i:=by omega
       have f1:¬ ((q + 1:Nat):Int) < (((k + 1) + q + 1 - (k + 1):Nat):Int):=by omega
       have f2:(i:Int)≤(c:Int):=by omega
       have f3:(i:Int)≤(((k + 1) + q + 1:Nat):Int):=by omega
       obtain ⟨zv,hz1,hz2,hz3⟩:=zval_rb
       have HCL:∀ ty c',(Builtin.clear_ #[61] ty #[.slice (some ⟨g,i * 14,none⟩) ((k + 1) + q + 1 - i) c']).run Tryz.prog wr=.ok (.tuple #[]) (wr.setCells g (i * 14) (Builtin.zeroCells zv.cells ((k + 1) + q + 1 - i)).toList):=fun ty c' => by
        refine run_clear_rows wr 61 74 ty zv Tryz.underlying61 hz2 ?_ g (i * 14) ((k + 1) + q + 1 - i) c' (by omega) ?_ (by rw [hz1];decide)
        ·exact hz3
        ·rw [hz1]
         exact HDo.out.there (by show i * 14 + ((k + 1) + q + 1 - i) * 14≤((k + 1) + q + 1) * 14;rw [← Nat.add_mul];exact Nat.mul_le_mul_right _ (by omega))
       have HOW:=Lib.hid (HDo.out.cut (i:=i) (by omega) (Builtin.zeroCells zv.cells ((k + 1) + q + 1 - i)).toList)
       have HGW:Hid (Grew w (wr.setCells g (i * 14) (Builtin.zeroCells zv.cells ((k + 1) + q + 1 - i)).toList) (.slice (some ⟨g,0,none⟩) ((k + 1) + q + 1) c) (.slice (some ⟨g,0,none⟩) i c)):=Lib.hid (HG.out.trans ⟨grown_setCells g _ (i * 14) wr, .inl rfl⟩)
       rw [HT.out] at HOW
       clear HDi HDj HG HDo hz1 hz2 hz3
       generalize (Builtin.zeroCells zv.cells ((k + 1) + q + 1 - i)).toList=ZS at *
       go_wp2_with fail
       go_ret
       exact ⟨_,rfl,HOW.out,HGW.out⟩
   ·obtain rfl:n=k + 1:=by omega
    have HT:Hid (compL eq L=L):=Lib.hid (by
     have:=HD.out
     rw [List.take_of_length_le (by rw [Hn.out];exact Nat.le_refl _)] at this
     exact this)
    clear HD
    go_wp2_with fail
    go_ret
    exact ⟨_,rfl,by rw [HT.out];exact HO.out.later HB.out,⟨⟨HB.out.os,HB.out.tape,HB.out.output,HB.out.size,fun j hj _ => HB.out.block j hj⟩, .inl rfl⟩⟩
theorem firstE_orI:∀ (x:Int) (l:List Int),firstE (x :: l)=orI x (firstE l)
 | x,l => by
   unfold orI
   rw [firstE]
   by_cases h:x=0
   ·rw [if_neg (by simp [h]),if_pos h]
   ·rw [if_pos h,if_neg h]
theorem firstE_one (x:Int):firstE [x]=x:=by
 by_cases h:x=0 <;> simp [firstE,h]
theorem cmpOrL_any (g n c:Nat) (zs:List Int) (w:World) (hz:RdInts w g 0 n zs) (hn:n≤1000) :
  Calls Tryz.prog 198 #[.slice (some ⟨g,0,none⟩) n c] w fun e w' => e=.returned (.int .i64 (firstE zs))∧w'=w:=by
 obtain ⟨hl,hg,hc⟩:=hz
 have Hc:=Lib.hid hc
 have Hl:=Lib.hid hl
 clear hc hl
 go_enter Tryz.func198,Tryz.ntmps198
 go_wp2
 go_loop [5,8] (fun e i => ∃ k:Nat,k≤n∧i=.int .i64 k∧Hid (∀ j,j < k→zs.getD j 0=0)) (fun _ i => n - (intOf i).toNat)
 case atStart => exact ⟨0,Nat.zero_le _,rfl,Lib.hid fun j hj => absurd hj (Nat.not_lt_zero _)⟩
 case round =>
  obtain ⟨k,hk,rfl,HX⟩:=hrel
  by_cases hlt:k < n
  ·have hcell:=Hc.out k hlt
   rw [Nat.zero_add] at hcell
   by_cases h0:zs.getD k 0=0
   ·rw [h0] at hcell
    have H0:=Lib.hid h0
    clear h0
    go_wp2
    refine ⟨⟨k + 1,by omega,by go_num,Lib.hid fun j hj => ?_⟩,by simp [intOf];omega⟩
    rcases Nat.lt_or_ge j k with h | h
    ·exact HX.out j h
    ·obtain rfl:j=k:=by omega
     exact H0.out
   ·have H0:Hid (firstE zs=zs.getD k 0):=Lib.hid (firstE_hit (by rw [Hl.out];exact hlt) HX.out h0)
    generalize zs.getD k 0=z at *
    have h1:(z != 0)=true:=by simpa using h0
    go_wp2
    go_ret
    exact ⟨by rw [H0.out];rfl,rfl⟩
  ·obtain rfl:k=n:=by omega
   have H0:Hid (firstE zs=0):=Lib.hid (firstE_none fun j hj => HX.out j (by rw [← Hl.out];exact hj))
   go_wp2
   go_ret
   exact ⟨by rw [H0.out];rfl,rfl⟩
theorem isNaNI_any (x:Int) (w:World):Calls Tryz.prog 149 #[.int .i64 x] w fun e w' => e=.returned (.bool false)∧w'=w:=by
 go_enter Tryz.func149,Tryz.ntmps149
 go_wp2
 go_ret
 exact ⟨by simp,rfl⟩
theorem cmpInt_any (a b:Int) (w:World):Calls Tryz.prog 80 #[.int .i64 a, .int .i64 b] w fun e w' => e=.returned (.int .i64 (Lib.compareInt a b))∧w'=w:=by
 have HN:=Lib.hid fun x wx => isNaNI_any x wx
 by_cases h1:a < b
 ·have e:Lib.compareInt a b=-1:=by unfold Lib.compareInt;rw [if_pos h1]
  rw [e]
  clear e
  go_enter Tryz.func80,Tryz.ntmps80
  go_wp2_with fail
  refine (HN.out _ _).mono ?_
  rintro e w' ⟨rfl,rfl⟩
  go_wp2_with fail
  refine (HN.out _ _).mono ?_
  rintro e w' ⟨rfl,rfl⟩
  go_wp2_with fail
  go_ret
  exact ⟨rfl,rfl⟩
 ·by_cases h2:b < a
  ·have e:Lib.compareInt a b=1:=by unfold Lib.compareInt;rw [if_neg h1,if_pos h2]
   rw [e]
   clear e
   go_enter Tryz.func80,Tryz.ntmps80
   go_wp2_with fail
   refine (HN.out _ _).mono ?_
   rintro e w' ⟨rfl,rfl⟩
   go_wp2_with fail
   refine (HN.out _ _).mono ?_
   rintro e w' ⟨rfl,rfl⟩
   go_wp2_with fail
   go_ret
   exact ⟨rfl,rfl⟩
  ·obtain rfl:a=b:=by omega
   have e:Lib.compareInt a a=0:=by unfold Lib.compareInt;rw [if_neg h1,if_neg h1]
   rw [e]
   clear h1 h2 e
   go_enter Tryz.func80,Tryz.ntmps80
   go_wp2_with fail
   refine (HN.out _ _).mono ?_
   rintro e w' ⟨rfl,rfl⟩
   go_wp2_with fail
   refine (HN.out _ _).mono ?_
   rintro e w' ⟨rfl,rfl⟩
   go_wp2_with fail
   go_ret
   exact ⟨rfl,rfl⟩
theorem cmpBo_any (a b:Bool) (w:World):Calls Tryz.prog 208 #[.bool a, .bool b] w fun e w' => e=.returned (.int .i64 (cBo a b))∧w'=w:=by
 cases a <;> cases b
 all_goals
  go_enter Tryz.func208,Tryz.ntmps208
  go_wp2
  go_ret
  exact ⟨rfl,rfl⟩
theorem cmpSlI_any (g1 g2 c1 c2:Nat) (a b x y:Int) (w:World) (hz:RdInts w g1 0 2 [a,b]) (hy:RdInts w g2 0 2 [x,y]) :
  Calls Tryz.prog 205 #[.slice (some ⟨g1,0,none⟩) 2 c1, .slice (some ⟨g2,0,none⟩) 2 c2] w fun e w' => e=.returned (.int .i64 (orI (Lib.compareInt a x) (Lib.compareInt b y)))∧w'=w:=by
 have HC1:=Lib.hid (cmpInt_any a x w)
 have HC2:=Lib.hid (cmpInt_any b y w)
 generalize Lib.compareInt a x=C1 at *
 generalize Lib.compareInt b y=C2 at *
 obtain ⟨-, -,h1⟩:=hz
 obtain ⟨-, -,h2⟩:=hy
 have a0:w.cell? ⟨g1,0,none⟩=some (.int .i64 a):=h1 0 (by omega)
 have a1:w.cell? ⟨g1,1,none⟩=some (.int .i64 b):=h1 1 (by omega)
 have b0:w.cell? ⟨g2,0,none⟩=some (.int .i64 x):=h2 0 (by omega)
 have b1:w.cell? ⟨g2,1,none⟩=some (.int .i64 y):=h2 1 (by omega)
 clear h1 h2
 go_enter Tryz.func205,Tryz.ntmps205
 go_wp2_with fail
 refine wp_loop_rounds 3 ?_
 rw [rounds_succ]
 go_wp2_with fail
 refine HC1.out.mono ?_
 rintro e w' ⟨rfl,rfl⟩
 by_cases h1:C1=0
 ·subst h1
  go_wp2_with fail
  rw [rounds_succ]
  go_wp2_with fail
  refine HC2.out.mono ?_
  rintro e w' ⟨rfl,rfl⟩
  by_cases h2:C2=0
  ·subst h2
   go_wp2_with fail
   rw [rounds_succ]
   go_wp2_with fail
   go_ret
   exact ⟨rfl,rfl⟩
  ·have h3:(C2 != 0)=true:=by simpa using h2
   go_wp2_with fail
   go_ret
   exact ⟨by simp [orI],rfl⟩
 ·have h3:(C1 != 0)=true:=by simpa using h1
  go_wp2_with fail
  go_ret
  exact ⟨by simp [orI,h1],rfl⟩
theorem rbFlow {w:World} {b:Nat} {x:RP} (h:Blk w b 74 (rpC x).toArray):w.rangeAt b 3 x.f.cells.toList:=fun j v hv => by
 have hj:j < 9:=by
  have:=(List.getElem?_eq_some_iff.1 hv).1
  simpa [FV.cells] using this
 have hc:=h.cell (3 + j)
 rw [hc, ← hv]
 have:j=0 ∨ j=1 ∨ j=2 ∨ j=3 ∨ j=4 ∨ j=5 ∨ j=6 ∨ j=7 ∨ j=8:=by omega
 rcases this with rfl | rfl | rfl | rfl | rfl | rfl | rfl | rfl | rfl <;> rfl
theorem under_flow:Tryz.prog.underlying 72=some (.struct (Tryz.prog.fieldsOf 72)):=by kernel_rfl
theorem size_flow:(Tryz.prog.info? 72).map (·.size)=some 9:=by kernel_rfl
theorem cmpFl_any (f g:FV) (w:World) (hf:f.ok) (hg:g.ok):Calls Tryz.prog 209 #[.agg f.cells, .agg g.cells] w (RetD (.int .i64 (cF f g)) w):=by
 obtain ⟨p,s1,h1,l1,s2,h2,l2,fp,tp⟩:=f
 obtain ⟨p',s1',h1',l1',s2',h2',l2',fp',tp'⟩:=g
 simp only [FV.ok] at hf hg
 obtain ⟨i1,u1,u2,u3,u4,i2,i3⟩:=hf
 obtain ⟨j1,v1,v2,v3,v4,j2,j3⟩:=hg
 obtain ⟨h1,rfl,a1⟩:=nat_of_U64 u1
 obtain ⟨l1,rfl,a2⟩:=nat_of_U64 u2
 obtain ⟨h2,rfl,a3⟩:=nat_of_U64 u3
 obtain ⟨l2,rfl,a4⟩:=nat_of_U64 u4
 obtain ⟨h1',rfl,b1⟩:=nat_of_U64 v1
 obtain ⟨l1',rfl,b2⟩:=nat_of_U64 v2
 obtain ⟨h2',rfl,b3⟩:=nat_of_U64 v3
 obtain ⟨l2',rfl,b4⟩:=nat_of_U64 v4
 clear u1 u2 u3 u4 v1 v2 v3 v4
 unfold cF cA
 simp only [Int.toNat_natCast,FV.cells]
 have HC1:=Lib.hid fun wx => cmpInt_any p p' wx
 have HC2:=Lib.hid fun wx => spanCompareD_any s1 h1 l1 s1' h1' l1' wx a1 a2 b1 b2
 have HC3:=Lib.hid fun wx => spanCompareD_any s2 h2 l2 s2' h2' l2' wx a3 a4 b3 b4
 have HC4:=Lib.hid fun wx => cmpInt_any fp fp' wx
 have HC5:=Lib.hid fun wx => cmpInt_any tp tp' wx
 clear a1 a2 a3 a4 b1 b2 b3 b4 i1 i2 i3 j1 j2 j3
 generalize Lib.compareInt p p'=C1 at *
 generalize cN (numA s1 h1 l1) (numA s1' h1' l1')=C2 at *
 generalize cN (numA s2 h2 l2) (numA s2' h2' l2')=C3 at *
 generalize Lib.compareInt fp fp'=C4 at *
 generalize Lib.compareInt tp tp'=C5 at *
 have HF:Hid (firstE [C1,C2,C3,C4,C5]=orI C1 (orI C2 (orI C3 (orI C4 C5)))):=Lib.hid (by rw [firstE_orI,firstE_orI,firstE_orI,firstE_orI,firstE_one])
 rw [← HF.out]
 have HP:Hid (Blk ((w.alloc (.cells #[.int .i64 p, .bool s1, .int .u64 (h1:Int), .int .u64 (l1:Int), .bool s2, .int .u64 (h2:Int), .int .u64 (l2:Int), .int .i64 fp, .int .i64 tp] 72 (0,0))).alloc (.cells #[.int .i64 p', .bool s1', .int .u64 (h1':Int), .int .u64 (l1':Int), .bool s2', .int .u64 (h2':Int), .int .u64 (l2':Int), .int .i64 fp', .int .i64 tp'] 72 (0,0))) w.heap.size 72 #[.int .i64 p, .bool s1, .int .u64 (h1:Int), .int .u64 (l1:Int), .bool s2, .int .u64 (h2:Int), .int .u64 (l2:Int), .int .i64 fp, .int .i64 tp]):=Lib.hid ((Blk.new w _ _).alloc _)
 have HQ:Hid (Blk ((w.alloc (.cells #[.int .i64 p, .bool s1, .int .u64 (h1:Int), .int .u64 (l1:Int), .bool s2, .int .u64 (h2:Int), .int .u64 (l2:Int), .int .i64 fp, .int .i64 tp] 72 (0,0))).alloc (.cells #[.int .i64 p', .bool s1', .int .u64 (h1':Int), .int .u64 (l1':Int), .bool s2', .int .u64 (h2':Int), .int .u64 (l2':Int), .int .i64 fp', .int .i64 tp'] 72 (0,0))) (w.heap.size + 1) 72 #[.int .i64 p', .bool s1', .int .u64 (h1':Int), .int .u64 (l1':Int), .bool s2', .int .u64 (h2':Int), .int .u64 (l2':Int), .int .i64 fp', .int .i64 tp']):=Lib.hid (by
  have this:=Blk.new (w.alloc (.cells #[.int .i64 p, .bool s1, .int .u64 (h1:Int), .int .u64 (l1:Int), .bool s2, .int .u64 (h2:Int), .int .u64 (l2:Int), .int .i64 fp, .int .i64 tp] 72 (0,0))) 72 #[.int .i64 p', .bool s1', .int .u64 (h1':Int), .int .u64 (l1':Int), .bool s2', .int .u64 (h2':Int), .int .u64 (l2':Int), .int .i64 fp', .int .i64 tp']
  rw [World.size_alloc] at this
  exact this)
 have HB:Hid (BelD w ((w.alloc (.cells #[.int .i64 p, .bool s1, .int .u64 (h1:Int), .int .u64 (l1:Int), .bool s2, .int .u64 (h2:Int), .int .u64 (l2:Int), .int .i64 fp, .int .i64 tp] 72 (0,0))).alloc (.cells #[.int .i64 p', .bool s1', .int .u64 (h1':Int), .int .u64 (l1':Int), .bool s2', .int .u64 (h2':Int), .int .u64 (l2':Int), .int .i64 fp', .int .i64 tp'] 72 (0,0)))):=Lib.hid (((BelD.refl _).alloc _).alloc _)
 go_enter Tryz.func209,Tryz.ntmps209
 go_upto_region 1 with fail
 generalize ((w.alloc (.cells #[.int .i64 p, .bool s1, .int .u64 (h1:Int), .int .u64 (l1:Int), .bool s2, .int .u64 (h2:Int), .int .u64 (l2:Int), .int .i64 fp, .int .i64 tp] 72 (0,0))).alloc (.cells #[.int .i64 p', .bool s1', .int .u64 (h1':Int), .int .u64 (l1':Int), .bool s2', .int .u64 (h2':Int), .int .u64 (l2':Int), .int .i64 fp', .int .i64 tp'] 72 (0,0)))=w1 at *
 generalize w.heap.size=b at HP HQ ⊢
 have a0:=HP.out.cell 0
 have a1:=HP.out.cell 1
 have a2:=HP.out.cell 2
 have a3:=HP.out.cell 3
 have a4:=HP.out.cell 4
 have a5:=HP.out.cell 5
 have a6:=HP.out.cell 6
 have a7:=HP.out.cell 7
 have a8:=HP.out.cell 8
 simp at a0 a1 a2 a3 a4 a5 a6 a7 a8
 have b0:=HQ.out.cell 0
 have b1:=HQ.out.cell 1
 have b2:=HQ.out.cell 2
 have b3:=HQ.out.cell 3
 have b4:=HQ.out.cell 4
 have b5:=HQ.out.cell 5
 have b6:=HQ.out.cell 6
 have b7:=HQ.out.cell 7
 have b8:=HQ.out.cell 8
 simp at b0 b1 b2 b3 b4 b5 b6 b7 b8
 have k0:=LaterD.cell_of a0
 have m0:=LaterD.cell_of b0
 have k1:=LaterD.cell_of a1
 have m1:=LaterD.cell_of b1
 have k2:=LaterD.cell_of a2
 have m2:=LaterD.cell_of b2
 have k3:=LaterD.cell_of a3
 have m3:=LaterD.cell_of b3
 have k4:=LaterD.cell_of a4
 have m4:=LaterD.cell_of b4
 have k5:=LaterD.cell_of a5
 have m5:=LaterD.cell_of b5
 have k6:=LaterD.cell_of a6
 have m6:=LaterD.cell_of b6
 have k7:=LaterD.cell_of a7
 have m7:=LaterD.cell_of b7
 have k8:=LaterD.cell_of a8
 have m8:=LaterD.cell_of b8
 have hC2:=fun m:LaterD w1 => Calls.laterD m (HC2.out m.1)
 have hC3:=fun m:LaterD w1 => Calls.laterD m (HC3.out m.1)
 refine wp_region_laterD_tail 25 (by kernel_rfl) (by kernel_rfl) ?_
 simp only [List.take_succ_cons,List.take_zero,List.drop_succ_cons,List.drop_zero]
 repeat (go_big_quiet_step (fail))
 go_big_quiet_step ((go_at_call 80;exact (HC1.out _).mono fun _ _ h => ⟨h.1,_,h.2⟩))
 repeat (go_big_quiet_step (fail))
 go_big_quiet_step ((go_at_call 146;exact hC2 _))
 repeat (go_big_quiet_step (fail))
 go_big_quiet_step ((go_at_call 146;exact hC3 _))
 repeat (go_big_quiet_step (fail))
 go_big_quiet_step ((go_at_call 80;exact (HC4.out _).mono fun _ _ h => ⟨h.1,_,h.2⟩))
 repeat (go_big_quiet_step (fail))
 go_big_quiet_step ((go_at_call 80;exact (HC5.out _).mono fun _ _ h => ⟨h.1,_,h.2⟩))
 refine wpQuiet_nil ?_
 rintro w2 ⟨n2,hn2⟩
 subst hn2
 have HB2:=Lib.hid (HB.out.trans n2.2)
 obtain ⟨w2,hw2⟩:∃ w2,w2=n2.1:=⟨_,rfl⟩
 rw [← hw2] at HB2 ⊢
 clear hw2 hC2 hC3 HC1 HC2 HC3 HC4 HC5 a0 b0 k0 m0 a1 b1 k1 m1 a2 b2 k2 m2 a3 b3 k3 m3 a4 b4 k4 m4 a5 b5 k5 m5 a6 b6 k6 m6 a7 b7 k7 m7 a8 b8 k8 m8
 go_wp2_with fail
 refine (cmpOrL_any _ 5 5 [C1,C2,C3,C4,C5] _ (rdInts_new _ _ [C1,C2,C3,C4,C5] _ rfl) (by omega)).mono ?_
 rintro e w3 ⟨rfl,rfl⟩
 go_wp2_with fail
 go_ret
 exact ⟨rfl,HB2.out.alloc _⟩
theorem cmpRp_any (x y:RB) (w:World):Calls Tryz.prog 155 #[.agg (layRb.enc x).toArray, .agg (layRb.enc y).toArray] w (RetD (.int .i64 (cR x y)) w):=by
 obtain ⟨⟨nd,hr,ou,f,pk,sz⟩,hx⟩:=x
 obtain ⟨⟨nd',hr',ou',g,pk',sz'⟩,hy⟩:=y
 unfold cR
 show Calls Tryz.prog 155 #[.agg (rpC ⟨nd,hr,ou,f,pk,sz⟩).toArray, .agg (rpC ⟨nd',hr',ou',g,pk',sz'⟩).toArray] w (RetD (.int .i64 (orI (Lib.compareInt hr hr') (orI (cS nd nd') (orI (cBo ou ou') (cF f g))))) w)
 have HC1:=Lib.hid fun wx => cmpInt_any hr hr' wx
 have HC2:=Lib.hid fun wx => Tryz.strings_Compare nd nd' wx
 have HC3:=Lib.hid fun wx => cmpBo_any ou ou' wx
 have HC4:=Lib.hid fun wx => cmpFl_any f g wx hx.1 hy.1
 have HS:Hid (cS nd nd'=Lib.compareBytes nd.data.toList nd'.data.toList):=Lib.hid rfl
 rw [← HS.out] at HC2
 clear HS
 generalize Lib.compareInt hr hr'=C1 at *
 generalize cS nd nd'=C2 at *
 generalize cBo ou ou'=C3 at *
 generalize cF f g=C4 at *
 have HF:Hid (firstE [C1,C2,C3,C4]=orI C1 (orI C2 (orI C3 C4))):=Lib.hid (by rw [firstE_orI,firstE_orI,firstE_orI,firstE_one])
 rw [← HF.out]
 obtain ⟨XA,hXA⟩:∃ X,(rpC ⟨nd,hr,ou,f,pk,sz⟩).toArray=X:=⟨_,rfl⟩
 obtain ⟨XB,hXB⟩:∃ X,(rpC ⟨nd',hr',ou',g,pk',sz'⟩).toArray=X:=⟨_,rfl⟩
 have s1:XA.size=14:=by rw [← hXA];rfl
 have s2:XB.size=14:=by rw [← hXB];rfl
 have o1:XA.all (·.oneCell')=true:=by rw [← hXA];exact all_oneCell_toArray (layRb.one ⟨_,hx⟩)
 have o2:XB.all (·.oneCell')=true:=by rw [← hXB];exact all_oneCell_toArray (layRb.one ⟨_,hy⟩)
 have HP:Hid (Blk ((w.alloc (.cells XA 74 (0,0))).alloc (.cells XB 74 (0,0))) w.heap.size 74 XA):=Lib.hid ((Blk.new w _ _).alloc _)
 have HQ:Hid (Blk ((w.alloc (.cells XA 74 (0,0))).alloc (.cells XB 74 (0,0))) (w.heap.size + 1) 74 XB):=Lib.hid (by
  have this:=Blk.new (w.alloc (.cells XA 74 (0,0))) 74 XB
  rw [World.size_alloc] at this
  exact this)
 have HB:Hid (BelD w ((w.alloc (.cells XA 74 (0,0))).alloc (.cells XB 74 (0,0)))):=Lib.hid (((BelD.refl _).alloc _).alloc _)
 rw [hXA,hXB]
 go_enter Tryz.func155,Tryz.ntmps155
 go_upto_region 1 with (first | (refine wpList_var XA 74 Tryz.zeroValue74 rfl rfl rfl _ _ rfl _ rfl ?_ ?_ 14 size_rb s1 ?_ o1 ?_;all_goals (try rfl);try go_simp) | (refine wpList_var XB 74 Tryz.zeroValue74 rfl rfl rfl _ _ rfl _ rfl ?_ ?_ 14 size_rb s2 ?_ o2 ?_;all_goals (try rfl);try go_simp))
 generalize (w.alloc (.cells XA 74 (0,0))).alloc (.cells XB 74 (0,0))=w1 at *
 generalize w.heap.size=b at HP HQ ⊢
 subst hXA hXB
 have a0:w1.cell? ⟨b,0,none⟩=some (.string nd):=HP.out.cell 0
 have a1:w1.cell? ⟨b,1,none⟩=some (.int .i64 hr):=HP.out.cell 1
 have a2:w1.cell? ⟨b,2,none⟩=some (.bool ou):=HP.out.cell 2
 have b0:w1.cell? ⟨b + 1,0,none⟩=some (.string nd'):=HQ.out.cell 0
 have b1:w1.cell? ⟨b + 1,1,none⟩=some (.int .i64 hr'):=HQ.out.cell 1
 have b2:w1.cell? ⟨b + 1,2,none⟩=some (.bool ou'):=HQ.out.cell 2
 have HR1:Hid (∀ wx,(∃ n:LaterD w1,wx=n.1)→wx.rangeAt b 3 f.cells.toList):=Lib.hid fun wx ⟨n,hn⟩ => by
  subst hn
  exact rbFlow (x:=⟨nd,hr,ou,f,pk,sz⟩) (HP.out.below n.2.b HP.out.lt)
 have HR2:Hid (∀ wx,(∃ n:LaterD w1,wx=n.1)→wx.rangeAt (b + 1) 3 g.cells.toList):=Lib.hid fun wx ⟨n,hn⟩ => by
  subst hn
  exact rbFlow (x:=⟨nd',hr',ou',g,pk',sz'⟩) (HQ.out.below n.2.b HQ.out.lt)
 have S1:Hid (f.cells.size=9):=Lib.hid rfl
 have S2:Hid (g.cells.size=9):=Lib.hid rfl
 generalize f.cells=F1 at *
 generalize g.cells=F2 at *
 clear HP HQ s1 s2 o1 o2 hx hy
 have k0:=LaterD.cell_of a0
 have k1:=LaterD.cell_of a1
 have k2:=LaterD.cell_of a2
 have m0:=LaterD.cell_of b0
 have m1:=LaterD.cell_of b1
 have m2:=LaterD.cell_of b2
 have hC4:=fun m:LaterD w1 => Calls.laterD m (HC4.out m.1)
 refine wp_region_laterD_tail 20 (by kernel_rfl) (by kernel_rfl) ?_
 simp only [List.take_succ_cons,List.take_zero,List.drop_succ_cons,List.drop_zero]
 repeat (go_big_quiet_step (fail))
 go_big_quiet_step ((go_at_call 80;exact (HC1.out _).mono fun _ _ h => ⟨h.1,_,h.2⟩))
 repeat (go_big_quiet_step (fail))
 go_big_quiet_step ((go_at_call 143;exact (HC2.out _).mono fun _ _ h => ⟨h.1,_,h.2⟩))
 repeat (go_big_quiet_step (fail))
 go_big_quiet_step ((go_at_call 208;exact (HC3.out _).mono fun _ _ h => ⟨h.1,_,h.2⟩))
 repeat (first | (refine wpQuiet_loadn rfl 72 _ rfl _ rfl b 3 rfl F1 HR1.out _ under_flow rfl 9 size_flow S1.out ?_;go_simp) | (refine wpQuiet_loadn rfl 72 _ rfl _ rfl (b + 1) 3 rfl F2 HR2.out _ under_flow rfl 9 size_flow S2.out ?_;go_simp) | go_big_quiet_step (fail))
 go_big_quiet_step ((go_at_call 209;exact hC4 _))
 refine wpQuiet_nil ?_
 rintro ⟨w2,hb2⟩
 dsimp only
 have HB2:=Lib.hid (HB.out.trans hb2)
 clear hb2 hC4 HC1 HC2 HC3 HC4 HR1 HR2 a0 a1 a2 b0 b1 b2 k0 k1 k2 m0 m1 m2
 go_wp2_with fail
 refine (cmpOrL_any _ 4 4 [C1,C2,C3,C4] _ (rdInts_new _ _ [C1,C2,C3,C4] _ rfl) (by omega)).mono ?_
 rintro e w3 ⟨rfl,rfl⟩
 go_wp2_with fail
 go_ret
 exact ⟨rfl,HB2.out.alloc _⟩
end Go.Proofs.YtgkhcdjoilgfmaaGreatDoor
