/-
  What the generator of reports calls: Some, the closure that compares; the state in a round.
  The generator Pool: nearly always a right one.
  The generator LeaseKey.
  take: the lease that the program takes; Take and Best.
  Take and Best.
  BestOf: the reference's search for the best free block.
  slices.Equal of two rows of the same leases; SamePool of equal pools.
-/
import Derived.Test.YteldaicgaeooiaaGreatDoorPL15
import Derived.Test.YteldaicgaeooiaaGreatDoorPL6
import Derived.Test.YteldaicgaeooiaaGreatDoorPL3
import Derived.Test.YteldaicgaeooiaaGreatDoorPL4
import Derived.Test.YteldaicgaeooiaaGreatDoorPL14
import Derived.Test.YteldaicgaeooiaaGreatDoorPL8
import Derived.Test.YteldaicgaeooiaaGreatDoorPL10
import Derived.Test.YteldaicgaeooiaaGreatDoorPL9
import Derived.Deep.Light
set_option linter.unusedVariables false
set_option maxRecDepth 100000
set_option maxHeartbeats 16000000
namespace Go.Proofs.YteldaicgaeooiaaGreatDoor
open Go.RowKit Go
def RdStr (w:World) (g:Nat) (ss:List ByteArray):Prop:=g < w.heap.size∧∀ (i:Nat) s,ss[i]?=some s→w.cell? ⟨g,i,none⟩=some (.string s)
theorem RdStr.grown {w w':World} {g b:Nat} {ss:List ByteArray} (h:RdStr w g ss) (hg:w.grownBy w' (some b)) (hne:g ≠ b):RdStr w' g ss :=
 ⟨Nat.lt_of_lt_of_le h.1 hg.size,fun i s hi => (World.cell?_of_block (hg.block g h.1 (by simpa using hne))).trans (h.2 i s hi)⟩
theorem rdStr_new (w:World) (t:TypeId) (ss:List ByteArray) (vs:Array Value) (hv:vs=(ss.map Value.string).toArray):RdStr (w.alloc (.cells vs t)) w.heap.size ss:=by
 subst hv
 refine ⟨by simp,fun i s hi => ?_⟩
 rw [cell_of_row _ w.heap.size i _ _ _ (heap_alloc_new w _)]
 simp [hi]
theorem some_gen (b m g n:Nat) (ss:List ByteArray) (w:World) (h:Strm w b m) (hm:m < 1099511627776) (hn:ss.length=n) (hn1:1≤n∧n≤1000) (hs:RdStr w g ss) (hgb:g ≠ b) :
  Calls Tryz.prog 33 #[.pointer (some ⟨b,0,none⟩), .slice (some ⟨g,0,none⟩) n n] w fun e w' => ∃ s:ByteArray,e=.returned (.string s)∧s ∈ ss∧Gen b w w' (m + 1):=by
 have Hs:=Lib.hid hs
 have HS:=Lib.hid h
 have Hn:=Lib.hid hn
 clear hs h hn
 go_enter Tryz.func33,Tryz.ntmps33
 go_wp2_with fail
 refine (next_gen b m _ _ HS.out hm (by omega)).mono ?_
 rintro e w1 ⟨k,rfl,⟨hk0,hk1⟩,hg⟩
 obtain ⟨j,rfl⟩:=Int.eq_ofNat_of_zero_le hk0
 have hj:j < n:=by omega
 obtain ⟨s,hs⟩:∃ s,ss[j]?=some s:=⟨_,List.getElem?_eq_getElem (by rw [Hn.out];exact hj)⟩
 have hc:=(Hs.out.grown hg.g hgb).2 j s hs
 have HG:=Lib.hid hg
 have hmem:=List.mem_of_getElem? hs
 have HM:=Lib.hid hmem
 clear hg hs hmem
 have b1:(0:Int)≤(j:Int):=by omega
 have b2:(j:Int) < (n:Int):=by omega
 go_wp2_with fail
 go_ret
 exact ⟨s,rfl,HM.out,HG.out⟩
open Go.RowKit Go Go.Sort
theorem pool_gen (b m:Nat) (w:World) (h:Strm w b m) (hm:m + 300 < 1099511627776) :
  Calls Tryz.prog 5 #[.pointer (some ⟨b,0,none⟩)] w fun e w' => ∃ v P K L,e=.returned v∧PoolV w' w.heap.size v P K L∧(u2P P∧(-1099511627777≤P.2.2.2∧P.2.2.2≤1099511627777)∧U4 K∧UL L∧K.length + L.length≤7)∧Gen b w w' (m + 100):=by
 have hblt:=h.lt
 have HG0:Hid (Gen b w (w.alloc (.cells #[.bool false, .int .u64 0, .int .u64 0, .int .i64 0, .slice none 0 0, .slice none 0 0] 34 (0,0))) m):=Lib.hid ((Gen.start h).alloc _)
 have HR0:Hid (Blk (w.alloc (.cells #[.bool false, .int .u64 0, .int .u64 0, .int .i64 0, .slice none 0 0, .slice none 0 0] 34 (0,0))) w.heap.size 34 #[.bool false, .int .u64 0, .int .u64 0, .int .i64 0, .slice none 0 0, .slice none 0 0]):=Lib.hid (Blk.new w _ _)
 clear h
 go_enter Tryz.func5,Tryz.ntmps5
 go_upto_region 1 with fail
 generalize w.alloc (.cells #[.bool false, .int .u64 0, .int .u64 0, .int .i64 0, .slice none 0 0, .slice none 0 0] 34 (0,0))=w0 at *
 obtain ⟨rb,hrb⟩:∃ q,w.heap.size=q:=⟨_,rfl⟩
 rw [hrb] at HR0 ⊢
 have Hrb:Hid (rb < w0.heap.size∧w.heap.size≤w0.heap.size∧w.heap.size≤rb∧b < rb):=Lib.hid ⟨HR0.out.lt,HG0.out.g.size,by omega,by omega⟩
 have hrbn:rb ≠ b:=by omega
 clear hrb
 go_wp2_with fail
 refine (rightPool_gen b m _ HG0.out.s (by omega)).mono ?_
 rintro e w1 ⟨v,P,K,L,rfl,hV,hP,hK,hL,hkl,hll,hg⟩
 obtain ⟨a1,c1,a2,c2,rfl,q1,q2⟩:=hV
 have HU:=Lib.hid (show u2P P∧(-1099511627777≤P.2.2.2∧P.2.2.2≤1099511627777)∧U4 K∧UL L∧K.length + L.length≤6 from ⟨⟨hP.ok.1.1,hP.ok.1.2.1⟩,by obtain ⟨nb,hnb,hnl⟩:=okPf_bits hP;omega,fun p hp => ⟨(hK p hp).ok.1.1,(hK p hp).ok.1.2.1⟩,fun x hx => ⟨⟨(hL x hx).1.ok.1.1,(hL x hx).1.ok.1.2.1⟩,(hL x hx).2⟩,by omega⟩)
 obtain ⟨ps,ph,pl,pn⟩:=P
 rw [show (plC (ps,ph,pl,pn) (.slice a1 K.length c1) (.slice a2 L.length c2)).toArray=#[.bool ps, .int .u64 (ph:Int), .int .u64 (pl:Int), .int .i64 pn, .slice a1 K.length c1, .slice a2 L.length c2] from rfl]
 have hbl:Below w1.heap.size w1 (w1.alloc (.cells #[.bool ps, .int .u64 (ph:Int), .int .u64 (pl:Int), .int .i64 pn, .slice a1 K.length c1, .slice a2 L.length c2] 34 (0,0))):=below_alloc (Below.refl _ _) _
 have HX1:Hid (Blk (w1.alloc (.cells #[.bool ps, .int .u64 (ph:Int), .int .u64 (pl:Int), .int .i64 pn, .slice a1 K.length c1, .slice a2 L.length c2] 34 (0,0))) w1.heap.size 34 #[.bool ps, .int .u64 (ph:Int), .int .u64 (pl:Int), .int .i64 pn, .slice a1 K.length c1, .slice a2 L.length c2]):=Lib.hid (Blk.new w1 _ _)
 have HK1:=Lib.hid (q1.later hbl)
 have HL1:=Lib.hid (q2.later hbl)
 have HR1:=Lib.hid ((HR0.out.keep hg.g hrbn).below hbl (HR0.out.keep hg.g hrbn).lt)
 have HG1:Hid (Gen b w (w1.alloc (.cells #[.bool ps, .int .u64 (ph:Int), .int .u64 (pl:Int), .int .i64 pn, .slice a1 K.length c1, .slice a2 L.length c2] 34 (0,0))) (m + 50)):=Lib.hid ((HG0.out.trans hg).alloc _)
 have Hx:Hid (w0.heap.size≤w1.heap.size):=Lib.hid hg.g.size
 clear hP hK hL hkl hll hg q1 q2 hbl HG0 HR0
 go_upto_region 2 with fail
 generalize w1.alloc (.cells #[.bool ps, .int .u64 (ph:Int), .int .u64 (pl:Int), .int .i64 pn, .slice a1 K.length c1, .slice a2 L.length c2] 34 (0,0))=w2 at *
 obtain ⟨xb,hxb⟩:∃ q,w1.heap.size=q:=⟨_,rfl⟩
 rw [hxb] at HX1 Hx ⊢
 have Hxb:Hid (rb < xb∧b < xb∧w.heap.size≤xb):=Lib.hid (by have:=Hrb.out;have:=Hx.out;omega)
 have hxbn:xb ≠ b:=by have:=Hxb.out;omega
 clear hxb
 go_wp2_with fail
 refine (flip_gen b (m + 50) _ _ HG1.out.s (by omega) (by omega)).mono ?_
 rintro e w3 ⟨kf,rfl,hg⟩
 have HX:=Lib.hid (HX1.out.keep hg.g hxbn)
 have HK:=Lib.hid (HK1.out.gen hg (show b < w0.heap.size by have:=Hrb.out;omega))
 have HL:=Lib.hid (HL1.out.gen hg (show b < w0.heap.size by have:=Hrb.out;omega))
 have HR:=Lib.hid (HR1.out.keep hg.g hrbn)
 have HG:Hid (Gen b w w3 (m + 51)):=Lib.hid (HG1.out.trans hg)
 clear hg HX1 HK1 HL1 HR1 HG1
 cases kf
 ·skip
  have c6:=HR.out.set6w (x1':=.bool ps) (x2':=.int .u64 (ph:Int)) (x3':=.int .u64 (pl:Int)) (x4':=.int .i64 pn) (x5':=.slice a1 K.length c1) (x6':=.slice a2 L.length c2)
  have HPf:Hid (PoolV ((((((w3.setCell ⟨rb,0,none⟩ (.bool ps)).setCell ⟨rb,1,none⟩ (.int .u64 (ph:Int))).setCell ⟨rb,2,none⟩ (.int .u64 (pl:Int))).setCell ⟨rb,3,none⟩ (.int .i64 pn)).setCell ⟨rb,4,none⟩ (.slice a1 K.length c1)).setCell ⟨rb,5,none⟩ (.slice a2 L.length c2)) w.heap.size (.agg #[.bool ps, .int .u64 (ph:Int), .int .u64 (pl:Int), .int .i64 pn, .slice a1 K.length c1, .slice a2 L.length c2]) (ps,ph,pl,pn) (K) (L)):=Lib.hid (PoolV.weak ⟨_,_,_,_,by rfl,HK.out.farC Hrb.out.1 0 [.bool ps, .int .u64 (ph:Int), .int .u64 (pl:Int), .int .i64 pn, .slice a1 K.length c1, .slice a2 L.length c2],HL.out.farC Hrb.out.1 0 [.bool ps, .int .u64 (ph:Int), .int .u64 (pl:Int), .int .i64 pn, .slice a1 K.length c1, .slice a2 L.length c2]⟩ Hrb.out.2.1)
  have HGf:Hid (Gen b w ((((((w3.setCell ⟨rb,0,none⟩ (.bool ps)).setCell ⟨rb,1,none⟩ (.int .u64 (ph:Int))).setCell ⟨rb,2,none⟩ (.int .u64 (pl:Int))).setCell ⟨rb,3,none⟩ (.int .i64 pn)).setCell ⟨rb,4,none⟩ (.slice a1 K.length c1)).setCell ⟨rb,5,none⟩ (.slice a2 L.length c2)) (m + 100)):=Lib.hid (by
   repeat refine Gen.setCell ?_ _ _ Hrb.out.2.2.1 Hrb.out.2.2.2
   exact HG.out.mono (by omega))
  have z0:=c6.cell 0
  have z1:=c6.cell 1
  have z2:=c6.cell 2
  have z3:=c6.cell 3
  have z4:=c6.cell 4
  have z5:=c6.cell 5
  simp at z0 z1 z2 z3 z4 z5
  clear c6
  have p0:=HX.out.cell 0
  have p1:=HX.out.cell 1
  have p2:=HX.out.cell 2
  have p3:=HX.out.cell 3
  have p4:=HX.out.cell 4
  have p5:=HX.out.cell 5
  simp at p0 p1 p2 p3 p4 p5
  have r0:=HR.out.cell 0
  have r1:=HR.out.cell 1
  have r2:=HR.out.cell 2
  have r3:=HR.out.cell 3
  have r4:=HR.out.cell 4
  have r5:=HR.out.cell 5
  simp at r0 r1 r2 r3 r4 r5
  have rf:=HR.out.free
  clear HR HX HK HL HG
  go_wp2_with fail
  refine bodyPost_ret (v:=.agg #[.bool ps, .int .u64 (ph:Int), .int .u64 (pl:Int), .int .i64 pn, .slice a1 K.length c1, .slice a2 L.length c2]) (by simp [results,Tryz.results5,go_sem, *]) rfl ⟨_,(ps,ph,pl,pn),K,L,rfl,HPf.out,⟨HU.out.1,HU.out.2.1,HU.out.2.2.1,HU.out.2.2.2.1,by have:=HU.out.2.2.2.2;omega⟩,HGf.out⟩
 ·go_wp2_with fail
  refine (next_gen b (m + 51) 3 _ HG.out.s (by omega) (by omega)).mono ?_
  rintro e w4 ⟨nx,rfl,hnx,hg⟩
  have hnx3:nx=0 ∨ nx=1 ∨ nx=2:=by unfold BelowRes at hnx;omega
  replace HX:=Lib.hid (HX.out.keep hg.g hxbn)
  replace HK:=Lib.hid (HK.out.gen hg (show b < w0.heap.size by have:=Hrb.out;omega))
  replace HL:=Lib.hid (HL.out.gen hg (show b < w0.heap.size by have:=Hrb.out;omega))
  replace HR:=Lib.hid (HR.out.keep hg.g hrbn)
  replace HG:Hid (Gen b w w4 (m + 52)):=Lib.hid (HG.out.trans hg)
  clear hg hnx
  rcases hnx3 with rfl | rfl | rfl
  ·go_wp2_with fail
   refine (prefix_gen b (m + 52) _ HG.out.s (by omega)).mono ?_
   rintro e w5 ⟨gs,gh,gl,gn,rfl,hu1,hu2,hbd,hg⟩
   unfold vP
   have HUq:=Lib.hid (And.intro (And.intro hu1 hu2) hbd)
   have hX5:=HX.out.keep hg.g hxbn
   have HX6:Hid (Blk ((((w5.setCell ⟨xb,0,none⟩ (.bool gs)).setCell ⟨xb,1,none⟩ (.int .u64 (gh:Int))).setCell ⟨xb,2,none⟩ (.int .u64 (gl:Int))).setCell ⟨xb,3,none⟩ (.int .i64 gn)) xb 34 #[.bool gs, .int .u64 (gh:Int), .int .u64 (gl:Int), .int .i64 gn, .slice a1 K.length c1, .slice a2 L.length c2]):=Lib.hid (Blk.set (Blk.set (Blk.set (Blk.set hX5 0 _) 1 _) 2 _) 3 _)
   have HK6:Hid (OwnK layPf ((((w5.setCell ⟨xb,0,none⟩ (.bool gs)).setCell ⟨xb,1,none⟩ (.int .u64 (gh:Int))).setCell ⟨xb,2,none⟩ (.int .u64 (gl:Int))).setCell ⟨xb,3,none⟩ (.int .i64 gn)) w0.heap.size (.slice a1 K.length c1) K):=Lib.hid ((HK.out.gen hg (show b < w0.heap.size by have:=Hrb.out;omega)).keepT (((KeepT.of_cells (S:=[34]) [.bool gs, .int .u64 (gh:Int), .int .u64 (gl:Int), .int .i64 gn] hX5 (by simp) 0))) (by decide))
   have HL6:Hid (OwnK layLs ((((w5.setCell ⟨xb,0,none⟩ (.bool gs)).setCell ⟨xb,1,none⟩ (.int .u64 (gh:Int))).setCell ⟨xb,2,none⟩ (.int .u64 (gl:Int))).setCell ⟨xb,3,none⟩ (.int .i64 gn)) w0.heap.size (.slice a2 L.length c2) L):=Lib.hid ((HL.out.gen hg (show b < w0.heap.size by have:=Hrb.out;omega)).keepT (((KeepT.of_cells (S:=[34]) [.bool gs, .int .u64 (gh:Int), .int .u64 (gl:Int), .int .i64 gn] hX5 (by simp) 0))) (by decide))
   have HR6:Hid (Blk ((((w5.setCell ⟨xb,0,none⟩ (.bool gs)).setCell ⟨xb,1,none⟩ (.int .u64 (gh:Int))).setCell ⟨xb,2,none⟩ (.int .u64 (gl:Int))).setCell ⟨xb,3,none⟩ (.int .i64 gn)) rb 34 #[.bool false, .int .u64 0, .int .u64 0, .int .i64 0, .slice none 0 0, .slice none 0 0]):=Lib.hid ((HR.out.keep hg.g hrbn).far4w (show rb ≠ xb by have:=Hxb.out;omega))
   have HG6:Hid (Gen b w ((((w5.setCell ⟨xb,0,none⟩ (.bool gs)).setCell ⟨xb,1,none⟩ (.int .u64 (gh:Int))).setCell ⟨xb,2,none⟩ (.int .u64 (gl:Int))).setCell ⟨xb,3,none⟩ (.int .i64 gn)) (m + 66)):=Lib.hid (by
    repeat refine Gen.setCell ?_ _ _ Hxb.out.2.2 Hxb.out.2.1
    exact HG.out.trans hg)
   have p0:=hX5.cell 0
   have p1:=hX5.cell 1
   have p2:=hX5.cell 2
   have p3:=hX5.cell 3
   have pf:=hX5.free
   simp at p0 p1 p2 p3
   clear hu1 hu2 hbd hg hX5 HX HK HL HR HG
   go_upto_region 9 with fail
   generalize ((((w5.setCell ⟨xb,0,none⟩ (.bool gs)).setCell ⟨xb,1,none⟩ (.int .u64 (gh:Int))).setCell ⟨xb,2,none⟩ (.int .u64 (gl:Int))).setCell ⟨xb,3,none⟩ (.int .i64 gn))=w6 at *
   clear p0 p1 p2 p3 pf
   have HX:=HX6
   have HK:=HK6
   have HL:=HL6
   have HR:=HR6
   have HG:=HG6
   clear HX6 HK6 HL6 HR6 HG6
   have c6:=HR.out.set6w (x1':=.bool gs) (x2':=.int .u64 (gh:Int)) (x3':=.int .u64 (gl:Int)) (x4':=.int .i64 gn) (x5':=.slice a1 K.length c1) (x6':=.slice a2 L.length c2)
   have HPf:Hid (PoolV ((((((w6.setCell ⟨rb,0,none⟩ (.bool gs)).setCell ⟨rb,1,none⟩ (.int .u64 (gh:Int))).setCell ⟨rb,2,none⟩ (.int .u64 (gl:Int))).setCell ⟨rb,3,none⟩ (.int .i64 gn)).setCell ⟨rb,4,none⟩ (.slice a1 K.length c1)).setCell ⟨rb,5,none⟩ (.slice a2 L.length c2)) w.heap.size (.agg #[.bool gs, .int .u64 (gh:Int), .int .u64 (gl:Int), .int .i64 gn, .slice a1 K.length c1, .slice a2 L.length c2]) (gs,gh,gl,gn) (K) (L)):=Lib.hid (PoolV.weak ⟨_,_,_,_,by rfl,HK.out.farC Hrb.out.1 0 [.bool gs, .int .u64 (gh:Int), .int .u64 (gl:Int), .int .i64 gn, .slice a1 K.length c1, .slice a2 L.length c2],HL.out.farC Hrb.out.1 0 [.bool gs, .int .u64 (gh:Int), .int .u64 (gl:Int), .int .i64 gn, .slice a1 K.length c1, .slice a2 L.length c2]⟩ Hrb.out.2.1)
   have HGf:Hid (Gen b w ((((((w6.setCell ⟨rb,0,none⟩ (.bool gs)).setCell ⟨rb,1,none⟩ (.int .u64 (gh:Int))).setCell ⟨rb,2,none⟩ (.int .u64 (gl:Int))).setCell ⟨rb,3,none⟩ (.int .i64 gn)).setCell ⟨rb,4,none⟩ (.slice a1 K.length c1)).setCell ⟨rb,5,none⟩ (.slice a2 L.length c2)) (m + 100)):=Lib.hid (by
    repeat refine Gen.setCell ?_ _ _ Hrb.out.2.2.1 Hrb.out.2.2.2
    exact HG.out.mono (by omega))
   have z0:=c6.cell 0
   have z1:=c6.cell 1
   have z2:=c6.cell 2
   have z3:=c6.cell 3
   have z4:=c6.cell 4
   have z5:=c6.cell 5
   simp at z0 z1 z2 z3 z4 z5
   clear c6
   have p0:=HX.out.cell 0
   have p1:=HX.out.cell 1
   have p2:=HX.out.cell 2
   have p3:=HX.out.cell 3
   have p4:=HX.out.cell 4
   have p5:=HX.out.cell 5
   simp at p0 p1 p2 p3 p4 p5
   have r0:=HR.out.cell 0
   have r1:=HR.out.cell 1
   have r2:=HR.out.cell 2
   have r3:=HR.out.cell 3
   have r4:=HR.out.cell 4
   have r5:=HR.out.cell 5
   simp at r0 r1 r2 r3 r4 r5
   have rf:=HR.out.free
   clear HR HX HK HL HG
   go_wp2_with fail
   refine bodyPost_ret (v:=.agg #[.bool gs, .int .u64 (gh:Int), .int .u64 (gl:Int), .int .i64 gn, .slice a1 K.length c1, .slice a2 L.length c2]) (by simp [results,Tryz.results5,go_sem, *]) rfl ⟨_,(gs,gh,gl,gn),K,L,rfl,HPf.out,⟨HUq.out.1,HUq.out.2,HU.out.2.2.1,HU.out.2.2.2.1,by have:=HU.out.2.2.2.2;omega⟩,HGf.out⟩
  ·have HCl:=Lib.hid (clonePf_any a1 K.length c1 K w4 HK.out.rd rfl (by have:=HU.out.2.2.2.2;omega))
   have Hw4:Hid (w0.heap.size≤w4.heap.size∧b < w4.heap.size∧w.heap.size≤w4.heap.size∧xb < w4.heap.size∧rb < w4.heap.size):=Lib.hid (by have h1:=HX.out.lt;have:=Hx.out;have:=Hxb.out;have:=Hrb.out;omega)
   have HKn:Hid (K.length≤6):=Lib.hid (by have:=HU.out.2.2.2.2;omega)
   have p4:=HX.out.cell 4
   simp at p4
   go_wp2_with fail
   refine HCl.out.mono ?_
   rintro e w5 ⟨v,rfl,hO,hb⟩
   obtain ⟨a5,c5,rfl, -, -, -⟩:=hO.form
   have HN5:=Lib.hid hO
   have HX5:=Lib.hid (HX.out.below hb HX.out.lt)
   have HL5:=Lib.hid (HL.out.later hb)
   have HR5:=Lib.hid (HR.out.below hb HR.out.lt)
   have HG5:=Lib.hid (HG.out.below0 hb HG.out.s.lt)
   have HZ5:Hid (w4.heap.size≤w5.heap.size):=Lib.hid hb.size
   clear hO hb HX HK HL HR HG HCl p4
   go_wp2_with fail
   refine (prefix_gen b (m + 52) _ HG5.out.s (by omega)).mono ?_
   rintro e w6 ⟨gs,gh,gl,gn,rfl,hu1,hu2,hbd,hg⟩
   unfold vP
   have HUq:=Lib.hid (And.intro (And.intro hu1 hu2) hbd)
   have HN6:=Lib.hid (HN5.out.gen hg (show b < w4.heap.size by have:=Hw4.out;omega))
   have HX6:=Lib.hid (HX5.out.keep hg.g hxbn)
   have HL6:=Lib.hid (HL5.out.gen hg (show b < w0.heap.size by have:=Hrb.out;omega))
   have HR6:=Lib.hid (HR5.out.keep hg.g hrbn)
   have HG6:Hid (Gen b w w6 (m + 66)):=Lib.hid (HG5.out.trans hg)
   have HZ6:Hid (w4.heap.size≤w6.heap.size):=Lib.hid (Nat.le_trans HZ5.out hg.g.size)
   have HXe:Hid ((layPf.enc (gs,gh,gl,gn)).toArray=#[.bool gs, .int .u64 (gh:Int), .int .u64 (gl:Int), .int .i64 gn]):=Lib.hid rfl
   clear hu1 hu2 hbd hg HN5 HX5 HL5 HR5 HG5 HZ5
   go_wp2_with (at_builtin;refine wpList_app pfE rfl (.tmp 31) (.tmp 34) rfl rfl (World.ownsRow.alloc HN6.out _) rfl (src_new layPf _ (gs,gh,gl,gn) _ _ ?c0) ?c1 ?c2 ?c3 ?c4 ?_)
   case c0 => first | rfl | exact HXe.out.symm
   case c1 => exact layPf.one _
   case c2 => have:=HKn.out;unfold maxLen;omega
   case c3 => have:=HKn.out;omega
   case c4 => have:=HZ6.out;simp;omega
   intro v' w7 hO hG
   have hO7:OwnK layPf w7 w4.heap.size v' (K ++ [(gs,gh,gl,gn)]):=OwnK.snoc hO
   have hbg:Below w4.heap.size w6 w7:=hG.allocFirst.below HZ6.out (own_base HN6.out)
   have hk7:=KeepT.of_grew (S:=[30]) HN6.out hG.allocFirst (by decide)
   obtain ⟨a7,c7,rfl, -, -, -⟩:=hO7.form
   have HN7:=Lib.hid (hO7.weak Hw4.out.1)
   have HX7:=Lib.hid (HX6.out.keepS hk7 (by decide))
   have HL7:=Lib.hid (HL6.out.keepT hk7 (by decide))
   have HR7:=Lib.hid (HR6.out.keepS hk7 (by decide))
   have HG7:=Lib.hid (HG6.out.below hbg Hw4.out.2.2.1 Hw4.out.2.1)
   have Hk1:Hid ((K ++ [(gs,gh,gl,gn)]).length=K.length + 1):=Lib.hid (by rw [List.length_append];rfl)
   generalize hkl:(K ++ [(gs,gh,gl,gn)]).length=kl at *
   have Hkl:=Lib.hid hkl
   clear hO hG hO7 hbg hk7 hkl HN6 HX6 HL6 HR6 HG6 HZ6 HXe
   have HX:Hid (Blk (w7.setCell ⟨xb,4,none⟩ (.slice a7 kl c7)) xb 34 #[.bool ps, .int .u64 (ph:Int), .int .u64 (pl:Int), .int .i64 pn, .slice a7 kl c7, .slice a2 L.length c2]):=Lib.hid (HX7.out.set 4 _)
   have hk8:=KeepT.of_set (S:=[34]) (i:=4) (v:=.slice a7 kl c7) HX7.out (by simp)
   have HK:=Lib.hid (HN7.out.keepT hk8 (by decide))
   have HL:=Lib.hid (HL7.out.keepT hk8 (by decide))
   have HR:=Lib.hid (HR7.out.far (show rb ≠ xb by have:=Hxb.out;omega) 4 (.slice a7 kl c7))
   have HG:Hid (Gen b w (w7.setCell ⟨xb,4,none⟩ (.slice a7 kl c7)) (m + 66)):=Lib.hid (HG7.out.setCell _ _ Hxb.out.2.2 Hxb.out.2.1)
   have u4:=HX7.out.cell 4
   have uf:=HX7.out.free
   simp at u4
   go_upto_region 9 with fail
   generalize w7.setCell ⟨xb,4,none⟩ (.slice a7 kl c7)=w8 at *
   clear hk8 u4 uf HN7 HX7 HL7 HR7 HG7
   have c6:=HR.out.set6w (x1':=.bool ps) (x2':=.int .u64 (ph:Int)) (x3':=.int .u64 (pl:Int)) (x4':=.int .i64 pn) (x5':=.slice a7 kl c7) (x6':=.slice a2 L.length c2)
   have HPf:Hid (PoolV ((((((w8.setCell ⟨rb,0,none⟩ (.bool ps)).setCell ⟨rb,1,none⟩ (.int .u64 (ph:Int))).setCell ⟨rb,2,none⟩ (.int .u64 (pl:Int))).setCell ⟨rb,3,none⟩ (.int .i64 pn)).setCell ⟨rb,4,none⟩ (.slice a7 kl c7)).setCell ⟨rb,5,none⟩ (.slice a2 L.length c2)) w.heap.size (.agg #[.bool ps, .int .u64 (ph:Int), .int .u64 (pl:Int), .int .i64 pn, .slice a7 kl c7, .slice a2 L.length c2]) (ps,ph,pl,pn) (K ++ [(gs,gh,gl,gn)]) (L)):=Lib.hid (PoolV.weak ⟨a7,c7,a2,c2,by rw [Hkl.out] <;> rfl,by rw [Hkl.out];exact HK.out.farC Hrb.out.1 0 [.bool ps, .int .u64 (ph:Int), .int .u64 (pl:Int), .int .i64 pn, .slice a7 kl c7, .slice a2 L.length c2],HL.out.farC Hrb.out.1 0 [.bool ps, .int .u64 (ph:Int), .int .u64 (pl:Int), .int .i64 pn, .slice a7 kl c7, .slice a2 L.length c2]⟩ Hrb.out.2.1)
   have HGf:Hid (Gen b w ((((((w8.setCell ⟨rb,0,none⟩ (.bool ps)).setCell ⟨rb,1,none⟩ (.int .u64 (ph:Int))).setCell ⟨rb,2,none⟩ (.int .u64 (pl:Int))).setCell ⟨rb,3,none⟩ (.int .i64 pn)).setCell ⟨rb,4,none⟩ (.slice a7 kl c7)).setCell ⟨rb,5,none⟩ (.slice a2 L.length c2)) (m + 100)):=Lib.hid (by
    repeat refine Gen.setCell ?_ _ _ Hrb.out.2.2.1 Hrb.out.2.2.2
    exact HG.out.mono (by omega))
   have z0:=c6.cell 0
   have z1:=c6.cell 1
   have z2:=c6.cell 2
   have z3:=c6.cell 3
   have z4:=c6.cell 4
   have z5:=c6.cell 5
   simp at z0 z1 z2 z3 z4 z5
   clear c6
   have p0:=HX.out.cell 0
   have p1:=HX.out.cell 1
   have p2:=HX.out.cell 2
   have p3:=HX.out.cell 3
   have p4:=HX.out.cell 4
   have p5:=HX.out.cell 5
   simp at p0 p1 p2 p3 p4 p5
   have r0:=HR.out.cell 0
   have r1:=HR.out.cell 1
   have r2:=HR.out.cell 2
   have r3:=HR.out.cell 3
   have r4:=HR.out.cell 4
   have r5:=HR.out.cell 5
   simp at r0 r1 r2 r3 r4 r5
   have rf:=HR.out.free
   clear HR HX HK HL HG
   go_wp2_with fail
   refine bodyPost_ret (v:=.agg #[.bool ps, .int .u64 (ph:Int), .int .u64 (pl:Int), .int .i64 pn, .slice a7 kl c7, .slice a2 L.length c2]) (by simp [results,Tryz.results5,go_sem, *]) rfl ⟨_,(ps,ph,pl,pn),K ++ [(gs,gh,gl,gn)],L,rfl,HPf.out,⟨HU.out.1,HU.out.2.1,fun p hp => (List.mem_append.1 hp).elim (HU.out.2.2.1 p) (fun h => by rw [List.mem_singleton.1 h];exact HUq.out.1),HU.out.2.2.2.1,by rw [Hkl.out,Hk1.out];have:=HU.out.2.2.2.2;omega⟩,HGf.out⟩
  ·have HCl:=Lib.hid (cloneLs_any a2 L.length c2 L w4 HL.out.rd rfl (by have:=HU.out.2.2.2.2;omega))
   have Hw4:Hid (w0.heap.size≤w4.heap.size∧b < w4.heap.size∧w.heap.size≤w4.heap.size∧xb < w4.heap.size∧rb < w4.heap.size):=Lib.hid (by have h1:=HX.out.lt;have:=Hx.out;have:=Hxb.out;have:=Hrb.out;omega)
   have HLn:Hid (L.length≤6):=Lib.hid (by have:=HU.out.2.2.2.2;omega)
   have p5:=HX.out.cell 5
   simp at p5
   go_wp2_with fail
   refine HCl.out.mono ?_
   rintro e w5 ⟨v,rfl,hO,hb⟩
   obtain ⟨a5,c5,rfl, -, -, -⟩:=hO.form
   have HN5:=Lib.hid (hO.alloc (.cells #[.string ⟨#[108,101]⟩, .string ⟨#[108,97]⟩, .string ⟨#[]⟩, .string ⟨#[65]⟩] 9 (0,0)))
   have HX5:=Lib.hid ((HX.out.below hb HX.out.lt).alloc (.cells #[.string ⟨#[108,101]⟩, .string ⟨#[108,97]⟩, .string ⟨#[]⟩, .string ⟨#[65]⟩] 9 (0,0)))
   have HK5:=Lib.hid ((HK.out.later hb).alloc (.cells #[.string ⟨#[108,101]⟩, .string ⟨#[108,97]⟩, .string ⟨#[]⟩, .string ⟨#[65]⟩] 9 (0,0)))
   have HR5:=Lib.hid ((HR.out.below hb HR.out.lt).alloc (.cells #[.string ⟨#[108,101]⟩, .string ⟨#[108,97]⟩, .string ⟨#[]⟩, .string ⟨#[65]⟩] 9 (0,0)))
   have HG5:=Lib.hid ((HG.out.below0 hb HG.out.s.lt).alloc (.cells #[.string ⟨#[108,101]⟩, .string ⟨#[108,97]⟩, .string ⟨#[]⟩, .string ⟨#[65]⟩] 9 (0,0)))
   have HZ5:Hid (w4.heap.size≤(w5.alloc (.cells #[.string ⟨#[108,101]⟩, .string ⟨#[108,97]⟩, .string ⟨#[]⟩, .string ⟨#[65]⟩] 9 (0,0))).heap.size):=Lib.hid (by rw [World.size_alloc];exact Nat.le_succ_of_le hb.size)
   have HSt:=Lib.hid (rdStr_new w5 9 [⟨#[108,101]⟩,⟨#[108,97]⟩,⟨#[]⟩,⟨#[65]⟩] _ rfl)
   have Hw5b:Hid (w5.heap.size ≠ b):=Lib.hid (by have:=hb.size;have:=Hw4.out;omega)
   clear hO hb HX HK HL HR HG HCl p5
   go_wp2_with fail
   refine (some_gen b (m + 52) w5.heap.size 4 [⟨#[108,101]⟩,⟨#[108,97]⟩,⟨#[]⟩,⟨#[65]⟩] _ HG5.out.s (by omega) rfl (by omega) HSt.out Hw5b.out).mono ?_
   rintro e w6 ⟨ks,rfl,hks,hg⟩
   have hkl:ks.data.toList.length≤1000:=by
    simp at hks
    rcases hks with rfl | rfl | rfl | rfl <;> decide
   have hks2:strL ks.data.toList=ks:=strL_of ks
   obtain ⟨ky,hky⟩:∃ q,ks.data.toList=q:=⟨_,rfl⟩
   rw [hky] at hkl hks2
   subst hks2
   have Hky:=Lib.hid hkl
   have HN6:=Lib.hid (HN5.out.gen hg (show b < w4.heap.size by have:=Hw4.out;omega))
   have HX6:=Lib.hid (HX5.out.keep hg.g hxbn)
   have HK6:=Lib.hid (HK5.out.gen hg (show b < w0.heap.size by have:=Hrb.out;omega))
   have HR6:=Lib.hid (HR5.out.keep hg.g hrbn)
   have HG6:Hid (Gen b w w6 (m + 53)):=Lib.hid (HG5.out.trans hg)
   have HZ6:Hid (w4.heap.size≤w6.heap.size):=Lib.hid (Nat.le_trans HZ5.out hg.g.size)
   clear hks hg hky hkl HN5 HX5 HK5 HR5 HG5 HZ5 HSt
   go_wp2_with fail
   refine (prefix_gen b (m + 53) _ HG6.out.s (by omega)).mono ?_
   rintro e w7 ⟨gs,gh,gl,gn,rfl,hu1,hu2,hbd,hg⟩
   unfold vP
   have HUq:=Lib.hid (And.intro (And.intro hu1 hu2) hbd)
   have HN7:=Lib.hid (HN6.out.gen hg (show b < w4.heap.size by have:=Hw4.out;omega))
   have HX7:=Lib.hid (HX6.out.keep hg.g hxbn)
   have HK7:=Lib.hid (HK6.out.gen hg (show b < w0.heap.size by have:=Hrb.out;omega))
   have HR7:=Lib.hid (HR6.out.keep hg.g hrbn)
   have HG7:Hid (Gen b w w7 (m + 67)):=Lib.hid (HG6.out.trans hg)
   have HZ7:Hid (w4.heap.size≤w7.heap.size):=Lib.hid (Nat.le_trans HZ6.out hg.g.size)
   have HXe:Hid ((layLs.enc (ky,(gs,gh,gl,gn))).toArray=#[.string (strL ky), .bool gs, .int .u64 (gh:Int), .int .u64 (gl:Int), .int .i64 gn]):=Lib.hid rfl
   clear hu1 hu2 hbd hg HN6 HX6 HK6 HR6 HG6 HZ6
   go_wp2_with (at_builtin;refine wpList_app lsE rfl (.tmp 12) (.tmp 19) rfl rfl (World.ownsRow.alloc HN7.out _) rfl (src_new layLs _ (ky,(gs,gh,gl,gn)) _ _ ?c0) ?c1 ?c2 ?c3 ?c4 ?_)
   case c0 => first | rfl | exact HXe.out.symm
   case c1 => exact layLs.one _
   case c2 => have:=HLn.out;unfold maxLen;omega
   case c3 => have:=HLn.out;omega
   case c4 => have:=HZ7.out;simp;omega
   intro v' w8 hO hG
   have hO8:OwnK layLs w8 w4.heap.size v' (L ++ [(ky,(gs,gh,gl,gn))]):=OwnK.snoc hO
   have hbg:Below w4.heap.size w7 w8:=hG.allocFirst.below HZ7.out (own_base HN7.out)
   have hk8:=KeepT.of_grew (S:=[67]) HN7.out hG.allocFirst (by decide)
   obtain ⟨a8,c8,rfl, -, -, -⟩:=hO8.form
   have HN8:=Lib.hid (hO8.weak Hw4.out.1)
   have HX8:=Lib.hid (HX7.out.keepS hk8 (by decide))
   have HK8:=Lib.hid (HK7.out.keepT hk8 (by decide))
   have HR8:=Lib.hid (HR7.out.keepS hk8 (by decide))
   have HG8:=Lib.hid (HG7.out.below hbg Hw4.out.2.2.1 Hw4.out.2.1)
   have Hl1:Hid ((L ++ [(ky,(gs,gh,gl,gn))]).length=L.length + 1):=Lib.hid (by rw [List.length_append];rfl)
   generalize hll:(L ++ [(ky,(gs,gh,gl,gn))]).length=ll at *
   have Hll:=Lib.hid hll
   clear hO hG hO8 hbg hk8 hll HN7 HX7 HK7 HR7 HG7 HZ7 HXe
   have HX:Hid (Blk (w8.setCell ⟨xb,5,none⟩ (.slice a8 ll c8)) xb 34 #[.bool ps, .int .u64 (ph:Int), .int .u64 (pl:Int), .int .i64 pn, .slice a1 K.length c1, .slice a8 ll c8]):=Lib.hid (HX8.out.set 5 _)
   have hk9:=KeepT.of_set (S:=[34]) (i:=5) (v:=.slice a8 ll c8) HX8.out (by simp)
   have HK:=Lib.hid (HK8.out.keepT hk9 (by decide))
   have HL:=Lib.hid (HN8.out.keepT hk9 (by decide))
   have HR:=Lib.hid (HR8.out.far (show rb ≠ xb by have:=Hxb.out;omega) 5 (.slice a8 ll c8))
   have HG:Hid (Gen b w (w8.setCell ⟨xb,5,none⟩ (.slice a8 ll c8)) (m + 67)):=Lib.hid (HG8.out.setCell _ _ Hxb.out.2.2 Hxb.out.2.1)
   have u5:=HX8.out.cell 5
   have uf:=HX8.out.free
   simp at u5
   go_upto_region 9 with fail
   generalize w8.setCell ⟨xb,5,none⟩ (.slice a8 ll c8)=w9 at *
   clear hk9 u5 uf HN8 HX8 HK8 HR8 HG8
   have c6:=HR.out.set6w (x1':=.bool ps) (x2':=.int .u64 (ph:Int)) (x3':=.int .u64 (pl:Int)) (x4':=.int .i64 pn) (x5':=.slice a1 K.length c1) (x6':=.slice a8 ll c8)
   have HPf:Hid (PoolV ((((((w9.setCell ⟨rb,0,none⟩ (.bool ps)).setCell ⟨rb,1,none⟩ (.int .u64 (ph:Int))).setCell ⟨rb,2,none⟩ (.int .u64 (pl:Int))).setCell ⟨rb,3,none⟩ (.int .i64 pn)).setCell ⟨rb,4,none⟩ (.slice a1 K.length c1)).setCell ⟨rb,5,none⟩ (.slice a8 ll c8)) w.heap.size (.agg #[.bool ps, .int .u64 (ph:Int), .int .u64 (pl:Int), .int .i64 pn, .slice a1 K.length c1, .slice a8 ll c8]) (ps,ph,pl,pn) (K) (L ++ [(ky,(gs,gh,gl,gn))])):=Lib.hid (PoolV.weak ⟨a1,c1,a8,c8,by rw [Hll.out] <;> rfl,HK.out.farC Hrb.out.1 0 [.bool ps, .int .u64 (ph:Int), .int .u64 (pl:Int), .int .i64 pn, .slice a1 K.length c1, .slice a8 ll c8],by rw [Hll.out];exact HL.out.farC Hrb.out.1 0 [.bool ps, .int .u64 (ph:Int), .int .u64 (pl:Int), .int .i64 pn, .slice a1 K.length c1, .slice a8 ll c8]⟩ Hrb.out.2.1)
   have HGf:Hid (Gen b w ((((((w9.setCell ⟨rb,0,none⟩ (.bool ps)).setCell ⟨rb,1,none⟩ (.int .u64 (ph:Int))).setCell ⟨rb,2,none⟩ (.int .u64 (pl:Int))).setCell ⟨rb,3,none⟩ (.int .i64 pn)).setCell ⟨rb,4,none⟩ (.slice a1 K.length c1)).setCell ⟨rb,5,none⟩ (.slice a8 ll c8)) (m + 100)):=Lib.hid (by
    repeat refine Gen.setCell ?_ _ _ Hrb.out.2.2.1 Hrb.out.2.2.2
    exact HG.out.mono (by omega))
   have z0:=c6.cell 0
   have z1:=c6.cell 1
   have z2:=c6.cell 2
   have z3:=c6.cell 3
   have z4:=c6.cell 4
   have z5:=c6.cell 5
   simp at z0 z1 z2 z3 z4 z5
   clear c6
   have p0:=HX.out.cell 0
   have p1:=HX.out.cell 1
   have p2:=HX.out.cell 2
   have p3:=HX.out.cell 3
   have p4:=HX.out.cell 4
   have p5:=HX.out.cell 5
   simp at p0 p1 p2 p3 p4 p5
   have r0:=HR.out.cell 0
   have r1:=HR.out.cell 1
   have r2:=HR.out.cell 2
   have r3:=HR.out.cell 3
   have r4:=HR.out.cell 4
   have r5:=HR.out.cell 5
   simp at r0 r1 r2 r3 r4 r5
   have rf:=HR.out.free
   clear HR HX HK HL HG
   go_wp2_with fail
   refine bodyPost_ret (v:=.agg #[.bool ps, .int .u64 (ph:Int), .int .u64 (pl:Int), .int .i64 pn, .slice a1 K.length c1, .slice a8 ll c8]) (by simp [results,Tryz.results5,go_sem, *]) rfl ⟨_,(ps,ph,pl,pn),K,L ++ [(ky,(gs,gh,gl,gn))],rfl,HPf.out,⟨HU.out.1,HU.out.2.1,HU.out.2.2.1,fun x hx => (List.mem_append.1 hx).elim (HU.out.2.2.2.1 x) (fun h => by rw [List.mem_singleton.1 h];exact ⟨HUq.out.1,Hky.out⟩),by rw [Hll.out,Hl1.out];have:=HU.out.2.2.2.2;omega⟩,HGf.out⟩
theorem leaseKey_gen (b m:Nat) (w:World) (h:Strm w b m) (hm:m + 10 < 1099511627776) :
  Calls Tryz.prog 6 #[.pointer (some ⟨b,0,none⟩)] w fun e w' => ∃ ky:List UInt8,e=.returned (.string (strL ky))∧ky.length≤1000∧Gen b w w' (m + 1):=by
 have hblt:=h.lt
 have HR:Hid (Calls Tryz.prog 34 #[.string ⟨#[107]⟩, .int .i64 40] w (Ret (.string ⟨(Lib.repeatL [107] 40).toArray⟩) w)):=Lib.hid (Tryz.strings_Repeat ⟨#[107]⟩ 40 w (by decide) (by decide))
 have HRl:Hid ((Lib.repeatL [107] 40).length≤1000):=Lib.hid (by decide)
 have HS:=Lib.hid h
 clear h
 generalize Lib.repeatL [107] 40=RL at *
 go_enter Tryz.func6,Tryz.ntmps6
 go_wp2_with fail
 refine HR.out.mono ?_
 rintro e w1 ⟨rfl,hb⟩
 have HG1:Hid (Gen b w w1 m):=Lib.hid ((Gen.start HS.out).below0 hb hblt)
 have HSt:=Lib.hid (rdStr_new w1 9 [⟨#[120]⟩,⟨#[110,111,100,101,45,49]⟩,⟨#[108,101]⟩,⟨#[108,97]⟩,⟨#[]⟩,⟨#[65]⟩,⟨RL.toArray⟩] _ rfl)
 clear hb HR
 go_wp2_with fail
 refine (some_gen b m w1.heap.size 7 [⟨#[120]⟩,⟨#[110,111,100,101,45,49]⟩,⟨#[108,101]⟩,⟨#[108,97]⟩,⟨#[]⟩,⟨#[65]⟩,⟨RL.toArray⟩] _ (HG1.out.s.alloc _) (by omega) rfl (by omega) HSt.out (by have:=HG1.out.s.lt;omega)).mono ?_
 rintro e w2 ⟨ks,rfl,hks,hg⟩
 have hkl:ks.data.toList.length≤1000:=by
  simp only [List.mem_cons,List.not_mem_nil,or_false] at hks
  rcases hks with rfl | rfl | rfl | rfl | rfl | rfl | rfl
  all_goals first | exact HRl.out | decide
 have HK:=Lib.hid hkl
 have HG2:Hid (Gen b w w2 (m + 1)):=Lib.hid ((HG1.out.alloc _).trans hg)
 clear hks hkl hg HSt
 go_wp2_with fail
 go_ret
 exact ⟨ks.data.toList,by rw [strL_of] <;> rfl,HK.out,HG2.out⟩
def takO (best:Bool) (P:Pf) (K:List Pf) (L:List Ls) (key:List UInt8) (n:Int):Option Pf:=if keyF P K L key ≠ 0 then none else if outP P n=true then none else chP best n (freeL P K L)
def takF (best:Bool) (P:Pf) (K:List Pf) (L:List Ls) (key:List UInt8) (n:Int):Int:=if keyF P K L key ≠ 0 then keyF P K L key else if outP P n=true then 1 else if (chP best n (freeL P K L)).isSome=true then 0 else 12
theorem keyF_zero {P:Pf} {K:List Pf} {L:List Ls} {key:List UInt8} (h:keyF P K L key=0):poolF P K L=0∧keyQ L key=0:=by
 unfold keyF at h
 by_cases h1:poolF P K L ≠ 0
 ·rw [if_pos h1] at h;exact absurd h h1
 ·rw [if_neg h1] at h
  exact ⟨Decidable.not_not.1 h1,h⟩
theorem aptake_any (best:Bool) (P:Pf) (ka la:Option Addr) (kn kc ln lc:Nat) (K:List Pf) (L:List Ls) (key:List UInt8) (n:Int) (w:World) (hK:RdK layPf w ka K) (hL:RdK layLs w la L) (hkn:K.length=kn) (hln:L.length=ln) (hs:kn + ln≤7) (hlc:ln≤lc) (huP:u2P P) (huK:U4 K) (huL:UL L) (hky:key.length≤1000) :
  Calls Tryz.prog 37 #[.agg (plC P (.slice ka kn kc) (.slice la ln lc)).toArray, .string (strL key), .int .i64 n, .bool best] w fun e w' => ∃ v,e=.returned (.tuple #[v, .agg (pfC (gotX (takO best P K L key n) n)).toArray, .int .i64 (takF best P K L key n)])∧PoolV w' w.heap.size v (gotP (takO best P K L key n) P) (gotK (takO best P K L key n) K) (gotL (takO best P K L key n) L key n)∧Below w.heap.size w w':=by
 have HKy:=Lib.hid fun wx (hk:RdK layPf wx ka K) (hl:RdK layLs wx la L) => akeyFault_any P ka la kn kc ln lc K L key wx hk hl hkn hln (by omega) (by omega) hlc huP huK huL hky
 have HCh:=Lib.hid fun (hz:keyF P K L key=0) wx (hk:RdK layPf wx ka K) (hl:RdK layLs wx la L) => achoose_any best P ka la kn kc ln lc K L n wx hk hl hkn hln hs (poolF_ok (keyF_zero hz).1 huP huK huL).1 (poolF_ok (keyF_zero hz).1 huP huK huL).2.2.2
 have HLd0:=Lib.hid fun x wx (hk:RdK layPf wx ka K) (hl:RdK layLs wx la L) => aleased_any P ka la kn kc ln lc K L key x wx hk hl hkn hln (by omega) (by omega)
 have HBd:Hid (keyF P K L key=0→0≤P.2.2.2∧P.2.2.2≤128):=Lib.hid fun hz => by
  obtain ⟨nb,hnb,hnl⟩:=okPf_bits (poolF_ok (keyF_zero hz).1 huP huK huL).1
  omega
 have H1:Hid (keyF P K L key ≠ 0→takO best P K L key n=none∧takF best P K L key n=keyF P K L key):=Lib.hid fun h => ⟨by unfold takO;rw [if_pos h],by unfold takF;rw [if_pos h]⟩
 have H2:Hid (keyF P K L key=0→outP P n=true→takO best P K L key n=none∧takF best P K L key n=1):=Lib.hid fun h h2 => ⟨by unfold takO;rw [if_neg (by rw [h];decide),if_pos h2],by unfold takF;rw [if_neg (by rw [h];decide),if_pos h2]⟩
 have H3:Hid (keyF P K L key=0→outP P n=false→takO best P K L key n=chP best n (freeL P K L)∧takF best P K L key n=if (chP best n (freeL P K L)).isSome=true then 0 else 12):=Lib.hid fun h h2 => ⟨by unfold takO;rw [if_neg (by rw [h];decide),if_neg (by rw [h2];decide)],by unfold takF;rw [if_neg (by rw [h];decide),if_neg (by rw [h2];decide)]⟩
 have HOo:Hid (outP P n=outB n P.2.2.2 (min ((lenN P.1:Nat):Int) (P.2.2.2 + 20))):=Lib.hid rfl
 have hl2:¬ ((ln:Nat):Int) ≥ 200:=by omega
 generalize takO best P K L key n=o at *
 generalize takF best P K L key n=F at *
 generalize keyF P K L key=KF at *
 generalize outP P n=OP at *
 generalize chP best n (freeL P K L)=ch at *
 clear huP huK huL hkn hln hky
 obtain ⟨ps,ph,pl,pn⟩:=P
 rw [show (plC (ps,ph,pl,pn) (.slice ka kn kc) (.slice la ln lc)).toArray=#[.bool ps, .int .u64 (ph:Int), .int .u64 (pl:Int), .int .i64 pn, .slice ka kn kc, .slice la ln lc] from rfl] at *
 simp only at HOo HBd
 have hB01:Below w.heap.size w (((w.alloc (.cells #[.bool ps, .int .u64 (ph:Int), .int .u64 (pl:Int), .int .i64 pn, .slice ka kn kc, .slice la ln lc] 34 (0,0))).alloc (.cells #[.bool false, .int .u64 0, .int .u64 0, .int .i64 0, .slice none 0 0, .slice none 0 0] 34 (0,0))).alloc (.cells #[.bool false, .int .u64 0, .int .u64 0, .int .i64 0] 30 (0,0))):=below_alloc (below_alloc (below_alloc (Below.refl _ _) _) _) _
 have HB01:=Lib.hid hB01
 have HKw:=Lib.hid hK
 have HLw:=Lib.hid hL
 have HQ0:Hid (Blk (((w.alloc (.cells #[.bool ps, .int .u64 (ph:Int), .int .u64 (pl:Int), .int .i64 pn, .slice ka kn kc, .slice la ln lc] 34 (0,0))).alloc (.cells #[.bool false, .int .u64 0, .int .u64 0, .int .i64 0, .slice none 0 0, .slice none 0 0] 34 (0,0))).alloc (.cells #[.bool false, .int .u64 0, .int .u64 0, .int .i64 0] 30 (0,0))) w.heap.size 34 #[.bool ps, .int .u64 (ph:Int), .int .u64 (pl:Int), .int .i64 pn, .slice ka kn kc, .slice la ln lc]):=Lib.hid (((Blk.new w _ _).alloc _).alloc _)
 have HR1:Hid (Blk (((w.alloc (.cells #[.bool ps, .int .u64 (ph:Int), .int .u64 (pl:Int), .int .i64 pn, .slice ka kn kc, .slice la ln lc] 34 (0,0))).alloc (.cells #[.bool false, .int .u64 0, .int .u64 0, .int .i64 0, .slice none 0 0, .slice none 0 0] 34 (0,0))).alloc (.cells #[.bool false, .int .u64 0, .int .u64 0, .int .i64 0] 30 (0,0))) (w.heap.size + 1) 34 #[.bool false, .int .u64 0, .int .u64 0, .int .i64 0, .slice none 0 0, .slice none 0 0]):=Lib.hid (by
  have this:=(Blk.new (w.alloc (.cells #[.bool ps, .int .u64 (ph:Int), .int .u64 (pl:Int), .int .i64 pn, .slice ka kn kc, .slice la ln lc] 34 (0,0))) 34 #[.bool false, .int .u64 0, .int .u64 0, .int .i64 0, .slice none 0 0, .slice none 0 0]).alloc (.cells #[.bool false, .int .u64 0, .int .u64 0, .int .i64 0] 30 (0,0))
  rw [World.size_alloc] at this
  exact this)
 have HR2:Hid (Blk (((w.alloc (.cells #[.bool ps, .int .u64 (ph:Int), .int .u64 (pl:Int), .int .i64 pn, .slice ka kn kc, .slice la ln lc] 34 (0,0))).alloc (.cells #[.bool false, .int .u64 0, .int .u64 0, .int .i64 0, .slice none 0 0, .slice none 0 0] 34 (0,0))).alloc (.cells #[.bool false, .int .u64 0, .int .u64 0, .int .i64 0] 30 (0,0))) (w.heap.size + 1 + 1) 30 #[.bool false, .int .u64 0, .int .u64 0, .int .i64 0]):=Lib.hid (by
  have this:=Blk.new ((w.alloc (.cells #[.bool ps, .int .u64 (ph:Int), .int .u64 (pl:Int), .int .i64 pn, .slice ka kn kc, .slice la ln lc] 34 (0,0))).alloc (.cells #[.bool false, .int .u64 0, .int .u64 0, .int .i64 0, .slice none 0 0, .slice none 0 0] 34 (0,0))) 30 #[.bool false, .int .u64 0, .int .u64 0, .int .i64 0]
  rw [World.size_alloc,World.size_alloc] at this
  exact this)
 clear hK hL hB01
 go_enter Tryz.func37,Tryz.ntmps37
 go_upto_region 1 with fail
 generalize (((w.alloc (.cells #[.bool ps, .int .u64 (ph:Int), .int .u64 (pl:Int), .int .i64 pn, .slice ka kn kc, .slice la ln lc] 34 (0,0))).alloc (.cells #[.bool false, .int .u64 0, .int .u64 0, .int .i64 0, .slice none 0 0, .slice none 0 0] 34 (0,0))).alloc (.cells #[.bool false, .int .u64 0, .int .u64 0, .int .i64 0] 30 (0,0)))=w1 at *
 obtain ⟨pb,hpb⟩:∃ q,w.heap.size=q:=⟨_,rfl⟩
 have Hpw:Hid (w.heap.size≤pb):=Lib.hid (by omega)
 rw [hpb] at HQ0 HR1 HR2 ⊢
 clear hpb
 have p0:=HQ0.out.cell 0
 have p1:=HQ0.out.cell 1
 have p2:=HQ0.out.cell 2
 have p3:=HQ0.out.cell 3
 have p4:=HQ0.out.cell 4
 have p5:=HQ0.out.cell 5
 simp at p0 p1 p2 p3 p4 p5
 go_wp2_with fail
 refine (HKy.out _ (HKw.out.below HB01.out) (HLw.out.below HB01.out)).mono ?_
 rintro e w2 ⟨rfl,hb⟩
 have HQ2:=Lib.hid (HQ0.out.below hb HQ0.out.lt)
 have HR12:=Lib.hid (HR1.out.below hb HR1.out.lt)
 have HR22:=Lib.hid (HR2.out.below hb HR2.out.lt)
 have HB:=Lib.hid (HB01.out.trans (hb.mono HB01.out.size))
 clear hb HKy p0 p1 p2 p3 p4 p5 HQ0 HR1 HR2
 by_cases h0:KF=0
 ·have hbd:=HBd.out h0
  obtain ⟨hb0,hb1⟩:=hbd
  replace HCh:=Lib.hid (HCh.out h0)
  replace H2:=Lib.hid (H2.out h0)
  replace H3:=Lib.hid (H3.out h0)
  subst h0
  clear H1 HBd
  have HLe:=Lib.hid fun wx => length_any ps ph pl wx
  unfold vA at HLe
  have hln:=lenN_le ps
  generalize hlp:lenN ps=lp at *
  have p0:=HQ2.out.cell 0
  have p1:=HQ2.out.cell 1
  have p2:=HQ2.out.cell 2
  have p3:=HQ2.out.cell 3
  simp at p0 p1 p2 p3
  have l0:=Later.cell_of p0
  have l1:=Later.cell_of p1
  have l2:=Later.cell_of p2
  have l3:=Later.cell_of p3
  have hL:=fun x:Later w2 => Calls.later x (HLe.out x.1)
  have HI:Hid (∀ wx,Calls Tryz.prog 95 #[.int .i64 n, .int .i64 pn, .int .i64 (min (lp:Int) (pn + 20))] wx (Ret (.bool OP) wx)):=Lib.hid fun wx => by
   rw [HOo.out]
   exact (outside_any n pn (min (lp:Int) (pn + 20)) wx).mono fun e w' ⟨he,hw⟩ => ⟨he,hw ▸ Below.refl _ _⟩
  have hI:=fun x:Later w2 => Calls.later x (HI.out x.1)
  clear p0 p1 p2 p3 HLe hlp HI HOo
  go_upto_region 4 with fail
  refine wp_region_later (by kernel_rfl) (by kernel_rfl) ?_
  iterate 7 (go_big_quiet_step (fail))
  go_big_quiet_step ((go_at_call 62;exact hL _))
  iterate 5 (go_big_quiet_step (fail))
  go_big_quiet_step ((go_at_call 95;exact hI _))
  repeat (go_big_quiet_step (fail))
  refine wpQuiet_nil ?_
  rintro wr ⟨n5,hn5⟩
  have hb:Below w2.heap.size w2 wr:=by rw [hn5];exact n5.2
  clear hn5 n5 hL hI l0 l1 l2 l3
  have HQx:=Lib.hid (HQ2.out.below hb HQ2.out.lt)
  have HR1x:=Lib.hid (HR12.out.below hb HR12.out.lt)
  have HR2x:=Lib.hid (HR22.out.below hb HR22.out.lt)
  have HBx:=Lib.hid (HB.out.trans (hb.mono HB.out.size))
  clear hb HQ2 HR12 HR22 HB
  cases OP
  ·obtain ⟨ho,hF⟩:=H3.out rfl
   have HOx:=Lib.hid ho
   have HFx:=Lib.hid hF
   clear ho hF H2 H3
   have p0:=HQx.out.cell 0
   have p1:=HQx.out.cell 1
   have p2:=HQx.out.cell 2
   have p3:=HQx.out.cell 3
   have p4:=HQx.out.cell 4
   have p5:=HQx.out.cell 5
   simp at p0 p1 p2 p3 p4 p5
   go_wp2_with fail
   refine (HCh.out _ (HKw.out.below HBx.out) (HLw.out.below HBx.out)).mono ?_
   rintro e w4 ⟨rfl,hb⟩
   have HQ3:=Lib.hid (HQx.out.below hb HQx.out.lt)
   have HR13:=Lib.hid (HR1x.out.below hb HR1x.out.lt)
   have HR23:=Lib.hid (HR2x.out.below hb HR2x.out.lt)
   have HB3:=Lib.hid (HBx.out.trans (hb.mono HBx.out.size))
   clear hb HQx HR1x HR2x HBx HCh p0 p1 p2 p3 p4 p5
   have HXb:Hid (pb + 1 + 1 < w4.heap.size):=Lib.hid HR23.out.lt
   cases ch with
   | none =>
     rw [show (pfC (atP none n)).toArray=#[.bool false, .int .u64 ((0:Nat):Int), .int .u64 ((0:Nat):Int), .int .i64 n] from rfl,show (none:Option Pf).isSome=false from rfl]
     have hb4:Below w4.heap.size w4 (w4.alloc (.cells #[.bool false, .int .u64 ((0:Nat):Int), .int .u64 ((0:Nat):Int), .int .i64 n] 30 (0,0))):=below_alloc (Below.refl _ _) _
     have HR1:=Lib.hid (HR13.out.below hb4 HR13.out.lt)
     have HR2:=Lib.hid (HR23.out.below hb4 HR23.out.lt)
     have HB:=Lib.hid (HB3.out.trans (hb4.mono HB3.out.size))
     have HE:=HOx
     clear hb4
     go_upto_region 7 with fail
     generalize w4.alloc (.cells #[.bool false, .int .u64 ((0:Nat):Int), .int .u64 ((0:Nat):Int), .int .i64 n] 30 (0,0))=wr at *
     clear HR13 HR23 HB3 HQ3
     have c6:=HR1.out.set6w (x1':=.bool false) (x2':=.int .u64 0) (x3':=.int .u64 0) (x4':=.int .i64 0) (x5':=.slice none 0 0) (x6':=.slice none 0 0)
     have c6b:=HR2.out.far6w (show pb + 1 + 1 ≠ pb + 1 by omega) (x1':=.bool false) (x2':=.int .u64 0) (x3':=.int .u64 0) (x4':=.int .i64 0) (x5':=.slice none 0 0) (x6':=.slice none 0 0)
     have c4:=c6b.set4w (x':=.bool false) (y':=.int .u64 0) (z':=.int .u64 0) (u':=.int .i64 0)
     have c6c:=c6.far4w (show pb + 1 ≠ pb + 1 + 1 by omega) (x':=.bool false) (y':=.int .u64 0) (z':=.int .u64 0) (u':=.int .i64 0)
     have b0:=c6b.cell 0
     have b1:=c6b.cell 1
     have b2:=c6b.cell 2
     have b3:=c6b.cell 3
     have bf:=c6b.free
     have z0:=c6c.cell 0
     have z1:=c6c.cell 1
     have z2:=c6c.cell 2
     have z3:=c6c.cell 3
     have z4:=c6c.cell 4
     have z5:=c6c.cell 5
     have y0:=c4.cell 0
     have y1:=c4.cell 1
     have y2:=c4.cell 2
     have y3:=c4.cell 3
     simp at b0 b1 b2 b3 z0 z1 z2 z3 z4 z5 y0 y1 y2 y3
     clear c6 c6b c4 c6c
     have r0:=HR1.out.cell 0
     have r1:=HR1.out.cell 1
     have r2:=HR1.out.cell 2
     have r3:=HR1.out.cell 3
     have r4:=HR1.out.cell 4
     have r5:=HR1.out.cell 5
     simp at r0 r1 r2 r3 r4 r5
     have rf:=HR1.out.free
     have HBf:Hid (Below w.heap.size w ((((((((((wr.setCell ⟨pb + 1,0,none⟩ (.bool false)).setCell ⟨pb + 1,1,none⟩ (.int .u64 0)).setCell ⟨pb + 1,2,none⟩ (.int .u64 0)).setCell ⟨pb + 1,3,none⟩ (.int .i64 0)).setCell ⟨pb + 1,4,none⟩ (.slice none 0 0)).setCell ⟨pb + 1,5,none⟩ (.slice none 0 0)).setCell ⟨pb + 1 + 1,0,none⟩ (.bool false)).setCell ⟨pb + 1 + 1,1,none⟩ (.int .u64 0)).setCell ⟨pb + 1 + 1,2,none⟩ (.int .u64 0)).setCell ⟨pb + 1 + 1,3,none⟩ (.int .i64 0))):=Lib.hid ((HB.out.grown (grown_setCells (pb + 1) [.bool false, .int .u64 0, .int .u64 0, .int .i64 0, .slice none 0 0, .slice none 0 0] 0 wr) HB.out.size (fun j hj => by injection hj with hj;have:=Hpw.out;omega)).grown (grown_setCells (pb + 1 + 1) [.bool false, .int .u64 0, .int .u64 0, .int .i64 0] 0 ((((((wr.setCell ⟨pb + 1,0,none⟩ (.bool false)).setCell ⟨pb + 1,1,none⟩ (.int .u64 0)).setCell ⟨pb + 1,2,none⟩ (.int .u64 0)).setCell ⟨pb + 1,3,none⟩ (.int .i64 0)).setCell ⟨pb + 1,4,none⟩ (.slice none 0 0)).setCell ⟨pb + 1,5,none⟩ (.slice none 0 0))) (Nat.le_trans HB.out.size (by rw [size_setCellsR];exact Nat.le_refl _)) (fun j hj => by injection hj with hj;have:=Hpw.out;omega))
     go_wp2_with fail
     refine bodyPost_ret (v:=.tuple #[.agg #[.bool false, .int .u64 0, .int .u64 0, .int .i64 0, .slice none 0 0, .slice none 0 0], .agg #[.bool false, .int .u64 0, .int .u64 0, .int .i64 0], .int .i64 12]) (by simp [results,Tryz.results37,go_sem, *]) rfl ⟨_,by rw [HE.out,HFx.out] <;> rfl,by rw [HE.out];exact (poolV_zero _ _),HBf.out⟩
   | some f =>
     obtain ⟨f1,f2,f3,f4⟩:=f
     rw [show (pfC (atP (some (f1,f2,f3,f4)) n)).toArray=#[.bool f1, .int .u64 (f2:Int), .int .u64 (f3:Int), .int .i64 n] from rfl,show (some (f1,f2,f3,f4)).isSome=true from rfl]
     have hb4:Below w4.heap.size w4 (w4.alloc (.cells #[.bool f1, .int .u64 (f2:Int), .int .u64 (f3:Int), .int .i64 n] 30 (0,0))):=below_alloc (Below.refl _ _) _
     have HX3:Hid (Blk (w4.alloc (.cells #[.bool f1, .int .u64 (f2:Int), .int .u64 (f3:Int), .int .i64 n] 30 (0,0))) w4.heap.size 30 #[.bool f1, .int .u64 (f2:Int), .int .u64 (f3:Int), .int .i64 n]):=Lib.hid (Blk.new w4 _ _)
     replace HQ3:=Lib.hid (HQ3.out.below hb4 HQ3.out.lt)
     have HR1:=Lib.hid (HR13.out.below hb4 HR13.out.lt)
     have HR2:=Lib.hid (HR23.out.below hb4 HR23.out.lt)
     replace HB3:=Lib.hid (HB3.out.trans (hb4.mono HB3.out.size))
     have hk4:(w4.alloc (.cells #[.bool f1, .int .u64 (f2:Int), .int .u64 (f3:Int), .int .i64 n] 30 (0,0))).heap.size=w4.heap.size + 1:=World.size_alloc _ _
     have HE:=HOx
     clear hb4
     go_upto_region 7 with fail
     generalize w4.alloc (.cells #[.bool f1, .int .u64 (f2:Int), .int .u64 (f3:Int), .int .i64 n] 30 (0,0))=w5 at *
     obtain ⟨xb,hxb⟩:∃ q,w4.heap.size=q:=⟨_,rfl⟩
     rw [hxb] at HX3 HXb hk4 ⊢
     have Hb2:Hid (pb + 1 + 1 < w5.heap.size):=Lib.hid (by have:=HXb.out;omega)
     clear hxb hk4 HR13 HR23
     have HLd:=Lib.hid fun wx hk hl => HLd0.out (f1,f2,f3,n) wx hk hl
     rw [show (pfC (f1,f2,f3,n)).toArray=#[.bool f1, .int .u64 (f2:Int), .int .u64 (f3:Int), .int .i64 n] from rfl] at HLd
     obtain ⟨LL,hLL⟩:∃ q,leasedL L key (f1,f2,f3,n)=q:=⟨_,rfl⟩
     have HLL:=Lib.hid hLL
     rw [hLL] at HLd
     clear hLL HLd0
     have p5:=HQ3.out.cell 5
     simp at p5
     go_upto_region 9 with fail
     clear p5
     have hbs:pb + 1 < w5.heap.size:=HR1.out.lt
     have hC3:lrC w pb xb (pb + 1) #[.bool ps, .int .u64 (ph:Int), .int .u64 (pl:Int), .int .i64 pn, .slice ka kn kc, .slice la ln lc] #[.bool f1, .int .u64 (f2:Int), .int .u64 (f3:Int), .int .i64 n] w5.heap.size (ps,ph,pl,pn) K LL 0 w5:=⟨HB3.out,Nat.le_refl _,HQ3.out,HX3.out,HR2.out,_,HR1.out,rfl,fun h => by cases h⟩
     have HC3:=Lib.hid hC3
     have Hbs:=Lib.hid hbs
     have Hxb:Hid (pb + 1 < xb):=Lib.hid (by have:=HXb.out;omega)
     clear hC3 hbs HB3 HQ3 HX3 HR1 HR2
     refine Lm.wp_region_lim 6 1 (lrR #[.bool ps, .int .u64 (ph:Int), .int .u64 (pl:Int), .int .i64 pn, .slice ka kn kc, .slice la ln lc] #[.bool f1, .int .u64 (f2:Int), .int .u64 (f3:Int), .int .i64 n] (.string (strL key)) w5.heap.size (ps,ph,pl,pn) K LL) (lrC w pb xb (pb + 1) #[.bool ps, .int .u64 (ph:Int), .int .u64 (pl:Int), .int .i64 pn, .slice ka kn kc, .slice la ln lc] #[.bool f1, .int .u64 (f2:Int), .int .u64 (f3:Int), .int .i64 n] w5.heap.size (ps,ph,pl,pn) K LL) (lrS (pb + 1)) (fun i => if i=5 then 1 else 0) (fun i => if i=4 then 1 else 0)
      (by kernel_rfl) (by kernel_rfl) (by decide) (by kernel_rfl) (lrR_keep Hbs.out) (lrC.later HC3.out (below_drew (Below.refl _ _))) ?hX
     case' hX => (apply Exists.intro;refine ⟨fun T => ?hA,?hob,?hend⟩)
     case hA =>
      simp only [setAll,List.take_succ_cons,List.take_zero,Act.put,List.setIfInBounds_toArray,List.set_cons_succ,List.set_cons_zero,Nat.reduceAdd]
      exact rfl
     case hob =>
      clear HE HFx HOx
      go_light
      refine ⟨?_,?_,?_,?_,?_,?_,trivial⟩
      all_goals (intro T wx n0 hC hn hp;dsimp only at hn ⊢)
      ·have hn1:n0≤1:=by simp at hn;omega
       have hS:lrS (pb + 1) n0 wx n0 wx:=⟨Nat.le_refl _,hn1,KeepX.refl _ _⟩
       have q:=hC.2.2.1
       have e0:=q.cell 0
       have e1:=q.cell 1
       have e2:=q.cell 2
       have e3:=q.cell 3
       have e4:=q.cell 4
       have e5:=q.cell 5
       simp at e0 e1 e2 e3 e4 e5
       clear q
       unfold Op1
       go_simp
       first | exact ⟨rfl,hC,hS⟩ | exact ⟨rfl,hS⟩ | exact ⟨hC,hS⟩ | exact rfl | exact hS
      ·have hn1:n0≤1:=by simp at hn;omega
       have hS:lrS (pb + 1) n0 wx n0 wx:=⟨Nat.le_refl _,hn1,KeepX.refl _ _⟩
       unfold Op1
       go_simp
       first | exact ⟨rfl,hC,hS⟩ | exact ⟨rfl,hS⟩ | exact ⟨hC,hS⟩ | exact rfl | exact hS
      ·have hn1:n0≤1:=by simp at hn;omega
       have hS:lrS (pb + 1) n0 wx n0 wx:=⟨Nat.le_refl _,hn1,KeepX.refl _ _⟩
       have q:=hC.2.2.2.1
       have e0:=q.cell 0
       have e1:=q.cell 1
       have e2:=q.cell 2
       have e3:=q.cell 3
       simp at e0 e1 e2 e3
       clear q
       unfold Op1
       go_simp
       first | exact ⟨rfl,hC,hS⟩ | exact ⟨rfl,hS⟩ | exact ⟨hC,hS⟩ | exact rfl | exact hS
      ·have hn1:n0≤1:=by simp at hn;omega
       obtain ⟨h0,h1,h2, -⟩:=hp
       have h0:T 0=.agg #[.bool ps, .int .u64 (ph:Int), .int .u64 (pl:Int), .int .i64 pn, .slice ka kn kc, .slice la ln lc]:=h0
       have h1:T 1=.string (strL key):=h1
       have h2:T 2=.agg #[.bool f1, .int .u64 (f2:Int), .int .u64 (f3:Int), .int .i64 n]:=h2
       unfold Op1
       go_simp
       refine (HLd.out wx (HKw.out.below hC.1) (HLw.out.below hC.1)).mono ?_
       rintro e w5 ⟨v,rfl,hV,hb⟩
       exact ⟨_,rfl,hV.weak hC.2.1,hC.later hb,Nat.le_refl _,hn1,KeepX.of_below hb⟩
      ·have hn1:n0≤1:=by simp at hn;omega
       have hS:lrS (pb + 1) n0 wx n0 wx:=⟨Nat.le_refl _,hn1,KeepX.refl _ _⟩
       have q:=hC.2.2.2.1
       have e0:=q.cell 0
       have e1:=q.cell 1
       have e2:=q.cell 2
       have e3:=q.cell 3
       simp at e0 e1 e2 e3
       clear q
       unfold Op1
       go_simp
       first | exact ⟨rfl,hC,hS⟩ | exact ⟨rfl,hS⟩ | exact ⟨hC,hS⟩ | exact rfl | exact hS
      ·obtain rfl:n0=0:=by simpa using hn
       obtain ⟨h3, -⟩:=hp
       have h3:PoolV wx w5.heap.size (T 3) (ps,ph,pl,pn) K LL:=h3
       obtain ⟨a1,c1,a2,c2,e,q1,q2⟩:=h3
       have hV:PoolV wx w5.heap.size (.agg #[.bool ps, .int .u64 (ph:Int), .int .u64 (pl:Int), .int .i64 pn, .slice a1 K.length c1, .slice a2 LL.length c2]) (ps,ph,pl,pn) K LL:=⟨a1,c1,a2,c2,rfl,q1,q2⟩
       obtain ⟨cs,hb1,hsz, -⟩:=hC.2.2.2.2.2
       refine Op1.store_rowQ 34 (.tmp 8) (.tmp 58) rfl (pb + 1) #[.bool ps, .int .u64 (ph:Int), .int .u64 (pl:Int), .int .i64 pn, .slice a1 K.length c1, .slice a2 LL.length c2] rfl e 34 cs hb1 size_pool hsz (all_pool ps ph pl pn a1 a2 K.length c1 LL.length c2) ?_
       exact ⟨rfl,hC.store _ rfl hV Hbs.out (by have:=Hpw.out;omega) (by omega) (by have:=Hxb.out;omega),by simp,by simp,KeepX.setRow _ _ _⟩
     case hend =>
      intro T w4 ⟨n0,hn0,hC,hR⟩
      have h5:n0=1:=hR 5 (by omega)
      subst h5
      have hT4:T 4=.agg #[.bool f1, .int .u64 (f2:Int), .int .u64 (f3:Int), .int .i64 n]:=hR 4 (by omega)
      obtain ⟨hB4,hbs4, -, -,hR24,cs,hR14, -,hV⟩:=hC
      obtain ⟨a1,c1,a2,c2,e,q1,q2⟩:=hV rfl
      injection e with e
      subst e
      have HR1:Hid (Blk w4 (pb + 1) 34 #[.bool ps, .int .u64 (ph:Int), .int .u64 (pl:Int), .int .i64 pn, .slice a1 K.length c1, .slice a2 LL.length c2]):=Lib.hid hR14
      have HR2:=Lib.hid hR24
      have HB:=Lib.hid hB4
      have HOK:=Lib.hid q1
      have HOL:=Lib.hid q2
      clear hR hV q1 q2 hR14 hR24 hB4 hbs4 HC3 HLd
      simp only [List.drop_succ_cons,List.drop_zero]
      rw [hT4]
      have c4:=HR2.out.set4w (x':=.bool f1) (y':=.int .u64 (f2:Int)) (z':=.int .u64 (f3:Int)) (u':=.int .i64 n)
      have c6:=HR1.out.far4w (show pb + 1 ≠ pb + 1 + 1 by omega) (x':=.bool f1) (y':=.int .u64 (f2:Int)) (z':=.int .u64 (f3:Int)) (u':=.int .i64 n)
      have z0:=c6.cell 0
      have z1:=c6.cell 1
      have z2:=c6.cell 2
      have z3:=c6.cell 3
      have z4:=c6.cell 4
      have z5:=c6.cell 5
      have y0:=c4.cell 0
      have y1:=c4.cell 1
      have y2:=c4.cell 2
      have y3:=c4.cell 3
      simp at z0 z1 z2 z3 z4 z5 y0 y1 y2 y3
      clear c4 c6
      have r0:=HR2.out.cell 0
      have r1:=HR2.out.cell 1
      have r2:=HR2.out.cell 2
      have r3:=HR2.out.cell 3
      simp at r0 r1 r2 r3
      have rf:=HR2.out.free
      have HBf:Hid (Below w.heap.size w ((((w4.setCell ⟨pb + 1 + 1,0,none⟩ (.bool f1)).setCell ⟨pb + 1 + 1,1,none⟩ (.int .u64 (f2:Int))).setCell ⟨pb + 1 + 1,2,none⟩ (.int .u64 (f3:Int))).setCell ⟨pb + 1 + 1,3,none⟩ (.int .i64 n))):=Lib.hid (HB.out.grown (grown_setCells (pb + 1 + 1) [.bool f1, .int .u64 (f2:Int), .int .u64 (f3:Int), .int .i64 n] 0 w4) HB.out.size (fun j hj => by injection hj with hj;have:=Hpw.out;omega))
      have HVf:Hid (PoolV ((((w4.setCell ⟨pb + 1 + 1,0,none⟩ (.bool f1)).setCell ⟨pb + 1 + 1,1,none⟩ (.int .u64 (f2:Int))).setCell ⟨pb + 1 + 1,2,none⟩ (.int .u64 (f3:Int))).setCell ⟨pb + 1 + 1,3,none⟩ (.int .i64 n)) w.heap.size (.agg #[.bool ps, .int .u64 (ph:Int), .int .u64 (pl:Int), .int .i64 pn, .slice a1 K.length c1, .slice a2 LL.length c2]) (ps,ph,pl,pn) K LL):=Lib.hid (PoolV.weak ⟨a1,c1,a2,c2,rfl,HOK.out.farC (show pb + 1 + 1 < w5.heap.size by have:=Hb2.out;omega) 0 [.bool f1, .int .u64 (f2:Int), .int .u64 (f3:Int), .int .i64 n],HOL.out.farC (show pb + 1 + 1 < w5.heap.size by have:=Hb2.out;omega) 0 [.bool f1, .int .u64 (f2:Int), .int .u64 (f3:Int), .int .i64 n]⟩ (show w.heap.size≤w5.heap.size by have:=Hbs.out;have:=Hpw.out;omega))
      go_wp2_with fail
      refine bodyPost_ret (v:=.tuple #[.agg #[.bool ps, .int .u64 (ph:Int), .int .u64 (pl:Int), .int .i64 pn, .slice a1 K.length c1, .slice a2 LL.length c2], .agg #[.bool f1, .int .u64 (f2:Int), .int .u64 (f3:Int), .int .i64 n], .int .i64 0]) (by simp [results,Tryz.results37,go_sem, *]) rfl ⟨_,by rw [HE.out,HFx.out] <;> rfl,by rw [HE.out];show PoolV _ _ _ (ps,ph,pl,pn) K (leasedL L key (f1,f2,f3,n));rw [HLL.out];exact HVf.out,HBf.out⟩
  ·obtain ⟨ho,hF⟩:=H2.out rfl
   have HE:=Lib.hid ho
   have HFx:=Lib.hid hF
   have HR1:=HR1x
   have HR2:=HR2x
   have HB:=HBx
   clear ho hF H2 H3 HCh HLd0 HR1x HR2x HBx HQx
   have c6:=HR1.out.set6w (x1':=.bool false) (x2':=.int .u64 0) (x3':=.int .u64 0) (x4':=.int .i64 0) (x5':=.slice none 0 0) (x6':=.slice none 0 0)
   have c6b:=HR2.out.far6w (show pb + 1 + 1 ≠ pb + 1 by omega) (x1':=.bool false) (x2':=.int .u64 0) (x3':=.int .u64 0) (x4':=.int .i64 0) (x5':=.slice none 0 0) (x6':=.slice none 0 0)
   have c4:=c6b.set4w (x':=.bool false) (y':=.int .u64 0) (z':=.int .u64 0) (u':=.int .i64 0)
   have c6c:=c6.far4w (show pb + 1 ≠ pb + 1 + 1 by omega) (x':=.bool false) (y':=.int .u64 0) (z':=.int .u64 0) (u':=.int .i64 0)
   have b0:=c6b.cell 0
   have b1:=c6b.cell 1
   have b2:=c6b.cell 2
   have b3:=c6b.cell 3
   have bf:=c6b.free
   have z0:=c6c.cell 0
   have z1:=c6c.cell 1
   have z2:=c6c.cell 2
   have z3:=c6c.cell 3
   have z4:=c6c.cell 4
   have z5:=c6c.cell 5
   have y0:=c4.cell 0
   have y1:=c4.cell 1
   have y2:=c4.cell 2
   have y3:=c4.cell 3
   simp at b0 b1 b2 b3 z0 z1 z2 z3 z4 z5 y0 y1 y2 y3
   clear c6 c6b c4 c6c
   have r0:=HR1.out.cell 0
   have r1:=HR1.out.cell 1
   have r2:=HR1.out.cell 2
   have r3:=HR1.out.cell 3
   have r4:=HR1.out.cell 4
   have r5:=HR1.out.cell 5
   simp at r0 r1 r2 r3 r4 r5
   have rf:=HR1.out.free
   have HBf:Hid (Below w.heap.size w ((((((((((wr.setCell ⟨pb + 1,0,none⟩ (.bool false)).setCell ⟨pb + 1,1,none⟩ (.int .u64 0)).setCell ⟨pb + 1,2,none⟩ (.int .u64 0)).setCell ⟨pb + 1,3,none⟩ (.int .i64 0)).setCell ⟨pb + 1,4,none⟩ (.slice none 0 0)).setCell ⟨pb + 1,5,none⟩ (.slice none 0 0)).setCell ⟨pb + 1 + 1,0,none⟩ (.bool false)).setCell ⟨pb + 1 + 1,1,none⟩ (.int .u64 0)).setCell ⟨pb + 1 + 1,2,none⟩ (.int .u64 0)).setCell ⟨pb + 1 + 1,3,none⟩ (.int .i64 0))):=Lib.hid ((HB.out.grown (grown_setCells (pb + 1) [.bool false, .int .u64 0, .int .u64 0, .int .i64 0, .slice none 0 0, .slice none 0 0] 0 wr) HB.out.size (fun j hj => by injection hj with hj;have:=Hpw.out;omega)).grown (grown_setCells (pb + 1 + 1) [.bool false, .int .u64 0, .int .u64 0, .int .i64 0] 0 ((((((wr.setCell ⟨pb + 1,0,none⟩ (.bool false)).setCell ⟨pb + 1,1,none⟩ (.int .u64 0)).setCell ⟨pb + 1,2,none⟩ (.int .u64 0)).setCell ⟨pb + 1,3,none⟩ (.int .i64 0)).setCell ⟨pb + 1,4,none⟩ (.slice none 0 0)).setCell ⟨pb + 1,5,none⟩ (.slice none 0 0))) (Nat.le_trans HB.out.size (by rw [size_setCellsR];exact Nat.le_refl _)) (fun j hj => by injection hj with hj;have:=Hpw.out;omega))
   go_wp2_with fail
   refine bodyPost_ret (v:=.tuple #[.agg #[.bool false, .int .u64 0, .int .u64 0, .int .i64 0, .slice none 0 0, .slice none 0 0], .agg #[.bool false, .int .u64 0, .int .u64 0, .int .i64 0], .int .i64 1]) (by simp [results,Tryz.results37,go_sem, *]) rfl ⟨_,by rw [HE.out,HFx.out] <;> rfl,by rw [HE.out];exact (poolV_zero _ _),HBf.out⟩
 ·obtain ⟨ho,hF⟩:=H1.out h0
  have HE:=Lib.hid ho
  have HFx:=Lib.hid hF
  have hF2:(KF != 0)=true:=by simpa using h0
  have HR1:=HR12
  have HR2:=HR22
  clear ho hF H1 H2 H3 HCh HLd0 HBd HOo h0 HR12 HR22 HQ2
  have c6:=HR1.out.set6w (x1':=.bool false) (x2':=.int .u64 0) (x3':=.int .u64 0) (x4':=.int .i64 0) (x5':=.slice none 0 0) (x6':=.slice none 0 0)
  have c6b:=HR2.out.far6w (show pb + 1 + 1 ≠ pb + 1 by omega) (x1':=.bool false) (x2':=.int .u64 0) (x3':=.int .u64 0) (x4':=.int .i64 0) (x5':=.slice none 0 0) (x6':=.slice none 0 0)
  have c4:=c6b.set4w (x':=.bool false) (y':=.int .u64 0) (z':=.int .u64 0) (u':=.int .i64 0)
  have c6c:=c6.far4w (show pb + 1 ≠ pb + 1 + 1 by omega) (x':=.bool false) (y':=.int .u64 0) (z':=.int .u64 0) (u':=.int .i64 0)
  have b0:=c6b.cell 0
  have b1:=c6b.cell 1
  have b2:=c6b.cell 2
  have b3:=c6b.cell 3
  have bf:=c6b.free
  have z0:=c6c.cell 0
  have z1:=c6c.cell 1
  have z2:=c6c.cell 2
  have z3:=c6c.cell 3
  have z4:=c6c.cell 4
  have z5:=c6c.cell 5
  have y0:=c4.cell 0
  have y1:=c4.cell 1
  have y2:=c4.cell 2
  have y3:=c4.cell 3
  simp at b0 b1 b2 b3 z0 z1 z2 z3 z4 z5 y0 y1 y2 y3
  clear c6 c6b c4 c6c
  have r0:=HR1.out.cell 0
  have r1:=HR1.out.cell 1
  have r2:=HR1.out.cell 2
  have r3:=HR1.out.cell 3
  have r4:=HR1.out.cell 4
  have r5:=HR1.out.cell 5
  simp at r0 r1 r2 r3 r4 r5
  have rf:=HR1.out.free
  have HBf:Hid (Below w.heap.size w ((((((((((w2.setCell ⟨pb + 1,0,none⟩ (.bool false)).setCell ⟨pb + 1,1,none⟩ (.int .u64 0)).setCell ⟨pb + 1,2,none⟩ (.int .u64 0)).setCell ⟨pb + 1,3,none⟩ (.int .i64 0)).setCell ⟨pb + 1,4,none⟩ (.slice none 0 0)).setCell ⟨pb + 1,5,none⟩ (.slice none 0 0)).setCell ⟨pb + 1 + 1,0,none⟩ (.bool false)).setCell ⟨pb + 1 + 1,1,none⟩ (.int .u64 0)).setCell ⟨pb + 1 + 1,2,none⟩ (.int .u64 0)).setCell ⟨pb + 1 + 1,3,none⟩ (.int .i64 0))):=Lib.hid ((HB.out.grown (grown_setCells (pb + 1) [.bool false, .int .u64 0, .int .u64 0, .int .i64 0, .slice none 0 0, .slice none 0 0] 0 w2) HB.out.size (fun j hj => by injection hj with hj;have:=Hpw.out;omega)).grown (grown_setCells (pb + 1 + 1) [.bool false, .int .u64 0, .int .u64 0, .int .i64 0] 0 ((((((w2.setCell ⟨pb + 1,0,none⟩ (.bool false)).setCell ⟨pb + 1,1,none⟩ (.int .u64 0)).setCell ⟨pb + 1,2,none⟩ (.int .u64 0)).setCell ⟨pb + 1,3,none⟩ (.int .i64 0)).setCell ⟨pb + 1,4,none⟩ (.slice none 0 0)).setCell ⟨pb + 1,5,none⟩ (.slice none 0 0))) (Nat.le_trans HB.out.size (by rw [size_setCellsR];exact Nat.le_refl _)) (fun j hj => by injection hj with hj;have:=Hpw.out;omega))
  go_wp2_with fail
  refine bodyPost_ret (v:=.tuple #[.agg #[.bool false, .int .u64 0, .int .u64 0, .int .i64 0, .slice none 0 0, .slice none 0 0], .agg #[.bool false, .int .u64 0, .int .u64 0, .int .i64 0], .int .i64 KF]) (by simp [results,Tryz.results37,go_sem, *]) rfl ⟨_,by rw [HE.out,HFx.out] <;> rfl,by rw [HE.out];exact (poolV_zero _ _),HBf.out⟩
theorem aTake_any (P:Pf) (ka la:Option Addr) (kn kc ln lc:Nat) (K:List Pf) (L:List Ls) (key:List UInt8) (n:Int) (w:World) (hK:RdK layPf w ka K) (hL:RdK layLs w la L) (hkn:K.length=kn) (hln:L.length=ln) (hs:kn + ln≤7) (hlc:ln≤lc) (huP:u2P P) (huK:U4 K) (huL:UL L) (hky:key.length≤1000) :
  Calls Tryz.prog 9 #[.agg (plC P (.slice ka kn kc) (.slice la ln lc)).toArray, .string (strL key), .int .i64 n] w fun e w' => ∃ v,e=.returned (.tuple #[v, .agg (pfC (gotX (takO false P K L key n) n)).toArray, .int .i64 (takF false P K L key n)])∧PoolV w' w.heap.size v (gotP (takO false P K L key n) P) (gotK (takO false P K L key n) K) (gotL (takO false P K L key n) L key n)∧Below w.heap.size w w':=by
 have HT:=Lib.hid fun wx (hk:RdK layPf wx ka K) (hl:RdK layLs wx la L) => aptake_any false P ka la kn kc ln lc K L key n wx hk hl hkn hln hs hlc huP huK huL hky
 clear huP huK huL hkn hln hky
 generalize takO false P K L key n=o at *
 generalize takF false P K L key n=F at *
 obtain ⟨PX,hPX⟩:∃ q,gotP o P=q:=⟨_,rfl⟩
 obtain ⟨KX,hKX⟩:∃ q,gotK o K=q:=⟨_,rfl⟩
 obtain ⟨LX,hLX⟩:∃ q,gotL o L key n=q:=⟨_,rfl⟩
 obtain ⟨X,hX⟩:∃ q,gotX o n=q:=⟨_,rfl⟩
 rw [hPX,hKX,hLX,hX] at HT ⊢
 clear hPX hKX hLX hX
 obtain ⟨ps,ph,pl,pn⟩:=P
 rw [show (plC (ps,ph,pl,pn) (.slice ka kn kc) (.slice la ln lc)).toArray=#[.bool ps, .int .u64 (ph:Int), .int .u64 (pl:Int), .int .i64 pn, .slice ka kn kc, .slice la ln lc] from rfl] at *
 have hB01:Below w.heap.size w (((w.alloc (.cells #[.bool ps, .int .u64 (ph:Int), .int .u64 (pl:Int), .int .i64 pn, .slice ka kn kc, .slice la ln lc] 34 (0,0))).alloc (.cells #[.bool false, .int .u64 0, .int .u64 0, .int .i64 0, .slice none 0 0, .slice none 0 0] 34 (0,0))).alloc (.cells #[.bool false, .int .u64 0, .int .u64 0, .int .i64 0] 30 (0,0))):=below_alloc (below_alloc (below_alloc (Below.refl _ _) _) _) _
 have HB01:=Lib.hid hB01
 have HKw:=Lib.hid hK
 have HLw:=Lib.hid hL
 have HQ0:Hid (Blk (((w.alloc (.cells #[.bool ps, .int .u64 (ph:Int), .int .u64 (pl:Int), .int .i64 pn, .slice ka kn kc, .slice la ln lc] 34 (0,0))).alloc (.cells #[.bool false, .int .u64 0, .int .u64 0, .int .i64 0, .slice none 0 0, .slice none 0 0] 34 (0,0))).alloc (.cells #[.bool false, .int .u64 0, .int .u64 0, .int .i64 0] 30 (0,0))) w.heap.size 34 #[.bool ps, .int .u64 (ph:Int), .int .u64 (pl:Int), .int .i64 pn, .slice ka kn kc, .slice la ln lc]):=Lib.hid (((Blk.new w _ _).alloc _).alloc _)
 have HR1:Hid (Blk (((w.alloc (.cells #[.bool ps, .int .u64 (ph:Int), .int .u64 (pl:Int), .int .i64 pn, .slice ka kn kc, .slice la ln lc] 34 (0,0))).alloc (.cells #[.bool false, .int .u64 0, .int .u64 0, .int .i64 0, .slice none 0 0, .slice none 0 0] 34 (0,0))).alloc (.cells #[.bool false, .int .u64 0, .int .u64 0, .int .i64 0] 30 (0,0))) (w.heap.size + 1) 34 #[.bool false, .int .u64 0, .int .u64 0, .int .i64 0, .slice none 0 0, .slice none 0 0]):=Lib.hid (by
  have this:=(Blk.new (w.alloc (.cells #[.bool ps, .int .u64 (ph:Int), .int .u64 (pl:Int), .int .i64 pn, .slice ka kn kc, .slice la ln lc] 34 (0,0))) 34 #[.bool false, .int .u64 0, .int .u64 0, .int .i64 0, .slice none 0 0, .slice none 0 0]).alloc (.cells #[.bool false, .int .u64 0, .int .u64 0, .int .i64 0] 30 (0,0))
  rw [World.size_alloc] at this
  exact this)
 have HR2:Hid (Blk (((w.alloc (.cells #[.bool ps, .int .u64 (ph:Int), .int .u64 (pl:Int), .int .i64 pn, .slice ka kn kc, .slice la ln lc] 34 (0,0))).alloc (.cells #[.bool false, .int .u64 0, .int .u64 0, .int .i64 0, .slice none 0 0, .slice none 0 0] 34 (0,0))).alloc (.cells #[.bool false, .int .u64 0, .int .u64 0, .int .i64 0] 30 (0,0))) (w.heap.size + 1 + 1) 30 #[.bool false, .int .u64 0, .int .u64 0, .int .i64 0]):=Lib.hid (by
  have this:=Blk.new ((w.alloc (.cells #[.bool ps, .int .u64 (ph:Int), .int .u64 (pl:Int), .int .i64 pn, .slice ka kn kc, .slice la ln lc] 34 (0,0))).alloc (.cells #[.bool false, .int .u64 0, .int .u64 0, .int .i64 0, .slice none 0 0, .slice none 0 0] 34 (0,0))) 30 #[.bool false, .int .u64 0, .int .u64 0, .int .i64 0]
  rw [World.size_alloc,World.size_alloc] at this
  exact this)
 clear hK hL hB01
 go_enter Tryz.func9,Tryz.ntmps9
 go_upto_region 1 with fail
 generalize (((w.alloc (.cells #[.bool ps, .int .u64 (ph:Int), .int .u64 (pl:Int), .int .i64 pn, .slice ka kn kc, .slice la ln lc] 34 (0,0))).alloc (.cells #[.bool false, .int .u64 0, .int .u64 0, .int .i64 0, .slice none 0 0, .slice none 0 0] 34 (0,0))).alloc (.cells #[.bool false, .int .u64 0, .int .u64 0, .int .i64 0] 30 (0,0)))=w1 at *
 obtain ⟨pb,hpb⟩:∃ q,w.heap.size=q:=⟨_,rfl⟩
 have Hpw:Hid (w.heap.size≤pb):=Lib.hid (by omega)
 rw [hpb] at HQ0 HR1 HR2 ⊢
 clear hpb
 have p0:=HQ0.out.cell 0
 have p1:=HQ0.out.cell 1
 have p2:=HQ0.out.cell 2
 have p3:=HQ0.out.cell 3
 have p4:=HQ0.out.cell 4
 have p5:=HQ0.out.cell 5
 simp at p0 p1 p2 p3 p4 p5
 go_wp2_with fail
 refine (HT.out _ (HKw.out.below HB01.out) (HLw.out.below HB01.out)).mono ?_
 rintro e w4 ⟨v,rfl,hV,hb⟩
 obtain ⟨a1,c1,a2,c2,rfl,q1,q2⟩:=hV
 have hB4:=HB01.out.trans (hb.mono HB01.out.size)
 have HB:=Lib.hid hB4
 have HR12:=Lib.hid (HR1.out.below hb HR1.out.lt)
 have HR22:=Lib.hid (HR2.out.below hb HR2.out.lt)
 have HOK:=Lib.hid q1
 have HOL:=Lib.hid q2
 have Hb2:Hid (pb + 1 + 1 < w1.heap.size):=Lib.hid HR2.out.lt
 clear hb hB4 q1 q2 HT p0 p1 p2 p3 p4 p5 HQ0 HR1 HR2
 obtain ⟨g1,g2,g3,g4⟩:=PX
 obtain ⟨f1,f2,f3,f4⟩:=X
 rw [show (plC (g1,g2,g3,g4) (.slice a1 KX.length c1) (.slice a2 LX.length c2)).toArray=#[.bool g1, .int .u64 (g2:Int), .int .u64 (g3:Int), .int .i64 g4, .slice a1 KX.length c1, .slice a2 LX.length c2] from rfl,show (pfC (f1,f2,f3,f4)).toArray=#[.bool f1, .int .u64 (f2:Int), .int .u64 (f3:Int), .int .i64 f4] from rfl]
 have c6:=HR12.out.set6w (x1':=.bool g1) (x2':=.int .u64 (g2:Int)) (x3':=.int .u64 (g3:Int)) (x4':=.int .i64 g4) (x5':=.slice a1 KX.length c1) (x6':=.slice a2 LX.length c2)
 have c6b:=HR22.out.far6w (show pb + 1 + 1 ≠ pb + 1 by omega) (x1':=.bool g1) (x2':=.int .u64 (g2:Int)) (x3':=.int .u64 (g3:Int)) (x4':=.int .i64 g4) (x5':=.slice a1 KX.length c1) (x6':=.slice a2 LX.length c2)
 have c4:=c6b.set4w (x':=.bool f1) (y':=.int .u64 (f2:Int)) (z':=.int .u64 (f3:Int)) (u':=.int .i64 f4)
 have c6c:=c6.far4w (show pb + 1 ≠ pb + 1 + 1 by omega) (x':=.bool f1) (y':=.int .u64 (f2:Int)) (z':=.int .u64 (f3:Int)) (u':=.int .i64 f4)
 have b0:=c6b.cell 0
 have b1:=c6b.cell 1
 have b2:=c6b.cell 2
 have b3:=c6b.cell 3
 have bf:=c6b.free
 have z0:=c6c.cell 0
 have z1:=c6c.cell 1
 have z2:=c6c.cell 2
 have z3:=c6c.cell 3
 have z4:=c6c.cell 4
 have z5:=c6c.cell 5
 have y0:=c4.cell 0
 have y1:=c4.cell 1
 have y2:=c4.cell 2
 have y3:=c4.cell 3
 simp at b0 b1 b2 b3 z0 z1 z2 z3 z4 z5 y0 y1 y2 y3
 clear c6 c6b c4 c6c
 have r0:=HR12.out.cell 0
 have r1:=HR12.out.cell 1
 have r2:=HR12.out.cell 2
 have r3:=HR12.out.cell 3
 have r4:=HR12.out.cell 4
 have r5:=HR12.out.cell 5
 simp at r0 r1 r2 r3 r4 r5
 have rf:=HR12.out.free
 have HBf:Hid (Below w.heap.size w ((((((((((w4.setCell ⟨pb + 1,0,none⟩ (.bool g1)).setCell ⟨pb + 1,1,none⟩ (.int .u64 (g2:Int))).setCell ⟨pb + 1,2,none⟩ (.int .u64 (g3:Int))).setCell ⟨pb + 1,3,none⟩ (.int .i64 g4)).setCell ⟨pb + 1,4,none⟩ (.slice a1 KX.length c1)).setCell ⟨pb + 1,5,none⟩ (.slice a2 LX.length c2)).setCell ⟨pb + 1 + 1,0,none⟩ (.bool f1)).setCell ⟨pb + 1 + 1,1,none⟩ (.int .u64 (f2:Int))).setCell ⟨pb + 1 + 1,2,none⟩ (.int .u64 (f3:Int))).setCell ⟨pb + 1 + 1,3,none⟩ (.int .i64 f4))):=Lib.hid ((HB.out.grown (grown_setCells (pb + 1) [.bool g1, .int .u64 (g2:Int), .int .u64 (g3:Int), .int .i64 g4, .slice a1 KX.length c1, .slice a2 LX.length c2] 0 w4) HB.out.size (fun j hj => by injection hj with hj;have:=Hpw.out;omega)).grown (grown_setCells (pb + 1 + 1) [.bool f1, .int .u64 (f2:Int), .int .u64 (f3:Int), .int .i64 f4] 0 ((((((w4.setCell ⟨pb + 1,0,none⟩ (.bool g1)).setCell ⟨pb + 1,1,none⟩ (.int .u64 (g2:Int))).setCell ⟨pb + 1,2,none⟩ (.int .u64 (g3:Int))).setCell ⟨pb + 1,3,none⟩ (.int .i64 g4)).setCell ⟨pb + 1,4,none⟩ (.slice a1 KX.length c1)).setCell ⟨pb + 1,5,none⟩ (.slice a2 LX.length c2))) (Nat.le_trans HB.out.size (by rw [size_setCellsR];exact Nat.le_refl _)) (fun j hj => by injection hj with hj;have:=Hpw.out;omega))
 have HVf:Hid (PoolV ((((((((((w4.setCell ⟨pb + 1,0,none⟩ (.bool g1)).setCell ⟨pb + 1,1,none⟩ (.int .u64 (g2:Int))).setCell ⟨pb + 1,2,none⟩ (.int .u64 (g3:Int))).setCell ⟨pb + 1,3,none⟩ (.int .i64 g4)).setCell ⟨pb + 1,4,none⟩ (.slice a1 KX.length c1)).setCell ⟨pb + 1,5,none⟩ (.slice a2 LX.length c2)).setCell ⟨pb + 1 + 1,0,none⟩ (.bool f1)).setCell ⟨pb + 1 + 1,1,none⟩ (.int .u64 (f2:Int))).setCell ⟨pb + 1 + 1,2,none⟩ (.int .u64 (f3:Int))).setCell ⟨pb + 1 + 1,3,none⟩ (.int .i64 f4)) w.heap.size (.agg #[.bool g1, .int .u64 (g2:Int), .int .u64 (g3:Int), .int .i64 g4, .slice a1 KX.length c1, .slice a2 LX.length c2]) (g1,g2,g3,g4) KX LX):=Lib.hid (PoolV.weak ⟨a1,c1,a2,c2,rfl,(HOK.out.farC (show pb + 1 < w1.heap.size by have:=Hb2.out;omega) 0 [.bool g1, .int .u64 (g2:Int), .int .u64 (g3:Int), .int .i64 g4, .slice a1 KX.length c1, .slice a2 LX.length c2]).farC Hb2.out 0 [.bool f1, .int .u64 (f2:Int), .int .u64 (f3:Int), .int .i64 f4],(HOL.out.farC (show pb + 1 < w1.heap.size by have:=Hb2.out;omega) 0 [.bool g1, .int .u64 (g2:Int), .int .u64 (g3:Int), .int .i64 g4, .slice a1 KX.length c1, .slice a2 LX.length c2]).farC Hb2.out 0 [.bool f1, .int .u64 (f2:Int), .int .u64 (f3:Int), .int .i64 f4]⟩ HB01.out.size)
 go_wp2_with fail
 refine bodyPost_ret (v:=.tuple #[.agg #[.bool g1, .int .u64 (g2:Int), .int .u64 (g3:Int), .int .i64 g4, .slice a1 KX.length c1, .slice a2 LX.length c2], .agg #[.bool f1, .int .u64 (f2:Int), .int .u64 (f3:Int), .int .i64 f4], .int .i64 F]) (by simp [results,Tryz.results9,go_sem, *]) rfl ⟨_,rfl,HVf.out,HBf.out⟩
theorem aBest_any (P:Pf) (ka la:Option Addr) (kn kc ln lc:Nat) (K:List Pf) (L:List Ls) (key:List UInt8) (n:Int) (w:World) (hK:RdK layPf w ka K) (hL:RdK layLs w la L) (hkn:K.length=kn) (hln:L.length=ln) (hs:kn + ln≤7) (hlc:ln≤lc) (huP:u2P P) (huK:U4 K) (huL:UL L) (hky:key.length≤1000) :
  Calls Tryz.prog 10 #[.agg (plC P (.slice ka kn kc) (.slice la ln lc)).toArray, .string (strL key), .int .i64 n] w fun e w' => ∃ v,e=.returned (.tuple #[v, .agg (pfC (gotX (takO true P K L key n) n)).toArray, .int .i64 (takF true P K L key n)])∧PoolV w' w.heap.size v (gotP (takO true P K L key n) P) (gotK (takO true P K L key n) K) (gotL (takO true P K L key n) L key n)∧Below w.heap.size w w':=by
 have HT:=Lib.hid fun wx (hk:RdK layPf wx ka K) (hl:RdK layLs wx la L) => aptake_any true P ka la kn kc ln lc K L key n wx hk hl hkn hln hs hlc huP huK huL hky
 clear huP huK huL hkn hln hky
 generalize takO true P K L key n=o at *
 generalize takF true P K L key n=F at *
 obtain ⟨PX,hPX⟩:∃ q,gotP o P=q:=⟨_,rfl⟩
 obtain ⟨KX,hKX⟩:∃ q,gotK o K=q:=⟨_,rfl⟩
 obtain ⟨LX,hLX⟩:∃ q,gotL o L key n=q:=⟨_,rfl⟩
 obtain ⟨X,hX⟩:∃ q,gotX o n=q:=⟨_,rfl⟩
 rw [hPX,hKX,hLX,hX] at HT ⊢
 clear hPX hKX hLX hX
 obtain ⟨ps,ph,pl,pn⟩:=P
 rw [show (plC (ps,ph,pl,pn) (.slice ka kn kc) (.slice la ln lc)).toArray=#[.bool ps, .int .u64 (ph:Int), .int .u64 (pl:Int), .int .i64 pn, .slice ka kn kc, .slice la ln lc] from rfl] at *
 have hB01:Below w.heap.size w (((w.alloc (.cells #[.bool ps, .int .u64 (ph:Int), .int .u64 (pl:Int), .int .i64 pn, .slice ka kn kc, .slice la ln lc] 34 (0,0))).alloc (.cells #[.bool false, .int .u64 0, .int .u64 0, .int .i64 0, .slice none 0 0, .slice none 0 0] 34 (0,0))).alloc (.cells #[.bool false, .int .u64 0, .int .u64 0, .int .i64 0] 30 (0,0))):=below_alloc (below_alloc (below_alloc (Below.refl _ _) _) _) _
 have HB01:=Lib.hid hB01
 have HKw:=Lib.hid hK
 have HLw:=Lib.hid hL
 have HQ0:Hid (Blk (((w.alloc (.cells #[.bool ps, .int .u64 (ph:Int), .int .u64 (pl:Int), .int .i64 pn, .slice ka kn kc, .slice la ln lc] 34 (0,0))).alloc (.cells #[.bool false, .int .u64 0, .int .u64 0, .int .i64 0, .slice none 0 0, .slice none 0 0] 34 (0,0))).alloc (.cells #[.bool false, .int .u64 0, .int .u64 0, .int .i64 0] 30 (0,0))) w.heap.size 34 #[.bool ps, .int .u64 (ph:Int), .int .u64 (pl:Int), .int .i64 pn, .slice ka kn kc, .slice la ln lc]):=Lib.hid (((Blk.new w _ _).alloc _).alloc _)
 have HR1:Hid (Blk (((w.alloc (.cells #[.bool ps, .int .u64 (ph:Int), .int .u64 (pl:Int), .int .i64 pn, .slice ka kn kc, .slice la ln lc] 34 (0,0))).alloc (.cells #[.bool false, .int .u64 0, .int .u64 0, .int .i64 0, .slice none 0 0, .slice none 0 0] 34 (0,0))).alloc (.cells #[.bool false, .int .u64 0, .int .u64 0, .int .i64 0] 30 (0,0))) (w.heap.size + 1) 34 #[.bool false, .int .u64 0, .int .u64 0, .int .i64 0, .slice none 0 0, .slice none 0 0]):=Lib.hid (by
  have this:=(Blk.new (w.alloc (.cells #[.bool ps, .int .u64 (ph:Int), .int .u64 (pl:Int), .int .i64 pn, .slice ka kn kc, .slice la ln lc] 34 (0,0))) 34 #[.bool false, .int .u64 0, .int .u64 0, .int .i64 0, .slice none 0 0, .slice none 0 0]).alloc (.cells #[.bool false, .int .u64 0, .int .u64 0, .int .i64 0] 30 (0,0))
  rw [World.size_alloc] at this
  exact this)
 have HR2:Hid (Blk (((w.alloc (.cells #[.bool ps, .int .u64 (ph:Int), .int .u64 (pl:Int), .int .i64 pn, .slice ka kn kc, .slice la ln lc] 34 (0,0))).alloc (.cells #[.bool false, .int .u64 0, .int .u64 0, .int .i64 0, .slice none 0 0, .slice none 0 0] 34 (0,0))).alloc (.cells #[.bool false, .int .u64 0, .int .u64 0, .int .i64 0] 30 (0,0))) (w.heap.size + 1 + 1) 30 #[.bool false, .int .u64 0, .int .u64 0, .int .i64 0]):=Lib.hid (by
  have this:=Blk.new ((w.alloc (.cells #[.bool ps, .int .u64 (ph:Int), .int .u64 (pl:Int), .int .i64 pn, .slice ka kn kc, .slice la ln lc] 34 (0,0))).alloc (.cells #[.bool false, .int .u64 0, .int .u64 0, .int .i64 0, .slice none 0 0, .slice none 0 0] 34 (0,0))) 30 #[.bool false, .int .u64 0, .int .u64 0, .int .i64 0]
  rw [World.size_alloc,World.size_alloc] at this
  exact this)
 clear hK hL hB01
 go_enter Tryz.func10,Tryz.ntmps10
 go_upto_region 1 with fail
 generalize (((w.alloc (.cells #[.bool ps, .int .u64 (ph:Int), .int .u64 (pl:Int), .int .i64 pn, .slice ka kn kc, .slice la ln lc] 34 (0,0))).alloc (.cells #[.bool false, .int .u64 0, .int .u64 0, .int .i64 0, .slice none 0 0, .slice none 0 0] 34 (0,0))).alloc (.cells #[.bool false, .int .u64 0, .int .u64 0, .int .i64 0] 30 (0,0)))=w1 at *
 obtain ⟨pb,hpb⟩:∃ q,w.heap.size=q:=⟨_,rfl⟩
 have Hpw:Hid (w.heap.size≤pb):=Lib.hid (by omega)
 rw [hpb] at HQ0 HR1 HR2 ⊢
 clear hpb
 have p0:=HQ0.out.cell 0
 have p1:=HQ0.out.cell 1
 have p2:=HQ0.out.cell 2
 have p3:=HQ0.out.cell 3
 have p4:=HQ0.out.cell 4
 have p5:=HQ0.out.cell 5
 simp at p0 p1 p2 p3 p4 p5
 go_wp2_with fail
 refine (HT.out _ (HKw.out.below HB01.out) (HLw.out.below HB01.out)).mono ?_
 rintro e w4 ⟨v,rfl,hV,hb⟩
 obtain ⟨a1,c1,a2,c2,rfl,q1,q2⟩:=hV
 have hB4:=HB01.out.trans (hb.mono HB01.out.size)
 have HB:=Lib.hid hB4
 have HR12:=Lib.hid (HR1.out.below hb HR1.out.lt)
 have HR22:=Lib.hid (HR2.out.below hb HR2.out.lt)
 have HOK:=Lib.hid q1
 have HOL:=Lib.hid q2
 have Hb2:Hid (pb + 1 + 1 < w1.heap.size):=Lib.hid HR2.out.lt
 clear hb hB4 q1 q2 HT p0 p1 p2 p3 p4 p5 HQ0 HR1 HR2
 obtain ⟨g1,g2,g3,g4⟩:=PX
 obtain ⟨f1,f2,f3,f4⟩:=X
 rw [show (plC (g1,g2,g3,g4) (.slice a1 KX.length c1) (.slice a2 LX.length c2)).toArray=#[.bool g1, .int .u64 (g2:Int), .int .u64 (g3:Int), .int .i64 g4, .slice a1 KX.length c1, .slice a2 LX.length c2] from rfl,show (pfC (f1,f2,f3,f4)).toArray=#[.bool f1, .int .u64 (f2:Int), .int .u64 (f3:Int), .int .i64 f4] from rfl]
 have c6:=HR12.out.set6w (x1':=.bool g1) (x2':=.int .u64 (g2:Int)) (x3':=.int .u64 (g3:Int)) (x4':=.int .i64 g4) (x5':=.slice a1 KX.length c1) (x6':=.slice a2 LX.length c2)
 have c6b:=HR22.out.far6w (show pb + 1 + 1 ≠ pb + 1 by omega) (x1':=.bool g1) (x2':=.int .u64 (g2:Int)) (x3':=.int .u64 (g3:Int)) (x4':=.int .i64 g4) (x5':=.slice a1 KX.length c1) (x6':=.slice a2 LX.length c2)
 have c4:=c6b.set4w (x':=.bool f1) (y':=.int .u64 (f2:Int)) (z':=.int .u64 (f3:Int)) (u':=.int .i64 f4)
 have c6c:=c6.far4w (show pb + 1 ≠ pb + 1 + 1 by omega) (x':=.bool f1) (y':=.int .u64 (f2:Int)) (z':=.int .u64 (f3:Int)) (u':=.int .i64 f4)
 have b0:=c6b.cell 0
 have b1:=c6b.cell 1
 have b2:=c6b.cell 2
 have b3:=c6b.cell 3
 have bf:=c6b.free
 have z0:=c6c.cell 0
 have z1:=c6c.cell 1
 have z2:=c6c.cell 2
 have z3:=c6c.cell 3
 have z4:=c6c.cell 4
 have z5:=c6c.cell 5
 have y0:=c4.cell 0
 have y1:=c4.cell 1
 have y2:=c4.cell 2
 have y3:=c4.cell 3
 simp at b0 b1 b2 b3 z0 z1 z2 z3 z4 z5 y0 y1 y2 y3
 clear c6 c6b c4 c6c
 have r0:=HR12.out.cell 0
 have r1:=HR12.out.cell 1
 have r2:=HR12.out.cell 2
 have r3:=HR12.out.cell 3
 have r4:=HR12.out.cell 4
 have r5:=HR12.out.cell 5
 simp at r0 r1 r2 r3 r4 r5
 have rf:=HR12.out.free
 have HBf:Hid (Below w.heap.size w ((((((((((w4.setCell ⟨pb + 1,0,none⟩ (.bool g1)).setCell ⟨pb + 1,1,none⟩ (.int .u64 (g2:Int))).setCell ⟨pb + 1,2,none⟩ (.int .u64 (g3:Int))).setCell ⟨pb + 1,3,none⟩ (.int .i64 g4)).setCell ⟨pb + 1,4,none⟩ (.slice a1 KX.length c1)).setCell ⟨pb + 1,5,none⟩ (.slice a2 LX.length c2)).setCell ⟨pb + 1 + 1,0,none⟩ (.bool f1)).setCell ⟨pb + 1 + 1,1,none⟩ (.int .u64 (f2:Int))).setCell ⟨pb + 1 + 1,2,none⟩ (.int .u64 (f3:Int))).setCell ⟨pb + 1 + 1,3,none⟩ (.int .i64 f4))):=Lib.hid ((HB.out.grown (grown_setCells (pb + 1) [.bool g1, .int .u64 (g2:Int), .int .u64 (g3:Int), .int .i64 g4, .slice a1 KX.length c1, .slice a2 LX.length c2] 0 w4) HB.out.size (fun j hj => by injection hj with hj;have:=Hpw.out;omega)).grown (grown_setCells (pb + 1 + 1) [.bool f1, .int .u64 (f2:Int), .int .u64 (f3:Int), .int .i64 f4] 0 ((((((w4.setCell ⟨pb + 1,0,none⟩ (.bool g1)).setCell ⟨pb + 1,1,none⟩ (.int .u64 (g2:Int))).setCell ⟨pb + 1,2,none⟩ (.int .u64 (g3:Int))).setCell ⟨pb + 1,3,none⟩ (.int .i64 g4)).setCell ⟨pb + 1,4,none⟩ (.slice a1 KX.length c1)).setCell ⟨pb + 1,5,none⟩ (.slice a2 LX.length c2))) (Nat.le_trans HB.out.size (by rw [size_setCellsR];exact Nat.le_refl _)) (fun j hj => by injection hj with hj;have:=Hpw.out;omega))
 have HVf:Hid (PoolV ((((((((((w4.setCell ⟨pb + 1,0,none⟩ (.bool g1)).setCell ⟨pb + 1,1,none⟩ (.int .u64 (g2:Int))).setCell ⟨pb + 1,2,none⟩ (.int .u64 (g3:Int))).setCell ⟨pb + 1,3,none⟩ (.int .i64 g4)).setCell ⟨pb + 1,4,none⟩ (.slice a1 KX.length c1)).setCell ⟨pb + 1,5,none⟩ (.slice a2 LX.length c2)).setCell ⟨pb + 1 + 1,0,none⟩ (.bool f1)).setCell ⟨pb + 1 + 1,1,none⟩ (.int .u64 (f2:Int))).setCell ⟨pb + 1 + 1,2,none⟩ (.int .u64 (f3:Int))).setCell ⟨pb + 1 + 1,3,none⟩ (.int .i64 f4)) w.heap.size (.agg #[.bool g1, .int .u64 (g2:Int), .int .u64 (g3:Int), .int .i64 g4, .slice a1 KX.length c1, .slice a2 LX.length c2]) (g1,g2,g3,g4) KX LX):=Lib.hid (PoolV.weak ⟨a1,c1,a2,c2,rfl,(HOK.out.farC (show pb + 1 < w1.heap.size by have:=Hb2.out;omega) 0 [.bool g1, .int .u64 (g2:Int), .int .u64 (g3:Int), .int .i64 g4, .slice a1 KX.length c1, .slice a2 LX.length c2]).farC Hb2.out 0 [.bool f1, .int .u64 (f2:Int), .int .u64 (f3:Int), .int .i64 f4],(HOL.out.farC (show pb + 1 < w1.heap.size by have:=Hb2.out;omega) 0 [.bool g1, .int .u64 (g2:Int), .int .u64 (g3:Int), .int .i64 g4, .slice a1 KX.length c1, .slice a2 LX.length c2]).farC Hb2.out 0 [.bool f1, .int .u64 (f2:Int), .int .u64 (f3:Int), .int .i64 f4]⟩ HB01.out.size)
 go_wp2_with fail
 refine bodyPost_ret (v:=.tuple #[.agg #[.bool g1, .int .u64 (g2:Int), .int .u64 (g3:Int), .int .i64 g4, .slice a1 KX.length c1, .slice a2 LX.length c2], .agg #[.bool f1, .int .u64 (f2:Int), .int .u64 (f3:Int), .int .i64 f4], .int .i64 F]) (by simp [results,Tryz.results10,go_sem, *]) rfl ⟨_,rfl,HVf.out,HBf.out⟩
def brR (F:List Pf):Nat→Option Pf
 | 0 => none
 | b + 1 => match bsAt F b with
  | some e => some e
  | none => brR F b
theorem bsQ_brR (F:List Pf):∀ b,bsQ F b=brR F (b + 1)
 | 0 => by
   rw [brR]
   show bsAt F 0=_
   cases bsAt F 0 with
   | some e => rfl
   | none => rfl
 | b + 1 => by
   rw [bsQ,brR, ← bsQ_brR F b]
   cases bsAt F (b + 1) with
   | some e => rfl
   | none => rfl
theorem bestOf_any (P:Pf) (ka la:Option Addr) (kn kc ln lc:Nat) (K:List Pf) (L:List Ls) (key:List UInt8) (nb:Nat) (w:World) (hK:RdK layPf w ka K) (hL:RdK layLs w la L) (hkn:K.length=kn) (hln:L.length=ln) (hs:kn + ln≤7) (hP:OkPf P) (hT:∀ p ∈ takenL K L,OkPf p) (hn128:nb≤128) :
  Calls Tryz.prog 19 #[.agg (plC P (.slice ka kn kc) (.slice la ln lc)).toArray, .string (strL key), .int .i64 (nb:Int)] w fun e w' => ∃ v,e=.returned (.tuple #[v, .agg (pfC (gotX (chP true (nb:Int) (freeL P K L)) (nb:Int))).toArray, .bool (chP true (nb:Int) (freeL P K L)).isSome])∧PoolV w' w.heap.size v (gotP (chP true (nb:Int) (freeL P K L)) P) (gotK (chP true (nb:Int) (freeL P K L)) K) (gotL (chP true (nb:Int) (freeL P K L)) L key (nb:Int))∧Below w.heap.size w w':=by
 have HFr:=Lib.hid fun wx (hk:RdK layPf wx ka K) (hl:RdK layLs wx la L) => freeOf_any P ka la kn kc ln lc K L wx hk hl hkn hln hs hP hT
 have HLe:=Lib.hid (free_len hP hT (by omega))
 have HLd0:=Lib.hid fun x wx (hk:RdK layPf wx ka K) (hl:RdK layLs wx la L) => qleased_any P ka la kn kc ln lc K L key x wx hk hl hkn hln (by omega) (by omega)
 rw [← ch_same (fun f hf => by obtain ⟨q,hq,_⟩:=okPf_bits (freeL_ok hP hT f hf);omega) nb,bsQ_brR]
 generalize freeL P K L=F at *
 have hl2:((ln:Nat):Int) < 200:=by omega
 clear hP hT hkn hln
 have HAt:Hid (∀ (b k:Nat) (e:Pf),F[k]?=some e→decide (e.2.2.2=(b:Int))=true→(∀ (j:Nat) (y:Pf),j < k→F[j]?=some y→decide (y.2.2.2=(b:Int))=false)→brR F (b + 1)=some e):=Lib.hid fun b k e h1 h2 h3 => by
  have:bsAt F b=some e:=find_first h1 h2 h3
  rw [brR,this]
 have HNo:Hid (∀ (b:Nat),(∀ (j:Nat) (y:Pf),F[j]?=some y→decide (y.2.2.2=(b:Int))=false)→brR F (b + 1)=brR F b):=Lib.hid fun b h => by
  have:bsAt F b=none:=find_none h
  rw [brR,this]
 have H00:Hid (brR F 0=none):=Lib.hid rfl
 generalize brR F=lr at *
 obtain ⟨o,ho⟩:∃ o,lr (nb + 1)=o:=⟨_,rfl⟩
 have HRS:=Lib.hid ho
 rw [ho]
 clear ho
 obtain ⟨n,hni⟩:∃ q:Int,(nb:Int)=q:=⟨_,rfl⟩
 have HNI:=Lib.hid hni
 rw [hni]
 clear hni
 obtain ⟨ps,ph,pl,pn⟩:=P
 rw [show (plC (ps,ph,pl,pn) (.slice ka kn kc) (.slice la ln lc)).toArray=#[.bool ps, .int .u64 (ph:Int), .int .u64 (pl:Int), .int .i64 pn, .slice ka kn kc, .slice la ln lc] from rfl] at *
 have hB01:Below w.heap.size w (((w.alloc (.cells #[.bool ps, .int .u64 (ph:Int), .int .u64 (pl:Int), .int .i64 pn, .slice ka kn kc, .slice la ln lc] 34 (0,0))).alloc (.cells #[.bool false, .int .u64 0, .int .u64 0, .int .i64 0, .slice none 0 0, .slice none 0 0] 34 (0,0))).alloc (.cells #[.bool false, .int .u64 0, .int .u64 0, .int .i64 0] 30 (0,0))):=below_alloc (below_alloc (below_alloc (Below.refl _ _) _) _) _
 have HB01:=Lib.hid hB01
 have HKw:=Lib.hid hK
 have HLw:=Lib.hid hL
 have HQ0:Hid (Blk (((w.alloc (.cells #[.bool ps, .int .u64 (ph:Int), .int .u64 (pl:Int), .int .i64 pn, .slice ka kn kc, .slice la ln lc] 34 (0,0))).alloc (.cells #[.bool false, .int .u64 0, .int .u64 0, .int .i64 0, .slice none 0 0, .slice none 0 0] 34 (0,0))).alloc (.cells #[.bool false, .int .u64 0, .int .u64 0, .int .i64 0] 30 (0,0))) w.heap.size 34 #[.bool ps, .int .u64 (ph:Int), .int .u64 (pl:Int), .int .i64 pn, .slice ka kn kc, .slice la ln lc]):=Lib.hid (((Blk.new w _ _).alloc _).alloc _)
 have HR1:Hid (Blk (((w.alloc (.cells #[.bool ps, .int .u64 (ph:Int), .int .u64 (pl:Int), .int .i64 pn, .slice ka kn kc, .slice la ln lc] 34 (0,0))).alloc (.cells #[.bool false, .int .u64 0, .int .u64 0, .int .i64 0, .slice none 0 0, .slice none 0 0] 34 (0,0))).alloc (.cells #[.bool false, .int .u64 0, .int .u64 0, .int .i64 0] 30 (0,0))) (w.heap.size + 1) 34 #[.bool false, .int .u64 0, .int .u64 0, .int .i64 0, .slice none 0 0, .slice none 0 0]):=Lib.hid (by
  have this:=(Blk.new (w.alloc (.cells #[.bool ps, .int .u64 (ph:Int), .int .u64 (pl:Int), .int .i64 pn, .slice ka kn kc, .slice la ln lc] 34 (0,0))) 34 #[.bool false, .int .u64 0, .int .u64 0, .int .i64 0, .slice none 0 0, .slice none 0 0]).alloc (.cells #[.bool false, .int .u64 0, .int .u64 0, .int .i64 0] 30 (0,0))
  rw [World.size_alloc] at this
  exact this)
 have HR2:Hid (Blk (((w.alloc (.cells #[.bool ps, .int .u64 (ph:Int), .int .u64 (pl:Int), .int .i64 pn, .slice ka kn kc, .slice la ln lc] 34 (0,0))).alloc (.cells #[.bool false, .int .u64 0, .int .u64 0, .int .i64 0, .slice none 0 0, .slice none 0 0] 34 (0,0))).alloc (.cells #[.bool false, .int .u64 0, .int .u64 0, .int .i64 0] 30 (0,0))) (w.heap.size + 1 + 1) 30 #[.bool false, .int .u64 0, .int .u64 0, .int .i64 0]):=Lib.hid (by
  have this:=Blk.new ((w.alloc (.cells #[.bool ps, .int .u64 (ph:Int), .int .u64 (pl:Int), .int .i64 pn, .slice ka kn kc, .slice la ln lc] 34 (0,0))).alloc (.cells #[.bool false, .int .u64 0, .int .u64 0, .int .i64 0, .slice none 0 0, .slice none 0 0] 34 (0,0))) 30 #[.bool false, .int .u64 0, .int .u64 0, .int .i64 0]
  rw [World.size_alloc,World.size_alloc] at this
  exact this)
 clear hK hL hB01
 go_enter Tryz.func19,Tryz.ntmps19
 go_upto_region 1 with fail
 generalize (((w.alloc (.cells #[.bool ps, .int .u64 (ph:Int), .int .u64 (pl:Int), .int .i64 pn, .slice ka kn kc, .slice la ln lc] 34 (0,0))).alloc (.cells #[.bool false, .int .u64 0, .int .u64 0, .int .i64 0, .slice none 0 0, .slice none 0 0] 34 (0,0))).alloc (.cells #[.bool false, .int .u64 0, .int .u64 0, .int .i64 0] 30 (0,0)))=w1 at *
 obtain ⟨pb,hpb⟩:∃ q,w.heap.size=q:=⟨_,rfl⟩
 have Hpw:Hid (w.heap.size≤pb):=Lib.hid (by omega)
 rw [hpb] at HQ0 HR1 HR2 ⊢
 clear hpb
 have p0:=HQ0.out.cell 0
 have p1:=HQ0.out.cell 1
 have p2:=HQ0.out.cell 2
 have p3:=HQ0.out.cell 3
 have p4:=HQ0.out.cell 4
 have p5:=HQ0.out.cell 5
 simp at p0 p1 p2 p3 p4 p5
 go_wp2_with fail
 refine (HFr.out _ (HKw.out.below HB01.out) (HLw.out.below HB01.out)).mono ?_
 rintro e w2 ⟨v,rfl,hO,hb⟩
 obtain ⟨fa,fc,rfl, -, -, -⟩:=hO.form
 obtain ⟨m,hm⟩:∃ m,F.length=m:=⟨_,rfl⟩
 rw [hm] at hO ⊢
 have Hm:=Lib.hid hm
 have hm9:m≤900:=by rw [← hm];exact HLe.out
 have HF2:=Lib.hid hO.rd
 have HB2:=Lib.hid hb
 clear hO hb hm HFr HLe p0 p1 p2 p3 p4 p5
 have Hb2:Hid (pb + 1 + 1 < w1.heap.size):=Lib.hid HR2.out.lt
 go_wp2_with fail
 go_loopw [10,12,13,27,28,29] (fun bv s12 s13 s27 s28 s29 wr => ∃ (j:Nat),j≤129∧bv=.int .i64 ((j:Int) - 1)∧Hid (lr j=o)∧Hid (Below w2.heap.size w2 wr)) (fun bv _ _ _ _ _ _ => (intOf bv + 1).toNat)
 case atStart => exact ⟨nb + 1,by omega,by rw [show (((nb + 1:Nat):Int) - 1)=n by have:=HNI.out;omega],HRS,Lib.hid (Below.refl _ _)⟩
 case round =>
  obtain ⟨j,hj,rfl,HJ,HBr⟩:=hrel
  have hb2:Below w1.heap.size w1 wr:=HB2.out.trans (HBr.out.mono HB2.out.size)
  have HBx:=Lib.hid (HB01.out.trans (hb2.mono HB01.out.size))
  have HQx:=Lib.hid (HQ0.out.below hb2 HQ0.out.lt)
  have HR1x:=Lib.hid (HR1.out.below hb2 HR1.out.lt)
  have HR2x:=Lib.hid (HR2.out.below hb2 HR2.out.lt)
  clear hb2
  by_cases hj0:j=0
  ·subst hj0
   have HE:Hid (o=none):=Lib.hid (HJ.out.symm.trans H00.out)
   have z0:(((0:Nat):Int) - 1)=-1:=by omega
   rw [z0]
   clear HR1 HR2 HBr HLd0 HAt HNo HJ
   have HR1:=HR1x
   have HR2:=HR2x
   have HB:=HBx
   clear HR1x HR2x HBx HQx
   have c6:=HR1.out.set6w (x1':=.bool false) (x2':=.int .u64 0) (x3':=.int .u64 0) (x4':=.int .i64 0) (x5':=.slice none 0 0) (x6':=.slice none 0 0)
   have c6b:=HR2.out.far6w (show pb + 1 + 1 ≠ pb + 1 by omega) (x1':=.bool false) (x2':=.int .u64 0) (x3':=.int .u64 0) (x4':=.int .i64 0) (x5':=.slice none 0 0) (x6':=.slice none 0 0)
   have c4:=c6b.set4w (x':=.bool false) (y':=.int .u64 0) (z':=.int .u64 0) (u':=.int .i64 0)
   have c6c:=c6.far4w (show pb + 1 ≠ pb + 1 + 1 by omega) (x':=.bool false) (y':=.int .u64 0) (z':=.int .u64 0) (u':=.int .i64 0)
   have b0:=c6b.cell 0
   have b1:=c6b.cell 1
   have b2:=c6b.cell 2
   have b3:=c6b.cell 3
   have bf:=c6b.free
   have z0:=c6c.cell 0
   have z1:=c6c.cell 1
   have z2:=c6c.cell 2
   have z3:=c6c.cell 3
   have z4:=c6c.cell 4
   have z5:=c6c.cell 5
   have y0:=c4.cell 0
   have y1:=c4.cell 1
   have y2:=c4.cell 2
   have y3:=c4.cell 3
   simp at b0 b1 b2 b3 z0 z1 z2 z3 z4 z5 y0 y1 y2 y3
   clear c6 c6b c4 c6c
   have r0:=HR1.out.cell 0
   have r1:=HR1.out.cell 1
   have r2:=HR1.out.cell 2
   have r3:=HR1.out.cell 3
   have r4:=HR1.out.cell 4
   have r5:=HR1.out.cell 5
   simp at r0 r1 r2 r3 r4 r5
   have rf:=HR1.out.free
   have HBf:Hid (Below w.heap.size w ((((((((((wr.setCell ⟨pb + 1,0,none⟩ (.bool false)).setCell ⟨pb + 1,1,none⟩ (.int .u64 0)).setCell ⟨pb + 1,2,none⟩ (.int .u64 0)).setCell ⟨pb + 1,3,none⟩ (.int .i64 0)).setCell ⟨pb + 1,4,none⟩ (.slice none 0 0)).setCell ⟨pb + 1,5,none⟩ (.slice none 0 0)).setCell ⟨pb + 1 + 1,0,none⟩ (.bool false)).setCell ⟨pb + 1 + 1,1,none⟩ (.int .u64 0)).setCell ⟨pb + 1 + 1,2,none⟩ (.int .u64 0)).setCell ⟨pb + 1 + 1,3,none⟩ (.int .i64 0))):=Lib.hid ((HB.out.grown (grown_setCells (pb + 1) [.bool false, .int .u64 0, .int .u64 0, .int .i64 0, .slice none 0 0, .slice none 0 0] 0 wr) HB.out.size (fun j hj => by injection hj with hj;have:=Hpw.out;omega)).grown (grown_setCells (pb + 1 + 1) [.bool false, .int .u64 0, .int .u64 0, .int .i64 0] 0 ((((((wr.setCell ⟨pb + 1,0,none⟩ (.bool false)).setCell ⟨pb + 1,1,none⟩ (.int .u64 0)).setCell ⟨pb + 1,2,none⟩ (.int .u64 0)).setCell ⟨pb + 1,3,none⟩ (.int .i64 0)).setCell ⟨pb + 1,4,none⟩ (.slice none 0 0)).setCell ⟨pb + 1,5,none⟩ (.slice none 0 0))) (Nat.le_trans HB.out.size (by rw [size_setCellsR];exact Nat.le_refl _)) (fun j hj => by injection hj with hj;have:=Hpw.out;omega))
   go_wp2_with fail
   refine bodyPost_ret (v:=.tuple #[.agg #[.bool false, .int .u64 0, .int .u64 0, .int .i64 0, .slice none 0 0, .slice none 0 0], .agg #[.bool false, .int .u64 0, .int .u64 0, .int .i64 0], .bool false]) (by simp [results,Tryz.results19,go_sem, *]) rfl ⟨_,by rw [HE.out];rfl,by rw [HE.out];exact (poolV_zero _ _),HBf.out⟩
  ·obtain ⟨b,rfl⟩:∃ b,j=b + 1:=⟨j - 1,by omega⟩
   have ej:(((b + 1:Nat):Int) - 1)=(b:Int):=by omega
   rw [ej]
   have hb0:(b:Int) ≥ 0:=by omega
   have hbl:(b:Int)≤128:=by omega
   have HAb:=Lib.hid (HAt.out b)
   have HNb:=Lib.hid (HNo.out b)
   have p5:=HQx.out.cell 5
   simp at p5
   go_wp2_with fail
   go_loopw [12,13,29] (fun s12 s13 i wr => ∃ k:Nat,k≤m∧i=.int .i64 (k:Int)∧Hid (∀ (j:Nat) (g:Pf),j < k→F[j]?=some g→decide (g.2.2.2=(b:Int))=false)∧Hid (Below w2.heap.size w2 wr)) (fun _ _ i _ => m - (intOf i).toNat)
   case atStart => exact ⟨0,Nat.zero_le _,rfl,Lib.hid fun j g hj => absurd hj (Nat.not_lt_zero _),HBr⟩
   case round =>
    clear HBr HBx HQx HR1x HR2x p5
    obtain ⟨k,hk,rfl,HN,HBr⟩:=hrel
    have hb2:Below w1.heap.size w1 wr:=HB2.out.trans (HBr.out.mono HB2.out.size)
    have HBx:=Lib.hid (HB01.out.trans (hb2.mono HB01.out.size))
    have HQx:=Lib.hid (HQ0.out.below hb2 HQ0.out.lt)
    have HR1x:=Lib.hid (HR1.out.below hb2 HR1.out.lt)
    have HR2x:=Lib.hid (HR2.out.below hb2 HR2.out.lt)
    clear hb2
    by_cases hlt:k < m
    ·obtain ⟨f,hf⟩:∃ f,F[k]?=some f:=⟨_,List.getElem?_eq_getElem (by rw [Hm.out];exact hlt)⟩
     have HY:Hid (decide (f.2.2.2=(b:Int))=true→o=some f):=Lib.hid fun h => by rw [← HJ.out];exact HAb.out k f hf h HN.out
     have HN2:Hid (decide (f.2.2.2=(b:Int))=false→∀ (j:Nat) (g:Pf),j < k + 1→F[j]?=some g→decide (g.2.2.2=(b:Int))=false):=Lib.hid fun h j g hj hg => by
      rcases Nat.lt_or_ge j k with h1 | h1
      ·exact HN.out j g h1 hg
      ·obtain rfl:j=k:=by omega
       rw [hf] at hg
       injection hg with hg
       subst hg
       exact h
     obtain ⟨f1,f2,f3,f4⟩:=f
     obtain ⟨g,off,had,hg,d0,d1,d2,d3⟩:=(HF2.out.below HBr.out).pf hf rfl
     subst had
     have HX3:Hid (Blk (wr.alloc (.cells #[.bool f1, .int .u64 (f2:Int), .int .u64 (f3:Int), .int .i64 f4] 30 (0,0))) wr.heap.size 30 #[.bool f1, .int .u64 (f2:Int), .int .u64 (f3:Int), .int .i64 f4]):=Lib.hid (Blk.new wr _ _)
     have HQ3:=Lib.hid (HQx.out.alloc (.cells #[.bool f1, .int .u64 (f2:Int), .int .u64 (f3:Int), .int .i64 f4] 30 (0,0)))
     have HR13:=Lib.hid (HR1x.out.alloc (.cells #[.bool f1, .int .u64 (f2:Int), .int .u64 (f3:Int), .int .i64 f4] 30 (0,0)))
     have HR23:=Lib.hid (HR2x.out.alloc (.cells #[.bool f1, .int .u64 (f2:Int), .int .u64 (f3:Int), .int .i64 f4] 30 (0,0)))
     have HB3:Hid (Below w.heap.size w (wr.alloc (.cells #[.bool f1, .int .u64 (f2:Int), .int .u64 (f3:Int), .int .i64 f4] 30 (0,0)))):=Lib.hid (Below.alloc HBx.out HBx.out.size _)
     have HBr3:Hid (Below w2.heap.size w2 (wr.alloc (.cells #[.bool f1, .int .u64 (f2:Int), .int .u64 (f3:Int), .int .i64 f4] 30 (0,0)))):=Lib.hid (Below.alloc HBr.out HBr.out.size _)
     clear hf hg HN
     go_upto_region 8 with fail
     generalize wr.alloc (.cells #[.bool f1, .int .u64 (f2:Int), .int .u64 (f3:Int), .int .i64 f4] 30 (0,0))=w3 at *
     obtain ⟨bx,hbx⟩:∃ q,wr.heap.size=q:=⟨_,rfl⟩
     rw [hbx] at HX3 ⊢
     clear hbx HBr HBx HQx HR1x HR2x d0 d1 d2 d3
     have d0:=HX3.out.cell 0
     have d1:=HX3.out.cell 1
     have d2:=HX3.out.cell 2
     have d3:=HX3.out.cell 3
     simp at d0 d1 d2 d3
     by_cases hc:f4=(b:Int)
     ·have HE:=Lib.hid (HY.out (decide_eq_true hc))
      subst hc
      have hb4:Below w3.heap.size w3 (w3.alloc (.cells #[.bool f1, .int .u64 (f2:Int), .int .u64 (f3:Int), .int .i64 n] 30 (0,0))):=below_alloc (Below.refl _ _) _
      have HX4:Hid (Blk (w3.alloc (.cells #[.bool f1, .int .u64 (f2:Int), .int .u64 (f3:Int), .int .i64 n] 30 (0,0))) w3.heap.size 30 #[.bool f1, .int .u64 (f2:Int), .int .u64 (f3:Int), .int .i64 n]):=Lib.hid (Blk.new w3 _ _)
      have HQ4:=Lib.hid (HQ3.out.below hb4 HQ3.out.lt)
      have HR14:=Lib.hid (HR13.out.below hb4 HR13.out.lt)
      have HR24:=Lib.hid (HR23.out.below hb4 HR23.out.lt)
      have HB4:=Lib.hid (HB3.out.trans (hb4.mono HB3.out.size))
      have HXb:Hid (pb + 1 + 1 < w3.heap.size):=Lib.hid HR23.out.lt
      have hk4:(w3.alloc (.cells #[.bool f1, .int .u64 (f2:Int), .int .u64 (f3:Int), .int .i64 n] 30 (0,0))).heap.size=w3.heap.size + 1:=World.size_alloc _ _
      clear hb4 HY HN2 HAb HNb HAt HNo HJ
      go_upto_region 10 with fail
      generalize w3.alloc (.cells #[.bool f1, .int .u64 (f2:Int), .int .u64 (f3:Int), .int .i64 n] 30 (0,0))=w5 at *
      obtain ⟨xb,hxb⟩:∃ q,w3.heap.size=q:=⟨_,rfl⟩
      rw [hxb] at HX4 HXb hk4 ⊢
      have Hb5:Hid (pb + 1 + 1 < w5.heap.size):=Lib.hid (by have:=HXb.out;omega)
      clear hxb hk4 HX3 HQ3 HR13 HR23 HB3 HBr3 d0 d1 d2 d3 HR1 HR2 Hb2
      have HX3:=HX4
      have HQ3:=HQ4
      have HR1:=HR14
      have HR2:=HR24
      have HB3:=HB4
      have Hb2:=Hb5
      have HLd:=Lib.hid fun wx hk hl => HLd0.out (f1,f2,f3,n) wx hk hl
      rw [show (pfC (f1,f2,f3,n)).toArray=#[.bool f1, .int .u64 (f2:Int), .int .u64 (f3:Int), .int .i64 n] from rfl] at HLd
      obtain ⟨LL,hLL⟩:∃ q,leasedL L key (f1,f2,f3,n)=q:=⟨_,rfl⟩
      have HLL:=Lib.hid hLL
      rw [hLL] at HLd
      clear hLL HX4 HQ4 HR14 HR24 HB4 Hb5 HLd0
      have hbs:pb + 1 < w5.heap.size:=HR1.out.lt
      have hC3:lrC w pb xb (pb + 1) #[.bool ps, .int .u64 (ph:Int), .int .u64 (pl:Int), .int .i64 pn, .slice ka kn kc, .slice la ln lc] #[.bool f1, .int .u64 (f2:Int), .int .u64 (f3:Int), .int .i64 n] w5.heap.size (ps,ph,pl,pn) K LL 0 w5:=⟨HB3.out,Nat.le_refl _,HQ3.out,HX3.out,HR2.out,_,HR1.out,rfl,fun h => by cases h⟩
      have HC3:=Lib.hid hC3
      have Hbs:=Lib.hid hbs
      have Hxb:Hid (pb + 1 < xb):=Lib.hid (by have:=HXb.out;omega)
      clear hC3 hbs HB3 HQ3 HX3 HR1 HR2
      refine Lm.wp_region_lim 6 1 (lrR #[.bool ps, .int .u64 (ph:Int), .int .u64 (pl:Int), .int .i64 pn, .slice ka kn kc, .slice la ln lc] #[.bool f1, .int .u64 (f2:Int), .int .u64 (f3:Int), .int .i64 n] (.string (strL key)) w5.heap.size (ps,ph,pl,pn) K LL) (lrC w pb xb (pb + 1) #[.bool ps, .int .u64 (ph:Int), .int .u64 (pl:Int), .int .i64 pn, .slice ka kn kc, .slice la ln lc] #[.bool f1, .int .u64 (f2:Int), .int .u64 (f3:Int), .int .i64 n] w5.heap.size (ps,ph,pl,pn) K LL) (lrS (pb + 1)) (fun i => if i=5 then 1 else 0) (fun i => if i=4 then 1 else 0)
       (by kernel_rfl) (by kernel_rfl) (by decide) (by kernel_rfl) (lrR_keep Hbs.out) (lrC.later HC3.out (below_drew (Below.refl _ _))) ?hX
      case' hX => (apply Exists.intro;refine ⟨fun T => ?hA,?hob,?hend⟩)
      case hA =>
       simp only [setAll,List.take_succ_cons,List.take_zero,Act.put,List.setIfInBounds_toArray,List.set_cons_succ,List.set_cons_zero,Nat.reduceAdd]
       exact rfl
      case hob =>
       clear HE
       go_light
       refine ⟨?_,?_,?_,?_,?_,?_,trivial⟩
       all_goals (intro T wx n0 hC hn hp;dsimp only at hn ⊢)
       ·have hn1:n0≤1:=by simp at hn;omega
        have hS:lrS (pb + 1) n0 wx n0 wx:=⟨Nat.le_refl _,hn1,KeepX.refl _ _⟩
        have q:=hC.2.2.1
        have e0:=q.cell 0
        have e1:=q.cell 1
        have e2:=q.cell 2
        have e3:=q.cell 3
        have e4:=q.cell 4
        have e5:=q.cell 5
        simp at e0 e1 e2 e3 e4 e5
        clear q
        unfold Op1
        go_simp
        first | exact ⟨rfl,hC,hS⟩ | exact ⟨rfl,hS⟩ | exact ⟨hC,hS⟩ | exact rfl | exact hS
       ·have hn1:n0≤1:=by simp at hn;omega
        have hS:lrS (pb + 1) n0 wx n0 wx:=⟨Nat.le_refl _,hn1,KeepX.refl _ _⟩
        unfold Op1
        go_simp
        first | exact ⟨rfl,hC,hS⟩ | exact ⟨rfl,hS⟩ | exact ⟨hC,hS⟩ | exact rfl | exact hS
       ·have hn1:n0≤1:=by simp at hn;omega
        have hS:lrS (pb + 1) n0 wx n0 wx:=⟨Nat.le_refl _,hn1,KeepX.refl _ _⟩
        have q:=hC.2.2.2.1
        have e0:=q.cell 0
        have e1:=q.cell 1
        have e2:=q.cell 2
        have e3:=q.cell 3
        simp at e0 e1 e2 e3
        clear q
        unfold Op1
        go_simp
        first | exact ⟨rfl,hC,hS⟩ | exact ⟨rfl,hS⟩ | exact ⟨hC,hS⟩ | exact rfl | exact hS
       ·have hn1:n0≤1:=by simp at hn;omega
        obtain ⟨h0,h1,h2, -⟩:=hp
        have h0:T 0=.agg #[.bool ps, .int .u64 (ph:Int), .int .u64 (pl:Int), .int .i64 pn, .slice ka kn kc, .slice la ln lc]:=h0
        have h1:T 1=.string (strL key):=h1
        have h2:T 2=.agg #[.bool f1, .int .u64 (f2:Int), .int .u64 (f3:Int), .int .i64 n]:=h2
        unfold Op1
        go_simp
        refine (HLd.out wx (HKw.out.below hC.1) (HLw.out.below hC.1)).mono ?_
        rintro e w5 ⟨v,rfl,hV,hb⟩
        exact ⟨_,rfl,hV.weak hC.2.1,hC.later hb,Nat.le_refl _,hn1,KeepX.of_below hb⟩
       ·have hn1:n0≤1:=by simp at hn;omega
        have hS:lrS (pb + 1) n0 wx n0 wx:=⟨Nat.le_refl _,hn1,KeepX.refl _ _⟩
        have q:=hC.2.2.2.1
        have e0:=q.cell 0
        have e1:=q.cell 1
        have e2:=q.cell 2
        have e3:=q.cell 3
        simp at e0 e1 e2 e3
        clear q
        unfold Op1
        go_simp
        first | exact ⟨rfl,hC,hS⟩ | exact ⟨rfl,hS⟩ | exact ⟨hC,hS⟩ | exact rfl | exact hS
       ·obtain rfl:n0=0:=by simpa using hn
        obtain ⟨h3, -⟩:=hp
        have h3:PoolV wx w5.heap.size (T 3) (ps,ph,pl,pn) K LL:=h3
        obtain ⟨a1,c1,a2,c2,e,q1,q2⟩:=h3
        have hV:PoolV wx w5.heap.size (.agg #[.bool ps, .int .u64 (ph:Int), .int .u64 (pl:Int), .int .i64 pn, .slice a1 K.length c1, .slice a2 LL.length c2]) (ps,ph,pl,pn) K LL:=⟨a1,c1,a2,c2,rfl,q1,q2⟩
        obtain ⟨cs,hb1,hsz, -⟩:=hC.2.2.2.2.2
        refine Op1.store_rowQ 34 (.tmp 6) (.tmp 44) rfl (pb + 1) #[.bool ps, .int .u64 (ph:Int), .int .u64 (pl:Int), .int .i64 pn, .slice a1 K.length c1, .slice a2 LL.length c2] rfl e 34 cs hb1 size_pool hsz (all_pool ps ph pl pn a1 a2 K.length c1 LL.length c2) ?_
        exact ⟨rfl,hC.store _ rfl hV Hbs.out (by have:=Hpw.out;omega) (by omega) (by have:=Hxb.out;omega),by simp,by simp,KeepX.setRow _ _ _⟩
      case hend =>
       intro T w4 ⟨n0,hn0,hC,hR⟩
       have h5:n0=1:=hR 5 (by omega)
       subst h5
       have hT4:T 4=.agg #[.bool f1, .int .u64 (f2:Int), .int .u64 (f3:Int), .int .i64 n]:=hR 4 (by omega)
       obtain ⟨hB4,hbs4, -, -,hR24,cs,hR14, -,hV⟩:=hC
       obtain ⟨a1,c1,a2,c2,e,q1,q2⟩:=hV rfl
       injection e with e
       subst e
       have HR1:Hid (Blk w4 (pb + 1) 34 #[.bool ps, .int .u64 (ph:Int), .int .u64 (pl:Int), .int .i64 pn, .slice a1 K.length c1, .slice a2 LL.length c2]):=Lib.hid hR14
       have HR2:=Lib.hid hR24
       have HB:=Lib.hid hB4
       have HOK:=Lib.hid q1
       have HOL:=Lib.hid q2
       clear hR hV q1 q2 hR14 hR24 hB4 hbs4 HC3 HLd
       simp only [List.drop_succ_cons,List.drop_zero]
       rw [hT4]
       have c4:=HR2.out.set4w (x':=.bool f1) (y':=.int .u64 (f2:Int)) (z':=.int .u64 (f3:Int)) (u':=.int .i64 n)
       have c6:=HR1.out.far4w (show pb + 1 ≠ pb + 1 + 1 by omega) (x':=.bool f1) (y':=.int .u64 (f2:Int)) (z':=.int .u64 (f3:Int)) (u':=.int .i64 n)
       have z0:=c6.cell 0
       have z1:=c6.cell 1
       have z2:=c6.cell 2
       have z3:=c6.cell 3
       have z4:=c6.cell 4
       have z5:=c6.cell 5
       have y0:=c4.cell 0
       have y1:=c4.cell 1
       have y2:=c4.cell 2
       have y3:=c4.cell 3
       simp at z0 z1 z2 z3 z4 z5 y0 y1 y2 y3
       clear c4 c6
       have r0:=HR2.out.cell 0
       have r1:=HR2.out.cell 1
       have r2:=HR2.out.cell 2
       have r3:=HR2.out.cell 3
       simp at r0 r1 r2 r3
       have rf:=HR2.out.free
       have HBf:Hid (Below w.heap.size w ((((w4.setCell ⟨pb + 1 + 1,0,none⟩ (.bool f1)).setCell ⟨pb + 1 + 1,1,none⟩ (.int .u64 (f2:Int))).setCell ⟨pb + 1 + 1,2,none⟩ (.int .u64 (f3:Int))).setCell ⟨pb + 1 + 1,3,none⟩ (.int .i64 n))):=Lib.hid (HB.out.grown (grown_setCells (pb + 1 + 1) [.bool f1, .int .u64 (f2:Int), .int .u64 (f3:Int), .int .i64 n] 0 w4) HB.out.size (fun j hj => by injection hj with hj;have:=Hpw.out;omega))
       have HVf:Hid (PoolV ((((w4.setCell ⟨pb + 1 + 1,0,none⟩ (.bool f1)).setCell ⟨pb + 1 + 1,1,none⟩ (.int .u64 (f2:Int))).setCell ⟨pb + 1 + 1,2,none⟩ (.int .u64 (f3:Int))).setCell ⟨pb + 1 + 1,3,none⟩ (.int .i64 n)) w.heap.size (.agg #[.bool ps, .int .u64 (ph:Int), .int .u64 (pl:Int), .int .i64 pn, .slice a1 K.length c1, .slice a2 LL.length c2]) (ps,ph,pl,pn) K LL):=Lib.hid (PoolV.weak ⟨a1,c1,a2,c2,rfl,HOK.out.farC (show pb + 1 + 1 < w5.heap.size by have:=Hb2.out;omega) 0 [.bool f1, .int .u64 (f2:Int), .int .u64 (f3:Int), .int .i64 n],HOL.out.farC (show pb + 1 + 1 < w5.heap.size by have:=Hb2.out;omega) 0 [.bool f1, .int .u64 (f2:Int), .int .u64 (f3:Int), .int .i64 n]⟩ (show w.heap.size≤w5.heap.size by have:=Hbs.out;have:=Hpw.out;omega))
       go_wp2_with fail
       refine bodyPost_ret (v:=.tuple #[.agg #[.bool ps, .int .u64 (ph:Int), .int .u64 (pl:Int), .int .i64 pn, .slice a1 K.length c1, .slice a2 LL.length c2], .agg #[.bool f1, .int .u64 (f2:Int), .int .u64 (f3:Int), .int .i64 n], .bool true]) (by simp [results,Tryz.results19,go_sem, *]) rfl ⟨_,by rw [HE.out];rfl,by rw [HE.out];show PoolV _ _ _ (ps,ph,pl,pn) K (leasedL L key (f1,f2,f3,n));rw [HLL.out];exact HVf.out,HBf.out⟩
     ·have hm2:decide (f4=(b:Int))=false:=decide_eq_false hc
      have HN3:=Lib.hid (HN2.out hm2)
      have hm3:(f4 == (b:Int))=false:=by simpa using hc
      clear HY HN2
      go_wp2_with fail
      exact ⟨⟨k + 1,by omega,by go_num,HN3,HBr3⟩,by simp [intOf];omega⟩
    ·obtain ⟨m0,hm0⟩:∃ q,q=m:=⟨_,rfl⟩
     obtain rfl:k=m:=by omega
     subst hm0
     have HJ2:Hid (lr b=o):=Lib.hid ((HNb.out fun j g hj => HN.out j g (by rw [← Hm.out];exact (List.getElem?_eq_some_iff.1 hj).1) hj).symm.trans HJ.out)
     have e7:IntKind.i64.wrap ((b:Int) - 1)=(b:Int) - 1:=by rw [IntKind.wrap_i64];omega
     have e8:wrap64 ((b:Int) - 1)=(b:Int) - 1:=by unfold wrap64;omega
     clear HAb HNb HJ HN HQx HR1x HR2x HBx
     go_wp2_with fail
     exact ⟨⟨b,by omega,by go_num,HJ2,HBr⟩,by simp [intOf]⟩
def eqLsR (s1 s2:Value) (i:Nat) (g1 g2 o1 o2:Nat) (x:Ls):Nat→Value→World→Prop
 | 0,v,_ => v=s1
 | 1,v,_ => v=.int .i64 (i:Int)
 | 2,v,_ => v=.pointer (some ⟨g1,o1 + i * 5,none⟩)
 | 3,v,_ => v=.agg (layLs.enc x).toArray
 | 4,v,_ => v=s2
 | 5,v,_ => v=.int .i64 (i:Int)
 | 6,v,_ => v=.pointer (some ⟨g2,o2 + i * 5,none⟩)
 | _,v,_ => v=.agg (layLs.enc x).toArray
theorem eqLsR_keep {s1 s2:Value} {i g1 g2 o1 o2:Nat} {x:Ls} (p:Nat) (v:Value) (u w:World) (h:eqLsR s1 s2 i g1 g2 o1 o2 x p v u) (hb:Below u.heap.size u w):eqLsR s1 s2 i g1 g2 o1 o2 x p v w:=by
 rcases p with _ | _ | _ | _ | _ | _ | _ | p
 all_goals exact h
theorem equalIn_pfL (d:Nat) (s:Bool) (h l b:Int) (w:World):(Op.equalIn (d + 3) 30 (.agg #[.bool s, .int .u64 h, .int .u64 l, .int .i64 b]) (.agg #[.bool s, .int .u64 h, .int .u64 l, .int .i64 b])).run Tryz.prog w=.ok true w:=by
 have hA:=addrEq s s h h l l d
 have u3:=Tryz.underlying3
 have a3:=Tryz.isAgg3
 have z3:=Tryz.sizeOf3
 have a29:=Tryz.isAgg28
 have z29:=Tryz.sizeOf28
 have hS:Tryz.prog.underlying 30=some (.struct (Tryz.prog.fieldsOf 30)):=by kernel_rfl
 have hp:Tryz.prog.stoodInHeld 30=false:=by kernel_rfl
 rw [run_equalIn_agg w (d + 2) 30 _ _ hS hp]
 simp only [Program.fieldsOf,Tryz.underlying30]
 go_simp
theorem equalIn_lsS (d:Nat) (s:Bool) (h l b:Int) (k:ByteArray) (w:World):(Op.equalIn (d + 4) 67 (.agg #[.string k, .bool s, .int .u64 h, .int .u64 l, .int .i64 b]) (.agg #[.string k, .bool s, .int .u64 h, .int .u64 l, .int .i64 b])).run Tryz.prog w=.ok true w:=by
 have hP:=fun w => equalIn_pfL d s h l b w
 have u9:=Tryz.underlying9
 have a9:=Tryz.isAgg9
 have z9:=Tryz.sizeOf9
 have aP:=Tryz.isAgg30
 have zP:=Tryz.sizeOf30
 have hS2:Tryz.prog.underlying 67=some (.struct (Tryz.prog.fieldsOf 67)):=by kernel_rfl
 have hp2:Tryz.prog.stoodInHeld 67=false:=by kernel_rfl
 rw [run_equalIn_agg w (d + 3) 67 _ _ hS2 hp2]
 simp only [Program.fieldsOf,Tryz.underlying67]
 go_simp
theorem neq_selfLs (v:Ls) (w:World):(binOp .neq 67 (.agg (layLs.enc v).toArray) (.agg (layLs.enc v).toArray)).run Tryz.prog w=.ok (.bool false) w:=by
 have h:=equalIn_lsS 9996 v.2.1 ((v.2.2.1:Nat):Int) ((v.2.2.2.1:Nat):Int) v.2.2.2.2 (strL v.1) w
 show (binOp .neq 67 (.agg #[.string (strL v.1), .bool v.2.1, .int .u64 ((v.2.2.1:Nat):Int), .int .u64 ((v.2.2.2.1:Nat):Int), .int .i64 v.2.2.2.2]) (.agg #[.string (strL v.1), .bool v.2.1, .int .u64 ((v.2.2.1:Nat):Int), .int .u64 ((v.2.2.2.1:Nat):Int), .int .i64 v.2.2.2.2])).run Tryz.prog w=_
 rw [run_neq_struct,h];rfl
theorem guard_ls (op:BinOp) (x y:Operand) (f g:Ls) (w:World) (h:op=.eql ∨ op=.neq):(eqGuard op 67 x y (.agg (layLs.enc f).toArray) (.agg (layLs.enc g).toArray)).run Tryz.prog w=.ok () w:=by
 rcases h with rfl | rfl
 ·exact run_eqGuard_agg w _ _ _ _ _ _ (by kernel_rfl)
 ·exact run_eqGuard_agg w _ _ _ _ _ _ (by kernel_rfl)
theorem equalLs_any (a1 a2:Option Addr) (n c1 c2:Nat) (L:List Ls) (w:World) (h1:RdK layLs w a1 L) (h2:RdK layLs w a2 L) (hn:L.length=n) (hs:n≤1000000) :
  Calls Tryz.prog 59 #[.slice a1 n c1, .slice a2 n c2] w (Ret (.bool true) w):=by
 have H1:=Lib.hid h1
 have H2:=Lib.hid h2
 have Hn:=Lib.hid hn
 clear h1 h2 hn
 go_enter Tryz.func59,Tryz.ntmps59
 go_wp2_with fail
 go_loopw [5,13] (fun s5 i wr => ∃ k:Nat,k≤n∧i=.int .i64 (k:Int)∧Hid (Below w.heap.size w wr)) (fun _ i _ => n - (intOf i).toNat)
 case atStart => exact ⟨0,Nat.zero_le _,rfl,Lib.hid (Below.refl _ _)⟩
 case round =>
  obtain ⟨k,hk,rfl,HB⟩:=hrel
  by_cases hlt:k < n
  ·have hS:k < L.length:=by rw [Hn.out];exact hlt
   obtain ⟨x,hx⟩:∃ x,L[k]?=some x:=⟨_,List.getElem?_eq_getElem hS⟩
   obtain ⟨g1,o1,had1,hg1,hc1⟩:=(H1.out.below HB.out) k x hx
   obtain ⟨g2,o2,had2,hg2,hc2⟩:=(H2.out.below HB.out) k x hx
   have HR1:Hid (∀ wx,Below wr.heap.size wr wx→wx.rangeAt g1 (o1 + k * 5) (layLs.enc x)):=Lib.hid fun wx hb => range_below (fun j v hv => by
    have:=hc1 j v hv
    rwa [← Nat.add_assoc] at this) hb hg1
   have HR2:Hid (∀ wx,Below wr.heap.size wr wx→wx.rangeAt g2 (o2 + k * 5) (layLs.enc x)):=Lib.hid fun wx hb => range_below (fun j v hv => by
    have:=hc2 j v hv
    rwa [← Nat.add_assoc] at this) hb hg2
   subst had1 had2
   clear hx hS hg1 hg2 hc1 hc2
   go_upto_region 6 with fail
   refine wp_region_inv 8 0 (eqLsR (.slice (some ⟨g1,o1,none⟩) n c1) (.slice (some ⟨g2,o2,none⟩) n c2) k g1 g2 o1 o2 x) (fun _ wx => Below wr.heap.size wr wx) (fun u v => Below u.heap.size u v) (fun _ => 0)
    (by kernel_rfl) (by kernel_rfl) (by decide) eqLsR_keep (below_drew (Below.refl _ _)) ?hX
   case' hX => (apply Exists.intro;refine ⟨fun T => ?hA,?hob,?hend⟩)
   case hA =>
    simp only [setAll,List.take_succ_cons,List.take_zero,Act.put,List.setIfInBounds_toArray,List.set_cons_succ,List.set_cons_zero,Nat.reduceAdd]
    exact rfl
   case hob =>
    go_light
    refine ⟨?_,?_,?_,?_,?_,?_,?_,?_,trivial⟩
    all_goals (intro T wx n0 hC hn hp;dsimp only at hn ⊢)
    ·unfold Op1
     go_simp
     exact ⟨rfl,Below.refl _ _⟩
    ·unfold Op1
     go_simp
     exact ⟨rfl,Below.refl _ _⟩
    ·obtain ⟨q0,q1, -⟩:=hp
     have q0:T 0=.slice (some ⟨g1,o1,none⟩) n c1:=q0
     have q1:T 1=.int .i64 (k:Int):=q1
     unfold Op1
     go_simp
     exact ⟨rfl,Below.refl _ _⟩
    ·obtain ⟨q0, -⟩:=hp
     have q0:T 2=.pointer (some ⟨g1,o1 + k * 5,none⟩):=q0
     exact Op1.loadn 67 (.tmp 18) rfl g1 (o1 + k * 5) q0 (layLs.enc x) _ (HR1.out wx hC) under_ls rfl 5 size_ls (layLs.len x) ⟨rfl,hC,Below.refl _ _⟩
    ·unfold Op1
     go_simp
     exact ⟨rfl,Below.refl _ _⟩
    ·unfold Op1
     go_simp
     exact ⟨rfl,Below.refl _ _⟩
    ·obtain ⟨q0,q1, -⟩:=hp
     have q0:T 4=.slice (some ⟨g2,o2,none⟩) n c2:=q0
     have q1:T 5=.int .i64 (k:Int):=q1
     unfold Op1
     go_simp
     exact ⟨rfl,Below.refl _ _⟩
    ·obtain ⟨q0, -⟩:=hp
     have q0:T 6=.pointer (some ⟨g2,o2 + k * 5,none⟩):=q0
     exact Op1.loadn 67 (.tmp 22) rfl g2 (o2 + k * 5) q0 (layLs.enc x) _ (HR2.out wx hC) under_ls rfl 5 size_ls (layLs.len x) ⟨rfl,hC,Below.refl _ _⟩
   case hend =>
    intro T w4 ⟨n0,hn0,hb⟩ hR
    have hT3:T 3=.agg (layLs.enc x).toArray:=hR 3 (by omega)
    have hT7:T 7=.agg (layLs.enc x).toArray:=hR 7 (by omega)
    have gx:=fun a b wz => guard_ls .neq a b x x wz (.inr rfl)
    have nx:=fun wz => neq_selfLs x wz
    have HB4:=Lib.hid (HB.out.trans (hb.mono HB.out.size))
    clear hR hb HR1 HR2 HB
    generalize (layLs.enc x).toArray=X at *
    go_wp2_with fail
    exact ⟨⟨k + 1,by omega,by go_num,HB4⟩,by simp [intOf];omega⟩
  ·obtain rfl:k=n:=by omega
   go_wp2_with fail
   go_ret
   exact ⟨rfl,HB.out⟩
theorem samePool_any (P:Pf) (K:List Pf) (L:List Ls) (a1 a2 a3 a4:Option Addr) (kn ln c1 c2 c3 c4:Nat) (w:World) (h1:RdK layPf w a1 K) (h2:RdK layLs w a2 L) (h3:RdK layPf w a3 K) (h4:RdK layLs w a4 L) (hkn:K.length=kn) (hln:L.length=ln) (hks:kn≤1000) (hls:ln≤1000) :
  Calls Tryz.prog 21 #[.agg (plC P (.slice a1 kn c1) (.slice a2 ln c2)).toArray, .agg (plC P (.slice a3 kn c3) (.slice a4 ln c4)).toArray] w (Ret (.bool true) w):=by
 have HEK:Hid (∀ wx,RdK layPf wx a1 K→RdK layPf wx a3 K→Calls Tryz.prog 13 #[.slice a1 kn c1, .slice a3 kn c3] wx (Ret (.bool true) wx)):=Lib.hid fun wx r1 r3 => by
  have h:=equal_pf a1 a3 c1 c3 K K wx r1 r3 (by omega)
  rw [hkn] at h
  refine h.mono ?_
  rintro e w' ⟨rfl,n,rfl⟩
  exact ⟨by rw [decide_eq_true rfl],below_drewN (Below.refl _ _) _⟩
 have HEL:=Lib.hid fun wx (r2:RdK layLs wx a2 L) (r4:RdK layLs wx a4 L) => equalLs_any a2 a4 ln c2 c4 L wx r2 r4 hln (by omega)
 obtain ⟨ps,ph,pl,pn⟩:=P
 rw [show (plC (ps,ph,pl,pn) (.slice a1 kn c1) (.slice a2 ln c2)).toArray=#[.bool ps, .int .u64 (ph:Int), .int .u64 (pl:Int), .int .i64 pn, .slice a1 kn c1, .slice a2 ln c2] from rfl,show (plC (ps,ph,pl,pn) (.slice a3 kn c3) (.slice a4 ln c4)).toArray=#[.bool ps, .int .u64 (ph:Int), .int .u64 (pl:Int), .int .i64 pn, .slice a3 kn c3, .slice a4 ln c4] from rfl]
 have hE:=fun w => pfx_eql ps ps (ph:Int) (ph:Int) (pl:Int) (pl:Int) pn pn w
 have hG:=pfx_guard
 have hT:decide ((ps,(ph:Int),(pl:Int),pn)=((ps,(ph:Int),(pl:Int),pn):Bool × Int × Int × Int))=true:=decide_eq_true rfl
 rw [hT] at hE
 clear hT hkn hln
 have hB01:Below w.heap.size w ((w.alloc (.cells #[.bool ps, .int .u64 (ph:Int), .int .u64 (pl:Int), .int .i64 pn, .slice a1 kn c1, .slice a2 ln c2] 34 (0,0))).alloc (.cells #[.bool ps, .int .u64 (ph:Int), .int .u64 (pl:Int), .int .i64 pn, .slice a3 kn c3, .slice a4 ln c4] 34 (0,0))):=below_alloc (below_alloc (Below.refl _ _) _) _
 have HB01:=Lib.hid hB01
 have H1:=Lib.hid h1
 have H2:=Lib.hid h2
 have H3:=Lib.hid h3
 have H4:=Lib.hid h4
 have HP:Hid (Blk ((w.alloc (.cells #[.bool ps, .int .u64 (ph:Int), .int .u64 (pl:Int), .int .i64 pn, .slice a1 kn c1, .slice a2 ln c2] 34 (0,0))).alloc (.cells #[.bool ps, .int .u64 (ph:Int), .int .u64 (pl:Int), .int .i64 pn, .slice a3 kn c3, .slice a4 ln c4] 34 (0,0))) w.heap.size 34 #[.bool ps, .int .u64 (ph:Int), .int .u64 (pl:Int), .int .i64 pn, .slice a1 kn c1, .slice a2 ln c2]):=Lib.hid ((Blk.new w _ _).alloc _)
 have HQ:Hid (Blk ((w.alloc (.cells #[.bool ps, .int .u64 (ph:Int), .int .u64 (pl:Int), .int .i64 pn, .slice a1 kn c1, .slice a2 ln c2] 34 (0,0))).alloc (.cells #[.bool ps, .int .u64 (ph:Int), .int .u64 (pl:Int), .int .i64 pn, .slice a3 kn c3, .slice a4 ln c4] 34 (0,0))) (w.heap.size + 1) 34 #[.bool ps, .int .u64 (ph:Int), .int .u64 (pl:Int), .int .i64 pn, .slice a3 kn c3, .slice a4 ln c4]):=Lib.hid (by
  have this:=Blk.new (w.alloc (.cells #[.bool ps, .int .u64 (ph:Int), .int .u64 (pl:Int), .int .i64 pn, .slice a1 kn c1, .slice a2 ln c2] 34 (0,0))) 34 #[.bool ps, .int .u64 (ph:Int), .int .u64 (pl:Int), .int .i64 pn, .slice a3 kn c3, .slice a4 ln c4]
  rw [World.size_alloc] at this
  exact this)
 clear h1 h2 h3 h4 hB01
 go_enter Tryz.func21,Tryz.ntmps21
 go_upto_region 1 with fail
 generalize ((w.alloc (.cells #[.bool ps, .int .u64 (ph:Int), .int .u64 (pl:Int), .int .i64 pn, .slice a1 kn c1, .slice a2 ln c2] 34 (0,0))).alloc (.cells #[.bool ps, .int .u64 (ph:Int), .int .u64 (pl:Int), .int .i64 pn, .slice a3 kn c3, .slice a4 ln c4] 34 (0,0)))=w1 at *
 generalize w.heap.size=b at HP HQ ⊢
 have p0:=HP.out.cell 0
 have p1:=HP.out.cell 1
 have p2:=HP.out.cell 2
 have p3:=HP.out.cell 3
 have p4:=HP.out.cell 4
 simp at p0 p1 p2 p3 p4
 have q0:=HQ.out.cell 0
 have q1:=HQ.out.cell 1
 have q2:=HQ.out.cell 2
 have q3:=HQ.out.cell 3
 have q4:=HQ.out.cell 4
 simp at q0 q1 q2 q3 q4
 go_wp2_with fail
 refine (HEK.out _ (H1.out.below HB01.out) (H3.out.below HB01.out)).mono ?_
 rintro e w2 ⟨rfl,hb⟩
 have HB2:=Lib.hid (HB01.out.trans (hb.mono HB01.out.size))
 have HP2:=Lib.hid (HP.out.below hb HP.out.lt)
 have HQ2:=Lib.hid (HQ.out.below hb HQ.out.lt)
 clear hb p0 p1 p2 p3 p4 q0 q1 q2 q3 q4 HEK HP HQ hE hG
 have p5:=HP2.out.cell 5
 simp at p5
 have q5:=HQ2.out.cell 5
 simp at q5
 go_wp2_with fail
 refine (HEL.out _ (H2.out.below HB2.out) (H4.out.below HB2.out)).mono ?_
 rintro e w3 ⟨rfl,hb⟩
 have HB3:=Lib.hid (HB2.out.trans (hb.mono HB2.out.size))
 clear hb p5 q5 HEL HP2 HQ2
 go_wp2_with fail
 go_ret
 exact ⟨rfl,HB3.out⟩
end Go.Proofs.YteldaicgaeooiaaGreatDoor
