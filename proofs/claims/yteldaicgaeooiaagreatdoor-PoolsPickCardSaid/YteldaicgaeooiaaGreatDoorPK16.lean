/-
  What the generator of reports calls: Some, the closure that compares; the state in a round.
  The generator Pool: nearly always a right one.
  The generator LeaseKey.
  take: the lease that the program takes; Take and Best.
  Take and Best.
  BestOf: the reference's search for the best free block.
  slices.Equal of two rows of the same leases; SamePool of equal pools.
-/
import Derived.Test.YteldaicgaeooiaaGreatDoorPK15
import Derived.Test.YteldaicgaeooiaaGreatDoorPK6
import Derived.Test.YteldaicgaeooiaaGreatDoorPK3
import Derived.Test.YteldaicgaeooiaaGreatDoorPK4
import Derived.Test.YteldaicgaeooiaaGreatDoorPK14
import Derived.Test.YteldaicgaeooiaaGreatDoorPK8
import Derived.Test.YteldaicgaeooiaaGreatDoorPK10
import Derived.Test.YteldaicgaeooiaaGreatDoorPK9
import Derived.Deep.Light
set_option linter.unusedVariables false
set_option maxRecDepth 100000
set_option maxHeartbeats 16000000
namespace Go.Proofs.YteldaicgaeooiaaGreatDoor
open Go.RowKit Go
def RdStr (w:World) (g:Nat) (ss:List ByteArray):Prop:=g < w.heap.size∧∀ (i:Nat) s,ss[i]?=some s→w.cell? ⟨g,i,none⟩=some (.string s)
theorem RdStr.grown {w w':World} {g b:Nat} {ss:List ByteArray} (h:RdStr w g ss) (hg:w.grownBy w' (some b)) (hne:g ≠ b):RdStr w' g ss :=
 ⟨Nat.lt_of_lt_of_le h.1 hg.size,fun i s hi => (World.cell?_of_block (hg.block g h.1 (by simpa using hne))).trans (h.2 i s hi)⟩
theorem rdStr_new (w:World) (t:TypeId) (ss:List ByteArray) (vs:Array Value) (hv:vs=(ss.map Value.string).toArray):RdStr (w.alloc (.cells vs t)) w.heap.size ss:=by
 subst hv
 refine ⟨by simp,fun i s hi => ?_⟩
 rw [cell_of_row _ w.heap.size i _ _ _ (heap_alloc_new w _)]
 simp [hi]
theorem some_gen (b m g n:Nat) (ss:List ByteArray) (w:World) (h:Strm w b m) (hm:m < 1099511627776) (hn:ss.length=n) (hn1:1≤n∧n≤1000) (hs:RdStr w g ss) (hgb:g ≠ b) :
  Calls Tryz.prog 33 #[.pointer (some ⟨b,0,none⟩), .slice (some ⟨g,0,none⟩) n n] w fun e w' => ∃ s:ByteArray,e=.returned (.string s)∧s ∈ ss∧Gen b w w' (m + 1):=by
 have Hs:=Lib.hid hs
 have HS:=Lib.hid h
 have Hn:=Lib.hid hn
 clear hs h hn
 go_enter Tryz.func33,Tryz.ntmps33
 go_wp2_with fail
 refine (next_gen b m _ _ HS.out hm (by omega)).mono ?_
 rintro e w1 ⟨k,rfl,⟨hk0,hk1⟩,hg⟩
 obtain ⟨j,rfl⟩:=Int.eq_ofNat_of_zero_le hk0
 have hj:j < n:=by omega
 obtain ⟨s,hs⟩:∃ s,ss[j]?=some s:=⟨_,List.getElem?_eq_getElem (by rw [Hn.out];exact hj)⟩
 have hc:=(Hs.out.grown hg.g hgb).2 j s hs
 have HG:=Lib.hid hg
 have hmem:=List.mem_of_getElem? hs
 have HM:=Lib.hid hmem
 clear hg hs hmem
 have b1:(0:Int)≤(j:Int):=by omega
 have b2:(j:Int) < (n:Int):=by omega
 go_wp2_with fail
 go_ret
 exact ⟨s,rfl,HM.out,HG.out⟩
open Go.RowKit Go Go.Sort
theorem pool_gen (b m:Nat) (w:World) (h:Strm w b m) (hm:m + 300 < 1099511627776) :
  Calls Tryz.prog 5 #[.pointer (some ⟨b,0,none⟩)] w fun e w' => ∃ v P K L,e=.returned v∧PoolV w' w.heap.size v P K L∧(u2P P∧(-1099511627777≤P.2.2.2∧P.2.2.2≤1099511627777)∧U4 K∧UL L∧K.length + L.length≤7)∧Gen b w w' (m + 100):=by
 have hblt:=h.lt
 have HG0:Hid (Gen b w (w.alloc (.cells #[.bool false, .int .u64 0, .int .u64 0, .int .i64 0, .slice none 0 0, .slice none 0 0] 34 (0,0))) m):=Lib.hid ((Gen.start h).alloc _)
 have HR0:Hid (Blk (w.alloc (.cells #[.bool false, .int .u64 0, .int .u64 0, .int .i64 0, .slice none 0 0, .slice none 0 0] 34 (0,0))) w.heap.size 34 #[.bool false, .int .u64 0, .int .u64 0, .int .i64 0, .slice none 0 0, .slice none 0 0]):=Lib.hid (Blk.new w _ _)
 clear h
 go_enter Tryz.func5,Tryz.ntmps5
 go_upto_region 1 with fail
 generalize w.alloc (.cells #[.bool false, .int .u64 0, .int .u64 0, .int .i64 0, .slice none 0 0, .slice none 0 0] 34 (0,0))=w0 at *
 obtain ⟨rb,hrb⟩:∃ q,w.heap.size=q:=⟨_,rfl⟩
 rw [hrb] at HR0 ⊢
 have Hrb:Hid (rb < w0.heap.size∧w.heap.size≤w0.heap.size∧w.heap.size≤rb∧b < rb):=Lib.hid ⟨HR0.out.lt,HG0.out.g.size,by omega,by omega⟩
 have hrbn:rb ≠ b:=by omega
 clear hrb
 go_wp2_with fail
 refine (rightPool_gen b m _ HG0.out.s (by omega)).mono ?_
 rintro e w1 ⟨v,P,K,L,rfl,hV,hP,hK,hL,hkl,hll,hg⟩
 obtain ⟨a1,c1,a2,c2,rfl,q1,q2⟩:=hV
 have HU:=Lib.hid (show u2P P∧(-1099511627777≤P.2.2.2∧P.2.2.2≤1099511627777)∧U4 K∧UL L∧K.length + L.length≤6 from ⟨⟨hP.ok.1.1,hP.ok.1.2.1⟩,by obtain ⟨nb,hnb,hnl⟩:=okPf_bits hP;omega,fun p hp => ⟨(hK p hp).ok.1.1,(hK p hp).ok.1.2.1⟩,fun x hx => ⟨⟨(hL x hx).1.ok.1.1,(hL x hx).1.ok.1.2.1⟩,(hL x hx).2⟩,by omega⟩)
 obtain ⟨ps,ph,pl,pn⟩:=P
 rw [show (plC (ps,ph,pl,pn) (.slice a1 K.length c1) (.slice a2 L.length c2)).toArray=#[.bool ps, .int .u64 (ph:Int), .int .u64 (pl:Int), .int .i64 pn, .slice a1 K.length c1, .slice a2 L.length c2] from rfl]
 have hbl:Below w1.heap.size w1 (w1.alloc (.cells #[.bool ps, .int .u64 (ph:Int), .int .u64 (pl:Int), .int .i64 pn, .slice a1 K.length c1, .slice a2 L.length c2] 34 (0,0))):=below_alloc (Below.refl _ _) _
 have HX1:Hid (Blk (w1.alloc (.cells #[.bool ps, .int .u64 (ph:Int), .int .u64 (pl:Int), .int .i64 pn, .slice a1 K.length c1, .slice a2 L.length c2] 34 (0,0))) w1.heap.size 34 #[.bool ps, .int .u64 (ph:Int), .int .u64 (pl:Int), .int .i64 pn, .slice a1 K.length c1, .slice a2 L.length c2]):=Lib.hid (Blk.new w1 _ _)
 have HK1:=Lib.hid (q1.later hbl)
 have HL1:=Lib.hid (q2.later hbl)
 have HR1:=Lib.hid ((HR0.out.keep hg.g hrbn).below hbl (HR0.out.keep hg.g hrbn).lt)
 have HG1:Hid (Gen b w (w1.alloc (.cells #[.bool ps, .int .u64 (ph:Int), .int .u64 (pl:Int), .int .i64 pn, .slice a1 K.length c1, .slice a2 L.length c2] 34 (0,0))) (m + 50)):=Lib.hid ((HG0.out.trans hg).alloc _)
 have Hx:Hid (w0.heap.size≤w1.heap.size):=Lib.hid hg.g.size
 clear hP hK hL hkl hll hg q1 q2 hbl HG0 HR0
 go_upto_region 2 with fail
 generalize w1.alloc (.cells #[.bool ps, .int .u64 (ph:Int), .int .u64 (pl:Int), .int .i64 pn, .slice a1 K.length c1, .slice a2 L.length c2] 34 (0,0))=w2 at *
 obtain ⟨xb,hxb⟩:∃ q,w1.heap.size=q:=⟨_,rfl⟩
 rw [hxb] at HX1 Hx ⊢
 have Hxb:Hid (rb < xb∧b < xb∧w.heap.size≤xb):=Lib.hid (by have:=Hrb.out;have:=Hx.out;omega)
 have hxbn:xb ≠ b:=by have:=Hxb.out;omega
 clear hxb
 go_wp2_with fail
 refine (flip_gen b (m + 50) _ _ HG1.out.s (by omega) (by omega)).mono ?_
 rintro e w3 ⟨kf,rfl,hg⟩
 have HX:=Lib.hid (HX1.out.keep hg.g hxbn)
 have HK:=Lib.hid (HK1.out.gen hg (show b < w0.heap.size by have:=Hrb.out;omega))
 have HL:=Lib.hid (HL1.out.gen hg (show b < w0.heap.size by have:=Hrb.out;omega))
 have HR:=Lib.hid (HR1.out.keep hg.g hrbn)
 have HG:Hid (Gen b w w3 (m + 51)):=Lib.hid (HG1.out.trans hg)
 clear hg HX1 HK1 HL1 HR1 HG1
 cases kf
 ·skip
  have c6:=HR.out.set6w (x1':=.bool ps) (x2':=.int .u64 (ph:Int)) (x3':=.int .u64 (pl:Int)) (x4':=.int .i64 pn) (x5':=.slice a1 K.length c1) (x6':=.slice a2 L.length c2)
  have HPf:Hid (PoolV ((((((w3.setCell ⟨rb,0,none⟩ (.bool ps)).setCell ⟨rb,1,none⟩ (.int .u64 (ph:Int))).setCell ⟨rb,2,none⟩ (.int .u64 (pl:Int))).setCell ⟨rb,3,none⟩ (.int .i64 pn)).setCell ⟨rb,4,none⟩ (.slice a1 K.length c1)).setCell ⟨rb,5,none⟩ (.slice a2 L.length c2)) w.heap.size (.agg #[.bool ps, .int .u64 (ph:Int), .int .u64 (pl:Int), .int .i64 pn, .slice a1 K.length c1, .slice a2 L.length c2]) (ps,ph,pl,pn) (K) (L)):=Lib.hid (PoolV.weak ⟨_,_,_,_,by rfl,HK.out.farC Hrb.out.1 0 [.bool ps, .int .u64 (ph:Int), .int .u64 (pl:Int), .int .i64 pn, .slice a1 K.length c1, .slice a2 L.length c2],HL.out.farC Hrb.out.1 0 [.bool ps, .int .u64 (ph:Int), .int .u64 (pl:Int), .int .i64 pn, .slice a1 K.length c1, .slice a2 L.length c2]⟩ Hrb.out.2.1)
  have HGf:Hid (Gen b w ((((((w3.setCell ⟨rb,0,none⟩ (.bool ps)).setCell ⟨rb,1,none⟩ (.int .u64 (ph:Int))).setCell ⟨rb,2,none⟩ (.int .u64 (pl:Int))).setCell ⟨rb,3,none⟩ (.int .i64 pn)).setCell ⟨rb,4,none⟩ (.slice a1 K.length c1)).setCell ⟨rb,5,none⟩ (.slice a2 L.length c2)) (m + 100)):=Lib.hid (by
   repeat refine Gen.setCell ?_ _ _ Hrb.out.2.2.1 Hrb.out.2.2.2
   exact HG.out.mono (by omega))
  have z0:=c6.cell 0
  have z1:=c6.cell 1
  have z2:=c6.cell 2
  have z3:=c6.cell 3
  have z4:=c6.cell 4
  have z5:=c6.cell 5
  simp at z0 z1 z2 z3 z4 z5
  clear c6
  have p0:=HX.out.cell 0
  have p1:=HX.out.cell 1
  have p2:=HX.out.cell 2
  have p3:=HX.out.cell 3
  have p4:=HX.out.cell 4
  have p5:=HX.out.cell 5
  simp at p0 p1 p2 p3 p4 p5
  have r0:=HR.out.cell 0
  have r1:=HR.out.cell 1
  have r2:=HR.out.cell 2
  have r3:=HR.out.cell 3
  have r4:=HR.out.cell 4
  have r5:=HR.out.cell 5
  simp at r0 r1 r2 r3 r4 r5
  have rf:=HR.out.free
  clear HR HX HK HL HG
  go_wp2_with fail
  refine bodyPost_ret (v:=.agg #[.bool ps, .int .u64 (ph:Int), .int .u64 (pl:Int), .int .i64 pn, .slice a1 K.length c1, .slice a2 L.length c2]) (by simp [results,Tryz.results5,go_sem, *]) rfl ⟨_,(ps,ph,pl,pn),K,L,rfl,HPf.out,⟨HU.out.1,HU.out.2.1,HU.out.2.2.1,HU.out.2.2.2.1,by have:=HU.out.2.2.2.2;omega⟩,HGf.out⟩
 ·go_wp2_with fail
  refine (next_gen b (m + 51) 3 _ HG.out.s (by omega) (by omega)).mono ?_
  rintro e w4 ⟨nx,rfl,hnx,hg⟩
  have hnx3:nx=0 ∨ nx=1 ∨ nx=2:=by unfold BelowRes at hnx;omega
  replace HX:=Lib.hid (HX.out.keep hg.g hxbn)
  replace HK:=Lib.hid (HK.out.gen hg (show b < w0.heap.size by have:=Hrb.out;omega))
  replace HL:=Lib.hid (HL.out.gen hg (show b < w0.heap.size by have:=Hrb.out;omega))
  replace HR:=Lib.hid (HR.out.keep hg.g hrbn)
  replace HG:Hid (Gen b w w4 (m + 52)):=Lib.hid (HG.out.trans hg)
  clear hg hnx
  rcases hnx3 with rfl | rfl | rfl
  ·go_wp2_with fail
   refine (prefix_gen b (m + 52) _ HG.out.s (by omega)).mono ?_
   rintro e w5 ⟨gs,gh,gl,gn,rfl,hu1,hu2,hbd,hg⟩
   unfold vP
   have HUq:=Lib.hid (And.intro (And.intro hu1 hu2) hbd)
   have hX5:=HX.out.keep hg.g hxbn
   have HX6:Hid (Blk ((((w5.setCell ⟨xb,0,none⟩ (.bool gs)).setCell ⟨xb,1,none⟩ (.int .u64 (gh:Int))).setCell ⟨xb,2,none⟩ (.int .u64 (gl:Int))).setCell ⟨xb,3,none⟩ (.int .i64 gn)) xb 34 #[.bool gs, .int .u64 (gh:Int), .int .u64 (gl:Int), .int .i64 gn, .slice a1 K.length c1, .slice a2 L.length c2]):=Lib.hid (Blk.set (Blk.set (Blk.set (Blk.set hX5 0 _) 1 _) 2 _) 3 _)
   have HK6:Hid (OwnK layPf ((((w5.setCell ⟨xb,0,none⟩ (.bool gs)).setCell ⟨xb,1,none⟩ (.int .u64 (gh:Int))).setCell ⟨xb,2,none⟩ (.int .u64 (gl:Int))).setCell ⟨xb,3,none⟩ (.int .i64 gn)) w0.heap.size (.slice a1 K.length c1) K):=Lib.hid ((HK.out.gen hg (show b < w0.heap.size by have:=Hrb.out;omega)).keepT (((KeepT.of_cells (S:=[34]) [.bool gs, .int .u64 (gh:Int), .int .u64 (gl:Int), .int .i64 gn] hX5 (by simp) 0))) (by decide))
   have HL6:Hid (OwnK layLs ((((w5.setCell ⟨xb,0,none⟩ (.bool gs)).setCell ⟨xb,1,none⟩ (.int .u64 (gh:Int))).setCell ⟨xb,2,none⟩ (.int .u64 (gl:Int))).setCell ⟨xb,3,none⟩ (.int .i64 gn)) w0.heap.size (.slice a2 L.length c2) L):=Lib.hid ((HL.out.gen hg (show b < w0.heap.size by have:=Hrb.out;omega)).keepT (((KeepT.of_cells (S:=[34]) [.bool gs, .int .u64 (gh:Int), .int .u64 (gl:Int), .int .i64 gn] hX5 (by simp) 0))) (by decide))
   have HR6:Hid (Blk ((((w5.setCell ⟨xb,0,none⟩ (.bool gs)).setCell ⟨xb,1,none⟩ (.int .u64 (gh:Int))).setCell ⟨xb,2,none⟩ (.int .u64 (gl:Int))).setCell ⟨xb,3,none⟩ (.int .i64 gn)) rb 34 #[.bool false, .int .u64 0, .int .u64 0, .int .i64 0, .slice none 0 0, .slice none 0 0]):=Lib.hid ((HR.out.keep hg.g hrbn).far4w (show rb ≠ xb by have:=Hxb.out;omega))
   have HG6:Hid (Gen b w ((((w5.setCell ⟨xb,0,none⟩ (.bool gs)).setCell ⟨xb,1,none⟩ (.int .u64 (gh:Int))).setCell ⟨xb,2,none⟩ (.int .u64 (gl:Int))).setCell ⟨xb,3,none⟩ (.int .i64 gn)) (m + 66)):=Lib.hid (by
    repeat refine Gen.setCell ?_ _ _ Hxb.out.2.2 Hxb.out.2.1
    exact HG.out.trans hg)
   have p0:=hX5.cell 0
   have p1:=hX5.cell 1
   have p2:=hX5.cell 2
   have p3:=hX5.cell 3
   have pf:=hX5.free
   simp at p0 p1 p2 p3
   clear hu1 hu2 hbd hg hX5 HX HK HL HR HG
   go_upto_region 9 with fail
   generalize ((((w5.setCell ⟨xb,0,none⟩ (.bool gs)).setCell ⟨xb,1,none⟩ (.int .u64 (gh:Int))).setCell ⟨xb,2,none⟩ (.int .u64 (gl:Int))).setCell ⟨xb,3,none⟩ (.int .i64 gn))=w6 at *
   clear p0 p1 p2 p3 pf
   have HX:=HX6
   have HK:=HK6
   have HL:=HL6
   have HR:=HR6
   have HG:=HG6
   clear HX6 HK6 HL6 HR6 HG6
   have c6:=HR.out.set6w (x1':=.bool gs) (x2':=.int .u64 (gh:Int)) (x3':=.int .u64 (gl:Int)) (x4':=.int .i64 gn) (x5':=.slice a1 K.length c1) (x6':=.slice a2 L.length c2)
   have HPf:Hid (PoolV ((((((w6.setCell ⟨rb,0,none⟩ (.bool gs)).setCell ⟨rb,1,none⟩ (.int .u64 (gh:Int))).setCell ⟨rb,2,none⟩ (.int .u64 (gl:Int))).setCell ⟨rb,3,none⟩ (.int .i64 gn)).setCell ⟨rb,4,none⟩ (.slice a1 K.length c1)).setCell ⟨rb,5,none⟩ (.slice a2 L.length c2)) w.heap.size (.agg #[.bool gs, .int .u64 (gh:Int), .int .u64 (gl:Int), .int .i64 gn, .slice a1 K.length c1, .slice a2 L.length c2]) (gs,gh,gl,gn) (K) (L)):=Lib.hid (PoolV.weak ⟨_,_,_,_,by rfl,HK.out.farC Hrb.out.1 0 [.bool gs, .int .u64 (gh:Int), .int .u64 (gl:Int), .int .i64 gn, .slice a1 K.length c1, .slice a2 L.length c2],HL.out.farC Hrb.out.1 0 [.bool gs, .int .u64 (gh:Int), .int .u64 (gl:Int), .int .i64 gn, .slice a1 K.length c1, .slice a2 L.length c2]⟩ Hrb.out.2.1)
   have HGf:Hid (Gen b w ((((((w6.setCell ⟨rb,0,none⟩ (.bool gs)).setCell ⟨rb,1,none⟩ (.int .u64 (gh:Int))).setCell ⟨rb,2,none⟩ (.int .u64 (gl:Int))).setCell ⟨rb,3,none⟩ (.int .i64 gn)).setCell ⟨rb,4,none⟩ (.slice a1 K.length c1)).setCell ⟨rb,5,none⟩ (.slice a2 L.length c2)) (m + 100)):=Lib.hid (by
    repeat refine Gen.setCell ?_ _ _ Hrb.out.2.2.1 Hrb.out.2.2.2
    exact HG.out.mono (by omega))
   have z0:=c6.cell 0
   have z1:=c6.cell 1
   have z2:=c6.cell 2
   have z3:=c6.cell 3
   have z4:=c6.cell 4
   have z5:=c6.cell 5
   simp at z0 z1 z2 z3 z4 z5
   clear c6
   have p0:=HX.out.cell 0
   have p1:=HX.out.cell 1
   have p2:=HX.out.cell 2
   have p3:=HX.out.cell 3
   have p4:=HX.out.cell 4
   have p5:=HX.out.cell 5
   simp at p0 p1 p2 p3 p4 p5
   have r0:=HR.out.cell 0
   have r1:=HR.out.cell 1
   have r2:=HR.out.cell 2
   have r3:=HR.out.cell 3
   have r4:=HR.out.cell 4
   have r5:=HR.out.cell 5
   simp at r0 r1 r2 r3 r4 r5
   have rf:=HR.out.free
   clear HR HX HK HL HG
   go_wp2_with fail
   refine bodyPost_ret (v:=.agg #[.bool gs, .int .u64 (gh:Int), .int .u64 (gl:Int), .int .i64 gn, .slice a1 K.length c1, .slice a2 L.length c2]) (by simp [results,Tryz.results5,go_sem, *]) rfl ⟨_,(gs,gh,gl,gn),K,L,rfl,HPf.out,⟨HUq.out.1,HUq.out.2,HU.out.2.2.1,HU.out.2.2.2.1,by have:=HU.out.2.2.2.2;omega⟩,HGf.out⟩
  ·have HCl:=Lib.hid (clonePf_any a1 K.length c1 K w4 HK.out.rd rfl (by have:=HU.out.2.2.2.2;omega))
   have Hw4:Hid (w0.heap.size≤w4.heap.size∧b < w4.heap.size∧w.heap.size≤w4.heap.size∧xb < w4.heap.size∧rb < w4.heap.size):=Lib.hid (by have h1:=HX.out.lt;have:=Hx.out;have:=Hxb.out;have:=Hrb.out;omega)
   have HKn:Hid (K.length≤6):=Lib.hid (by have:=HU.out.2.2.2.2;omega)
   have p4:=HX.out.cell 4
   simp at p4
   go_wp2_with fail
   refine HCl.out.mono ?_
   rintro e w5 ⟨v,rfl,hO,hb⟩
   obtain ⟨a5,c5,rfl, -, -, -⟩:=hO.form
   have HN5:=Lib.hid hO
   have HX5:=Lib.hid (HX.out.below hb HX.out.lt)
   have HL5:=Lib.hid (HL.out.later hb)
   have HR5:=Lib.hid (HR.out.below hb HR.out.lt)
   have HG5:=Lib.hid (HG.out.below0 hb HG.out.s.lt)
   have HZ5:Hid (w4.heap.size≤w5.heap.size):=Lib.hid hb.size
   clear hO hb HX HK HL HR HG HCl p4
   go_wp2_with fail
   refine (prefix_gen b (m + 52) _ HG5.out.s (by omega)).mono ?_
   rintro e w6 ⟨gs,gh,gl,gn,rfl,hu1,hu2,hbd,hg⟩
   unfold vP
   have HUq:=Lib.hid (And.intro (And.intro hu1 hu2) hbd)
   have HN6:=Lib.hid (HN5.out.gen hg (show b < w4.heap.size by have:=Hw4.out;omega))
   have HX6:=Lib.hid (HX5.out.keep hg.g hxbn)
   have HL6:=Lib.hid (HL5.out.gen hg (show b < w0.heap.size by have:=Hrb.out;omega))
   have HR6:=Lib.hid (HR5.out.keep hg.g hrbn)
   have HG6:Hid (Gen b w w6 (m + 66)):=Lib.hid (HG5.out.trans hg)
   have HZ6:Hid (w4.heap.size≤w6.heap.size):=Lib.hid (Nat.le_trans HZ5.out hg.g.size)
   have HXe:Hid ((layPf.enc (gs,gh,gl,gn)).toArray=#[.bool gs, .int .u64 (gh:Int), .int .u64 (gl:Int), .int .i64 gn]):=Lib.hid rfl
   clear hu1 hu2 hbd hg HN5 HX5 HL5 HR5 HG5 HZ5
   go_wp2_with (at_builtin;refine wpList_app pfE rfl (.tmp 31) (.tmp 34) rfl rfl (World.ownsRow.alloc HN6.out _) rfl (src_new layPf _ (gs,gh,gl,gn) _ _ ?c0) ?c1 ?c2 ?c3 ?c4 ?_)
   case c0 => first | rfl | exact HXe.out.symm
   case c1 => exact layPf.one _
   case c2 => have:=HKn.out;unfold maxLen;omega
   case c3 => have:=HKn.out;omega
   case c4 => have:=HZ6.out;simp;omega
   intro v' w7 hO hG
   have hO7:OwnK layPf w7 w4.heap.size v' (K ++ [(gs,gh,gl,gn)]):=OwnK.snoc hO
   have hbg:Below w4.heap.size w6 w7:=hG.allocFirst.below HZ6.out (own_base HN6.out)
   have hk7:=KeepT.of_grew (S:=[30]) HN6.out hG.allocFirst (by decide)
   obtain ⟨a7,c7,rfl, -, -, -⟩:=hO7.form
   have HN7:=Lib.hid (hO7.weak Hw4.out.1)
   have HX7:=Lib.hid (HX6.out.keepS hk7 (by decide))
   have HL7:=Lib.hid (HL6.out.keepT hk7 (by decide))
   have HR7:=Lib.hid (HR6.out.keepS hk7 (by decide))
   have HG7:=Lib.hid (HG6.out.below hbg Hw4.out.2.2.1 Hw4.out.2.1)
   have Hk1:Hid ((K ++ [(gs,gh,gl,gn)]).length=K.length + 1):=Lib.hid (by rw [List.length_append];rfl)
   generalize hkl:(K ++ [(gs,gh,gl,gn)]).length=kl at *
   have Hkl:=Lib.hid hkl
   clear hO hG hO7 hbg hk7 hkl HN6 HX6 HL6 HR6 HG6 HZ6 HXe
   have HX:Hid (Blk (w7.setCell ⟨xb,4,none⟩ (.slice a7 kl c7)) xb 34 #[.bool ps, .int .u64 (ph:Int), .int .u64 (pl:Int), .int .i64 pn, .slice a7 kl c7, .slice a2 L.length c2]):=Lib.hid (HX7.out.set 4 _)
   have hk8:=KeepT.of_set (S:=[34]) (i:=4) (v:=.slice a7 kl c7) HX7.out (by simp)
   have HK:=Lib.hid (HN7.out.keepT hk8 (by decide))
   have HL:=Lib.hid (HL7.out.keepT hk8 (by decide))
   have HR:=Lib.hid (HR7.out.far (show rb ≠ xb by have:=Hxb.out;omega) 4 (.slice a7 kl c7))
   have HG:Hid (Gen b w (w7.setCell ⟨xb,4,none⟩ (.slice a7 kl c7)) (m + 66)):=Lib.hid (HG7.out.setCell _ _ Hxb.out.2.2 Hxb.out.2.1)
   have u4:=HX7.out.cell 4
   have uf:=HX7.out.free
   simp at u4
   go_upto_region 9 with fail
   generalize w7.setCell ⟨xb,4,none⟩ (.slice a7 kl c7)=w8 at *
   clear hk8 u4 uf HN7 HX7 HL7 HR7 HG7
   have c6:=HR.out.set6w (x1':=.bool ps) (x2':=.int .u64 (ph:Int)) (x3':=.int .u64 (pl:Int)) (x4':=.int .i64 pn) (x5':=.slice a7 kl c7) (x6':=.slice a2 L.length c2)
   have HPf:Hid (PoolV ((((((w8.setCell ⟨rb,0,none⟩ (.bool ps)).setCell ⟨rb,1,none⟩ (.int .u64 (ph:Int))).setCell ⟨rb,2,none⟩ (.int .u64 (pl:Int))).setCell ⟨rb,3,none⟩ (.int .i64 pn)).setCell ⟨rb,4,none⟩ (.slice a7 kl c7)).setCell ⟨rb,5,none⟩ (.slice a2 L.length c2)) w.heap.size (.agg #[.bool ps, .int .u64 (ph:Int), .int .u64 (pl:Int), .int .i64 pn, .slice a7 kl c7, .slice a2 L.length c2]) (ps,ph,pl,pn) (K ++ [(gs,gh,gl,gn)]) (L)):=Lib.hid (PoolV.weak ⟨a7,c7,a2,c2,by rw [Hkl.out] <;> rfl,by rw [Hkl.out];exact HK.out.farC Hrb.out.1 0 [.bool ps, .int .u64 (ph:Int), .int .u64 (pl:Int), .int .i64 pn, .slice a7 kl c7, .slice a2 L.length c2],HL.out.farC Hrb.out.1 0 [.bool ps, .int .u64 (ph:Int), .int .u64 (pl:Int), .int .i64 pn, .slice a7 kl c7, .slice a2 L.length c2]⟩ Hrb.out.2.1)
   have HGf:Hid (Gen b w ((((((w8.setCell ⟨rb,0,none⟩ (.bool ps)).setCell ⟨rb,1,none⟩ (.int .u64 (ph:Int))).setCell ⟨rb,2,none⟩ (.int .u64 (pl:Int))).setCell ⟨rb,3,none⟩ (.int .i64 pn)).setCell ⟨rb,4,none⟩ (.slice a7 kl c7)).setCell ⟨rb,5,none⟩ (.slice a2 L.length c2)) (m + 100)):=Lib.hid (by
    repeat refine Gen.setCell ?_ _ _ Hrb.out.2.2.1 Hrb.out.2.2.2
    exact HG.out.mono (by omega))
   have z0:=c6.cell 0
   have z1:=c6.cell 1
   have z2:=c6.cell 2
   have z3:=c6.cell 3
   have z4:=c6.cell 4
   have z5:=c6.cell 5
   simp at z0 z1 z2 z3 z4 z5
   clear c6
   have p0:=HX.out.cell 0
   have p1:=HX.out.cell 1
   have p2:=HX.out.cell 2
   have p3:=HX.out.cell 3
   have p4:=HX.out.cell 4
   have p5:=HX.out.cell 5
   simp at p0 p1 p2 p3 p4 p5
   have r0:=HR.out.cell 0
   have r1:=HR.out.cell 1
   have r2:=HR.out.cell 2
   have r3:=HR.out.cell 3
   have r4:=HR.out.cell 4
   have r5:=HR.out.cell 5
   simp at r0 r1 r2 r3 r4 r5
   have rf:=HR.out.free
   clear HR HX HK HL HG
   go_wp2_with fail
   refine bodyPost_ret (v:=.agg #[.bool ps, .int .u64 (ph:Int), .int .u64 (pl:Int), .int .i64 pn, .slice a7 kl c7, .slice a2 L.length c2]) (by simp [results,Tryz.results5,go_sem, *]) rfl ⟨_,(ps,ph,pl,pn),K ++ [(gs,gh,gl,gn)],L,rfl,HPf.out,⟨HU.out.1,HU.out.2.1,fun p hp => (List.mem_append.1 hp).elim (HU.out.2.2.1 p) (fun h => by rw [List.mem_singleton.1 h];exact HUq.out.1),HU.out.2.2.2.1,by rw [Hkl.out,Hk1.out];have:=HU.out.2.2.2.2;omega⟩,HGf.out⟩
  ·have HCl:=Lib.hid (cloneLs_any a2 L.length c2 L w4 HL.out.rd rfl (by have:=HU.out.2.2.2.2;omega))
   have Hw4:Hid (w0.heap.size≤w4.heap.size∧b < w4.heap.size∧w.heap.size≤w4.heap.size∧xb < w4.heap.size∧rb < w4.heap.size):=Lib.hid (by have h1:=HX.out.lt;have:=Hx.out;have:=Hxb.out;have:=Hrb.out;omega)
   have HLn:Hid (L.length≤6):=Lib.hid (by have:=HU.out.2.2.2.2;omega)
   have p5:=HX.out.cell 5
   simp at p5
   go_wp2_with fail
   refine HCl.out.mono ?_
   rintro e w5 ⟨v,rfl,hO,hb⟩
   obtain ⟨a5,c5,rfl, -, -, -⟩:=hO.form
   have HN5:=Lib.hid (hO.alloc (.cells #[.string ⟨#[108,101]⟩, .string ⟨#[108,97]⟩, .string ⟨#[]⟩, .string ⟨#[65]⟩] 9 (0,0)))
   have HX5:=Lib.hid ((HX.out.below hb HX.out.lt).alloc (.cells #[.string ⟨#[108,101]⟩, .string ⟨#[108,97]⟩, .string ⟨#[]⟩, .string ⟨#[65]⟩] 9 (0,0)))
   have HK5:=Lib.hid ((HK.out.later hb).alloc (.cells #[.string ⟨#[108,101]⟩, .string ⟨#[108,97]⟩, .string ⟨#[]⟩, .string ⟨#[65]⟩] 9 (0,0)))
   have HR5:=Lib.hid ((HR.out.below hb HR.out.lt).alloc (.cells #[.string ⟨#[108,101]⟩, .string ⟨#[108,97]⟩, .string ⟨#[]⟩, .string ⟨#[65]⟩] 9 (0,0)))
   have HG5:=Lib.hid ((HG.out.below0 hb HG.out.s.lt).alloc (.cells #[.string ⟨#[108,101]⟩, .string ⟨#[108,97]⟩, .string ⟨#[]⟩, .string ⟨#[65]⟩] 9 (0,0)))
   have HZ5:Hid (w4.heap.size≤(w5.alloc (.cells #[.string ⟨#[108,101]⟩, .string ⟨#[108,97]⟩, .string ⟨#[]⟩, .string ⟨#[65]⟩] 9 (0,0))).heap.size):=Lib.hid (by rw [World.size_alloc];exact Nat.le_succ_of_le hb.size)
   have HSt:=Lib.hid (rdStr_new w5 9 [⟨#[108,101]⟩,⟨#[108,97]⟩,⟨#[]⟩,⟨#[65]⟩] _ rfl)
   have Hw5b:Hid (w5.heap.size ≠ b):=Lib.hid (by have:=hb.size;have:=Hw4.out;omega)
   clear hO hb HX HK HL HR HG HCl p5
   go_wp2_with fail
   refine (some_gen b (m + 52) w5.heap.size 4 [⟨#[108,101]⟩,⟨#[108,97]⟩,⟨#[]⟩,⟨#[65]⟩] _ HG5.out.s (by omega) rfl (by omega) HSt.out Hw5b.out).mono ?_
   rintro e w6 ⟨ks,rfl,hks,hg⟩
   have hkl:ks.data.toList.length≤1000:=by
    simp at hks
    rcases hks with rfl | rfl | rfl | rfl <;> decide
   have hks2:strL ks.data.toList=ks:=strL_of ks
   obtain ⟨ky,hky⟩:∃ q,ks.data.toList=q:=⟨_,rfl⟩
   rw [hky] at hkl hks2
   subst hks2
   have Hky:=Lib.hid hkl
   have HN6:=Lib.hid (HN5.out.gen hg (show b < w4.heap.size by have:=Hw4.out;omega))
   have HX6:=Lib.hid (HX5.out.keep hg.g hxbn)
   have HK6:=Lib.hid (HK5.out.gen hg (show b < w0.heap.size by have:=Hrb.out;omega))
   have HR6:=Lib.hid (HR5.out.keep hg.g hrbn)
   have HG6:Hid (Gen b w w6 (m + 53)):=Lib.hid (HG5.out.trans hg)
   have HZ6:Hid (w4.heap.size≤w6.heap.size):=Lib.hid (Nat.le_trans HZ5.out hg.g.size)
   clear hks hg hky hkl HN5 HX5 HK5 HR5 HG5 HZ5 HSt
   go_wp2_with fail
   refine (prefix_gen b (m + 53) _ HG6.out.s (by omega)).mono ?_
   rintro e w7 ⟨gs,gh,gl,gn,rfl,hu1,hu2,hbd,hg⟩
   unfold vP
   have HUq:=Lib.hid (And.intro (And.intro hu1 hu2) hbd)
   have HN7:=Lib.hid (HN6.out.gen hg (show b < w4.heap.size by have:=Hw4.out;omega))
   have HX7:=Lib.hid (HX6.out.keep hg.g hxbn)
   have HK7:=Lib.hid (HK6.out.gen hg (show b < w0.heap.size by have:=Hrb.out;omega))
   have HR7:=Lib.hid (HR6.out.keep hg.g hrbn)
   have HG7:Hid (Gen b w w7 (m + 67)):=Lib.hid (HG6.out.trans hg)
   have HZ7:Hid (w4.heap.size≤w7.heap.size):=Lib.hid (Nat.le_trans HZ6.out hg.g.size)
   have HXe:Hid ((layLs.enc (ky,(gs,gh,gl,gn))).toArray=#[.string (strL ky), .bool gs, .int .u64 (gh:Int), .int .u64 (gl:Int), .int .i64 gn]):=Lib.hid rfl
   clear hu1 hu2 hbd hg HN6 HX6 HK6 HR6 HG6 HZ6
   go_wp2_with (at_builtin;refine wpList_app lsE rfl (.tmp 12) (.tmp 19) rfl rfl (World.ownsRow.alloc HN7.out _) rfl (src_new layLs _ (ky,(gs,gh,gl,gn)) _ _ ?c0) ?c1 ?c2 ?c3 ?c4 ?_)
   case c0 => first | rfl | exact HXe.out.symm
   case c1 => exact layLs.one _
   case c2 => have:=HLn.out;unfold maxLen;omega
   case c3 => have:=HLn.out;omega
   case c4 => have:=HZ7.out;simp;omega
   intro v' w8 hO hG
   have hO8:OwnK layLs w8 w4.heap.size v' (L ++ [(ky,(gs,gh,gl,gn))]):=OwnK.snoc hO
   have hbg:Below w4.heap.size w7 w8:=hG.allocFirst.below HZ7.out (own_base HN7.out)
   have hk8:=KeepT.of_grew (S:=[67]) HN7.out hG.allocFirst (by decide)
   obtain ⟨a8,c8,rfl, -, -, -⟩:=hO8.form
   have HN8:=Lib.hid (hO8.weak Hw4.out.1)
   have HX8:=Lib.hid (HX7.out.keepS hk8 (by decide))
   have HK8:=Lib.hid (HK7.out.keepT hk8 (by decide))
   have HR8:=Lib.hid (HR7.out.keepS hk8 (by decide))
   have HG8:=Lib.hid (HG7.out.below hbg Hw4.out.2.2.1 Hw4.out.2.1)
   have Hl1:Hid ((L ++ [(ky,(gs,gh,gl,gn))]).length=L.length + 1):=Lib.hid (by rw [List.length_append];rfl)
   generalize hll:(L ++ [(ky,(gs,gh,gl,gn))]).length=ll at *
   have Hll:=Lib.hid hll
   clear hO hG hO8 hbg hk8 hll HN7 HX7 HK7 HR7 HG7 HZ7 HXe
   have HX:Hid (Blk (w8.setCell ⟨xb,5,none⟩ (.slice a8 ll c8)) xb 34 #[.bool ps, .int .u64 (ph:Int), .int .u64 (pl:Int), .int .i64 pn, .slice a1 K.length c1, .slice a8 ll c8]):=Lib.hid (HX8.out.set 5 _)
   have hk9:=KeepT.of_set (S:=[34]) (i:=5) (v:=.slice a8 ll c8) HX8.out (by simp)
   have HK:=Lib.hid (HK8.out.keepT hk9 (by decide))
   have HL:=Lib.hid (HN8.out.keepT hk9 (by decide))
   have HR:=Lib.hid (HR8.out.far (show rb ≠ xb by have:=Hxb.out;omega) 5 (.slice a8 ll c8))
   have HG:Hid (Gen b w (w8.setCell ⟨xb,5,none⟩ (.slice a8 ll c8)) (m + 67)):=Lib.hid (HG8.out.setCell _ _ Hxb.out.2.2 Hxb.out.2.1)
   have u5:=HX8.out.cell 5
   have uf:=HX8.out.free
   simp at u5
   go_upto_region 9 with fail
   generalize w8.setCell ⟨xb,5,none⟩ (.slice a8 ll c8)=w9 at *
   clear hk9 u5 uf HN8 HX8 HK8 HR8 HG8
   have c6:=HR.out.set6w (x1':=.bool ps) (x2':=.int .u64 (ph:Int)) (x3':=.int .u64 (pl:Int)) (x4':=.int .i64 pn) (x5':=.slice a1 K.length c1) (x6':=.slice a8 ll c8)
   have HPf:Hid (PoolV ((((((w9.setCell ⟨rb,0,none⟩ (.bool ps)).setCell ⟨rb,1,none⟩ (.int .u64 (ph:Int))).setCell ⟨rb,2,none⟩ (.int .u64 (pl:Int))).setCell ⟨rb,3,none⟩ (.int .i64 pn)).setCell ⟨rb,4,none⟩ (.slice a1 K.length c1)).setCell ⟨rb,5,none⟩ (.slice a8 ll c8)) w.heap.size (.agg #[.bool ps, .int .u64 (ph:Int), .int .u64 (pl:Int), .int .i64 pn, .slice a1 K.length c1, .slice a8 ll c8]) (ps,ph,pl,pn) (K) (L ++ [(ky,(gs,gh,gl,gn))])):=Lib.hid (PoolV.weak ⟨a1,c1,a8,c8,by rw [Hll.out] <;> rfl,HK.out.farC Hrb.out.1 0 [.bool ps, .int .u64 (ph:Int), .int .u64 (pl:Int), .int .i64 pn, .slice a1 K.length c1, .slice a8 ll c8],by rw [Hll.out];exact HL.out.farC Hrb.out.1 0 [.bool ps, .int .u64 (ph:Int), .int .u64 (pl:Int), .int .i64 pn, .slice a1 K.length c1, .slice a8 ll c8]⟩ Hrb.out.2.1)
   have HGf:Hid (Gen b w ((((((w9.setCell ⟨rb,0,none⟩ (.bool ps)).setCell ⟨rb,1,none⟩ (.int .u64 (ph:Int))).setCell ⟨rb,2,none⟩ (.int .u64 (pl:Int))).setCell ⟨rb,3,none⟩ (.int .i64 pn)).setCell ⟨rb,4,none⟩ (.slice a1 K.length c1)).setCell ⟨rb,5,none⟩ (.slice a8 ll c8)) (m + 100)):=Lib.hid (by
    repeat refine Gen.setCell ?_ _ _ Hrb.out.2.2.1 Hrb.out.2.2.2
    exact HG.out.mono (by omega))
   have z0:=c6.cell 0
   have z1:=c6.cell 1
   have z2:=c6.cell 2
   have z3:=c6.cell 3
   have z4:=c6.cell 4
   have z5:=c6.cell 5
   simp at z0 z1 z2 z3 z4 z5
   clear c6
   have p0:=HX.out.cell 0
   have p1:=HX.out.cell 1
   have p2:=HX.out.cell 2
   have p3:=HX.out.cell 3
   have p4:=HX.out.cell 4
   have p5:=HX.out.cell 5
   simp at p0 p1 p2 p3 p4 p5
   have r0:=HR.out.cell 0
   have r1:=HR.out.cell 1
   have r2:=HR.out.cell 2
   have r3:=HR.out.cell 3
   have r4:=HR.out.cell 4
   have r5:=HR.out.cell 5
   simp at r0 r1 r2 r3 r4 r5
   have rf:=HR.out.free
   clear HR HX HK HL HG
   go_wp2_with fail
   refine bodyPost_ret (v:=.agg #[.bool ps, .int .u64 (ph:Int), .int .u64 (pl:Int), .int .i64 pn, .slice a1 K.length c1, .slice a8 ll c8]) (by simp [results,Tryz.results5,go_sem, *]) rfl ⟨_,(ps,ph,pl,pn),K,L ++ [(ky,(gs,gh,gl,gn))],rfl,HPf.out,⟨HU.out.1,HU.out.2.1,HU.out.2.2.1,fun x hx => (List.mem_append.1 hx).elim (HU.out.2.2.2.1 x) (fun h => by rw [List.mem_singleton.1 h];exact ⟨HUq.out.1,Hky.out⟩),by rw [Hll.out,Hl1.out];have:=HU.out.2.2.2.2;omega⟩,HGf.out⟩
theorem leaseKey_gen (b m:Nat) (w:World) (h:Strm w b m) (hm:m + 10 < 1099511627776) :
  Calls Tryz.prog 6 #[.pointer (some ⟨b,0,none⟩)] w fun e w' => ∃ ky:List UInt8,e=.returned (.string (strL ky))∧ky.length≤1000∧Gen b w w' (m + 1):=by
 have hblt:=h.lt
 have HR:Hid (Calls Tryz.prog 34 #[.string ⟨#[107]⟩, .int .i64 40] w (Ret (.string ⟨(Lib.repeatL [107] 40).toArray⟩) w)):=Lib.hid (Tryz.strings_Repeat ⟨#[107]⟩ 40 w (by decide) (by decide))
 have HRl:Hid ((Lib.repeatL [107] 40).length≤1000):=Lib.hid (by decide)
 have HS:=Lib.hid h
 clear h
 generalize Lib.repeatL [107] 40=RL at *
 go_enter Tryz.func6,Tryz.ntmps6
 go_wp2_with fail
 refine HR.out.mono ?_
 rintro e w1 ⟨rfl,hb⟩
 have HG1:Hid (Gen b w w1 m):=Lib.hid ((Gen.start HS.out).below0 hb hblt)
 have HSt:=Lib.hid (rdStr_new w1 9 [⟨#[120]⟩,⟨#[110,111,100,101,45,49]⟩,⟨#[108,101]⟩,⟨#[108,97]⟩,⟨#[]⟩,⟨#[65]⟩,⟨RL.toArray⟩] _ rfl)
 clear hb HR
 go_wp2_with fail
 refine (some_gen b m w1.heap.size 7 [⟨#[120]⟩,⟨#[110,111,100,101,45,49]⟩,⟨#[108,101]⟩,⟨#[108,97]⟩,⟨#[]⟩,⟨#[65]⟩,⟨RL.toArray⟩] _ (HG1.out.s.alloc _) (by omega) rfl (by omega) HSt.out (by have:=HG1.out.s.lt;omega)).mono ?_
 rintro e w2 ⟨ks,rfl,hks,hg⟩
 have hkl:ks.data.toList.length≤1000:=by
  simp only [List.mem_cons,List.not_mem_nil,or_false] at hks
  rcases hks with rfl | rfl | rfl | rfl | rfl | rfl | rfl
  all_goals first | exact HRl.out | decide
 have HK:=Lib.hid hkl
 have HG2:Hid (Gen b w w2 (m + 1)):=Lib.hid ((HG1.out.alloc _).trans hg)
 clear hks hkl hg HSt
 go_wp2_with fail
 go_ret
 exact ⟨ks.data.toList,by rw [strL_of] <;> rfl,HK.out,HG2.out⟩
theorem keyF_zero {P:Pf} {K:List Pf} {L:List Ls} {key:List UInt8} (h:keyF P K L key=0):poolF P K L=0∧keyQ L key=0:=by
 unfold keyF at h
 by_cases h1:poolF P K L ≠ 0
 ·rw [if_pos h1] at h;exact absurd h h1
 ·rw [if_neg h1] at h
  exact ⟨Decidable.not_not.1 h1,h⟩
def eqLsR (s1 s2:Value) (i:Nat) (g1 g2 o1 o2:Nat) (x:Ls):Nat→Value→World→Prop
 | 0,v,_ => v=s1
 | 1,v,_ => v=.int .i64 (i:Int)
 | 2,v,_ => v=.pointer (some ⟨g1,o1 + i * 5,none⟩)
 | 3,v,_ => v=.agg (layLs.enc x).toArray
 | 4,v,_ => v=s2
 | 5,v,_ => v=.int .i64 (i:Int)
 | 6,v,_ => v=.pointer (some ⟨g2,o2 + i * 5,none⟩)
 | _,v,_ => v=.agg (layLs.enc x).toArray
theorem eqLsR_keep {s1 s2:Value} {i g1 g2 o1 o2:Nat} {x:Ls} (p:Nat) (v:Value) (u w:World) (h:eqLsR s1 s2 i g1 g2 o1 o2 x p v u) (hb:Below u.heap.size u w):eqLsR s1 s2 i g1 g2 o1 o2 x p v w:=by
 rcases p with _ | _ | _ | _ | _ | _ | _ | p
 all_goals exact h
theorem equalIn_pfL (d:Nat) (s:Bool) (h l b:Int) (w:World):(Op.equalIn (d + 3) 30 (.agg #[.bool s, .int .u64 h, .int .u64 l, .int .i64 b]) (.agg #[.bool s, .int .u64 h, .int .u64 l, .int .i64 b])).run Tryz.prog w=.ok true w:=by
 have hA:=addrEq s s h h l l d
 have u3:=Tryz.underlying3
 have a3:=Tryz.isAgg3
 have z3:=Tryz.sizeOf3
 have a29:=Tryz.isAgg28
 have z29:=Tryz.sizeOf28
 have hS:Tryz.prog.underlying 30=some (.struct (Tryz.prog.fieldsOf 30)):=by kernel_rfl
 have hp:Tryz.prog.stoodInHeld 30=false:=by kernel_rfl
 rw [run_equalIn_agg w (d + 2) 30 _ _ hS hp]
 simp only [Program.fieldsOf,Tryz.underlying30]
 go_simp
theorem equalIn_lsS (d:Nat) (s:Bool) (h l b:Int) (k:ByteArray) (w:World):(Op.equalIn (d + 4) 67 (.agg #[.string k, .bool s, .int .u64 h, .int .u64 l, .int .i64 b]) (.agg #[.string k, .bool s, .int .u64 h, .int .u64 l, .int .i64 b])).run Tryz.prog w=.ok true w:=by
 have hP:=fun w => equalIn_pfL d s h l b w
 have u9:=Tryz.underlying9
 have a9:=Tryz.isAgg9
 have z9:=Tryz.sizeOf9
 have aP:=Tryz.isAgg30
 have zP:=Tryz.sizeOf30
 have hS2:Tryz.prog.underlying 67=some (.struct (Tryz.prog.fieldsOf 67)):=by kernel_rfl
 have hp2:Tryz.prog.stoodInHeld 67=false:=by kernel_rfl
 rw [run_equalIn_agg w (d + 3) 67 _ _ hS2 hp2]
 simp only [Program.fieldsOf,Tryz.underlying67]
 go_simp
theorem neq_selfLs (v:Ls) (w:World):(binOp .neq 67 (.agg (layLs.enc v).toArray) (.agg (layLs.enc v).toArray)).run Tryz.prog w=.ok (.bool false) w:=by
 have h:=equalIn_lsS 9996 v.2.1 ((v.2.2.1:Nat):Int) ((v.2.2.2.1:Nat):Int) v.2.2.2.2 (strL v.1) w
 show (binOp .neq 67 (.agg #[.string (strL v.1), .bool v.2.1, .int .u64 ((v.2.2.1:Nat):Int), .int .u64 ((v.2.2.2.1:Nat):Int), .int .i64 v.2.2.2.2]) (.agg #[.string (strL v.1), .bool v.2.1, .int .u64 ((v.2.2.1:Nat):Int), .int .u64 ((v.2.2.2.1:Nat):Int), .int .i64 v.2.2.2.2])).run Tryz.prog w=_
 rw [run_neq_struct,h];rfl
theorem guard_ls (op:BinOp) (x y:Operand) (f g:Ls) (w:World) (h:op=.eql ∨ op=.neq):(eqGuard op 67 x y (.agg (layLs.enc f).toArray) (.agg (layLs.enc g).toArray)).run Tryz.prog w=.ok () w:=by
 rcases h with rfl | rfl
 ·exact run_eqGuard_agg w _ _ _ _ _ _ (by kernel_rfl)
 ·exact run_eqGuard_agg w _ _ _ _ _ _ (by kernel_rfl)
theorem equalLs_any (a1 a2:Option Addr) (n c1 c2:Nat) (L:List Ls) (w:World) (h1:RdK layLs w a1 L) (h2:RdK layLs w a2 L) (hn:L.length=n) (hs:n≤1000000) :
  Calls Tryz.prog 59 #[.slice a1 n c1, .slice a2 n c2] w (Ret (.bool true) w):=by
 have H1:=Lib.hid h1
 have H2:=Lib.hid h2
 have Hn:=Lib.hid hn
 clear h1 h2 hn
 go_enter Tryz.func59,Tryz.ntmps59
 go_wp2_with fail
 go_loopw [5,13] (fun s5 i wr => ∃ k:Nat,k≤n∧i=.int .i64 (k:Int)∧Hid (Below w.heap.size w wr)) (fun _ i _ => n - (intOf i).toNat)
 case atStart => exact ⟨0,Nat.zero_le _,rfl,Lib.hid (Below.refl _ _)⟩
 case round =>
  obtain ⟨k,hk,rfl,HB⟩:=hrel
  by_cases hlt:k < n
  ·have hS:k < L.length:=by rw [Hn.out];exact hlt
   obtain ⟨x,hx⟩:∃ x,L[k]?=some x:=⟨_,List.getElem?_eq_getElem hS⟩
   obtain ⟨g1,o1,had1,hg1,hc1⟩:=(H1.out.below HB.out) k x hx
   obtain ⟨g2,o2,had2,hg2,hc2⟩:=(H2.out.below HB.out) k x hx
   have HR1:Hid (∀ wx,Below wr.heap.size wr wx→wx.rangeAt g1 (o1 + k * 5) (layLs.enc x)):=Lib.hid fun wx hb => range_below (fun j v hv => by
    have:=hc1 j v hv
    rwa [← Nat.add_assoc] at this) hb hg1
   have HR2:Hid (∀ wx,Below wr.heap.size wr wx→wx.rangeAt g2 (o2 + k * 5) (layLs.enc x)):=Lib.hid fun wx hb => range_below (fun j v hv => by
    have:=hc2 j v hv
    rwa [← Nat.add_assoc] at this) hb hg2
   subst had1 had2
   clear hx hS hg1 hg2 hc1 hc2
   go_upto_region 6 with fail
   refine wp_region_inv 8 0 (eqLsR (.slice (some ⟨g1,o1,none⟩) n c1) (.slice (some ⟨g2,o2,none⟩) n c2) k g1 g2 o1 o2 x) (fun _ wx => Below wr.heap.size wr wx) (fun u v => Below u.heap.size u v) (fun _ => 0)
    (by kernel_rfl) (by kernel_rfl) (by decide) eqLsR_keep (below_drew (Below.refl _ _)) ?hX
   case' hX => (apply Exists.intro;refine ⟨fun T => ?hA,?hob,?hend⟩)
   case hA =>
    simp only [setAll,List.take_succ_cons,List.take_zero,Act.put,List.setIfInBounds_toArray,List.set_cons_succ,List.set_cons_zero,Nat.reduceAdd]
    exact rfl
   case hob =>
    go_light
    refine ⟨?_,?_,?_,?_,?_,?_,?_,?_,trivial⟩
    all_goals (intro T wx n0 hC hn hp;dsimp only at hn ⊢)
    ·unfold Op1
     go_simp
     exact ⟨rfl,Below.refl _ _⟩
    ·unfold Op1
     go_simp
     exact ⟨rfl,Below.refl _ _⟩
    ·obtain ⟨q0,q1, -⟩:=hp
     have q0:T 0=.slice (some ⟨g1,o1,none⟩) n c1:=q0
     have q1:T 1=.int .i64 (k:Int):=q1
     unfold Op1
     go_simp
     exact ⟨rfl,Below.refl _ _⟩
    ·obtain ⟨q0, -⟩:=hp
     have q0:T 2=.pointer (some ⟨g1,o1 + k * 5,none⟩):=q0
     exact Op1.loadn 67 (.tmp 18) rfl g1 (o1 + k * 5) q0 (layLs.enc x) _ (HR1.out wx hC) under_ls rfl 5 size_ls (layLs.len x) ⟨rfl,hC,Below.refl _ _⟩
    ·unfold Op1
     go_simp
     exact ⟨rfl,Below.refl _ _⟩
    ·unfold Op1
     go_simp
     exact ⟨rfl,Below.refl _ _⟩
    ·obtain ⟨q0,q1, -⟩:=hp
     have q0:T 4=.slice (some ⟨g2,o2,none⟩) n c2:=q0
     have q1:T 5=.int .i64 (k:Int):=q1
     unfold Op1
     go_simp
     exact ⟨rfl,Below.refl _ _⟩
    ·obtain ⟨q0, -⟩:=hp
     have q0:T 6=.pointer (some ⟨g2,o2 + k * 5,none⟩):=q0
     exact Op1.loadn 67 (.tmp 22) rfl g2 (o2 + k * 5) q0 (layLs.enc x) _ (HR2.out wx hC) under_ls rfl 5 size_ls (layLs.len x) ⟨rfl,hC,Below.refl _ _⟩
   case hend =>
    intro T w4 ⟨n0,hn0,hb⟩ hR
    have hT3:T 3=.agg (layLs.enc x).toArray:=hR 3 (by omega)
    have hT7:T 7=.agg (layLs.enc x).toArray:=hR 7 (by omega)
    have gx:=fun a b wz => guard_ls .neq a b x x wz (.inr rfl)
    have nx:=fun wz => neq_selfLs x wz
    have HB4:=Lib.hid (HB.out.trans (hb.mono HB.out.size))
    clear hR hb HR1 HR2 HB
    generalize (layLs.enc x).toArray=X at *
    go_wp2_with fail
    exact ⟨⟨k + 1,by omega,by go_num,HB4⟩,by simp [intOf];omega⟩
  ·obtain rfl:k=n:=by omega
   go_wp2_with fail
   go_ret
   exact ⟨rfl,HB.out⟩
theorem samePool_any (P:Pf) (K:List Pf) (L:List Ls) (a1 a2 a3 a4:Option Addr) (kn ln c1 c2 c3 c4:Nat) (w:World) (h1:RdK layPf w a1 K) (h2:RdK layLs w a2 L) (h3:RdK layPf w a3 K) (h4:RdK layLs w a4 L) (hkn:K.length=kn) (hln:L.length=ln) (hks:kn≤1000) (hls:ln≤1000) :
  Calls Tryz.prog 21 #[.agg (plC P (.slice a1 kn c1) (.slice a2 ln c2)).toArray, .agg (plC P (.slice a3 kn c3) (.slice a4 ln c4)).toArray] w (Ret (.bool true) w):=by
 have HEK:Hid (∀ wx,RdK layPf wx a1 K→RdK layPf wx a3 K→Calls Tryz.prog 13 #[.slice a1 kn c1, .slice a3 kn c3] wx (Ret (.bool true) wx)):=Lib.hid fun wx r1 r3 => by
  have h:=equal_pf a1 a3 c1 c3 K K wx r1 r3 (by omega)
  rw [hkn] at h
  refine h.mono ?_
  rintro e w' ⟨rfl,n,rfl⟩
  exact ⟨by rw [decide_eq_true rfl],below_drewN (Below.refl _ _) _⟩
 have HEL:=Lib.hid fun wx (r2:RdK layLs wx a2 L) (r4:RdK layLs wx a4 L) => equalLs_any a2 a4 ln c2 c4 L wx r2 r4 hln (by omega)
 obtain ⟨ps,ph,pl,pn⟩:=P
 rw [show (plC (ps,ph,pl,pn) (.slice a1 kn c1) (.slice a2 ln c2)).toArray=#[.bool ps, .int .u64 (ph:Int), .int .u64 (pl:Int), .int .i64 pn, .slice a1 kn c1, .slice a2 ln c2] from rfl,show (plC (ps,ph,pl,pn) (.slice a3 kn c3) (.slice a4 ln c4)).toArray=#[.bool ps, .int .u64 (ph:Int), .int .u64 (pl:Int), .int .i64 pn, .slice a3 kn c3, .slice a4 ln c4] from rfl]
 have hE:=fun w => pfx_eql ps ps (ph:Int) (ph:Int) (pl:Int) (pl:Int) pn pn w
 have hG:=pfx_guard
 have hT:decide ((ps,(ph:Int),(pl:Int),pn)=((ps,(ph:Int),(pl:Int),pn):Bool × Int × Int × Int))=true:=decide_eq_true rfl
 rw [hT] at hE
 clear hT hkn hln
 have hB01:Below w.heap.size w ((w.alloc (.cells #[.bool ps, .int .u64 (ph:Int), .int .u64 (pl:Int), .int .i64 pn, .slice a1 kn c1, .slice a2 ln c2] 34 (0,0))).alloc (.cells #[.bool ps, .int .u64 (ph:Int), .int .u64 (pl:Int), .int .i64 pn, .slice a3 kn c3, .slice a4 ln c4] 34 (0,0))):=below_alloc (below_alloc (Below.refl _ _) _) _
 have HB01:=Lib.hid hB01
 have H1:=Lib.hid h1
 have H2:=Lib.hid h2
 have H3:=Lib.hid h3
 have H4:=Lib.hid h4
 have HP:Hid (Blk ((w.alloc (.cells #[.bool ps, .int .u64 (ph:Int), .int .u64 (pl:Int), .int .i64 pn, .slice a1 kn c1, .slice a2 ln c2] 34 (0,0))).alloc (.cells #[.bool ps, .int .u64 (ph:Int), .int .u64 (pl:Int), .int .i64 pn, .slice a3 kn c3, .slice a4 ln c4] 34 (0,0))) w.heap.size 34 #[.bool ps, .int .u64 (ph:Int), .int .u64 (pl:Int), .int .i64 pn, .slice a1 kn c1, .slice a2 ln c2]):=Lib.hid ((Blk.new w _ _).alloc _)
 have HQ:Hid (Blk ((w.alloc (.cells #[.bool ps, .int .u64 (ph:Int), .int .u64 (pl:Int), .int .i64 pn, .slice a1 kn c1, .slice a2 ln c2] 34 (0,0))).alloc (.cells #[.bool ps, .int .u64 (ph:Int), .int .u64 (pl:Int), .int .i64 pn, .slice a3 kn c3, .slice a4 ln c4] 34 (0,0))) (w.heap.size + 1) 34 #[.bool ps, .int .u64 (ph:Int), .int .u64 (pl:Int), .int .i64 pn, .slice a3 kn c3, .slice a4 ln c4]):=Lib.hid (by
  have this:=Blk.new (w.alloc (.cells #[.bool ps, .int .u64 (ph:Int), .int .u64 (pl:Int), .int .i64 pn, .slice a1 kn c1, .slice a2 ln c2] 34 (0,0))) 34 #[.bool ps, .int .u64 (ph:Int), .int .u64 (pl:Int), .int .i64 pn, .slice a3 kn c3, .slice a4 ln c4]
  rw [World.size_alloc] at this
  exact this)
 clear h1 h2 h3 h4 hB01
 go_enter Tryz.func21,Tryz.ntmps21
 go_upto_region 1 with fail
 generalize ((w.alloc (.cells #[.bool ps, .int .u64 (ph:Int), .int .u64 (pl:Int), .int .i64 pn, .slice a1 kn c1, .slice a2 ln c2] 34 (0,0))).alloc (.cells #[.bool ps, .int .u64 (ph:Int), .int .u64 (pl:Int), .int .i64 pn, .slice a3 kn c3, .slice a4 ln c4] 34 (0,0)))=w1 at *
 generalize w.heap.size=b at HP HQ ⊢
 have p0:=HP.out.cell 0
 have p1:=HP.out.cell 1
 have p2:=HP.out.cell 2
 have p3:=HP.out.cell 3
 have p4:=HP.out.cell 4
 simp at p0 p1 p2 p3 p4
 have q0:=HQ.out.cell 0
 have q1:=HQ.out.cell 1
 have q2:=HQ.out.cell 2
 have q3:=HQ.out.cell 3
 have q4:=HQ.out.cell 4
 simp at q0 q1 q2 q3 q4
 go_wp2_with fail
 refine (HEK.out _ (H1.out.below HB01.out) (H3.out.below HB01.out)).mono ?_
 rintro e w2 ⟨rfl,hb⟩
 have HB2:=Lib.hid (HB01.out.trans (hb.mono HB01.out.size))
 have HP2:=Lib.hid (HP.out.below hb HP.out.lt)
 have HQ2:=Lib.hid (HQ.out.below hb HQ.out.lt)
 clear hb p0 p1 p2 p3 p4 q0 q1 q2 q3 q4 HEK HP HQ hE hG
 have p5:=HP2.out.cell 5
 simp at p5
 have q5:=HQ2.out.cell 5
 simp at q5
 go_wp2_with fail
 refine (HEL.out _ (H2.out.below HB2.out) (H4.out.below HB2.out)).mono ?_
 rintro e w3 ⟨rfl,hb⟩
 have HB3:=Lib.hid (HB2.out.trans (hb.mono HB2.out.size))
 clear hb p5 q5 HEL HP2 HQ2
 go_wp2_with fail
 go_ret
 exact ⟨rfl,HB3.out⟩
end Go.Proofs.YteldaicgaeooiaaGreatDoor
