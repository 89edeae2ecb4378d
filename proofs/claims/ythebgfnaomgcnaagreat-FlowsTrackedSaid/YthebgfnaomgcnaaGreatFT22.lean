/-
  The generator of right rows (lanemake's RightRows).
-/
import Derived.Test.YthebgfnaomgcnaaGreatFT21
import Derived.Deep.Cut
import Derived.Deep.CutRange
set_option linter.unusedVariables false
set_option maxRecDepth 100000
set_option maxHeartbeats 8000000
namespace Go.Proofs.YthebgfnaomgcnaaGreat
open Go.RowKit Go
section
variable {α : Type} {E : Lay α}
theorem OwnK.setFar {w : World} {B : Nat} {v : Value} {L : List α} (h : OwnK E w B v L) {C : Nat} (hne : ∀ k,v.ownBlock = some k → k < C) (i : Nat) (x : Value) : OwnK E (w.setCell ⟨C,i,none⟩ x) B v L:=by
 refine ⟨h.1,?_⟩
 rcases h.2 with h2 | ⟨g,cap,cur,hv,hg,hh,r⟩
 ·exact .inl h2
 ·refine .inr ⟨g,cap,cur,hv,hg,?_,r⟩
  have hlt:=hne g (by rw [hv];rfl)
  exact (Below.heap_setCell w ⟨C,i,none⟩ x g (show g ≠ C by omega)).trans hh
end
theorem FlO.own_lt {w : World} {B : Nat} {v : Value} {L : List FR} (h : FlO w B v L) : ∀ k,v.ownBlock = some k → k < w.heap.size:=by
 obtain ⟨C,hO,_⟩:=h
 exact Go.Proofs.YthebgfnaomgcnaaGreat.own_lt hO
theorem FlO.gen {w w' : World} {b B m m' : Nat} {v : Value} {L : List FR} (h : FlO w B v L) (hs : Strm w b m) (hg : Gen b w w' m') (hb : b < B) : FlO w' B v L:=by
 obtain ⟨C,hO,hl,hc⟩:=h
 exact ⟨C,hO.gen hg hb,hl,fun k c r h1 h2 => (hc k c r h1 h2).keep (KeepT.of_gen hs hg) (by decide) (by decide)⟩
theorem FlO.setFar {w : World} {B : Nat} {v : Value} {L : List FR} (h : FlO w B v L) {C : Nat} {cs : Array Value} (hC : Blk w C 71 cs) (hne : ∀ k,v.ownBlock = some k → k < C) (i : Nat) (x : Value) : FlO (w.setCell ⟨C,i,none⟩ x) B v L:=by
 obtain ⟨D,hO,hl,hc⟩:=h
 exact ⟨D,hO.setFar hne i x,hl,fun k c r h1 h2 => (hc k c r h1 h2).keep (S:=[71]) (KeepT.of_set hC (by simp)) (by decide) (by decide)⟩
theorem flsAt_one {w : World} {g : Nat} {r : FR} {c : FC} (hb : Blk w g 71 (fcC c).toArray) (ht : FlcT w r c) : FlsAt w (some ⟨g,0,none⟩) [r]:=fun k r' hr => by
 have hk : k = 0:=by
  rcases k with _ | k
  ·rfl
  ·simp at hr
 subst hk
 have hr : r = r':=by simpa using hr
 subst hr
 obtain ⟨xp,⟨a1,n1,c1⟩,⟨a2,n2,c2⟩,⟨a3,n3,c3⟩⟩:=c
 have hp:=ht.e
 simp only at hp
 subst hp
 exact ⟨g,0,a1,a2,a3,n1,n2,n3,c1,c2,c3,rfl,hb.lt,hb.cell 0,hb.cell 1,hb.cell 2,hb.cell 3,⟨ht.t1.rd,ht.t2.rd,ht.t3.rd,ht.l1,ht.l2,ht.l3⟩,Nat.le_trans ht.m1 (by decide),Nat.le_trans ht.m2 (by decide),Nat.le_trans ht.m3 (by decide)⟩
theorem FlO.set4 {w : World} {B : Nat} {v : Value} {L : List FR} (h : FlO w B v L) {C : Nat} {cs : Array Value} (hC : Blk w C 71 cs) (hne : ∀ k,v.ownBlock = some k → k < C) (a b c d : Value) : FlO ((((w.setCell ⟨C,0,none⟩ a).setCell ⟨C,1,none⟩ b).setCell ⟨C,2,none⟩ c).setCell ⟨C,3,none⟩ d) B v L :=
 (((h.setFar hC hne 0 a).setFar (hC.set 0 a) hne 1 b).setFar ((hC.set 0 a).set 1 b) hne 2 c).setFar (((hC.set 0 a).set 1 b).set 2 c) hne 3 d
theorem rightRows_gen (b m most : Nat) (w : World) (h : Strm w b m) (hmo : most ≤ 100) (hm : m + 10000 < 1099511627776) :
  Calls Tryz.prog 25 #[.pointer (some ⟨b,0,none⟩), .int .i64 (most : Int)] w fun e w' => ∃ v L,e = .returned v ∧ FlO w' w.heap.size v L ∧ L.length ≤ most ∧ (∀ r ∈ L,r.Sm) ∧ Gen b w w' (m + 1 + 40 * most):=by
 have hblt:=h.lt
 have HG0 : Hid (Gen b w w m):=Lib.hid (Gen.start h)
 clear h
 go_enter Tryz.func25,Tryz.ntmps25
 go_wp2_with fail
 refine (range_gen b m _ _ _ HG0.out.s (by omega) (by omega) (by omega)).mono ?_
 rintro e w1 ⟨y,rfl,⟨hy0,hy1⟩,hg⟩
 obtain ⟨K,rfl⟩:=Int.eq_ofNat_of_zero_le hy0
 have hK : K ≤ most:=by omega
 have HG1:=Lib.hid (HG0.out.trans hg)
 clear hg HG0 hy0 hy1
 go_wp2_with fail
 go_loopw [5,6,7,11] (fun out s6 s7 i wr => ∃ (j : Nat) (L : List FR),j ≤ K ∧ i = .int .i64 (j : Int) ∧ Hid (FlO wr w.heap.size out L) ∧ Hid (L.length ≤ j) ∧ Hid (∀ r ∈ L,r.Sm) ∧ Hid (Gen b w wr (m + 1 + 40 * j))) (fun _ _ _ i _ => K - (intOf i).toNat)
 case atStart => exact ⟨0, [],Nat.zero_le _,rfl,Lib.hid (FlO.nil _ _),Lib.hid (Nat.le_refl _),Lib.hid (by simp),HG1⟩
 case round =>
  obtain ⟨j,L,hj,rfl,HO,HL,HK,HG⟩:=hrel
  by_cases hlt : j < K
  ·go_wp2_with fail
   refine (row_gen b (m + 1 + 40 * j) _ HG.out.s (by omega)).mono ?_
   rintro e w2 ⟨r,c,rfl,hf,hsm,hg⟩
   obtain ⟨x,⟨a1,n1,c1⟩,⟨a2,n2,c2⟩,⟨a3,n3,c3⟩⟩:=c
   simp only [fcC]
   have HO2:=Lib.hid (HO.out.gen HG.out.s hg hblt)
   have HG2 : Hid (Gen b w w2 (m + 1 + 40 * j + 30)):=Lib.hid (HG.out.trans hg)
   have HF2:=Lib.hid hf
   have HS2:=Lib.hid hsm
   obtain ⟨ad,c,rfl, -⟩:=HO.out.form
   have HW2:=Lib.hid HO2.out.own_lt
   clear hf hsm hg HO HG
   have HR3 : Hid (Blk (w2.alloc (.cells #[.int .i64 x, .slice a1 n1 c1, .slice a2 n2 c2, .slice a3 n3 c3] 71 (0,0))) w2.heap.size 71 #[.int .i64 x, .slice a1 n1 c1, .slice a2 n2 c2, .slice a3 n3 c3]):=Lib.hid (Blk.new w2 _ _)
   have HO3 : Hid (FlO (w2.alloc (.cells #[.int .i64 x, .slice a1 n1 c1, .slice a2 n2 c2, .slice a3 n3 c3] 71 (0,0))) w.heap.size (.slice ad L.length c) L):=Lib.hid (HO2.out.later (below_alloc (Below.refl _ _) _))
   have HG3 : Hid (Gen b w (w2.alloc (.cells #[.int .i64 x, .slice a1 n1 c1, .slice a2 n2 c2, .slice a3 n3 c3] 71 (0,0))) (m + 1 + 40 * j + 30)):=Lib.hid (HG2.out.alloc _)
   have HF3 : Hid (FlcT (w2.alloc (.cells #[.int .i64 x, .slice a1 n1 c1, .slice a2 n2 c2, .slice a3 n3 c3] 71 (0,0))) r (x,(a1,n1,c1),(a2,n2,c2),(a3,n3,c3))):=Lib.hid (HF2.out.keep (S:=[]) (KeepT.of_below (below_alloc (Below.refl _ _) _)) (by simp) (by simp))
   have hwR:=HG2.out.g.size
   obtain ⟨ln,hln⟩ : ∃ n,L.length = n:=⟨_,rfl⟩
   have HN:=Lib.hid hln
   rw [hln] at HO3 HL ⊢
   clear HO2 HG2 HF2 hln
   go_upto_region 5 with fail
   generalize w2.alloc (.cells #[.int .i64 x, .slice a1 n1 c1, .slice a2 n2 c2, .slice a3 n3 c3] 71 (0,0)) = w3 at *
   generalize w2.heap.size = R at *
   go_cut [21] from 12 to 83 (fun s wx => ∃ fl : Bool,s = .bool fl ∧ (fl = true → 1 ≤ ln) ∧ Gen b w3 wx (m + 1 + 40 * j + 31))
   case first =>
    go_wp2_with fail
    ·refine (flip_gen b (m + 1 + 40 * j + 30) _ _ HG3.out.s (by omega) (by omega)).mono ?_
     rintro e w4 ⟨fl,rfl,hg⟩
     have hl0 : 1 ≤ ln:=by omega
     have HGx:=Lib.hid hg
     clear hg
     go_wp2_with fail
     go_meet
     case rel => exact ⟨fl,rfl,fun _ => hl0,HGx.out⟩
    ·go_meet
     case rel => exact ⟨false,rfl,by simp,(Gen.start HG3.out.s).mono (by omega)⟩
   case rest =>
    obtain ⟨fl,rfl,h1,hg⟩:=hcut
    generalize wc = w4 at *
    have HG4 : Hid (Gen b w w4 (m + 1 + 40 * j + 31)):=Lib.hid (HG3.out.trans hg)
    have HR4:=Lib.hid (HR3.out.keep hg.g (by omega))
    have HO4:=Lib.hid (HO3.out.gen HG3.out.s hg hblt)
    have HF4:=Lib.hid (HF3.out.keep (KeepT.of_gen HG3.out.s hg) (by decide) (by decide))
    rw [HN.out] at HW2
    clear hg HG3 HR3 HO3 HF3
    go_upto_if 21 with fail
    go_cut [] from 12 to 83 (fun wx => ∃ (r2 : FR) (cq : FC),Blk wx R 71 (fcC cq).toArray ∧ FlcT wx r2 cq ∧ r2.Sm ∧ FlO wx w.heap.size (.slice ad ln c) L ∧ Gen b w wx (m + 1 + 40 * j + 33))
    case first =>
     cases fl
     ·go_wp2_with fail
      go_meet
      case rel => exact ⟨r,(x,(a1,n1,c1),(a2,n2,c2),(a3,n3,c3)),HR4.out,HF4.out,HS2.out,HO4.out,HG4.out.mono (by omega)⟩
     ·have hl1:=h1 rfl
      clear h1
      go_wp2_with fail
      refine (next_gen b (m + 1 + 40 * j + 31) _ _ HG4.out.s (by omega) (by have:=HL.out;omega)).mono ?_
      rintro e w5 ⟨q,rfl,⟨hq0,hq1⟩,hg⟩
      obtain ⟨q,rfl⟩:=Int.eq_ofNat_of_zero_le hq0
      have hq : q < ln:=by omega
      have HG5 : Hid (Gen b w w5 (m + 1 + 40 * j + 32)):=Lib.hid (HG4.out.trans hg)
      have HR5:=Lib.hid (HR4.out.keep hg.g (by omega))
      have HO5:=Lib.hid (HO4.out.gen HG4.out.s hg hblt)
      have HF5:=Lib.hid (HF4.out.keep (KeepT.of_gen HG4.out.s hg) (by decide) (by decide))
      clear hg HG4 HR4 HO4 HF4 hq0 hq1
      have hqL : q < L.length:=by rw [HN.out];exact hq
      obtain ⟨D,hD,hDl,hDc⟩:=HO5.out
      have hqD : q < D.length:=by omega
      obtain ⟨ro,hro⟩ : ∃ ro,L[q]? = some ro:=⟨_,List.getElem?_eq_getElem hqL⟩
      obtain ⟨co,hco⟩ : ∃ co,D[q]? = some co:=⟨_,List.getElem?_eq_getElem hqD⟩
      have HFo:=Lib.hid (hDc q co ro hco hro)
      have HSo:=Lib.hid (HK.out ro (List.mem_of_getElem? hro))
      obtain ⟨g,o,had,hgl,k⟩:=hD.rd q co hco
      obtain ⟨y,⟨b1,p1,d1⟩,⟨b2,p2,d2⟩,⟨b3,p3,d3⟩⟩:=co
      have hE : layFl.enc (y,(b1,p1,d1),(b2,p2,d2),(b3,p3,d3)) = [.int .i64 y, .slice b1 p1 d1, .slice b2 p2 d2, .slice b3 p3 d3]:=rfl
      have hKK : layFl.K = 4:=rfl
      rw [hE,hKK] at k
      have k0 : w5.cell? ⟨g,o + q * 4,none⟩ = _:=k 0 _ rfl
      have k1 : w5.cell? ⟨g,o + q * 4 + 1,none⟩ = _:=k 1 _ rfl
      have k2 : w5.cell? ⟨g,o + q * 4 + 2,none⟩ = _:=k 2 _ rfl
      have k3 : w5.cell? ⟨g,o + q * 4 + 3,none⟩ = _:=k 3 _ rfl
      subst had
      have hRl:=HR5.out.lt
      have HQ6 : Hid (Blk (w5.alloc (.cells #[.int .i64 y, .slice b1 p1 d1, .slice b2 p2 d2, .slice b3 p3 d3] 71 (0,0))) w5.heap.size 71 #[.int .i64 y, .slice b1 p1 d1, .slice b2 p2 d2, .slice b3 p3 d3]):=Lib.hid (Blk.new w5 _ _)
      have HR6:=Lib.hid (HR5.out.alloc (.cells #[.int .i64 y, .slice b1 p1 d1, .slice b2 p2 d2, .slice b3 p3 d3] 71 (0,0)))
      have HO6 : Hid (FlO (w5.alloc (.cells #[.int .i64 y, .slice b1 p1 d1, .slice b2 p2 d2, .slice b3 p3 d3] 71 (0,0))) w.heap.size (.slice (some ⟨g,o,none⟩) ln c) L):=Lib.hid (HO5.out.later (below_alloc (Below.refl _ _) _))
      have HG6:=Lib.hid (HG5.out.alloc (.cells #[.int .i64 y, .slice b1 p1 d1, .slice b2 p2 d2, .slice b3 p3 d3] 71 (0,0)))
      have HF6 : Hid (FlcT (w5.alloc (.cells #[.int .i64 y, .slice b1 p1 d1, .slice b2 p2 d2, .slice b3 p3 d3] 71 (0,0))) r (x,(a1,n1,c1),(a2,n2,c2),(a3,n3,c3))):=Lib.hid (HF5.out.keep (S:=[]) (KeepT.of_below (below_alloc (Below.refl _ _) _)) (by simp) (by simp))
      have HFo6 : Hid (FlcT (w5.alloc (.cells #[.int .i64 y, .slice b1 p1 d1, .slice b2 p2 d2, .slice b3 p3 d3] 71 (0,0))) ro (y,(b1,p1,d1),(b2,p2,d2),(b3,p3,d3))):=Lib.hid (HFo.out.keep (S:=[]) (KeepT.of_below (below_alloc (Below.refl _ _) _)) (by simp) (by simp))
      clear hD hDl hDc hqL hqD hro hco hgl k hE hKK HG5 HR5 HO5 HF5 HFo
      go_upto_region 7 with fail
      generalize w5.alloc (.cells #[.int .i64 y, .slice b1 p1 d1, .slice b2 p2 d2, .slice b3 p3 d3] 71 (0,0)) = w6 at *
      generalize w5.heap.size = O at *
      clear k0 k1 k2 k3
      go_wp2_with fail
      refine (next_gen b (m + 1 + 40 * j + 32) _ _ HG6.out.s (by omega) (by omega)).mono ?_
      rintro e w7 ⟨z,rfl,⟨hz0,hz1⟩,hg⟩
      have HG7 : Hid (Gen b w w7 (m + 1 + 40 * j + 33)):=Lib.hid (HG6.out.trans hg)
      have HR7:=Lib.hid (HR6.out.keep hg.g (by omega))
      have HQ7:=Lib.hid (HQ6.out.keep hg.g (by omega))
      have HO7:=Lib.hid (HO6.out.gen HG6.out.s hg hblt)
      have HF7:=Lib.hid (HF6.out.keep (KeepT.of_gen HG6.out.s hg) (by decide) (by decide))
      have HFo7:=Lib.hid (HFo6.out.keep (KeepT.of_gen HG6.out.s hg) (by decide) (by decide))
      have HW7 : Hid (∀ k,(Value.slice (some ⟨g,o,none⟩) ln c).ownBlock = some k → k < O):=Lib.hid fun k hk => Nat.lt_trans (HW2.out k hk) hRl
      clear hg HG6 HR6 HQ6 HO6 HF6 HFo6
      obtain rfl | rfl | rfl | rfl : z = 0 ∨ z = 1 ∨ z = 2 ∨ z = 3:=by omega
      ·have r1:=HR7.out.cell 1
       simp at r1
       have qf:=HQ7.out.free
       have q1:=HQ7.out.cell 1
       simp at q1
       go_upto_region 17 with fail
       have HR8:=Lib.hid (HR7.out.far (show R ≠ O by omega) 1 (.slice a1 n1 c1))
       have HO8:=Lib.hid (HO7.out.setFar HQ7.out HW7.out 1 (.slice a1 n1 c1))
       have HG8:=Lib.hid (HG7.out.setCell ⟨O,1,none⟩ (.slice a1 n1 c1) (show w.heap.size ≤ O by omega) (show b < O by omega))
       have hKs : KeepT [71] w7 (w7.setCell ⟨O,1,none⟩ (.slice a1 n1 c1)):=KeepT.of_set HQ7.out (by simp)
       have HP8 : Hid (∃ (r2 : FR) (cq : FC),Blk (w7.setCell ⟨O,1,none⟩ (.slice a1 n1 c1)) O 71 (fcC cq).toArray ∧ FlcT (w7.setCell ⟨O,1,none⟩ (.slice a1 n1 c1)) r2 cq ∧ r2.Sm):=Lib.hid (by
        have k1:=HF7.out.keep hKs (by decide) (by decide)
        have k2:=HFo7.out.keep hKs (by decide) (by decide)
        refine ⟨⟨ro.p,r.src,ro.dst,ro.po⟩,(y,(a1,n1,c1),(b2,p2,d2),(b3,p3,d3)),HQ7.out.set 1 _,⟨k2.e,k1.t1,k2.t2,k2.t3,k1.l1,k2.l2,k2.l3,k1.m1,k2.m2,k2.m3⟩,⟨⟨HS2.out.ok.v1,HSo.out.ok.v2⟩,HS2.out.l1,HSo.out.l2,HSo.out.l3⟩⟩)
       generalize (w7.setCell ⟨O,1,none⟩ (.slice a1 n1 c1)) = w8 at *
       clear r1 qf q1 hKs HQ7 HR7 HO7 HG7 HF7 HFo7
       obtain ⟨rn,⟨z0,⟨e1,f1,g1⟩,⟨e2,f2,g2⟩,⟨e3,f3,g3⟩⟩,hP,hFn,hSn⟩:=HP8.out
       have HPk:=Lib.hid hP
       have HFn:=Lib.hid hFn
       have HSn:=Lib.hid hSn
       clear hP hFn hSn HP8
       have q0:=HPk.out.cell 0
       have q1:=HPk.out.cell 1
       have q2:=HPk.out.cell 2
       have q3:=HPk.out.cell 3
       have r0:=HR8.out.cell 0
       have r1:=HR8.out.cell 1
       have r2:=HR8.out.cell 2
       have r3:=HR8.out.cell 3
       simp [fcC] at q0 q1 q2 q3 r0 r1 r2 r3
       have rf:=HR8.out.free
       go_upto_region 18 with fail
       have HR9 : Hid (Blk ((((w8.setCell ⟨R,0,none⟩ (.int .i64 z0)).setCell ⟨R,1,none⟩ (.slice e1 f1 g1)).setCell ⟨R,2,none⟩ (.slice e2 f2 g2)).setCell ⟨R,3,none⟩ (.slice e3 f3 g3)) R 71 #[.int .i64 z0, .slice e1 f1 g1, .slice e2 f2 g2, .slice e3 f3 g3]):=Lib.hid ((((HR8.out.set 0 (.int .i64 z0)).set 1 (.slice e1 f1 g1)).set 2 (.slice e2 f2 g2)).set 3 (.slice e3 f3 g3))
       have HO9:=Lib.hid (HO8.out.set4 HR8.out HW2.out (.int .i64 z0) (.slice e1 f1 g1) (.slice e2 f2 g2) (.slice e3 f3 g3))
       have HG9 : Hid (Gen b w ((((w8.setCell ⟨R,0,none⟩ (.int .i64 z0)).setCell ⟨R,1,none⟩ (.slice e1 f1 g1)).setCell ⟨R,2,none⟩ (.slice e2 f2 g2)).setCell ⟨R,3,none⟩ (.slice e3 f3 g3)) (m + 1 + 40 * j + 33)):=Lib.hid (by
        repeat refine Gen.setCell ?_ _ _ hwR (Nat.lt_of_lt_of_le hblt hwR)
        exact HG8.out)
       have HFn9:=Lib.hid (HFn.out.keep (KeepT.set4 (S:=[71]) HR8.out (by simp) (.int .i64 z0) (.slice e1 f1 g1) (.slice e2 f2 g2) (.slice e3 f3 g3)) (by decide) (by decide))
       generalize ((((w8.setCell ⟨R,0,none⟩ (.int .i64 z0)).setCell ⟨R,1,none⟩ (.slice e1 f1 g1)).setCell ⟨R,2,none⟩ (.slice e2 f2 g2)).setCell ⟨R,3,none⟩ (.slice e3 f3 g3)) = w9 at *
       clear q0 q1 q2 q3 r0 r1 r2 r3 rf HPk HR8 HO8 HG8 HFn
       have r0:=HR9.out.cell 0
       have r1:=HR9.out.cell 1
       have r2:=HR9.out.cell 2
       have r3:=HR9.out.cell 3
       simp at r0 r1 r2 r3
       have HA10 : Hid (Blk (w9.alloc (.cells #[.int .i64 z0, .slice e1 f1 g1, .slice e2 f2 g2, .slice e3 f3 g3] 71 (0,0))) w9.heap.size 71 #[.int .i64 z0, .slice e1 f1 g1, .slice e2 f2 g2, .slice e3 f3 g3]):=Lib.hid (Blk.new w9 _ _)
       have HR10:=Lib.hid (HR9.out.alloc (.cells #[.int .i64 z0, .slice e1 f1 g1, .slice e2 f2 g2, .slice e3 f3 g3] 71 (0,0)))
       have HO10 : Hid (FlO (w9.alloc (.cells #[.int .i64 z0, .slice e1 f1 g1, .slice e2 f2 g2, .slice e3 f3 g3] 71 (0,0))) w.heap.size (.slice (some ⟨g,o,none⟩) ln c) L):=Lib.hid (HO9.out.later (below_alloc (Below.refl _ _) _))
       have HG10:=Lib.hid (HG9.out.alloc (.cells #[.int .i64 z0, .slice e1 f1 g1, .slice e2 f2 g2, .slice e3 f3 g3] 71 (0,0)))
       have HFn10 : Hid (FlcT (w9.alloc (.cells #[.int .i64 z0, .slice e1 f1 g1, .slice e2 f2 g2, .slice e3 f3 g3] 71 (0,0))) rn (z0,(e1,f1,g1),(e2,f2,g2),(e3,f3,g3))):=Lib.hid (HFn9.out.keep (S:=[]) (KeepT.of_below (below_alloc (Below.refl _ _) _)) (by simp) (by simp))
       have HC:=Lib.hid (rowsFault_any (some ⟨w9.heap.size,0,none⟩) 1 1 [rn] (w9.alloc (.cells #[.int .i64 z0, .slice e1 f1 g1, .slice e2 f2 g2, .slice e3 f3 g3] 71 (0,0))) (flsAt_one (c:=(z0,(e1,f1,g1),(e2,f2,g2),(e3,f3,g3))) HA10.out HFn10.out) rfl (by decide) (fun r hr => by rw [List.mem_singleton.1 hr];exact HSn.out.un))
       clear HR9 HO9 HG9 HFn9 HA10
       go_wp2_with fail
       refine HC.out.mono ?_
       rintro e w11 ⟨rfl,hb⟩
       have HR11:=Lib.hid (HR10.out.below hb HR10.out.lt)
       have HO11:=Lib.hid (HO10.out.later hb)
       have HG11 : Hid (Gen b w w11 (m + 1 + 40 * j + 33)):=Lib.hid (HG10.out.below0 hb HG10.out.s.lt)
       have HFn11:=Lib.hid (HFn10.out.keep (S:=[]) (KeepT.of_below hb) (by simp) (by simp))
       clear hb HC HR10 HO10 HG10 HFn10 r0 r1 r2 r3
       generalize rowsF [rn] = F at *
       by_cases hF : F = 0
       ·subst hF
        go_wp2_with fail
        go_meet
        case rel => exact ⟨rn,(z0,(e1,f1,g1),(e2,f2,g2),(e3,f3,g3)),HR11.out,HFn11.out,HSn.out,HO11.out,HG11.out⟩
       ·have hF2 : (F != 0) = true:=by simpa using hF
        clear hF
        go_wp2_with fail
        exact ⟨⟨j + 1,L,by omega,by go_num,HO11,Lib.hid (by have:=HL.out;rw [HN.out];omega),HK,Lib.hid (HG11.out.mono (by omega))⟩,by simp [intOf];omega⟩
      ·have r2:=HR7.out.cell 2
       simp at r2
       have qf:=HQ7.out.free
       have q2:=HQ7.out.cell 2
       simp at q2
       go_upto_region 17 with fail
       have HR8:=Lib.hid (HR7.out.far (show R ≠ O by omega) 2 (.slice a2 n2 c2))
       have HO8:=Lib.hid (HO7.out.setFar HQ7.out HW7.out 2 (.slice a2 n2 c2))
       have HG8:=Lib.hid (HG7.out.setCell ⟨O,2,none⟩ (.slice a2 n2 c2) (show w.heap.size ≤ O by omega) (show b < O by omega))
       have hKs : KeepT [71] w7 (w7.setCell ⟨O,2,none⟩ (.slice a2 n2 c2)):=KeepT.of_set HQ7.out (by simp)
       have HP8 : Hid (∃ (r2 : FR) (cq : FC),Blk (w7.setCell ⟨O,2,none⟩ (.slice a2 n2 c2)) O 71 (fcC cq).toArray ∧ FlcT (w7.setCell ⟨O,2,none⟩ (.slice a2 n2 c2)) r2 cq ∧ r2.Sm):=Lib.hid (by
        have k1:=HF7.out.keep hKs (by decide) (by decide)
        have k2:=HFo7.out.keep hKs (by decide) (by decide)
        refine ⟨⟨ro.p,ro.src,r.dst,ro.po⟩,(y,(b1,p1,d1),(a2,n2,c2),(b3,p3,d3)),HQ7.out.set 2 _,⟨k2.e,k2.t1,k1.t2,k2.t3,k2.l1,k1.l2,k2.l3,k2.m1,k1.m2,k2.m3⟩,⟨⟨HSo.out.ok.v1,HS2.out.ok.v2⟩,HSo.out.l1,HS2.out.l2,HSo.out.l3⟩⟩)
       generalize (w7.setCell ⟨O,2,none⟩ (.slice a2 n2 c2)) = w8 at *
       clear r2 qf q2 hKs HQ7 HR7 HO7 HG7 HF7 HFo7
       obtain ⟨rn,⟨z0,⟨e1,f1,g1⟩,⟨e2,f2,g2⟩,⟨e3,f3,g3⟩⟩,hP,hFn,hSn⟩:=HP8.out
       have HPk:=Lib.hid hP
       have HFn:=Lib.hid hFn
       have HSn:=Lib.hid hSn
       clear hP hFn hSn HP8
       have q0:=HPk.out.cell 0
       have q1:=HPk.out.cell 1
       have q2:=HPk.out.cell 2
       have q3:=HPk.out.cell 3
       have r0:=HR8.out.cell 0
       have r1:=HR8.out.cell 1
       have r2:=HR8.out.cell 2
       have r3:=HR8.out.cell 3
       simp [fcC] at q0 q1 q2 q3 r0 r1 r2 r3
       have rf:=HR8.out.free
       go_upto_region 18 with fail
       have HR9 : Hid (Blk ((((w8.setCell ⟨R,0,none⟩ (.int .i64 z0)).setCell ⟨R,1,none⟩ (.slice e1 f1 g1)).setCell ⟨R,2,none⟩ (.slice e2 f2 g2)).setCell ⟨R,3,none⟩ (.slice e3 f3 g3)) R 71 #[.int .i64 z0, .slice e1 f1 g1, .slice e2 f2 g2, .slice e3 f3 g3]):=Lib.hid ((((HR8.out.set 0 (.int .i64 z0)).set 1 (.slice e1 f1 g1)).set 2 (.slice e2 f2 g2)).set 3 (.slice e3 f3 g3))
       have HO9:=Lib.hid (HO8.out.set4 HR8.out HW2.out (.int .i64 z0) (.slice e1 f1 g1) (.slice e2 f2 g2) (.slice e3 f3 g3))
       have HG9 : Hid (Gen b w ((((w8.setCell ⟨R,0,none⟩ (.int .i64 z0)).setCell ⟨R,1,none⟩ (.slice e1 f1 g1)).setCell ⟨R,2,none⟩ (.slice e2 f2 g2)).setCell ⟨R,3,none⟩ (.slice e3 f3 g3)) (m + 1 + 40 * j + 33)):=Lib.hid (by
        repeat refine Gen.setCell ?_ _ _ hwR (Nat.lt_of_lt_of_le hblt hwR)
        exact HG8.out)
       have HFn9:=Lib.hid (HFn.out.keep (KeepT.set4 (S:=[71]) HR8.out (by simp) (.int .i64 z0) (.slice e1 f1 g1) (.slice e2 f2 g2) (.slice e3 f3 g3)) (by decide) (by decide))
       generalize ((((w8.setCell ⟨R,0,none⟩ (.int .i64 z0)).setCell ⟨R,1,none⟩ (.slice e1 f1 g1)).setCell ⟨R,2,none⟩ (.slice e2 f2 g2)).setCell ⟨R,3,none⟩ (.slice e3 f3 g3)) = w9 at *
       clear q0 q1 q2 q3 r0 r1 r2 r3 rf HPk HR8 HO8 HG8 HFn
       have r0:=HR9.out.cell 0
       have r1:=HR9.out.cell 1
       have r2:=HR9.out.cell 2
       have r3:=HR9.out.cell 3
       simp at r0 r1 r2 r3
       have HA10 : Hid (Blk (w9.alloc (.cells #[.int .i64 z0, .slice e1 f1 g1, .slice e2 f2 g2, .slice e3 f3 g3] 71 (0,0))) w9.heap.size 71 #[.int .i64 z0, .slice e1 f1 g1, .slice e2 f2 g2, .slice e3 f3 g3]):=Lib.hid (Blk.new w9 _ _)
       have HR10:=Lib.hid (HR9.out.alloc (.cells #[.int .i64 z0, .slice e1 f1 g1, .slice e2 f2 g2, .slice e3 f3 g3] 71 (0,0)))
       have HO10 : Hid (FlO (w9.alloc (.cells #[.int .i64 z0, .slice e1 f1 g1, .slice e2 f2 g2, .slice e3 f3 g3] 71 (0,0))) w.heap.size (.slice (some ⟨g,o,none⟩) ln c) L):=Lib.hid (HO9.out.later (below_alloc (Below.refl _ _) _))
       have HG10:=Lib.hid (HG9.out.alloc (.cells #[.int .i64 z0, .slice e1 f1 g1, .slice e2 f2 g2, .slice e3 f3 g3] 71 (0,0)))
       have HFn10 : Hid (FlcT (w9.alloc (.cells #[.int .i64 z0, .slice e1 f1 g1, .slice e2 f2 g2, .slice e3 f3 g3] 71 (0,0))) rn (z0,(e1,f1,g1),(e2,f2,g2),(e3,f3,g3))):=Lib.hid (HFn9.out.keep (S:=[]) (KeepT.of_below (below_alloc (Below.refl _ _) _)) (by simp) (by simp))
       have HC:=Lib.hid (rowsFault_any (some ⟨w9.heap.size,0,none⟩) 1 1 [rn] (w9.alloc (.cells #[.int .i64 z0, .slice e1 f1 g1, .slice e2 f2 g2, .slice e3 f3 g3] 71 (0,0))) (flsAt_one (c:=(z0,(e1,f1,g1),(e2,f2,g2),(e3,f3,g3))) HA10.out HFn10.out) rfl (by decide) (fun r hr => by rw [List.mem_singleton.1 hr];exact HSn.out.un))
       clear HR9 HO9 HG9 HFn9 HA10
       go_wp2_with fail
       refine HC.out.mono ?_
       rintro e w11 ⟨rfl,hb⟩
       have HR11:=Lib.hid (HR10.out.below hb HR10.out.lt)
       have HO11:=Lib.hid (HO10.out.later hb)
       have HG11 : Hid (Gen b w w11 (m + 1 + 40 * j + 33)):=Lib.hid (HG10.out.below0 hb HG10.out.s.lt)
       have HFn11:=Lib.hid (HFn10.out.keep (S:=[]) (KeepT.of_below hb) (by simp) (by simp))
       clear hb HC HR10 HO10 HG10 HFn10 r0 r1 r2 r3
       generalize rowsF [rn] = F at *
       by_cases hF : F = 0
       ·subst hF
        go_wp2_with fail
        go_meet
        case rel => exact ⟨rn,(z0,(e1,f1,g1),(e2,f2,g2),(e3,f3,g3)),HR11.out,HFn11.out,HSn.out,HO11.out,HG11.out⟩
       ·have hF2 : (F != 0) = true:=by simpa using hF
        clear hF
        go_wp2_with fail
        exact ⟨⟨j + 1,L,by omega,by go_num,HO11,Lib.hid (by have:=HL.out;rw [HN.out];omega),HK,Lib.hid (HG11.out.mono (by omega))⟩,by simp [intOf];omega⟩
      ·have q0:=HQ7.out.cell 0
       simp at q0
       by_cases hpr : y = 0 ∨ y = 6 ∨ y = 17
       ·rcases hpr with hpr | hpr | hpr
        all_goals
         go_upto_region 16 with fail
         clear hpr q0
         have r3:=HR7.out.cell 3
         simp at r3
         have qf:=HQ7.out.free
         have q3:=HQ7.out.cell 3
         simp at q3
         go_upto_region 17 with fail
         have HR8:=Lib.hid (HR7.out.far (show R ≠ O by omega) 3 (.slice a3 n3 c3))
         have HO8:=Lib.hid (HO7.out.setFar HQ7.out HW7.out 3 (.slice a3 n3 c3))
         have HG8:=Lib.hid (HG7.out.setCell ⟨O,3,none⟩ (.slice a3 n3 c3) (show w.heap.size ≤ O by omega) (show b < O by omega))
         have hKs : KeepT [71] w7 (w7.setCell ⟨O,3,none⟩ (.slice a3 n3 c3)):=KeepT.of_set HQ7.out (by simp)
         have HP8 : Hid (∃ (r2 : FR) (cq : FC),Blk (w7.setCell ⟨O,3,none⟩ (.slice a3 n3 c3)) O 71 (fcC cq).toArray ∧ FlcT (w7.setCell ⟨O,3,none⟩ (.slice a3 n3 c3)) r2 cq ∧ r2.Sm):=Lib.hid (by
          have k1:=HF7.out.keep hKs (by decide) (by decide)
          have k2:=HFo7.out.keep hKs (by decide) (by decide)
          refine ⟨⟨ro.p,ro.src,ro.dst,r.po⟩,(y,(b1,p1,d1),(b2,p2,d2),(a3,n3,c3)),HQ7.out.set 3 _,⟨k2.e,k2.t1,k2.t2,k1.t3,k2.l1,k2.l2,k1.l3,k2.m1,k2.m2,k1.m3⟩,⟨⟨HSo.out.ok.v1,HSo.out.ok.v2⟩,HSo.out.l1,HSo.out.l2,HS2.out.l3⟩⟩)
         generalize (w7.setCell ⟨O,3,none⟩ (.slice a3 n3 c3)) = w8 at *
         clear r3 qf q3 hKs HQ7 HR7 HO7 HG7 HF7 HFo7
         obtain ⟨rn,⟨z0,⟨e1,f1,g1⟩,⟨e2,f2,g2⟩,⟨e3,f3,g3⟩⟩,hP,hFn,hSn⟩:=HP8.out
         have HPk:=Lib.hid hP
         have HFn:=Lib.hid hFn
         have HSn:=Lib.hid hSn
         clear hP hFn hSn HP8
         have q0:=HPk.out.cell 0
         have q1:=HPk.out.cell 1
         have q2:=HPk.out.cell 2
         have q3:=HPk.out.cell 3
         have r0:=HR8.out.cell 0
         have r1:=HR8.out.cell 1
         have r2:=HR8.out.cell 2
         have r3:=HR8.out.cell 3
         simp [fcC] at q0 q1 q2 q3 r0 r1 r2 r3
         have rf:=HR8.out.free
         go_upto_region 18 with fail
         have HR9 : Hid (Blk ((((w8.setCell ⟨R,0,none⟩ (.int .i64 z0)).setCell ⟨R,1,none⟩ (.slice e1 f1 g1)).setCell ⟨R,2,none⟩ (.slice e2 f2 g2)).setCell ⟨R,3,none⟩ (.slice e3 f3 g3)) R 71 #[.int .i64 z0, .slice e1 f1 g1, .slice e2 f2 g2, .slice e3 f3 g3]):=Lib.hid ((((HR8.out.set 0 (.int .i64 z0)).set 1 (.slice e1 f1 g1)).set 2 (.slice e2 f2 g2)).set 3 (.slice e3 f3 g3))
         have HO9:=Lib.hid (HO8.out.set4 HR8.out HW2.out (.int .i64 z0) (.slice e1 f1 g1) (.slice e2 f2 g2) (.slice e3 f3 g3))
         have HG9 : Hid (Gen b w ((((w8.setCell ⟨R,0,none⟩ (.int .i64 z0)).setCell ⟨R,1,none⟩ (.slice e1 f1 g1)).setCell ⟨R,2,none⟩ (.slice e2 f2 g2)).setCell ⟨R,3,none⟩ (.slice e3 f3 g3)) (m + 1 + 40 * j + 33)):=Lib.hid (by
          repeat refine Gen.setCell ?_ _ _ hwR (Nat.lt_of_lt_of_le hblt hwR)
          exact HG8.out)
         have HFn9:=Lib.hid (HFn.out.keep (KeepT.set4 (S:=[71]) HR8.out (by simp) (.int .i64 z0) (.slice e1 f1 g1) (.slice e2 f2 g2) (.slice e3 f3 g3)) (by decide) (by decide))
         generalize ((((w8.setCell ⟨R,0,none⟩ (.int .i64 z0)).setCell ⟨R,1,none⟩ (.slice e1 f1 g1)).setCell ⟨R,2,none⟩ (.slice e2 f2 g2)).setCell ⟨R,3,none⟩ (.slice e3 f3 g3)) = w9 at *
         clear q0 q1 q2 q3 r0 r1 r2 r3 rf HPk HR8 HO8 HG8 HFn
         have r0:=HR9.out.cell 0
         have r1:=HR9.out.cell 1
         have r2:=HR9.out.cell 2
         have r3:=HR9.out.cell 3
         simp at r0 r1 r2 r3
         have HA10 : Hid (Blk (w9.alloc (.cells #[.int .i64 z0, .slice e1 f1 g1, .slice e2 f2 g2, .slice e3 f3 g3] 71 (0,0))) w9.heap.size 71 #[.int .i64 z0, .slice e1 f1 g1, .slice e2 f2 g2, .slice e3 f3 g3]):=Lib.hid (Blk.new w9 _ _)
         have HR10:=Lib.hid (HR9.out.alloc (.cells #[.int .i64 z0, .slice e1 f1 g1, .slice e2 f2 g2, .slice e3 f3 g3] 71 (0,0)))
         have HO10 : Hid (FlO (w9.alloc (.cells #[.int .i64 z0, .slice e1 f1 g1, .slice e2 f2 g2, .slice e3 f3 g3] 71 (0,0))) w.heap.size (.slice (some ⟨g,o,none⟩) ln c) L):=Lib.hid (HO9.out.later (below_alloc (Below.refl _ _) _))
         have HG10:=Lib.hid (HG9.out.alloc (.cells #[.int .i64 z0, .slice e1 f1 g1, .slice e2 f2 g2, .slice e3 f3 g3] 71 (0,0)))
         have HFn10 : Hid (FlcT (w9.alloc (.cells #[.int .i64 z0, .slice e1 f1 g1, .slice e2 f2 g2, .slice e3 f3 g3] 71 (0,0))) rn (z0,(e1,f1,g1),(e2,f2,g2),(e3,f3,g3))):=Lib.hid (HFn9.out.keep (S:=[]) (KeepT.of_below (below_alloc (Below.refl _ _) _)) (by simp) (by simp))
         have HC:=Lib.hid (rowsFault_any (some ⟨w9.heap.size,0,none⟩) 1 1 [rn] (w9.alloc (.cells #[.int .i64 z0, .slice e1 f1 g1, .slice e2 f2 g2, .slice e3 f3 g3] 71 (0,0))) (flsAt_one (c:=(z0,(e1,f1,g1),(e2,f2,g2),(e3,f3,g3))) HA10.out HFn10.out) rfl (by decide) (fun r hr => by rw [List.mem_singleton.1 hr];exact HSn.out.un))
         clear HR9 HO9 HG9 HFn9 HA10
         go_wp2_with fail
         refine HC.out.mono ?_
         rintro e w11 ⟨rfl,hb⟩
         have HR11:=Lib.hid (HR10.out.below hb HR10.out.lt)
         have HO11:=Lib.hid (HO10.out.later hb)
         have HG11 : Hid (Gen b w w11 (m + 1 + 40 * j + 33)):=Lib.hid (HG10.out.below0 hb HG10.out.s.lt)
         have HFn11:=Lib.hid (HFn10.out.keep (S:=[]) (KeepT.of_below hb) (by simp) (by simp))
         clear hb HC HR10 HO10 HG10 HFn10 r0 r1 r2 r3
         generalize rowsF [rn] = F at *
         by_cases hF : F = 0
         ·subst hF
          go_wp2_with fail
          go_meet
          case rel => exact ⟨rn,(z0,(e1,f1,g1),(e2,f2,g2),(e3,f3,g3)),HR11.out,HFn11.out,HSn.out,HO11.out,HG11.out⟩
         ·have hF2 : (F != 0) = true:=by simpa using hF
          clear hF
          go_wp2_with fail
          exact ⟨⟨j + 1,L,by omega,by go_num,HO11,Lib.hid (by have:=HL.out;rw [HN.out];omega),HK,Lib.hid (HG11.out.mono (by omega))⟩,by simp [intOf];omega⟩
       ·have y1 : (y == 0) = false:=by simp;exact fun h => hpr (.inl h)
        have y2 : (y == 6) = false:=by simp;exact fun h => hpr (.inr (.inl h))
        have y3 : (y == 17) = false:=by simp;exact fun h => hpr (.inr (.inr h))
        clear hpr
        go_upto_region 17 with fail
        clear y1 y2 y3 q0
        have HR8:=HR7
        have HO8:=HO7
        have HG8:=HG7
        have HP8 : Hid (∃ (r2 : FR) (cq : FC),Blk w7 O 71 (fcC cq).toArray ∧ FlcT w7 r2 cq ∧ r2.Sm):=Lib.hid ⟨ro,(y,(b1,p1,d1),(b2,p2,d2),(b3,p3,d3)),HQ7.out,HFo7.out,HSo.out⟩
        clear HQ7 HR7 HO7 HG7 HF7 HFo7
        generalize w7 = w8 at *
        obtain ⟨rn,⟨z0,⟨e1,f1,g1⟩,⟨e2,f2,g2⟩,⟨e3,f3,g3⟩⟩,hP,hFn,hSn⟩:=HP8.out
        have HPk:=Lib.hid hP
        have HFn:=Lib.hid hFn
        have HSn:=Lib.hid hSn
        clear hP hFn hSn HP8
        have q0:=HPk.out.cell 0
        have q1:=HPk.out.cell 1
        have q2:=HPk.out.cell 2
        have q3:=HPk.out.cell 3
        have r0:=HR8.out.cell 0
        have r1:=HR8.out.cell 1
        have r2:=HR8.out.cell 2
        have r3:=HR8.out.cell 3
        simp [fcC] at q0 q1 q2 q3 r0 r1 r2 r3
        have rf:=HR8.out.free
        go_upto_region 18 with fail
        have HR9 : Hid (Blk ((((w8.setCell ⟨R,0,none⟩ (.int .i64 z0)).setCell ⟨R,1,none⟩ (.slice e1 f1 g1)).setCell ⟨R,2,none⟩ (.slice e2 f2 g2)).setCell ⟨R,3,none⟩ (.slice e3 f3 g3)) R 71 #[.int .i64 z0, .slice e1 f1 g1, .slice e2 f2 g2, .slice e3 f3 g3]):=Lib.hid ((((HR8.out.set 0 (.int .i64 z0)).set 1 (.slice e1 f1 g1)).set 2 (.slice e2 f2 g2)).set 3 (.slice e3 f3 g3))
        have HO9:=Lib.hid (HO8.out.set4 HR8.out HW2.out (.int .i64 z0) (.slice e1 f1 g1) (.slice e2 f2 g2) (.slice e3 f3 g3))
        have HG9 : Hid (Gen b w ((((w8.setCell ⟨R,0,none⟩ (.int .i64 z0)).setCell ⟨R,1,none⟩ (.slice e1 f1 g1)).setCell ⟨R,2,none⟩ (.slice e2 f2 g2)).setCell ⟨R,3,none⟩ (.slice e3 f3 g3)) (m + 1 + 40 * j + 33)):=Lib.hid (by
         repeat refine Gen.setCell ?_ _ _ hwR (Nat.lt_of_lt_of_le hblt hwR)
         exact HG8.out)
        have HFn9:=Lib.hid (HFn.out.keep (KeepT.set4 (S:=[71]) HR8.out (by simp) (.int .i64 z0) (.slice e1 f1 g1) (.slice e2 f2 g2) (.slice e3 f3 g3)) (by decide) (by decide))
        generalize ((((w8.setCell ⟨R,0,none⟩ (.int .i64 z0)).setCell ⟨R,1,none⟩ (.slice e1 f1 g1)).setCell ⟨R,2,none⟩ (.slice e2 f2 g2)).setCell ⟨R,3,none⟩ (.slice e3 f3 g3)) = w9 at *
        clear q0 q1 q2 q3 r0 r1 r2 r3 rf HPk HR8 HO8 HG8 HFn
        have r0:=HR9.out.cell 0
        have r1:=HR9.out.cell 1
        have r2:=HR9.out.cell 2
        have r3:=HR9.out.cell 3
        simp at r0 r1 r2 r3
        have HA10 : Hid (Blk (w9.alloc (.cells #[.int .i64 z0, .slice e1 f1 g1, .slice e2 f2 g2, .slice e3 f3 g3] 71 (0,0))) w9.heap.size 71 #[.int .i64 z0, .slice e1 f1 g1, .slice e2 f2 g2, .slice e3 f3 g3]):=Lib.hid (Blk.new w9 _ _)
        have HR10:=Lib.hid (HR9.out.alloc (.cells #[.int .i64 z0, .slice e1 f1 g1, .slice e2 f2 g2, .slice e3 f3 g3] 71 (0,0)))
        have HO10 : Hid (FlO (w9.alloc (.cells #[.int .i64 z0, .slice e1 f1 g1, .slice e2 f2 g2, .slice e3 f3 g3] 71 (0,0))) w.heap.size (.slice (some ⟨g,o,none⟩) ln c) L):=Lib.hid (HO9.out.later (below_alloc (Below.refl _ _) _))
        have HG10:=Lib.hid (HG9.out.alloc (.cells #[.int .i64 z0, .slice e1 f1 g1, .slice e2 f2 g2, .slice e3 f3 g3] 71 (0,0)))
        have HFn10 : Hid (FlcT (w9.alloc (.cells #[.int .i64 z0, .slice e1 f1 g1, .slice e2 f2 g2, .slice e3 f3 g3] 71 (0,0))) rn (z0,(e1,f1,g1),(e2,f2,g2),(e3,f3,g3))):=Lib.hid (HFn9.out.keep (S:=[]) (KeepT.of_below (below_alloc (Below.refl _ _) _)) (by simp) (by simp))
        have HC:=Lib.hid (rowsFault_any (some ⟨w9.heap.size,0,none⟩) 1 1 [rn] (w9.alloc (.cells #[.int .i64 z0, .slice e1 f1 g1, .slice e2 f2 g2, .slice e3 f3 g3] 71 (0,0))) (flsAt_one (c:=(z0,(e1,f1,g1),(e2,f2,g2),(e3,f3,g3))) HA10.out HFn10.out) rfl (by decide) (fun r hr => by rw [List.mem_singleton.1 hr];exact HSn.out.un))
        clear HR9 HO9 HG9 HFn9 HA10
        go_wp2_with fail
        refine HC.out.mono ?_
        rintro e w11 ⟨rfl,hb⟩
        have HR11:=Lib.hid (HR10.out.below hb HR10.out.lt)
        have HO11:=Lib.hid (HO10.out.later hb)
        have HG11 : Hid (Gen b w w11 (m + 1 + 40 * j + 33)):=Lib.hid (HG10.out.below0 hb HG10.out.s.lt)
        have HFn11:=Lib.hid (HFn10.out.keep (S:=[]) (KeepT.of_below hb) (by simp) (by simp))
        clear hb HC HR10 HO10 HG10 HFn10 r0 r1 r2 r3
        generalize rowsF [rn] = F at *
        by_cases hF : F = 0
        ·subst hF
         go_wp2_with fail
         go_meet
         case rel => exact ⟨rn,(z0,(e1,f1,g1),(e2,f2,g2),(e3,f3,g3)),HR11.out,HFn11.out,HSn.out,HO11.out,HG11.out⟩
        ·have hF2 : (F != 0) = true:=by simpa using hF
         clear hF
         go_wp2_with fail
         exact ⟨⟨j + 1,L,by omega,by go_num,HO11,Lib.hid (by have:=HL.out;rw [HN.out];omega),HK,Lib.hid (HG11.out.mono (by omega))⟩,by simp [intOf];omega⟩
      ·have q3:=HQ7.out.cell 3
       simp at q3
       by_cases hp3 : p3 = 1
       ·obtain ⟨po,hpo⟩ : ∃ po,ro.po = [po]:=by
         have:=HFo7.out.l3
         rw [hp3] at this
         rcases hq : ro.po with _ | ⟨a,_ | ⟨b,l⟩⟩
         ·rw [hq] at this;simp at this
         ·exact ⟨a,rfl⟩
         ·rw [hq] at this;simp at this
        obtain ⟨pu,pv⟩:=po
        have ht3 : RdT layPo w7 b3 ro.po:=HFo7.out.t3
        rw [hpo] at ht3
        obtain ⟨g3,o3,hb3,hg3,t0,t1⟩:=ht3.rd.po (k:=0) (p:=(pu,pv)) rfl
        have q3' : w7.cell? ⟨O,3,none⟩ = some (.slice (some ⟨g3,o3,none⟩) 1 d3):=by rw [q3,hb3,hp3]
        simp at t0 t1
        clear hpo ht3 hg3 hb3 hp3 q3
        by_cases hu : pu = 0
        ·subst hu
         by_cases hv : pv = 65535
         ·subst hv
          go_upto_region 9 with fail
          clear t0 t1 q3'
          have r0:=HR7.out.cell 0
          simp at r0
          have qf:=HQ7.out.free
          have q0:=HQ7.out.cell 0
          simp at q0
          go_upto_region 17 with fail
          have HR8:=Lib.hid (HR7.out.far (show R ≠ O by omega) 0 (.int .i64 x))
          have HO8:=Lib.hid (HO7.out.setFar HQ7.out HW7.out 0 (.int .i64 x))
          have HG8:=Lib.hid (HG7.out.setCell ⟨O,0,none⟩ (.int .i64 x) (show w.heap.size ≤ O by omega) (show b < O by omega))
          have hKs : KeepT [71] w7 (w7.setCell ⟨O,0,none⟩ (.int .i64 x)):=KeepT.of_set HQ7.out (by simp)
          have HP8 : Hid (∃ (r2 : FR) (cq : FC),Blk (w7.setCell ⟨O,0,none⟩ (.int .i64 x)) O 71 (fcC cq).toArray ∧ FlcT (w7.setCell ⟨O,0,none⟩ (.int .i64 x)) r2 cq ∧ r2.Sm):=Lib.hid (by
           have k1:=HF7.out.keep hKs (by decide) (by decide)
           have k2:=HFo7.out.keep hKs (by decide) (by decide)
           refine ⟨⟨r.p,ro.src,ro.dst,ro.po⟩,(x,(b1,p1,d1),(b2,p2,d2),(b3,p3,d3)),HQ7.out.set 0 _,⟨k1.e,k2.t1,k2.t2,k2.t3,k2.l1,k2.l2,k2.l3,k2.m1,k2.m2,k2.m3⟩,⟨⟨HSo.out.ok.v1,HSo.out.ok.v2⟩,HSo.out.l1,HSo.out.l2,HSo.out.l3⟩⟩)
          generalize (w7.setCell ⟨O,0,none⟩ (.int .i64 x)) = w8 at *
          clear r0 qf q0 hKs HQ7 HR7 HO7 HG7 HF7 HFo7
          obtain ⟨rn,⟨z0,⟨e1,f1,g1⟩,⟨e2,f2,g2⟩,⟨e3,f3,g3⟩⟩,hP,hFn,hSn⟩:=HP8.out
          have HPk:=Lib.hid hP
          have HFn:=Lib.hid hFn
          have HSn:=Lib.hid hSn
          clear hP hFn hSn HP8
          have q0:=HPk.out.cell 0
          have q1:=HPk.out.cell 1
          have q2:=HPk.out.cell 2
          have q3:=HPk.out.cell 3
          have r0:=HR8.out.cell 0
          have r1:=HR8.out.cell 1
          have r2:=HR8.out.cell 2
          have r3:=HR8.out.cell 3
          simp [fcC] at q0 q1 q2 q3 r0 r1 r2 r3
          have rf:=HR8.out.free
          go_upto_region 18 with fail
          have HR9 : Hid (Blk ((((w8.setCell ⟨R,0,none⟩ (.int .i64 z0)).setCell ⟨R,1,none⟩ (.slice e1 f1 g1)).setCell ⟨R,2,none⟩ (.slice e2 f2 g2)).setCell ⟨R,3,none⟩ (.slice e3 f3 g3)) R 71 #[.int .i64 z0, .slice e1 f1 g1, .slice e2 f2 g2, .slice e3 f3 g3]):=Lib.hid ((((HR8.out.set 0 (.int .i64 z0)).set 1 (.slice e1 f1 g1)).set 2 (.slice e2 f2 g2)).set 3 (.slice e3 f3 g3))
          have HO9:=Lib.hid (HO8.out.set4 HR8.out HW2.out (.int .i64 z0) (.slice e1 f1 g1) (.slice e2 f2 g2) (.slice e3 f3 g3))
          have HG9 : Hid (Gen b w ((((w8.setCell ⟨R,0,none⟩ (.int .i64 z0)).setCell ⟨R,1,none⟩ (.slice e1 f1 g1)).setCell ⟨R,2,none⟩ (.slice e2 f2 g2)).setCell ⟨R,3,none⟩ (.slice e3 f3 g3)) (m + 1 + 40 * j + 33)):=Lib.hid (by
           repeat refine Gen.setCell ?_ _ _ hwR (Nat.lt_of_lt_of_le hblt hwR)
           exact HG8.out)
          have HFn9:=Lib.hid (HFn.out.keep (KeepT.set4 (S:=[71]) HR8.out (by simp) (.int .i64 z0) (.slice e1 f1 g1) (.slice e2 f2 g2) (.slice e3 f3 g3)) (by decide) (by decide))
          generalize ((((w8.setCell ⟨R,0,none⟩ (.int .i64 z0)).setCell ⟨R,1,none⟩ (.slice e1 f1 g1)).setCell ⟨R,2,none⟩ (.slice e2 f2 g2)).setCell ⟨R,3,none⟩ (.slice e3 f3 g3)) = w9 at *
          clear q0 q1 q2 q3 r0 r1 r2 r3 rf HPk HR8 HO8 HG8 HFn
          have r0:=HR9.out.cell 0
          have r1:=HR9.out.cell 1
          have r2:=HR9.out.cell 2
          have r3:=HR9.out.cell 3
          simp at r0 r1 r2 r3
          have HA10 : Hid (Blk (w9.alloc (.cells #[.int .i64 z0, .slice e1 f1 g1, .slice e2 f2 g2, .slice e3 f3 g3] 71 (0,0))) w9.heap.size 71 #[.int .i64 z0, .slice e1 f1 g1, .slice e2 f2 g2, .slice e3 f3 g3]):=Lib.hid (Blk.new w9 _ _)
          have HR10:=Lib.hid (HR9.out.alloc (.cells #[.int .i64 z0, .slice e1 f1 g1, .slice e2 f2 g2, .slice e3 f3 g3] 71 (0,0)))
          have HO10 : Hid (FlO (w9.alloc (.cells #[.int .i64 z0, .slice e1 f1 g1, .slice e2 f2 g2, .slice e3 f3 g3] 71 (0,0))) w.heap.size (.slice (some ⟨g,o,none⟩) ln c) L):=Lib.hid (HO9.out.later (below_alloc (Below.refl _ _) _))
          have HG10:=Lib.hid (HG9.out.alloc (.cells #[.int .i64 z0, .slice e1 f1 g1, .slice e2 f2 g2, .slice e3 f3 g3] 71 (0,0)))
          have HFn10 : Hid (FlcT (w9.alloc (.cells #[.int .i64 z0, .slice e1 f1 g1, .slice e2 f2 g2, .slice e3 f3 g3] 71 (0,0))) rn (z0,(e1,f1,g1),(e2,f2,g2),(e3,f3,g3))):=Lib.hid (HFn9.out.keep (S:=[]) (KeepT.of_below (below_alloc (Below.refl _ _) _)) (by simp) (by simp))
          have HC:=Lib.hid (rowsFault_any (some ⟨w9.heap.size,0,none⟩) 1 1 [rn] (w9.alloc (.cells #[.int .i64 z0, .slice e1 f1 g1, .slice e2 f2 g2, .slice e3 f3 g3] 71 (0,0))) (flsAt_one (c:=(z0,(e1,f1,g1),(e2,f2,g2),(e3,f3,g3))) HA10.out HFn10.out) rfl (by decide) (fun r hr => by rw [List.mem_singleton.1 hr];exact HSn.out.un))
          clear HR9 HO9 HG9 HFn9 HA10
          go_wp2_with fail
          refine HC.out.mono ?_
          rintro e w11 ⟨rfl,hb⟩
          have HR11:=Lib.hid (HR10.out.below hb HR10.out.lt)
          have HO11:=Lib.hid (HO10.out.later hb)
          have HG11 : Hid (Gen b w w11 (m + 1 + 40 * j + 33)):=Lib.hid (HG10.out.below0 hb HG10.out.s.lt)
          have HFn11:=Lib.hid (HFn10.out.keep (S:=[]) (KeepT.of_below hb) (by simp) (by simp))
          clear hb HC HR10 HO10 HG10 HFn10 r0 r1 r2 r3
          generalize rowsF [rn] = F at *
          by_cases hF : F = 0
          ·subst hF
           go_wp2_with fail
           go_meet
           case rel => exact ⟨rn,(z0,(e1,f1,g1),(e2,f2,g2),(e3,f3,g3)),HR11.out,HFn11.out,HSn.out,HO11.out,HG11.out⟩
          ·have hF2 : (F != 0) = true:=by simpa using hF
           clear hF
           go_wp2_with fail
           exact ⟨⟨j + 1,L,by omega,by go_num,HO11,Lib.hid (by have:=HL.out;rw [HN.out];omega),HK,Lib.hid (HG11.out.mono (by omega))⟩,by simp [intOf];omega⟩
         ·have hv' : (pv == 65535) = false:=by simpa using hv
          go_upto_region 17 with fail
          clear t0 t1 q3' hv hv'
          have HR8:=HR7
          have HO8:=HO7
          have HG8:=HG7
          have HP8 : Hid (∃ (r2 : FR) (cq : FC),Blk w7 O 71 (fcC cq).toArray ∧ FlcT w7 r2 cq ∧ r2.Sm):=Lib.hid ⟨ro,(y,(b1,p1,d1),(b2,p2,d2),(b3,p3,d3)),HQ7.out,HFo7.out,HSo.out⟩
          clear HQ7 HR7 HO7 HG7 HF7 HFo7
          generalize w7 = w8 at *
          obtain ⟨rn,⟨z0,⟨e1,f1,g1⟩,⟨e2,f2,g2⟩,⟨e3,f3,g3⟩⟩,hP,hFn,hSn⟩:=HP8.out
          have HPk:=Lib.hid hP
          have HFn:=Lib.hid hFn
          have HSn:=Lib.hid hSn
          clear hP hFn hSn HP8
          have q0:=HPk.out.cell 0
          have q1:=HPk.out.cell 1
          have q2:=HPk.out.cell 2
          have q3:=HPk.out.cell 3
          have r0:=HR8.out.cell 0
          have r1:=HR8.out.cell 1
          have r2:=HR8.out.cell 2
          have r3:=HR8.out.cell 3
          simp [fcC] at q0 q1 q2 q3 r0 r1 r2 r3
          have rf:=HR8.out.free
          go_upto_region 18 with fail
          have HR9 : Hid (Blk ((((w8.setCell ⟨R,0,none⟩ (.int .i64 z0)).setCell ⟨R,1,none⟩ (.slice e1 f1 g1)).setCell ⟨R,2,none⟩ (.slice e2 f2 g2)).setCell ⟨R,3,none⟩ (.slice e3 f3 g3)) R 71 #[.int .i64 z0, .slice e1 f1 g1, .slice e2 f2 g2, .slice e3 f3 g3]):=Lib.hid ((((HR8.out.set 0 (.int .i64 z0)).set 1 (.slice e1 f1 g1)).set 2 (.slice e2 f2 g2)).set 3 (.slice e3 f3 g3))
          have HO9:=Lib.hid (HO8.out.set4 HR8.out HW2.out (.int .i64 z0) (.slice e1 f1 g1) (.slice e2 f2 g2) (.slice e3 f3 g3))
          have HG9 : Hid (Gen b w ((((w8.setCell ⟨R,0,none⟩ (.int .i64 z0)).setCell ⟨R,1,none⟩ (.slice e1 f1 g1)).setCell ⟨R,2,none⟩ (.slice e2 f2 g2)).setCell ⟨R,3,none⟩ (.slice e3 f3 g3)) (m + 1 + 40 * j + 33)):=Lib.hid (by
           repeat refine Gen.setCell ?_ _ _ hwR (Nat.lt_of_lt_of_le hblt hwR)
           exact HG8.out)
          have HFn9:=Lib.hid (HFn.out.keep (KeepT.set4 (S:=[71]) HR8.out (by simp) (.int .i64 z0) (.slice e1 f1 g1) (.slice e2 f2 g2) (.slice e3 f3 g3)) (by decide) (by decide))
          generalize ((((w8.setCell ⟨R,0,none⟩ (.int .i64 z0)).setCell ⟨R,1,none⟩ (.slice e1 f1 g1)).setCell ⟨R,2,none⟩ (.slice e2 f2 g2)).setCell ⟨R,3,none⟩ (.slice e3 f3 g3)) = w9 at *
          clear q0 q1 q2 q3 r0 r1 r2 r3 rf HPk HR8 HO8 HG8 HFn
          have r0:=HR9.out.cell 0
          have r1:=HR9.out.cell 1
          have r2:=HR9.out.cell 2
          have r3:=HR9.out.cell 3
          simp at r0 r1 r2 r3
          have HA10 : Hid (Blk (w9.alloc (.cells #[.int .i64 z0, .slice e1 f1 g1, .slice e2 f2 g2, .slice e3 f3 g3] 71 (0,0))) w9.heap.size 71 #[.int .i64 z0, .slice e1 f1 g1, .slice e2 f2 g2, .slice e3 f3 g3]):=Lib.hid (Blk.new w9 _ _)
          have HR10:=Lib.hid (HR9.out.alloc (.cells #[.int .i64 z0, .slice e1 f1 g1, .slice e2 f2 g2, .slice e3 f3 g3] 71 (0,0)))
          have HO10 : Hid (FlO (w9.alloc (.cells #[.int .i64 z0, .slice e1 f1 g1, .slice e2 f2 g2, .slice e3 f3 g3] 71 (0,0))) w.heap.size (.slice (some ⟨g,o,none⟩) ln c) L):=Lib.hid (HO9.out.later (below_alloc (Below.refl _ _) _))
          have HG10:=Lib.hid (HG9.out.alloc (.cells #[.int .i64 z0, .slice e1 f1 g1, .slice e2 f2 g2, .slice e3 f3 g3] 71 (0,0)))
          have HFn10 : Hid (FlcT (w9.alloc (.cells #[.int .i64 z0, .slice e1 f1 g1, .slice e2 f2 g2, .slice e3 f3 g3] 71 (0,0))) rn (z0,(e1,f1,g1),(e2,f2,g2),(e3,f3,g3))):=Lib.hid (HFn9.out.keep (S:=[]) (KeepT.of_below (below_alloc (Below.refl _ _) _)) (by simp) (by simp))
          have HC:=Lib.hid (rowsFault_any (some ⟨w9.heap.size,0,none⟩) 1 1 [rn] (w9.alloc (.cells #[.int .i64 z0, .slice e1 f1 g1, .slice e2 f2 g2, .slice e3 f3 g3] 71 (0,0))) (flsAt_one (c:=(z0,(e1,f1,g1),(e2,f2,g2),(e3,f3,g3))) HA10.out HFn10.out) rfl (by decide) (fun r hr => by rw [List.mem_singleton.1 hr];exact HSn.out.un))
          clear HR9 HO9 HG9 HFn9 HA10
          go_wp2_with fail
          refine HC.out.mono ?_
          rintro e w11 ⟨rfl,hb⟩
          have HR11:=Lib.hid (HR10.out.below hb HR10.out.lt)
          have HO11:=Lib.hid (HO10.out.later hb)
          have HG11 : Hid (Gen b w w11 (m + 1 + 40 * j + 33)):=Lib.hid (HG10.out.below0 hb HG10.out.s.lt)
          have HFn11:=Lib.hid (HFn10.out.keep (S:=[]) (KeepT.of_below hb) (by simp) (by simp))
          clear hb HC HR10 HO10 HG10 HFn10 r0 r1 r2 r3
          generalize rowsF [rn] = F at *
          by_cases hF : F = 0
          ·subst hF
           go_wp2_with fail
           go_meet
           case rel => exact ⟨rn,(z0,(e1,f1,g1),(e2,f2,g2),(e3,f3,g3)),HR11.out,HFn11.out,HSn.out,HO11.out,HG11.out⟩
          ·have hF2 : (F != 0) = true:=by simpa using hF
           clear hF
           go_wp2_with fail
           exact ⟨⟨j + 1,L,by omega,by go_num,HO11,Lib.hid (by have:=HL.out;rw [HN.out];omega),HK,Lib.hid (HG11.out.mono (by omega))⟩,by simp [intOf];omega⟩
        ·have hu' : (pu == 0) = false:=by simpa using hu
         go_upto_region 17 with fail
         clear t0 t1 q3' hu hu'
         have HR8:=HR7
         have HO8:=HO7
         have HG8:=HG7
         have HP8 : Hid (∃ (r2 : FR) (cq : FC),Blk w7 O 71 (fcC cq).toArray ∧ FlcT w7 r2 cq ∧ r2.Sm):=Lib.hid ⟨ro,(y,(b1,p1,d1),(b2,p2,d2),(b3,p3,d3)),HQ7.out,HFo7.out,HSo.out⟩
         clear HQ7 HR7 HO7 HG7 HF7 HFo7
         generalize w7 = w8 at *
         obtain ⟨rn,⟨z0,⟨e1,f1,g1⟩,⟨e2,f2,g2⟩,⟨e3,f3,g3⟩⟩,hP,hFn,hSn⟩:=HP8.out
         have HPk:=Lib.hid hP
         have HFn:=Lib.hid hFn
         have HSn:=Lib.hid hSn
         clear hP hFn hSn HP8
         have q0:=HPk.out.cell 0
         have q1:=HPk.out.cell 1
         have q2:=HPk.out.cell 2
         have q3:=HPk.out.cell 3
         have r0:=HR8.out.cell 0
         have r1:=HR8.out.cell 1
         have r2:=HR8.out.cell 2
         have r3:=HR8.out.cell 3
         simp [fcC] at q0 q1 q2 q3 r0 r1 r2 r3
         have rf:=HR8.out.free
         go_upto_region 18 with fail
         have HR9 : Hid (Blk ((((w8.setCell ⟨R,0,none⟩ (.int .i64 z0)).setCell ⟨R,1,none⟩ (.slice e1 f1 g1)).setCell ⟨R,2,none⟩ (.slice e2 f2 g2)).setCell ⟨R,3,none⟩ (.slice e3 f3 g3)) R 71 #[.int .i64 z0, .slice e1 f1 g1, .slice e2 f2 g2, .slice e3 f3 g3]):=Lib.hid ((((HR8.out.set 0 (.int .i64 z0)).set 1 (.slice e1 f1 g1)).set 2 (.slice e2 f2 g2)).set 3 (.slice e3 f3 g3))
         have HO9:=Lib.hid (HO8.out.set4 HR8.out HW2.out (.int .i64 z0) (.slice e1 f1 g1) (.slice e2 f2 g2) (.slice e3 f3 g3))
         have HG9 : Hid (Gen b w ((((w8.setCell ⟨R,0,none⟩ (.int .i64 z0)).setCell ⟨R,1,none⟩ (.slice e1 f1 g1)).setCell ⟨R,2,none⟩ (.slice e2 f2 g2)).setCell ⟨R,3,none⟩ (.slice e3 f3 g3)) (m + 1 + 40 * j + 33)):=Lib.hid (by
          repeat refine Gen.setCell ?_ _ _ hwR (Nat.lt_of_lt_of_le hblt hwR)
          exact HG8.out)
         have HFn9:=Lib.hid (HFn.out.keep (KeepT.set4 (S:=[71]) HR8.out (by simp) (.int .i64 z0) (.slice e1 f1 g1) (.slice e2 f2 g2) (.slice e3 f3 g3)) (by decide) (by decide))
         generalize ((((w8.setCell ⟨R,0,none⟩ (.int .i64 z0)).setCell ⟨R,1,none⟩ (.slice e1 f1 g1)).setCell ⟨R,2,none⟩ (.slice e2 f2 g2)).setCell ⟨R,3,none⟩ (.slice e3 f3 g3)) = w9 at *
         clear q0 q1 q2 q3 r0 r1 r2 r3 rf HPk HR8 HO8 HG8 HFn
         have r0:=HR9.out.cell 0
         have r1:=HR9.out.cell 1
         have r2:=HR9.out.cell 2
         have r3:=HR9.out.cell 3
         simp at r0 r1 r2 r3
         have HA10 : Hid (Blk (w9.alloc (.cells #[.int .i64 z0, .slice e1 f1 g1, .slice e2 f2 g2, .slice e3 f3 g3] 71 (0,0))) w9.heap.size 71 #[.int .i64 z0, .slice e1 f1 g1, .slice e2 f2 g2, .slice e3 f3 g3]):=Lib.hid (Blk.new w9 _ _)
         have HR10:=Lib.hid (HR9.out.alloc (.cells #[.int .i64 z0, .slice e1 f1 g1, .slice e2 f2 g2, .slice e3 f3 g3] 71 (0,0)))
         have HO10 : Hid (FlO (w9.alloc (.cells #[.int .i64 z0, .slice e1 f1 g1, .slice e2 f2 g2, .slice e3 f3 g3] 71 (0,0))) w.heap.size (.slice (some ⟨g,o,none⟩) ln c) L):=Lib.hid (HO9.out.later (below_alloc (Below.refl _ _) _))
         have HG10:=Lib.hid (HG9.out.alloc (.cells #[.int .i64 z0, .slice e1 f1 g1, .slice e2 f2 g2, .slice e3 f3 g3] 71 (0,0)))
         have HFn10 : Hid (FlcT (w9.alloc (.cells #[.int .i64 z0, .slice e1 f1 g1, .slice e2 f2 g2, .slice e3 f3 g3] 71 (0,0))) rn (z0,(e1,f1,g1),(e2,f2,g2),(e3,f3,g3))):=Lib.hid (HFn9.out.keep (S:=[]) (KeepT.of_below (below_alloc (Below.refl _ _) _)) (by simp) (by simp))
         have HC:=Lib.hid (rowsFault_any (some ⟨w9.heap.size,0,none⟩) 1 1 [rn] (w9.alloc (.cells #[.int .i64 z0, .slice e1 f1 g1, .slice e2 f2 g2, .slice e3 f3 g3] 71 (0,0))) (flsAt_one (c:=(z0,(e1,f1,g1),(e2,f2,g2),(e3,f3,g3))) HA10.out HFn10.out) rfl (by decide) (fun r hr => by rw [List.mem_singleton.1 hr];exact HSn.out.un))
         clear HR9 HO9 HG9 HFn9 HA10
         go_wp2_with fail
         refine HC.out.mono ?_
         rintro e w11 ⟨rfl,hb⟩
         have HR11:=Lib.hid (HR10.out.below hb HR10.out.lt)
         have HO11:=Lib.hid (HO10.out.later hb)
         have HG11 : Hid (Gen b w w11 (m + 1 + 40 * j + 33)):=Lib.hid (HG10.out.below0 hb HG10.out.s.lt)
         have HFn11:=Lib.hid (HFn10.out.keep (S:=[]) (KeepT.of_below hb) (by simp) (by simp))
         clear hb HC HR10 HO10 HG10 HFn10 r0 r1 r2 r3
         generalize rowsF [rn] = F at *
         by_cases hF : F = 0
         ·subst hF
          go_wp2_with fail
          go_meet
          case rel => exact ⟨rn,(z0,(e1,f1,g1),(e2,f2,g2),(e3,f3,g3)),HR11.out,HFn11.out,HSn.out,HO11.out,HG11.out⟩
         ·have hF2 : (F != 0) = true:=by simpa using hF
          clear hF
          go_wp2_with fail
          exact ⟨⟨j + 1,L,by omega,by go_num,HO11,Lib.hid (by have:=HL.out;rw [HN.out];omega),HK,Lib.hid (HG11.out.mono (by omega))⟩,by simp [intOf];omega⟩
       ·have hp' : ((p3 : Int) == 1) = false:=by simp;omega
        go_upto_region 17 with fail
        clear q3 hp' hp3
        have HR8:=HR7
        have HO8:=HO7
        have HG8:=HG7
        have HP8 : Hid (∃ (r2 : FR) (cq : FC),Blk w7 O 71 (fcC cq).toArray ∧ FlcT w7 r2 cq ∧ r2.Sm):=Lib.hid ⟨ro,(y,(b1,p1,d1),(b2,p2,d2),(b3,p3,d3)),HQ7.out,HFo7.out,HSo.out⟩
        clear HQ7 HR7 HO7 HG7 HF7 HFo7
        generalize w7 = w8 at *
        obtain ⟨rn,⟨z0,⟨e1,f1,g1⟩,⟨e2,f2,g2⟩,⟨e3,f3,g3⟩⟩,hP,hFn,hSn⟩:=HP8.out
        have HPk:=Lib.hid hP
        have HFn:=Lib.hid hFn
        have HSn:=Lib.hid hSn
        clear hP hFn hSn HP8
        have q0:=HPk.out.cell 0
        have q1:=HPk.out.cell 1
        have q2:=HPk.out.cell 2
        have q3:=HPk.out.cell 3
        have r0:=HR8.out.cell 0
        have r1:=HR8.out.cell 1
        have r2:=HR8.out.cell 2
        have r3:=HR8.out.cell 3
        simp [fcC] at q0 q1 q2 q3 r0 r1 r2 r3
        have rf:=HR8.out.free
        go_upto_region 18 with fail
        have HR9 : Hid (Blk ((((w8.setCell ⟨R,0,none⟩ (.int .i64 z0)).setCell ⟨R,1,none⟩ (.slice e1 f1 g1)).setCell ⟨R,2,none⟩ (.slice e2 f2 g2)).setCell ⟨R,3,none⟩ (.slice e3 f3 g3)) R 71 #[.int .i64 z0, .slice e1 f1 g1, .slice e2 f2 g2, .slice e3 f3 g3]):=Lib.hid ((((HR8.out.set 0 (.int .i64 z0)).set 1 (.slice e1 f1 g1)).set 2 (.slice e2 f2 g2)).set 3 (.slice e3 f3 g3))
        have HO9:=Lib.hid (HO8.out.set4 HR8.out HW2.out (.int .i64 z0) (.slice e1 f1 g1) (.slice e2 f2 g2) (.slice e3 f3 g3))
        have HG9 : Hid (Gen b w ((((w8.setCell ⟨R,0,none⟩ (.int .i64 z0)).setCell ⟨R,1,none⟩ (.slice e1 f1 g1)).setCell ⟨R,2,none⟩ (.slice e2 f2 g2)).setCell ⟨R,3,none⟩ (.slice e3 f3 g3)) (m + 1 + 40 * j + 33)):=Lib.hid (by
         repeat refine Gen.setCell ?_ _ _ hwR (Nat.lt_of_lt_of_le hblt hwR)
         exact HG8.out)
        have HFn9:=Lib.hid (HFn.out.keep (KeepT.set4 (S:=[71]) HR8.out (by simp) (.int .i64 z0) (.slice e1 f1 g1) (.slice e2 f2 g2) (.slice e3 f3 g3)) (by decide) (by decide))
        generalize ((((w8.setCell ⟨R,0,none⟩ (.int .i64 z0)).setCell ⟨R,1,none⟩ (.slice e1 f1 g1)).setCell ⟨R,2,none⟩ (.slice e2 f2 g2)).setCell ⟨R,3,none⟩ (.slice e3 f3 g3)) = w9 at *
        clear q0 q1 q2 q3 r0 r1 r2 r3 rf HPk HR8 HO8 HG8 HFn
        have r0:=HR9.out.cell 0
        have r1:=HR9.out.cell 1
        have r2:=HR9.out.cell 2
        have r3:=HR9.out.cell 3
        simp at r0 r1 r2 r3
        have HA10 : Hid (Blk (w9.alloc (.cells #[.int .i64 z0, .slice e1 f1 g1, .slice e2 f2 g2, .slice e3 f3 g3] 71 (0,0))) w9.heap.size 71 #[.int .i64 z0, .slice e1 f1 g1, .slice e2 f2 g2, .slice e3 f3 g3]):=Lib.hid (Blk.new w9 _ _)
        have HR10:=Lib.hid (HR9.out.alloc (.cells #[.int .i64 z0, .slice e1 f1 g1, .slice e2 f2 g2, .slice e3 f3 g3] 71 (0,0)))
        have HO10 : Hid (FlO (w9.alloc (.cells #[.int .i64 z0, .slice e1 f1 g1, .slice e2 f2 g2, .slice e3 f3 g3] 71 (0,0))) w.heap.size (.slice (some ⟨g,o,none⟩) ln c) L):=Lib.hid (HO9.out.later (below_alloc (Below.refl _ _) _))
        have HG10:=Lib.hid (HG9.out.alloc (.cells #[.int .i64 z0, .slice e1 f1 g1, .slice e2 f2 g2, .slice e3 f3 g3] 71 (0,0)))
        have HFn10 : Hid (FlcT (w9.alloc (.cells #[.int .i64 z0, .slice e1 f1 g1, .slice e2 f2 g2, .slice e3 f3 g3] 71 (0,0))) rn (z0,(e1,f1,g1),(e2,f2,g2),(e3,f3,g3))):=Lib.hid (HFn9.out.keep (S:=[]) (KeepT.of_below (below_alloc (Below.refl _ _) _)) (by simp) (by simp))
        have HC:=Lib.hid (rowsFault_any (some ⟨w9.heap.size,0,none⟩) 1 1 [rn] (w9.alloc (.cells #[.int .i64 z0, .slice e1 f1 g1, .slice e2 f2 g2, .slice e3 f3 g3] 71 (0,0))) (flsAt_one (c:=(z0,(e1,f1,g1),(e2,f2,g2),(e3,f3,g3))) HA10.out HFn10.out) rfl (by decide) (fun r hr => by rw [List.mem_singleton.1 hr];exact HSn.out.un))
        clear HR9 HO9 HG9 HFn9 HA10
        go_wp2_with fail
        refine HC.out.mono ?_
        rintro e w11 ⟨rfl,hb⟩
        have HR11:=Lib.hid (HR10.out.below hb HR10.out.lt)
        have HO11:=Lib.hid (HO10.out.later hb)
        have HG11 : Hid (Gen b w w11 (m + 1 + 40 * j + 33)):=Lib.hid (HG10.out.below0 hb HG10.out.s.lt)
        have HFn11:=Lib.hid (HFn10.out.keep (S:=[]) (KeepT.of_below hb) (by simp) (by simp))
        clear hb HC HR10 HO10 HG10 HFn10 r0 r1 r2 r3
        generalize rowsF [rn] = F at *
        by_cases hF : F = 0
        ·subst hF
         go_wp2_with fail
         go_meet
         case rel => exact ⟨rn,(z0,(e1,f1,g1),(e2,f2,g2),(e3,f3,g3)),HR11.out,HFn11.out,HSn.out,HO11.out,HG11.out⟩
        ·have hF2 : (F != 0) = true:=by simpa using hF
         clear hF
         go_wp2_with fail
         exact ⟨⟨j + 1,L,by omega,by go_num,HO11,Lib.hid (by have:=HL.out;rw [HN.out];omega),HK,Lib.hid (HG11.out.mono (by omega))⟩,by simp [intOf];omega⟩
    case rest =>
     clear HR4 HO4 HF4 HG4 HS2 h1
     obtain ⟨rn,⟨z0,⟨e1,f1,g1⟩,⟨e2,f2,g2⟩,⟨e3,f3,g3⟩⟩,hR,hF,hS,hO,hG⟩:=hcut
     simp only [fcC] at hR
     generalize wc = w5 at *
     have HR5:=Lib.hid hR
     have HF5:=Lib.hid hF
     have HS5:=Lib.hid hS
     have HO5:=Lib.hid hO
     have HG5:=Lib.hid hG
     clear hR hF hS hO hG
     have r0:=HR5.out.cell 0
     have r1:=HR5.out.cell 1
     have r2:=HR5.out.cell 2
     have r3:=HR5.out.cell 3
     simp at r0 r1 r2 r3
     have HO6 : Hid (FlO (w5.alloc (.cells #[.int .i64 z0, .slice e1 f1 g1, .slice e2 f2 g2, .slice e3 f3 g3] 71 (0,0))) w.heap.size (.slice ad ln c) L):=Lib.hid (HO5.out.later (below_alloc (Below.refl _ _) _))
     have HF6 : Hid (FlcT (w5.alloc (.cells #[.int .i64 z0, .slice e1 f1 g1, .slice e2 f2 g2, .slice e3 f3 g3] 71 (0,0))) rn (z0,(e1,f1,g1),(e2,f2,g2),(e3,f3,g3))):=Lib.hid (HF5.out.keep (S:=[]) (KeepT.of_below (below_alloc (Below.refl _ _) _)) (by simp) (by simp))
     have HG6:=Lib.hid (HG5.out.alloc (.cells #[.int .i64 z0, .slice e1 f1 g1, .slice e2 f2 g2, .slice e3 f3 g3] 71 (0,0)))
     obtain ⟨D,hD,hDl,hDc⟩:=HO6.out
     have HD:=Lib.hid hD
     have HDl:=Lib.hid hDl
     have HDc:=Lib.hid hDc
     have HDn : Hid (D.length = ln):=Lib.hid (hDl.trans HN.out)
     clear hD hDl hDc HO5 HG5 HF5 HO6
     go_wp2_with (at_builtin;refine wpList_app flE rfl (.tmp 79) (.tmp 81) rfl rfl HD.out rfl (src_new layFl w5 (z0,(e1,f1,g1),(e2,f2,g2),(e3,f3,g3)) _ _ ?c0) ?c1 ?c2 ?c3 ?c4 ?_)
     case c0 => rfl
     case c1 => exact layFl.one _
     case c2 => have:=HL.out;unfold maxLen;rw [HDn.out];omega
     case c3 => have:=HL.out;rw [HDn.out];omega
     case c4 => exact HG6.out.g.size
     intro v' w' hO hG
     have HO' : Hid (FlO w' w.heap.size v' (L ++ [rn])):=Lib.hid (FlO.snoc HD.out HDl.out HDc.out HF6.out hG (OwnK.snoc hO))
     have HG' : Hid (Gen b w w' (m + 1 + 40 * j + 33)):=Lib.hid (HG6.out.below (hG.below HG6.out.g.size (own_base HD.out)) (Nat.le_refl _) hblt)
     have HK' : Hid (∀ r ∈ L ++ [rn],r.Sm):=Lib.hid fun q hq => by
      rcases List.mem_append.1 hq with hq | hq
      ·exact HK.out q hq
      ·rw [List.mem_singleton.1 hq];exact HS5.out
     clear hO hG HD HDl HDc HG6 HF6 r0 r1 r2 r3
     go_wp2
     exact ⟨⟨j + 1,L ++ [rn],by omega,by go_num,HO',Lib.hid (by have:=HL.out;rw [List.length_append,HN.out];simp;omega),HK',Lib.hid (HG'.out.mono (by omega))⟩,by simp [intOf];omega⟩
  ·obtain rfl : j = K:=by omega
   go_wp2_with fail
   go_ret
   exact ⟨_,L,rfl,HO.out,by have:=HL.out;omega,HK.out,HG.out.mono (by omega)⟩
end Go.Proofs.YthebgfnaomgcnaaGreat
