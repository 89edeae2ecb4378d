/-
  The generator of rows (lanemake's Rows).
  The state of the law FlowsTracked: the stream, both trackers, the packets that were had.
  slices.Equal of two rows of the same tracked flows.
  The mark of the address laws: addressed is true. And the small functions errs, when.
  The calls of the law FlowsTracked, on the state of both trackers.
-/
import Derived.Test.YthebgfnaomgcnaaGreatFT22
import Derived.Test.YthebgfnaomgcnaaGreatFT18
import Derived.Test.YthebgfnaomgcnaaGreatFT19
import Derived.Test.YthebgfnaomgcnaaGreatFT8
import Derived.Test.YthebgfnaomgcnaaGreatFT12
import Derived.Laws.StructEq
import Derived.Test.YthebgfnaomgcnaaGreatFT3
import Derived.Test.YthebgfnaomgcnaaGreatFT5
import Derived.Test.YthebgfnaomgcnaaGreatFT6
set_option linter.unusedVariables false
set_option maxRecDepth 100000
set_option maxHeartbeats 8000000
namespace Go.Proofs.YthebgfnaomgcnaaGreat
open Go.RowKit Go
theorem FlO.setTo {w : World} {B g c n k j : Nat} {L : List FR} {C : List FC} {r : FR} {x y : FC} {v : Value} (hO : OwnK layFl w B (.slice (some ⟨g,0,none⟩) n c) C) (hl : C.length = L.length) (hc : ∀ (k : Nat) (c : FC) (r : FR),C[k]? = some c → L[k]? = some r → FlcT w r c)
  (hx : C[k]? = some x) (hj : j < 4) (hy : fcC y = (fcC x).set j v) (hr : FlcT w r y) : FlO (w.setCell ⟨g,k * 4 + j,none⟩ v) B (.slice (some ⟨g,0,none⟩) n c) (L.set k r):=by
 obtain ⟨_,_,_,_,cur,hb,_⟩:=hO.block
 have hkt : KeepT [71] w (w.setCell ⟨g,k * 4 + j,none⟩ v):=KeepT.of_set (cs:=cur) hb (by simp [layFl])
 refine ⟨C.set k y,hO.setTo hx hj hy,by simp [hl],fun i c2 r2 h1 h2 => FlcT.keep (w:=w) ?_ hkt (by decide) (by decide)⟩
 by_cases e : i = k
 ·subst e
  rw [List.getElem?_set_self (List.getElem?_eq_some_iff.1 hx).1] at h1
  rw [List.getElem?_set_self (by rw [← hl];exact (List.getElem?_eq_some_iff.1 hx).1)] at h2
  injection h1 with h1
  injection h2 with h2
  subst h1 h2
  exact hr
 ·rw [List.getElem?_set_ne (Ne.symm e)] at h1
  rw [List.getElem?_set_ne (Ne.symm e)] at h2
  exact hc i c2 r2 h1 h2
theorem un_set {L : List FR} {k : Nat} {r : FR} (h : ∀ r ∈ L,r.Sm) (hr : r.Un) : ∀ q ∈ L.set k r,q.Un:=fun q hq => by
 rcases List.mem_or_eq_of_mem_set hq with hq | rfl
 ·exact (h q hq).un
 ·exact hr
theorem Blk.newAt (w : World) (t : TypeId) (cs : Array Value) {g : Nat} (h : w.heap.size = g) : Blk (w.alloc (.cells cs t (0,0))) g t cs:=h ▸ Blk.new w t cs
theorem Blk.rdT {α : Type} (E : Lay α) {w : World} {A : Nat} {cs : Array Value} (L : List α) (hb : Blk w A E.ty cs) (h : cs = (E.all L).toArray) : RdT E w (some ⟨A,0,none⟩) L:=by
 subst h
 refine ⟨fun i x hx => ⟨A,0,rfl,hb.lt,fun j v hv => ?_⟩,fun a ha => ?_⟩
 ·have hj : j < E.K:=by rw [← E.len x];exact (List.getElem?_eq_some_iff.1 hv).1
  rw [hb.cell (0 + (i * E.K + j)),Nat.zero_add,List.getElem?_toArray,E.all_get L i j x hx hj,hv]
 ·injection ha with ha
  subst ha
  exact ⟨_,_,hb⟩
theorem rows_gen (b m most : Nat) (w : World) (h : Strm w b m) (hmo : most ≤ 100) (hm : m + 20000 < 1099511627776) :
  Calls Tryz.prog 4 #[.pointer (some ⟨b,0,none⟩), .int .i64 (most : Int)] w fun e w' => ∃ v L,e = .returned v ∧ FlO w' w.heap.size v L ∧ L.length ≤ most ∧ (∀ r ∈ L,r.Un) ∧ Gen b w w' (m + 200 + 40 * most):=by
 have hblt:=h.lt
 have HG0 : Hid (Gen b w w m):=Lib.hid (Gen.start h)
 clear h
 go_enter Tryz.func4,Tryz.ntmps4
 go_wp2_with fail
 refine (rightRows_gen b m most _ HG0.out.s hmo (by omega)).mono ?_
 rintro e w1 ⟨v,L,rfl,hO,hl,hs,hg⟩
 have HG1 : Hid (Gen b w w1 (m + 1 + 40 * most)):=Lib.hid (HG0.out.trans hg)
 have HO1:=Lib.hid hO
 have HS1:=Lib.hid hs
 obtain ⟨ad,c,rfl, -⟩:=hO.form
 obtain ⟨ln,hln⟩ : ∃ n,L.length = n:=⟨_,rfl⟩
 have HN:=Lib.hid hln
 have hw1:=hg.g.size
 rw [hln] at HO1 hl ⊢
 clear hO hs hg HG0 hln
 go_wp2_with fail
 ·refine (flip_gen b (m + 1 + 40 * most) _ _ HG1.out.s (by omega) (by omega)).mono ?_
  rintro e w2 ⟨fl,rfl,hg⟩
  have hl0 : 1 ≤ ln:=by omega
  have HG2 : Hid (Gen b w w2 (m + 1 + 40 * most + 1)):=Lib.hid (HG1.out.trans hg)
  have HO2:=Lib.hid (HO1.out.gen HG1.out.s hg hblt)
  clear hg HG1 HO1
  cases fl
  ·go_wp2_with fail
   go_ret
   exact ⟨_,L,rfl,by first | exact HO2.out | (rw [HN.out];exact HO2.out),by rw [HN.out];exact hl,fun r hr => (HS1.out r hr).un,HG2.out.mono (by omega)⟩
  ·go_wp2_with fail
   refine (next_gen b (m + 1 + 40 * most + 1) _ _ HG2.out.s (by omega) (by omega)).mono ?_
   rintro e w3 ⟨q,rfl,⟨hq0,hq1⟩,hg⟩
   obtain ⟨q,rfl⟩:=Int.eq_ofNat_of_zero_le hq0
   have hq : q < ln:=by omega
   have HG3 : Hid (Gen b w w3 (m + 1 + 40 * most + 2)):=Lib.hid (HG2.out.trans hg)
   have HO3:=Lib.hid (HO2.out.gen HG2.out.s hg hblt)
   clear hg HG2 HO2 hq0 hq1
   obtain ⟨D,hD,hDl,hDc⟩:=HO3.out
   have hlD : D.length = ln:=hDl.trans HN.out
   obtain ⟨g,c',hv,hgw, -⟩:=hD.one (by omega)
   injection hv with hv e1 e2
   subst hv
   clear e1 e2 HO3
   have HD3:=Lib.hid hD
   have HDl:=Lib.hid hDl
   have HDc3:=Lib.hid hDc
   have HlD:=Lib.hid hlD
   have hqL : q < L.length:=by rw [HN.out];exact hq
   obtain ⟨ro,hro⟩ : ∃ ro,L[q]? = some ro:=⟨_,List.getElem?_eq_getElem hqL⟩
   obtain ⟨⟨y,⟨b1,p1,d1⟩,⟨b2,p2,d2⟩,⟨b3,p3,d3⟩⟩,hco⟩ : ∃ co,D[q]? = some co:=⟨_,List.getElem?_eq_getElem (by omega)⟩
   have Hro:=Lib.hid hro
   have Hco:=Lib.hid hco
   have HSo:=Lib.hid (HS1.out ro (List.mem_of_getElem? hro))
   clear hD hDl hDc hlD hqL hro hco
   go_wp2_with fail
   refine (next_gen b (m + 1 + 40 * most + 2) _ _ HG3.out.s (by omega) (by omega)).mono ?_
   rintro e w4 ⟨z,rfl,⟨hz0,hz1⟩,hg⟩
   have HG4 : Hid (Gen b w w4 (m + 1 + 40 * most + 3)):=Lib.hid (HG3.out.trans hg)
   have HD4:=Lib.hid (HD3.out.gen hg hblt)
   have HDc4 : Hid (∀ (k : Nat) (c : FC) (r : FR),D[k]? = some c → L[k]? = some r → FlcT w4 r c):=Lib.hid fun k c r h1 h2 => (HDc3.out k c r h1 h2).keep (KeepT.of_gen HG3.out.s hg) (by decide) (by decide)
   clear hg HG3 HD3 HDc3
   have h4 : z = 0 ∨ z = 1 ∨ z = 2 ∨ z = 3:=by omega
   clear hz0 hz1
   rcases h4 with rfl | rfl | rfl | rfl
   ·go_wp2_with fail
    refine (odd_gen b (m + 1 + 40 * most + 3) _ _ _ HG4.out.s (by omega) (by omega) (by omega)).mono ?_
    rintro e w5 ⟨x,rfl, -,hg⟩
    have HG5 : Hid (Gen b w w5 (m + 1 + 40 * most + 5)):=Lib.hid (HG4.out.trans hg)
    have HD5:=Lib.hid (HD4.out.gen hg hblt)
    have HDc5 : Hid (∀ (k : Nat) (c : FC) (r : FR),D[k]? = some c → L[k]? = some r → FlcT w5 r c):=Lib.hid fun k c r h1 h2 => (HDc4.out k c r h1 h2).keep (KeepT.of_gen HG4.out.s hg) (by decide) (by decide)
    have HY : Hid (FlcT w5 ⟨x,ro.src,ro.dst,ro.po⟩ (x,(b1,p1,d1),(b2,p2,d2),(b3,p3,d3))):=Lib.hid (by
     have:=HDc5.out q _ _ Hco.out Hro.out
     exact ⟨rfl,this.t1,this.t2,this.t3,this.l1,this.l2,this.l3,this.m1,this.m2,this.m3⟩)
    clear hg HG4 HD4 HDc4
    have HF:=Lib.hid (FlO.setTo (k:=q) (j:=0) (r:=⟨x,ro.src,ro.dst,ro.po⟩) (y:=(x,(b1,p1,d1),(b2,p2,d2),(b3,p3,d3))) (v:=.int .i64 x) HD5.out HDl.out HDc5.out Hco.out (by decide) rfl HY.out)
    have HU:=Lib.hid (un_set (k:=q) (r:=⟨x,ro.src,ro.dst,ro.po⟩) HS1.out (let u:=HSo.out.un;⟨u.u1,u.u2,u.l1,u.l2,u.l3⟩))
    have HGz : Hid (Gen b w (w5.setCell ⟨g,q * 4,none⟩ (.int .i64 x)) (m + 200 + 40 * most)):=Lib.hid ((HG5.out.setCell ⟨g,_,none⟩ _ hgw (Nat.lt_of_lt_of_le hblt hgw)).mono (by omega))
    have kf : ∀ i,w5.frozen? ⟨g,i,none⟩ = false:=HD5.out.frozen
    have kc : w5.cell? ⟨g,q * 4,none⟩ = some _:=HD5.out.get (j:=0) Hco.out rfl
    clear HD5 HDc5 HG5 HY
    go_wp2_with fail
    go_ret
    exact ⟨_,_,rfl,HF.out,by rw [List.length_set,HN.out];exact hl,HU.out,HGz.out⟩
   ·go_wp2_with fail
    refine (set_gen b (m + 1 + 40 * most + 3) _ HG4.out.s (by omega)).mono ?_
    rintro e w5 ⟨v,S,rfl,hO,hsl,hsu,hg⟩
    have HG5 : Hid (Gen b w w5 (m + 1 + 40 * most + 53)):=Lib.hid (HG4.out.trans hg)
    have HD5:=Lib.hid (HD4.out.gen hg hblt)
    have HDc5 : Hid (∀ (k : Nat) (c : FC) (r : FR),D[k]? = some c → L[k]? = some r → FlcT w5 r c):=Lib.hid fun k c r h1 h2 => (HDc4.out k c r h1 h2).keep (KeepT.of_gen HG4.out.s hg) (by decide) (by decide)
    obtain ⟨a5,c5,rfl, -⟩:=hO.form
    obtain ⟨n5,hn5⟩ : ∃ n,S.length = n:=⟨_,rfl⟩
    have HU5:=Lib.hid (And.intro hsl hsu)
    have HY : Hid (FlcT w5 ⟨ro.p,S,ro.dst,ro.po⟩ (y,(a5,n5,c5),(b2,p2,d2),(b3,p3,d3))):=Lib.hid (by
     have:=HDc5.out q _ _ Hco.out Hro.out
     exact ⟨this.e,hO.rdT,this.t2,this.t3,hn5,this.l2,this.l3,by simp;omega,this.m2,this.m3⟩)
    rw [hn5]
    clear hg HG4 HD4 HDc4 hO hsl hsu hn5
    have HF:=Lib.hid (FlO.setTo (k:=q) (j:=1) (r:=⟨ro.p,S,ro.dst,ro.po⟩) (y:=(y,(a5,n5,c5),(b2,p2,d2),(b3,p3,d3))) (v:=.slice a5 n5 c5) HD5.out HDl.out HDc5.out Hco.out (by decide) rfl HY.out)
    have HU:=Lib.hid (un_set (k:=q) (r:=⟨ro.p,S,ro.dst,ro.po⟩) HS1.out (let u:=HSo.out.un;⟨HU5.out.2,u.u2,(by have:=HU5.out.1;show S.length ≤ 100000;omega),u.l2,u.l3⟩))
    have HGz : Hid (Gen b w (w5.setCell ⟨g,q * 4 + 1,none⟩ (.slice a5 n5 c5)) (m + 200 + 40 * most)):=Lib.hid ((HG5.out.setCell ⟨g,_,none⟩ _ hgw (Nat.lt_of_lt_of_le hblt hgw)).mono (by omega))
    have kf : ∀ i,w5.frozen? ⟨g,i,none⟩ = false:=HD5.out.frozen
    have kc : w5.cell? ⟨g,q * 4 + 1,none⟩ = some _:=HD5.out.get (j:=1) Hco.out rfl
    clear HD5 HDc5 HG5 HY
    go_wp2_with fail
    go_ret
    exact ⟨_,_,rfl,HF.out,by rw [List.length_set,HN.out];exact hl,HU.out,HGz.out⟩
   ·have HY : Hid (FlcT w4 ⟨ro.p,ro.src, [],ro.po⟩ (y,(b1,p1,d1),(none,0,0),(b3,p3,d3))):=Lib.hid (by
     have:=HDc4.out q _ _ Hco.out Hro.out
     exact ⟨this.e,this.t1,RdT.nil _,this.t3,this.l1,rfl,this.l3,this.m1,by simp,this.m3⟩)
    have HF:=Lib.hid (FlO.setTo (k:=q) (j:=2) (r:=⟨ro.p,ro.src, [],ro.po⟩) (y:=(y,(b1,p1,d1),(none,0,0),(b3,p3,d3))) (v:=.slice none 0 0) HD4.out HDl.out HDc4.out Hco.out (by decide) rfl HY.out)
    have HU:=Lib.hid (un_set (k:=q) (r:=⟨ro.p,ro.src, [],ro.po⟩) HS1.out (let u:=HSo.out.un;⟨u.u1,(fun p hp => by cases hp),u.l1,(by simp),u.l3⟩))
    have HGz : Hid (Gen b w (w4.setCell ⟨g,q * 4 + 2,none⟩ (.slice none 0 0)) (m + 200 + 40 * most)):=Lib.hid ((HG4.out.setCell ⟨g,_,none⟩ _ hgw (Nat.lt_of_lt_of_le hblt hgw)).mono (by omega))
    have kf : ∀ i,w4.frozen? ⟨g,i,none⟩ = false:=HD4.out.frozen
    have kc : w4.cell? ⟨g,q * 4 + 2,none⟩ = some _:=HD4.out.get (j:=2) Hco.out rfl
    clear HD4 HDc4 HG4 HY
    go_wp2_with fail
    go_ret
    exact ⟨_,_,rfl,HF.out,by rw [List.length_set,HN.out];exact hl,HU.out,HGz.out⟩
   ·obtain ⟨W5,hW5⟩ : ∃ W5,(((((w4.alloc (.cells #[.int .i64 5, .int .i64 9, .int .i64 10, .int .i64 12] 74 (0,0))).alloc (.cells #[.int .i64 9, .int .i64 5] 74 (0,0))).alloc (.cells #[.int .i64 5, .int .i64 9, .int .i64 1, .int .i64 2] 74 (0,0))).alloc (.cells #[.int .i64 0, .int .i64 65536] 74 (0,0))).alloc (.cells #[.slice none 0 0, .slice (some ⟨w4.heap.size,0,none⟩) 2 2, .slice (some ⟨w4.heap.size + 1,0,none⟩) 1 1, .slice (some ⟨w4.heap.size + 1 + 1,0,none⟩) 2 2, .slice (some ⟨w4.heap.size + 1 + 1 + 1,0,none⟩) 1 1] 69 (0,0))) = W5:=⟨_,rfl⟩
    have HA0 : Hid (Blk W5 (w4.heap.size) 74 #[.int .i64 5, .int .i64 9, .int .i64 10, .int .i64 12]):=Lib.hid (by rw [← hW5];exact ((((Blk.newAt w4 74 #[.int .i64 5, .int .i64 9, .int .i64 10, .int .i64 12] (by simp)).alloc _).alloc _).alloc _).alloc _)
    have HA1 : Hid (Blk W5 (w4.heap.size + 1) 74 #[.int .i64 9, .int .i64 5]):=Lib.hid (by rw [← hW5];exact (((Blk.newAt (w4.alloc (.cells #[.int .i64 5, .int .i64 9, .int .i64 10, .int .i64 12] 74 (0,0))) 74 #[.int .i64 9, .int .i64 5] (by simp [World.size_alloc])).alloc _).alloc _).alloc _)
    have HA2 : Hid (Blk W5 (w4.heap.size + 1 + 1) 74 #[.int .i64 5, .int .i64 9, .int .i64 1, .int .i64 2]):=Lib.hid (by rw [← hW5];exact ((Blk.newAt ((w4.alloc (.cells #[.int .i64 5, .int .i64 9, .int .i64 10, .int .i64 12] 74 (0,0))).alloc (.cells #[.int .i64 9, .int .i64 5] 74 (0,0))) 74 #[.int .i64 5, .int .i64 9, .int .i64 1, .int .i64 2] (by simp [World.size_alloc])).alloc _).alloc _)
    have HA3 : Hid (Blk W5 (w4.heap.size + 1 + 1 + 1) 74 #[.int .i64 0, .int .i64 65536]):=Lib.hid (by rw [← hW5];exact (Blk.newAt (((w4.alloc (.cells #[.int .i64 5, .int .i64 9, .int .i64 10, .int .i64 12] 74 (0,0))).alloc (.cells #[.int .i64 9, .int .i64 5] 74 (0,0))).alloc (.cells #[.int .i64 5, .int .i64 9, .int .i64 1, .int .i64 2] 74 (0,0))) 74 #[.int .i64 0, .int .i64 65536] (by simp [World.size_alloc])).alloc _)
    have HA4 : Hid (Blk W5 (w4.heap.size + 1 + 1 + 1 + 1) 69 #[.slice none 0 0, .slice (some ⟨w4.heap.size,0,none⟩) 2 2, .slice (some ⟨w4.heap.size + 1,0,none⟩) 1 1, .slice (some ⟨w4.heap.size + 1 + 1,0,none⟩) 2 2, .slice (some ⟨w4.heap.size + 1 + 1 + 1,0,none⟩) 1 1]):=Lib.hid (by rw [← hW5];exact Blk.newAt ((((w4.alloc (.cells #[.int .i64 5, .int .i64 9, .int .i64 10, .int .i64 12] 74 (0,0))).alloc (.cells #[.int .i64 9, .int .i64 5] 74 (0,0))).alloc (.cells #[.int .i64 5, .int .i64 9, .int .i64 1, .int .i64 2] 74 (0,0))).alloc (.cells #[.int .i64 0, .int .i64 65536] 74 (0,0))) 69 #[.slice none 0 0, .slice (some ⟨w4.heap.size,0,none⟩) 2 2, .slice (some ⟨w4.heap.size + 1,0,none⟩) 1 1, .slice (some ⟨w4.heap.size + 1 + 1,0,none⟩) 2 2, .slice (some ⟨w4.heap.size + 1 + 1 + 1,0,none⟩) 1 1] (by simp [World.size_alloc]))
    have hb5 : Below w4.heap.size w4 W5:=by rw [← hW5];exact below_alloc (below_alloc (below_alloc (below_alloc (below_alloc (Below.refl _ _) _) _) _) _) _
    have hbw4:=HG4.out.s.lt
    have HG5 : Hid (Gen b w W5 (m + 1 + 40 * most + 3)):=Lib.hid (HG4.out.below0 hb5 hbw4)
    have HD5:=Lib.hid (HD4.out.later hb5)
    have HDc5 : Hid (∀ (k : Nat) (c : FC) (r : FR),D[k]? = some c → L[k]? = some r → FlcT W5 r c):=Lib.hid fun k c r h1 h2 => (HDc4.out k c r h1 h2).keep (S:=[]) (KeepT.of_below hb5) (by simp) (by simp)
    have HE : Hid (W5 = (((((w4.alloc (.cells #[.int .i64 5, .int .i64 9, .int .i64 10, .int .i64 12] 74 (0,0))).alloc (.cells #[.int .i64 9, .int .i64 5] 74 (0,0))).alloc (.cells #[.int .i64 5, .int .i64 9, .int .i64 1, .int .i64 2] 74 (0,0))).alloc (.cells #[.int .i64 0, .int .i64 65536] 74 (0,0))).alloc (.cells #[.slice none 0 0, .slice (some ⟨w4.heap.size,0,none⟩) 2 2, .slice (some ⟨w4.heap.size + 1,0,none⟩) 1 1, .slice (some ⟨w4.heap.size + 1 + 1,0,none⟩) 2 2, .slice (some ⟨w4.heap.size + 1 + 1 + 1,0,none⟩) 1 1] 69 (0,0)))):=Lib.hid hW5.symm
    clear HG4 HD4 HDc4 hb5
    go_wp2_with fail
    generalize w4.heap.size = s at *
    clear hW5 HE
    refine (next_gen b (m + 1 + 40 * most + 3) _ _ HG5.out.s (by omega) (by omega)).mono ?_
    rintro e w6 ⟨z,rfl,⟨hz0,hz1⟩,hg⟩
    have HG6 : Hid (Gen b w w6 (m + 1 + 40 * most + 4)):=Lib.hid (HG5.out.trans hg)
    have HD6:=Lib.hid (HD5.out.gen hg hblt)
    have HDc6 : Hid (∀ (k : Nat) (c : FC) (r : FR),D[k]? = some c → L[k]? = some r → FlcT w6 r c):=Lib.hid fun k c r h1 h2 => (HDc5.out k c r h1 h2).keep (KeepT.of_gen HG5.out.s hg) (by decide) (by decide)
    have hA0:=HA0.out.keep hg.g (by omega)
    have hA1:=HA1.out.keep hg.g (by omega)
    have hA2:=HA2.out.keep hg.g (by omega)
    have hA3:=HA3.out.keep hg.g (by omega)
    have hA4:=HA4.out.keep hg.g (by omega)
    have HT0:=Lib.hid (Blk.rdT layPo [(5,9),(10,12)] hA0 rfl)
    have HT1:=Lib.hid (Blk.rdT layPo [(9,5)] hA1 rfl)
    have HT2:=Lib.hid (Blk.rdT layPo [(5,9),(1,2)] hA2 rfl)
    have HT3:=Lib.hid (Blk.rdT layPo [(0,65536)] hA3 rfl)
    have x0:=hA4.cell 0
    have x1:=hA4.cell 1
    have x2:=hA4.cell 2
    have x3:=hA4.cell 3
    have x4:=hA4.cell 4
    simp at x0 x1 x2 x3 x4
    have h5 : z = 0 ∨ z = 1 ∨ z = 2 ∨ z = 3 ∨ z = 4:=by omega
    clear hz0 hz1 hg HG5 HD5 HDc5 hA0 hA1 hA2 hA3 hA4 HA0 HA1 HA2 HA3 HA4
    rcases h5 with rfl | rfl | rfl | rfl | rfl
    ·have HY : Hid (FlcT w6 ⟨ro.p,ro.src,ro.dst, []⟩ (y,(b1,p1,d1),(b2,p2,d2),(none,0,0))):=Lib.hid (by
      have:=HDc6.out q _ _ Hco.out Hro.out
      exact ⟨this.e,this.t1,this.t2,RdT.nil _,this.l1,this.l2,rfl,this.m1,this.m2,by simp⟩)
     clear HT0 HT1 HT2 HT3
     have HF:=Lib.hid (FlO.setTo (k:=q) (j:=3) (r:=⟨ro.p,ro.src,ro.dst, []⟩) (y:=(y,(b1,p1,d1),(b2,p2,d2),(none,0,0))) (v:=.slice none 0 0) HD6.out HDl.out HDc6.out Hco.out (by decide) rfl HY.out)
     have HU:=Lib.hid (un_set (k:=q) (r:=⟨ro.p,ro.src,ro.dst, []⟩) HS1.out (let u:=HSo.out.un;⟨u.u1,u.u2,u.l1,u.l2,(by simp)⟩))
     have HGz : Hid (Gen b w (w6.setCell ⟨g,q * 4 + 3,none⟩ (.slice none 0 0)) (m + 200 + 40 * most)):=Lib.hid ((HG6.out.setCell ⟨g,_,none⟩ _ hgw (Nat.lt_of_lt_of_le hblt hgw)).mono (by omega))
     have kf : ∀ i,w6.frozen? ⟨g,i,none⟩ = false:=HD6.out.frozen
     have kc : w6.cell? ⟨g,q * 4 + 3,none⟩ = some _:=HD6.out.get (j:=3) Hco.out rfl
     clear HD6 HDc6 HG6 HY
     go_wp2_with fail
     go_ret
     exact ⟨_,_,rfl,HF.out,by rw [List.length_set,HN.out];exact hl,HU.out,HGz.out⟩
    ·have HY : Hid (FlcT w6 ⟨ro.p,ro.src,ro.dst, [(5,9),(10,12)]⟩ (y,(b1,p1,d1),(b2,p2,d2),(some ⟨s,0,none⟩,2,2))):=Lib.hid (by
      have:=HDc6.out q _ _ Hco.out Hro.out
      exact ⟨this.e,this.t1,this.t2,HT0.out,this.l1,this.l2,rfl,this.m1,this.m2,by simp⟩)
     clear HT0 HT1 HT2 HT3
     have HF:=Lib.hid (FlO.setTo (k:=q) (j:=3) (r:=⟨ro.p,ro.src,ro.dst, [(5,9),(10,12)]⟩) (y:=(y,(b1,p1,d1),(b2,p2,d2),(some ⟨s,0,none⟩,2,2))) (v:=.slice (some ⟨s,0,none⟩) 2 2) HD6.out HDl.out HDc6.out Hco.out (by decide) rfl HY.out)
     have HU:=Lib.hid (un_set (k:=q) (r:=⟨ro.p,ro.src,ro.dst, [(5,9),(10,12)]⟩) HS1.out (let u:=HSo.out.un;⟨u.u1,u.u2,u.l1,u.l2,(by simp)⟩))
     have HGz : Hid (Gen b w (w6.setCell ⟨g,q * 4 + 3,none⟩ (.slice (some ⟨s,0,none⟩) 2 2)) (m + 200 + 40 * most)):=Lib.hid ((HG6.out.setCell ⟨g,_,none⟩ _ hgw (Nat.lt_of_lt_of_le hblt hgw)).mono (by omega))
     have kf : ∀ i,w6.frozen? ⟨g,i,none⟩ = false:=HD6.out.frozen
     have kc : w6.cell? ⟨g,q * 4 + 3,none⟩ = some _:=HD6.out.get (j:=3) Hco.out rfl
     clear HD6 HDc6 HG6 HY
     go_wp2_with fail
     go_ret
     exact ⟨_,_,rfl,HF.out,by rw [List.length_set,HN.out];exact hl,HU.out,HGz.out⟩
    ·have HY : Hid (FlcT w6 ⟨ro.p,ro.src,ro.dst, [(9,5)]⟩ (y,(b1,p1,d1),(b2,p2,d2),(some ⟨s + 1,0,none⟩,1,1))):=Lib.hid (by
      have:=HDc6.out q _ _ Hco.out Hro.out
      exact ⟨this.e,this.t1,this.t2,HT1.out,this.l1,this.l2,rfl,this.m1,this.m2,by simp⟩)
     clear HT0 HT1 HT2 HT3
     have HF:=Lib.hid (FlO.setTo (k:=q) (j:=3) (r:=⟨ro.p,ro.src,ro.dst, [(9,5)]⟩) (y:=(y,(b1,p1,d1),(b2,p2,d2),(some ⟨s + 1,0,none⟩,1,1))) (v:=.slice (some ⟨s + 1,0,none⟩) 1 1) HD6.out HDl.out HDc6.out Hco.out (by decide) rfl HY.out)
     have HU:=Lib.hid (un_set (k:=q) (r:=⟨ro.p,ro.src,ro.dst, [(9,5)]⟩) HS1.out (let u:=HSo.out.un;⟨u.u1,u.u2,u.l1,u.l2,(by simp)⟩))
     have HGz : Hid (Gen b w (w6.setCell ⟨g,q * 4 + 3,none⟩ (.slice (some ⟨s + 1,0,none⟩) 1 1)) (m + 200 + 40 * most)):=Lib.hid ((HG6.out.setCell ⟨g,_,none⟩ _ hgw (Nat.lt_of_lt_of_le hblt hgw)).mono (by omega))
     have kf : ∀ i,w6.frozen? ⟨g,i,none⟩ = false:=HD6.out.frozen
     have kc : w6.cell? ⟨g,q * 4 + 3,none⟩ = some _:=HD6.out.get (j:=3) Hco.out rfl
     clear HD6 HDc6 HG6 HY
     go_wp2_with fail
     go_ret
     exact ⟨_,_,rfl,HF.out,by rw [List.length_set,HN.out];exact hl,HU.out,HGz.out⟩
    ·have HY : Hid (FlcT w6 ⟨ro.p,ro.src,ro.dst, [(5,9),(1,2)]⟩ (y,(b1,p1,d1),(b2,p2,d2),(some ⟨s + 1 + 1,0,none⟩,2,2))):=Lib.hid (by
      have:=HDc6.out q _ _ Hco.out Hro.out
      exact ⟨this.e,this.t1,this.t2,HT2.out,this.l1,this.l2,rfl,this.m1,this.m2,by simp⟩)
     clear HT0 HT1 HT2 HT3
     have HF:=Lib.hid (FlO.setTo (k:=q) (j:=3) (r:=⟨ro.p,ro.src,ro.dst, [(5,9),(1,2)]⟩) (y:=(y,(b1,p1,d1),(b2,p2,d2),(some ⟨s + 1 + 1,0,none⟩,2,2))) (v:=.slice (some ⟨s + 1 + 1,0,none⟩) 2 2) HD6.out HDl.out HDc6.out Hco.out (by decide) rfl HY.out)
     have HU:=Lib.hid (un_set (k:=q) (r:=⟨ro.p,ro.src,ro.dst, [(5,9),(1,2)]⟩) HS1.out (let u:=HSo.out.un;⟨u.u1,u.u2,u.l1,u.l2,(by simp)⟩))
     have HGz : Hid (Gen b w (w6.setCell ⟨g,q * 4 + 3,none⟩ (.slice (some ⟨s + 1 + 1,0,none⟩) 2 2)) (m + 200 + 40 * most)):=Lib.hid ((HG6.out.setCell ⟨g,_,none⟩ _ hgw (Nat.lt_of_lt_of_le hblt hgw)).mono (by omega))
     have kf : ∀ i,w6.frozen? ⟨g,i,none⟩ = false:=HD6.out.frozen
     have kc : w6.cell? ⟨g,q * 4 + 3,none⟩ = some _:=HD6.out.get (j:=3) Hco.out rfl
     clear HD6 HDc6 HG6 HY
     go_wp2_with fail
     go_ret
     exact ⟨_,_,rfl,HF.out,by rw [List.length_set,HN.out];exact hl,HU.out,HGz.out⟩
    ·have HY : Hid (FlcT w6 ⟨ro.p,ro.src,ro.dst, [(0,65536)]⟩ (y,(b1,p1,d1),(b2,p2,d2),(some ⟨s + 1 + 1 + 1,0,none⟩,1,1))):=Lib.hid (by
      have:=HDc6.out q _ _ Hco.out Hro.out
      exact ⟨this.e,this.t1,this.t2,HT3.out,this.l1,this.l2,rfl,this.m1,this.m2,by simp⟩)
     clear HT0 HT1 HT2 HT3
     have HF:=Lib.hid (FlO.setTo (k:=q) (j:=3) (r:=⟨ro.p,ro.src,ro.dst, [(0,65536)]⟩) (y:=(y,(b1,p1,d1),(b2,p2,d2),(some ⟨s + 1 + 1 + 1,0,none⟩,1,1))) (v:=.slice (some ⟨s + 1 + 1 + 1,0,none⟩) 1 1) HD6.out HDl.out HDc6.out Hco.out (by decide) rfl HY.out)
     have HU:=Lib.hid (un_set (k:=q) (r:=⟨ro.p,ro.src,ro.dst, [(0,65536)]⟩) HS1.out (let u:=HSo.out.un;⟨u.u1,u.u2,u.l1,u.l2,(by simp)⟩))
     have HGz : Hid (Gen b w (w6.setCell ⟨g,q * 4 + 3,none⟩ (.slice (some ⟨s + 1 + 1 + 1,0,none⟩) 1 1)) (m + 200 + 40 * most)):=Lib.hid ((HG6.out.setCell ⟨g,_,none⟩ _ hgw (Nat.lt_of_lt_of_le hblt hgw)).mono (by omega))
     have kf : ∀ i,w6.frozen? ⟨g,i,none⟩ = false:=HD6.out.frozen
     have kc : w6.cell? ⟨g,q * 4 + 3,none⟩ = some _:=HD6.out.get (j:=3) Hco.out rfl
     clear HD6 HDc6 HG6 HY
     go_wp2_with fail
     go_ret
     exact ⟨_,_,rfl,HF.out,by rw [List.length_set,HN.out];exact hl,HU.out,HGz.out⟩
 ·go_ret
  exact ⟨_,L,rfl,by first | exact HO1.out | (rw [HN.out];exact HO1.out),by rw [HN.out];exact hl,fun r hr => (HS1.out r hr).un,HG1.out.mono (by omega)⟩
structure PK where
 x : PV
 pa : Option Addr
 n : Nat
 c : Nat
def PK.pv (k : PK) : PV:={ k.x with pay:=.slice k.pa k.n k.c }
def layPk : Lay PK:=⟨fun k => k.pv.cells.toList,19,52,by decide,fun _ => rfl,fun p v hv => by
 simp [PV.cells,PK.pv] at hv
 rcases hv with rfl | rfl | rfl | rfl | rfl | rfl | rfl | rfl | rfl | rfl | rfl | rfl | rfl | rfl | rfl | rfl | rfl | rfl | rfl <;> rfl⟩
theorem PK.of_own {x : PV} {w : World} {B : Nat} {L : List UInt8} (h : OwnB w B x.pay L) : ∃ k : PK,x = k.pv:=by
 rcases h.2 with ⟨e,_⟩ | ⟨g,cap,cur,e,_⟩
 ·refine ⟨⟨x,none,0,0⟩,?_⟩
  unfold PK.pv
  rw [← e]
 ·refine ⟨⟨x,some ⟨g,0,none⟩,L.length,cap⟩,?_⟩
  unfold PK.pv
  rw [← e]
def PK.back (k : PK) : PK:=⟨{ k.x with s1:=k.x.s2,h1:=k.x.h2,l1:=k.x.l2,s2:=k.x.s1,h2:=k.x.h1,l2:=k.x.l1,fp:=k.x.tp,tp:=k.x.fp },k.pa,k.n,k.c⟩
theorem PK.back_ok {k : PK} (h : k.pv.ok) : k.back.pv.ok:=by
 obtain ⟨h1,h2,h3,h4,_⟩:=h
 exact ⟨h3,h4,h1,h2,rfl⟩
structure TS where
 T : Nat
 ra : Option Addr
 rn : Nat
 rc : Nat
 last : Int
 lst : Value
 L : List TK
 F : List FR
structure TkSt (b B m : Nat) (w0 : World) (tv : TV) (most : Int) (s s2 : TS) (hv : Value) (P : List PK) (w : World) : Prop where
 g : Gen b w0 w m
 h1 : Blk w s.T 80 (trC (.slice s.ra s.rn s.rc) tv most s.last s.lst)
 l1 : OwnK layTk w B s.lst s.L
 r1 : FwO w B (.slice s.ra s.rn s.rc) s.F
 h2 : Blk w s2.T 44 (tcC (.slice s2.ra s2.rn s2.rc) tv most s2.last s2.lst)
 l2 : OwnK layTk w B s2.lst s2.L
 r2 : FlO w B (.slice s2.ra s2.rn s2.rc) s2.F
 p : OwnK layPk w B hv P
 ne : ∀ k,s.lst.ownBlock = some k → s2.lst.ownBlock ≠ some k
 bB : b < B
 wB : w0.heap.size ≤ B
 BT : B ≤ s.T
 BT2 : B ≤ s2.T
section
variable {b B m m' : Nat} {w0 w w' : World} {tv : TV} {most : Int} {s s2 s' s2' : TS} {hv : Value} {P : List PK}
theorem TkSt.mono (h : TkSt b B m w0 tv most s s2 hv P w) (hm : m ≤ m') : TkSt b B m' w0 tv most s s2 hv P w:={ h with g:=h.g.mono hm }
theorem TkSt.step (h : TkSt b B m w0 tv most s s2 hv P w) (hg : Gen b w w' m') : TkSt b B m' w0 tv most s s2 hv P w' :=
 have k:=KeepT.of_gen h.g.s hg
 ⟨h.g.trans hg,h.h1.keep hg.g (by have:=h.bB;have:=h.BT;omega),h.l1.gen hg h.bB,h.r1.keepT k (by decide) (by decide) (by decide),h.h2.keep hg.g (by have:=h.bB;have:=h.BT2;omega),h.l2.gen hg h.bB,h.r2.keepT k (by decide) (by decide) (by decide),h.p.gen hg h.bB,h.ne,h.bB,h.wB,h.BT,h.BT2⟩
theorem TkSt.below (h : TkSt b B m w0 tv most s s2 hv P w) (hb : Below w.heap.size w w') : TkSt b B m w0 tv most s s2 hv P w' :=
 ⟨h.g.below0 hb h.g.s.lt,h.h1.below hb h.h1.lt,h.l1.later hb,h.r1.later hb,h.h2.below hb h.h2.lt,h.l2.later hb,h.r2.later hb,h.p.later hb,h.ne,h.bB,h.wB,h.BT,h.BT2⟩
theorem TkSt.alloc (h : TkSt b B m w0 tv most s s2 hv P w) (o : Obj) : TkSt b B m w0 tv most s s2 hv P (w.alloc o):=h.below (below_alloc (Below.refl _ _) _)
theorem TkSt.pset {hv' : Value} {P' : List PK} (h : TkSt b B m w0 tv most s s2 hv P w) (hO : OwnK layPk w' B hv' P') (hg : Grew w w' hv hv') : TkSt b B m w0 tv most s s2 hv' P' w':=by
 have k:=KeepT.of_grew (S:=[52]) h.p hg (by decide)
 have hw : Below B w w':=hg.below (by have:=h.h1.lt;have:=h.BT;omega) (own_base h.p)
 exact ⟨h.g.below hw h.wB h.bB,h.h1.keepT k (by decide),h.l1.keepT k (by decide),h.r1.keepT k (by decide) (by decide) (by decide),h.h2.keepT k (by decide),h.l2.keepT k (by decide),h.r2.keepT k (by decide) (by decide) (by decide),hO,h.ne,h.bB,h.wB,h.BT,h.BT2⟩
theorem OwnK.chg {α : Type} {E : Lay α} {T : Nat} {v v' u : Value} {L : List α} (h : OwnK E w B u L) (hC : Chg T v v' w w') (hT : u.ownBlock ≠ some T) (hne : ∀ k,u.ownBlock = some k → v.ownBlock ≠ some k) : OwnK E w' B u L:=by
 refine ⟨h.1,?_⟩
 rcases h.2 with h2 | ⟨g,cap,cur,hv,hg,hh,r⟩
 ·exact .inl h2
 ·refine .inr ⟨g,cap,cur,hv,hg,?_,r⟩
  have hu : u.ownBlock = some g:=by rw [hv];rfl
  exact (hC.block g (lt_of_block hh) (fun e => hT (by rw [hu,e])) (fun e => hne g hu e.symm)).trans hh
theorem own_neT {α : Type} {E : Lay α} {T : Nat} {u : Value} {L : List α} {t : TypeId} {cs : Array Value} (h : OwnK E w B u L) (hT : Blk w T t cs) (hne : E.ty ≠ t) : u.ownBlock ≠ some T:=by
 intro e
 rcases h.2 with ⟨rfl,_⟩ | ⟨g,cap,cur,rfl,hg,hh,r⟩
 ·cases e
 ·have e : g = T:=by simpa [Value.ownBlock] using e
  subst e
  unfold Blk at hT
  rw [hh] at hT
  injection hT with hT
  injection hT with _ hT _
  exact hne hT
theorem Gen.chg {T : Nat} {v v' : Value} (h : Gen b w0 w m) (hC : Chg T v v' w w') (hT : w0.heap.size ≤ T) (hv : ∀ k,v.ownBlock = some k → w0.heap.size ≤ k) (hb : b < w0.heap.size) : Gen b w0 w' m :=
 ⟨⟨hC.os.trans h.g.os,hC.tape.trans h.g.tape,hC.output.trans h.g.output,Nat.le_trans h.g.size hC.size,fun i hi hne => (hC.block i (Nat.lt_of_lt_of_le hi h.g.size) (by omega) (fun e => by have:=hv i e.symm;omega)).trans (h.g.block i hi hne)⟩,
  h.s.keep fun i hi => hC.block i (Nat.lt_of_lt_of_le (Nat.lt_of_le_of_lt hi hb) h.g.size) (by omega) (fun e => by have:=hv i e.symm;omega)⟩
theorem TkSt.chg1 (h : TkSt b B m w0 tv most s s2 hv P w) (hb : b < w0.heap.size) {last : Int} {lst : Value} {L : List TK} (hC : Chg s.T s.lst lst w w') (h1 : Blk w' s.T 80 (trC (.slice s.ra s.rn s.rc) tv most last lst)) (l1 : OwnK layTk w' B lst L) :
  TkSt b B m w0 tv most ⟨s.T,s.ra,s.rn,s.rc,last,lst,L,s.F⟩ s2 hv P w':=by
 have k:=KeepT.of_chg h.h1 h.l1 hC
 have hwB:=h.wB
 have hBT:=h.BT
 refine ⟨h.g.chg hC (by omega) (fun k hk => Nat.le_trans hwB (own_base h.l1 k hk)) hb,h1,l1,h.r1.keepT k (by decide) (by decide) (by decide),h.h2.keepT k (by decide),h.l2.chg hC (own_neT h.l2 h.h1 (by decide)) (fun k hk e => h.ne k e hk),h.r2.keepT k (by decide) (by decide) (by decide),h.p.keepT k (by decide),fun k hk => ?_,h.bB,h.wB,h.BT,h.BT2⟩
 rcases hC.o with e | ⟨j,e,hj⟩
 ·exact h.ne k (by rw [← e];exact hk)
 ·intro e2
  have:=(h.l2.lt k e2).2
  have hk : lst.ownBlock = some k:=hk
  rw [e] at hk
  injection hk with hk
  omega
theorem TkSt.chg2 (h : TkSt b B m w0 tv most s s2 hv P w) (hb : b < w0.heap.size) {last : Int} {lst : Value} {L : List TK} (hC : Chg s2.T s2.lst lst w w') (h2 : Blk w' s2.T 44 (tcC (.slice s2.ra s2.rn s2.rc) tv most last lst)) (l2 : OwnK layTk w' B lst L) :
  TkSt b B m w0 tv most s ⟨s2.T,s2.ra,s2.rn,s2.rc,last,lst,L,s2.F⟩ hv P w':=by
 have k:=KeepT.of_chg h.h2 h.l2 hC
 have hwB:=h.wB
 have hBT:=h.BT2
 refine ⟨h.g.chg hC (by omega) (fun k hk => Nat.le_trans hwB (own_base h.l2 k hk)) hb,h.h1.keepT k (by decide),h.l1.chg hC (own_neT h.l1 h.h2 (by decide)) (fun k hk => h.ne k hk),h.r1.keepT k (by decide) (by decide) (by decide),h2,l2,h.r2.keepT k (by decide) (by decide) (by decide),h.p.keepT k (by decide),fun k hk => ?_,h.bB,h.wB,h.BT,h.BT2⟩
 rcases hC.o with e | ⟨j,e,hj⟩
 ·show lst.ownBlock ≠ some k
  rw [e];exact h.ne k hk
 ·intro e2
  have:=(h.l1.lt k hk).2
  have e2 : lst.ownBlock = some k:=e2
  rw [e] at e2
  injection e2 with e2
  omega
theorem TkSt.chgS (h : TkSt b B m w0 tv most s s2 hv P w) (hb : b < w0.heap.size) {ra : Option Addr} {rn rc : Nat} {F : List FR} (hC : Chg s.T (.slice none 0 0) (.slice none 0 0) w w') (h1 : Blk w' s.T 80 (trC (.slice ra rn rc) tv most s.last s.lst)) (r1 : FwO w' B (.slice ra rn rc) F) :
  TkSt b B m w0 tv most ⟨s.T,ra,rn,rc,s.last,s.lst,s.L,F⟩ s2 hv P w':=by
 have k : KeepT [80,65] w w':=KeepT.of_chg (B:=B) (L:=[]) h.h1 (OwnK.nil _ _ _) hC
 have hwB:=h.wB
 have hBT:=h.BT
 exact ⟨h.g.chg hC (by omega) (fun k hk => by cases hk) hb,h1,h.l1.chg hC (own_neT h.l1 h.h1 (by decide)) (fun k hk e => by cases e),r1,h.h2.keepT k (by decide),h.l2.chg hC (own_neT h.l2 h.h1 (by decide)) (fun k hk e => by cases e),h.r2.keepT k (by decide) (by decide) (by decide),h.p.keepT k (by decide),h.ne,h.bB,h.wB,h.BT,h.BT2⟩
theorem TkSt.chgS0 (h : TkSt b B m w0 tv most s s2 hv P w) (hb : b < w0.heap.size) (hC : Chg s.T (.slice none 0 0) (.slice none 0 0) w w') (h1 : Blk w' s.T 80 (trC (.slice s.ra s.rn s.rc) tv most s.last s.lst)) : TkSt b B m w0 tv most s s2 hv P w' :=
 h.chgS hb hC h1 (h.r1.keepT (KeepT.of_chg (B:=B) (L:=[]) h.h1 (OwnK.nil _ _ _) hC) (by decide) (by decide) (by decide))
theorem TkSt.rows2 (h : TkSt b B m w0 tv most s s2 hv P w) (hb : b < w0.heap.size) {ra : Option Addr} {rn rc : Nat} {F : List FR} (hr : FlO w B (.slice ra rn rc) F) :
  TkSt b B m w0 tv most s ⟨s2.T,ra,rn,rc,s2.last,s2.lst,s2.L,F⟩ hv P (w.setCell ⟨s2.T,0,none⟩ (.slice ra rn rc)):=by
 have hC : Chg s2.T (.slice none 0 0) (.slice none 0 0) w (w.setCell ⟨s2.T,0,none⟩ (.slice ra rn rc)):=Chg.of_set
 have k : KeepT [44,65] w (w.setCell ⟨s2.T,0,none⟩ (.slice ra rn rc)):=KeepT.of_chg (B:=B) (L:=[]) h.h2 (OwnK.nil _ _ _) hC
 have hwB:=h.wB
 have hBT:=h.BT2
 exact ⟨h.g.chg hC (by omega) (fun k hk => by cases hk) hb,h.h1.keepT k (by decide),h.l1.chg hC (own_neT h.l1 h.h2 (by decide)) (fun k hk e => by cases e),h.r1.keepT k (by decide) (by decide) (by decide),h.h2.set 0 _,h.l2.chg hC (own_neT h.l2 h.h2 (by decide)) (fun k hk e => by cases e),hr.keepT k (by decide) (by decide) (by decide),h.p.keepT k (by decide),h.ne,h.bB,h.wB,h.BT,h.BT2⟩
end
def eqTkR (s1 s2 : Value) (i : Nat) (g1 g2 o1 o2 : Nat) (x : TK) : Nat → Value → World → Prop
 | 0,v,_ => v = s1
 | 1,v,_ => v = .int .i64 (i : Int)
 | 2,v,_ => v = .pointer (some ⟨g1,o1 + i * 12,none⟩)
 | 3,v,_ => v = .agg (tkC x).toArray
 | 4,v,_ => v = s2
 | 5,v,_ => v = .int .i64 (i : Int)
 | 6,v,_ => v = .pointer (some ⟨g2,o2 + i * 12,none⟩)
 | _,v,_ => v = .agg (tkC x).toArray
theorem eqTkR_keep {s1 s2 : Value} {i g1 g2 o1 o2 : Nat} {x : TK} (p : Nat) (v : Value) (u w : World) (h : eqTkR s1 s2 i g1 g2 o1 o2 x p v u) (hb : Below u.heap.size u w) : eqTkR s1 s2 i g1 g2 o1 o2 x p v w:=by
 rcases p with _ | _ | _ | _ | _ | _ | _ | p
 all_goals exact h
theorem guard_tk (x y : Operand) (v : TK) (w : World) : (eqGuard .neq 65 x y (.agg (tkC v).toArray) (.agg (tkC v).toArray)).run Tryz.prog w = .ok () w :=
 run_eqGuard_agg w _ _ _ _ _ _ (by kernel_rfl)
theorem neq_tk (v : TK) (w : World) : (binOp .neq 65 (.agg (tkC v).toArray) (.agg (tkC v).toArray)).run Tryz.prog w = .ok (.bool false) w:=by
 have u1:=Tryz.underlying3
 have a1:=Tryz.isAgg3
 have z1:=Tryz.sizeOf3
 have u2:=Tryz.underlying4
 have a2:=Tryz.isAgg4
 have z2:=Tryz.sizeOf4
 have u3:=Tryz.underlying47
 have a3:=Tryz.isAgg47
 have z3:=Tryz.sizeOf47
 have u4:=Tryz.underlying63
 have a4:=Tryz.isAgg63
 have z4:=Tryz.sizeOf63
 have u5:=Tryz.underlying49
 have a5:=Tryz.isAgg49
 have z5:=Tryz.sizeOf49
 have hS : Tryz.prog.underlying 65 = some (.struct (Tryz.prog.fieldsOf 65)):=by kernel_rfl
 have hp : Tryz.prog.stoodInHeld 65 = false:=by kernel_rfl
 have hS4 : Tryz.prog.underlying 63 = some (.struct (Tryz.prog.fieldsOf 63)):=by kernel_rfl
 have hp4 : Tryz.prog.stoodInHeld 63 = false:=by kernel_rfl
 have hS5 : Tryz.prog.underlying 49 = some (.struct (Tryz.prog.fieldsOf 49)):=by kernel_rfl
 have hp5 : Tryz.prog.stoodInHeld 49 = false:=by kernel_rfl
 have e5 : ∀ d w (a : Bool) (b c : Int),(Op.equalIn (d + 2) 49 (.agg #[.bool a, .int .u64 b, .int .u64 c]) (.agg #[.bool a, .int .u64 b, .int .u64 c])).run Tryz.prog w = .ok true w:=fun d w a b c => by
  rw [run_equalIn_agg w (d + 1) 49 _ _ hS5 hp5]
  simp only [Program.fieldsOf,Tryz.underlying49]
  go_simp
 have e4 : ∀ d w (x : FV),(Op.equalIn (d + 3) 63 (.agg x.cells) (.agg x.cells)).run Tryz.prog w = .ok true w:=fun d w x => by
  rw [run_equalIn_agg w (d + 2) 63 _ _ hS4 hp4]
  simp only [Program.fieldsOf,Tryz.underlying63,FV.cells]
  go_simp
 unfold FV.cells at e4
 rw [run_neq_struct,show (10000 : Nat) = 9999 + 1 from rfl,run_equalIn_agg w 9999 65 _ _ hS hp]
 simp only [Program.fieldsOf,Tryz.underlying65,tkC]
 go_simp
theorem equalTk_any (a1 a2 : Option Addr) (n c1 c2 : Nat) (L : List TK) (w : World) (h1 : RdK layTk w a1 L) (h2 : RdK layTk w a2 L) (hn : L.length = n) (hs : n ≤ 1000000) :
  Calls Tryz.prog 24 #[.slice a1 n c1, .slice a2 n c2] w (Ret (.bool true) w):=by
 have H1:=Lib.hid h1
 have H2:=Lib.hid h2
 have Hn:=Lib.hid hn
 clear h1 h2 hn
 go_enter Tryz.func24,Tryz.ntmps24
 go_wp2_with fail
 go_loopw [5,13] (fun s5 i wr => ∃ k : Nat,k ≤ n ∧ i = .int .i64 (k : Int) ∧ Hid (Below w.heap.size w wr)) (fun _ i _ => n - (intOf i).toNat)
 case atStart => exact ⟨0,Nat.zero_le _,rfl,Lib.hid (Below.refl _ _)⟩
 case round =>
  obtain ⟨k,hk,rfl,HB⟩:=hrel
  by_cases hlt : k < n
  ·have hS : k < L.length:=by rw [Hn.out];exact hlt
   obtain ⟨x,hx⟩ : ∃ x,L[k]? = some x:=⟨_,List.getElem?_eq_getElem hS⟩
   obtain ⟨g1,o1,had1,hg1,hc1⟩:=(H1.out.below HB.out) k x hx
   obtain ⟨g2,o2,had2,hg2,hc2⟩:=(H2.out.below HB.out) k x hx
   have HR1 : Hid (∀ wx,Below wr.heap.size wr wx → wx.rangeAt g1 (o1 + k * 12) (tkC x)):=Lib.hid fun wx hb => range_below (fun j v hv => by
    have:=hc1 j v hv
    rwa [← Nat.add_assoc] at this) hb hg1
   have HR2 : Hid (∀ wx,Below wr.heap.size wr wx → wx.rangeAt g2 (o2 + k * 12) (tkC x)):=Lib.hid fun wx hb => range_below (fun j v hv => by
    have:=hc2 j v hv
    rwa [← Nat.add_assoc] at this) hb hg2
   subst had1 had2
   clear hx hS hg1 hg2 hc1 hc2
   go_upto_region 6 with fail
   refine wp_region_inv 8 0 (eqTkR (.slice (some ⟨g1,o1,none⟩) n c1) (.slice (some ⟨g2,o2,none⟩) n c2) k g1 g2 o1 o2 x) (fun _ wx => Below wr.heap.size wr wx) (fun u v => Below u.heap.size u v) (fun _ => 0)
    (by kernel_rfl) (by kernel_rfl) (by decide) eqTkR_keep (below_drew (Below.refl _ _)) ?hX
   case' hX => (apply Exists.intro;refine ⟨fun T => ?hA,?hob,?hend⟩)
   case hA =>
    simp only [setAll,List.take_succ_cons,List.take_zero,Act.put,List.setIfInBounds_toArray,List.set_cons_succ,List.set_cons_zero,Nat.reduceAdd]
    exact rfl
   case hob =>
    go_light
    refine ⟨?_,?_,?_,?_,?_,?_,?_,?_,trivial⟩
    all_goals (intro T wx n0 hC hn hp;dsimp only at hn ⊢)
    ·unfold Op1
     go_simp
     exact ⟨rfl,Below.refl _ _⟩
    ·unfold Op1
     go_simp
     exact ⟨rfl,Below.refl _ _⟩
    ·obtain ⟨q0,q1, -⟩:=hp
     have q0 : T 0 = .slice (some ⟨g1,o1,none⟩) n c1:=q0
     have q1 : T 1 = .int .i64 (k : Int):=q1
     unfold Op1
     go_simp
     exact ⟨rfl,Below.refl _ _⟩
    ·obtain ⟨q0, -⟩:=hp
     have q0 : T 2 = .pointer (some ⟨g1,o1 + k * 12,none⟩):=q0
     exact Op1.loadn 65 (.tmp 18) rfl g1 (o1 + k * 12) q0 (tkC x) _ (HR1.out wx hC) under_tk rfl 12 size_tk rfl ⟨rfl,hC,Below.refl _ _⟩
    ·unfold Op1
     go_simp
     exact ⟨rfl,Below.refl _ _⟩
    ·unfold Op1
     go_simp
     exact ⟨rfl,Below.refl _ _⟩
    ·obtain ⟨q0,q1, -⟩:=hp
     have q0 : T 4 = .slice (some ⟨g2,o2,none⟩) n c2:=q0
     have q1 : T 5 = .int .i64 (k : Int):=q1
     unfold Op1
     go_simp
     exact ⟨rfl,Below.refl _ _⟩
    ·obtain ⟨q0, -⟩:=hp
     have q0 : T 6 = .pointer (some ⟨g2,o2 + k * 12,none⟩):=q0
     exact Op1.loadn 65 (.tmp 22) rfl g2 (o2 + k * 12) q0 (tkC x) _ (HR2.out wx hC) under_tk rfl 12 size_tk rfl ⟨rfl,hC,Below.refl _ _⟩
   case hend =>
    intro T w4 ⟨n0,hn0,hb⟩ hR
    have hT3 : T 3 = .agg (tkC x).toArray:=hR 3 (by omega)
    have hT7 : T 7 = .agg (tkC x).toArray:=hR 7 (by omega)
    have gx:=fun a b wz => guard_tk a b x wz
    have nx:=fun wz => neq_tk x wz
    have HB4:=Lib.hid (HB.out.trans (hb.mono HB.out.size))
    clear hR hb HR1 HR2 HB
    generalize (tkC x).toArray = X at *
    go_wp2_with fail
    exact ⟨⟨k + 1,by omega,by go_num,HB4⟩,by simp [intOf];omega⟩
  ·obtain rfl : k = n:=by omega
   go_wp2_with fail
   go_ret
   exact ⟨rfl,HB.out⟩
def firstE : List Int → Int
 | [] => 0
 | x :: l => if x ≠ 0 then x else firstE l
theorem firstE_hit : ∀ {l : List Int} {k : Nat},k < l.length → (∀ j,j < k → l.getD j 0 = 0) → l.getD k 0 ≠ 0 → firstE l = l.getD k 0
 | [],k,h,_,_ => absurd h (Nat.not_lt_zero _)
 | x :: l,0,h,_,h2 => by simp at h2 ⊢;simp [firstE,h2]
 | x :: l,k + 1,h,h1,h2 => by
   have h0 : x = 0:=h1 0 (by omega)
   rw [firstE,if_neg (by simp [h0])]
   have:=firstE_hit (l:=l) (k:=k) (by simpa using h) (fun j hj => by have:=h1 (j + 1) (by omega);simpa using this) (by simpa using h2)
   rw [this];simp
theorem firstE_none : ∀ {l : List Int},(∀ j,j < l.length → l.getD j 0 = 0) → firstE l = 0
 | [],_ => rfl
 | x :: l,h => by
   have h0 : x = 0:=h 0 (by simp)
   rw [firstE,if_neg (by simp [h0])]
   exact firstE_none fun j hj => by have:=h (j + 1) (by simpa using hj);simpa using this
theorem errs_any (g n c : Nat) (zs : List Int) (w : World) (hz : RdInts w g 0 n zs) (hn : n ≤ 1000) :
  Calls Tryz.prog 8 #[.slice (some ⟨g,0,none⟩) n c] w fun e w' => e = .returned (.int .i64 (firstE zs)) ∧ w' = w:=by
 obtain ⟨hl,hg,hc⟩:=hz
 have Hc:=Lib.hid hc
 have Hl:=Lib.hid hl
 clear hc hl
 go_enter Tryz.func8,Tryz.ntmps8
 go_wp2
 go_loop [4,7] (fun e i => ∃ k : Nat,k ≤ n ∧ i = .int .i64 k ∧ Hid (∀ j,j < k → zs.getD j 0 = 0)) (fun _ i => n - (intOf i).toNat)
 case atStart => exact ⟨0,Nat.zero_le _,rfl,Lib.hid fun j hj => absurd hj (Nat.not_lt_zero _)⟩
 case round =>
  obtain ⟨k,hk,rfl,HX⟩:=hrel
  by_cases hlt : k < n
  ·have hcell:=Hc.out k hlt
   rw [Nat.zero_add] at hcell
   by_cases h0 : zs.getD k 0 = 0
   ·rw [h0] at hcell
    have H0:=Lib.hid h0
    clear h0
    go_wp2
    refine ⟨⟨k + 1,by omega,by go_num,Lib.hid fun j hj => ?_⟩,by simp [intOf];omega⟩
    rcases Nat.lt_or_ge j k with h | h
    ·exact HX.out j h
    ·obtain rfl : j = k:=by omega
     exact H0.out
   ·have H0 : Hid (firstE zs = zs.getD k 0):=Lib.hid (firstE_hit (by rw [Hl.out];exact hlt) HX.out h0)
    generalize zs.getD k 0 = z at *
    have h1 : (z != 0) = true:=by simpa using h0
    go_wp2
    go_ret
    exact ⟨by rw [H0.out];rfl,rfl⟩
  ·obtain rfl : k = n:=by omega
   have H0 : Hid (firstE zs = 0):=Lib.hid (firstE_none fun j hj => HX.out j (by rw [← Hl.out];exact hj))
   go_wp2
   go_ret
   exact ⟨by rw [H0.out];rfl,rfl⟩
theorem when_any (b : Bool) (x : Int) (w : World) : Calls Tryz.prog 11 #[.bool b, .int .i64 x] w fun e w' => e = .returned (.int .i64 (if b = true then x else 0)) ∧ w = w':=by
 cases b
 all_goals
  go_enter Tryz.func11,Tryz.ntmps11
  go_wp2
  go_ret
  exact ⟨rfl,rfl⟩
def inR (F : List FR) (tv : TV) (most last at_ : Int) (k : PK) (L : List TK) : (Bool × Int) × Int × List TK:=inM (pktFault k.pv k.n) (decV F k.pv.flow) tv most last at_ k.pv.flow (k.pv.fin || k.pv.rst) L
def outR (tv : TV) (most last at_ : Int) (k : PK) (L : List TK) : Int × Int × List TK:=outM (pktFault k.pv k.n) tv most last at_ k.pv.flow (k.pv.fin || k.pv.rst) L
theorem inR_ok {F : List FR} {tv : TV} {most last at_ : Int} {k : PK} {L : List TK} (h : TkOk L) (hl : 0 ≤ last ∧ last < 345686400) : TkOk (inR F tv most last at_ k L).2.2 ∧ (inR F tv most last at_ k L).2.2.length ≤ L.length + 1 ∧ 0 ≤ (inR F tv most last at_ k L).2.1 ∧ (inR F tv most last at_ k L).2.1 < 345686400:=inM_ok h hl
theorem outR_ok {tv : TV} {most last at_ : Int} {k : PK} {L : List TK} (h : TkOk L) (hl : 0 ≤ last ∧ last < 345686400) : TkOk (outR tv most last at_ k L).2.2 ∧ (outR tv most last at_ k L).2.2.length ≤ L.length + 1 ∧ 0 ≤ (outR tv most last at_ k L).2.1 ∧ (outR tv most last at_ k L).2.1 < 345686400:=outM_ok h hl
section
variable {b B m : Nat} {w0 w w' : World} {tv : TV} {most : Int} {s s2 : TS} {hv : Value} {P : List PK}
theorem TkSt.B1 (h : TkSt b B m w0 tv most s s2 hv P w) : B ≤ w.heap.size:=Nat.le_trans h.BT (Nat.le_of_lt h.h1.lt)
theorem tin_st (h : TkSt b B m w0 tv most s s2 hv P w) (hb : b < w0.heap.size) (hok : TkOk s.L) (hs : s.L.length ≤ 1000) (hm : 1 ≤ most ∧ most ≤ 1000) (k : PK) (hx : k.pv.ok) (hr : ∀ r ∈ s.F,r.Ok) (hF : s.F.length ≤ 1000) (at_ : Int) :
  Calls Tryz.prog 17 #[.pointer (some ⟨s.T,0,none⟩), .agg k.pv.cells, .int .i64 at_] w fun e w' => ∃ lst',e = .returned (.tuple #[.bool (inR s.F tv most s.last at_ k s.L).1.1, .int .i64 (inR s.F tv most s.last at_ k s.L).1.2]) ∧ TkSt b B m w0 tv most ⟨s.T,s.ra,s.rn,s.rc,(inR s.F tv most s.last at_ k s.L).2.1,lst',(inR s.F tv most s.last at_ k s.L).2.2,s.F⟩ s2 hv P w' ∧ KeepT [80,65] w w' :=
 (tin_any s.T B s.ra s.rn s.rc s.F B tv most s.last s.lst s.L k.pv k.pa k.n k.c at_ w h.h1 h.l1 h.B1 hok hs hm hx rfl h.r1 hr hF).mono fun e w' ⟨lst',he,hT,hL,hC⟩ => ⟨lst',he,h.chg1 hb hC hT hL,KeepT.of_chg h.h1 h.l1 hC⟩
theorem tout_st (h : TkSt b B m w0 tv most s s2 hv P w) (hb : b < w0.heap.size) (hok : TkOk s.L) (hs : s.L.length ≤ 1000) (hm : 1 ≤ most ∧ most ≤ 1000) (k : PK) (hx : k.pv.ok) (at_ : Int) :
  Calls Tryz.prog 19 #[.pointer (some ⟨s.T,0,none⟩), .agg k.pv.cells, .int .i64 at_] w fun e w' => ∃ lst',e = .returned (.int .i64 (outR tv most s.last at_ k s.L).1) ∧ TkSt b B m w0 tv most ⟨s.T,s.ra,s.rn,s.rc,(outR tv most s.last at_ k s.L).2.1,lst',(outR tv most s.last at_ k s.L).2.2,s.F⟩ s2 hv P w' ∧ KeepT [80,65] w w' :=
 (tout_any s.T B (.slice s.ra s.rn s.rc) tv most s.last s.lst s.L k.pv k.pa k.n k.c at_ w h.h1 h.l1 h.B1 hok hs hm hx rfl).mono fun e w' ⟨lst',he,hT,hL,hC⟩ => ⟨lst',he,h.chg1 hb hC hT hL,KeepT.of_chg h.h1 h.l1 hC⟩
theorem qin_st (h : TkSt b B m w0 tv most s s2 hv P w) (hb : b < w0.heap.size) (hok : TkOk s2.L) (hs : s2.L.length ≤ 1000) (hm : 1 ≤ most ∧ most ≤ 1000) (k : PK) (hx : k.pv.ok) (hr : ∀ r ∈ s2.F,r.Ok) (hF : s2.F.length ≤ 1000) (at_ : Int) :
  Calls Tryz.prog 18 #[.pointer (some ⟨s2.T,0,none⟩), .agg k.pv.cells, .int .i64 at_] w fun e w' => ∃ lst',e = .returned (.tuple #[.bool (inR s2.F tv most s2.last at_ k s2.L).1.1, .int .i64 (inR s2.F tv most s2.last at_ k s2.L).1.2]) ∧ TkSt b B m w0 tv most s ⟨s2.T,s2.ra,s2.rn,s2.rc,(inR s2.F tv most s2.last at_ k s2.L).2.1,lst',(inR s2.F tv most s2.last at_ k s2.L).2.2,s2.F⟩ hv P w' ∧ KeepT [44,65] w w' :=
 (qin_any s2.T B s2.ra s2.rn s2.rc s2.F B tv most s2.last s2.lst s2.L k.pv k.pa k.n k.c at_ w h.h2 h.l2 h.B1 hok hs hm hx rfl h.r2 hr hF).mono fun e w' ⟨lst',he,hT,hL,hC⟩ => ⟨lst',he,h.chg2 hb hC hT hL,KeepT.of_chg h.h2 h.l2 hC⟩
theorem qout_st (h : TkSt b B m w0 tv most s s2 hv P w) (hb : b < w0.heap.size) (hok : TkOk s2.L) (hs : s2.L.length ≤ 1000) (hm : 1 ≤ most ∧ most ≤ 1000) (k : PK) (hx : k.pv.ok) (at_ : Int) :
  Calls Tryz.prog 20 #[.pointer (some ⟨s2.T,0,none⟩), .agg k.pv.cells, .int .i64 at_] w fun e w' => ∃ lst',e = .returned (.int .i64 (outR tv most s2.last at_ k s2.L).1) ∧ TkSt b B m w0 tv most s ⟨s2.T,s2.ra,s2.rn,s2.rc,(outR tv most s2.last at_ k s2.L).2.1,lst',(outR tv most s2.last at_ k s2.L).2.2,s2.F⟩ hv P w' ∧ KeepT [44,65] w w' :=
 (qout_any s2.T B (.slice s2.ra s2.rn s2.rc) tv most s2.last s2.lst s2.L k.pv k.pa k.n k.c at_ w h.h2 h.l2 h.B1 hok hs hm hx rfl).mono fun e w' ⟨lst',he,hT,hL,hC⟩ => ⟨lst',he,h.chg2 hb hC hT hL,KeepT.of_chg h.h2 h.l2 hC⟩
theorem tset_st (h : TkSt b B m w0 tv most s s2 hv P w) (hb : b < w0.heap.size) {B2 : Nat} {ad : Option Addr} {n c : Nat} {Y : List FR} (hy : FlO w B2 (.slice ad n c) Y) (hn : Y.length = n) (hs : n ≤ 1000) (hu : ∀ r ∈ Y,r.Un) :
  Calls Tryz.prog 21 #[.pointer (some ⟨s.T,0,none⟩), .slice ad n c] w fun e w' => e = .returned (.int .i64 (rowsF Y)) ∧ (rowsF Y ≠ 0 → TkSt b B m w0 tv most s s2 hv P w') ∧ (rowsF Y = 0 → ∃ ad' c',TkSt b B m w0 tv most ⟨s.T,ad',n,c',s.last,s.lst,s.L,Y⟩ s2 hv P w') ∧ KeepT [80,65] w w':=by
 refine (tset_any s.T (.slice s.ra s.rn s.rc) tv most s.last s.lst ad n c Y w h.h1 hy.at hn hs hu).mono ?_
 rintro e w' ⟨he,hC,h2⟩
 refine ⟨he,?_,?_,KeepT.of_chg (B:=B) (L:=[]) h.h1 (OwnK.nil _ _ _) hC⟩
 ·intro h0
  rcases h2 with ⟨_,hT⟩ | ⟨h1,_⟩
  ·exact h.chgS0 hb hC hT
  ·exact absurd h1 h0
 ·intro h0
  rcases h2 with ⟨h1,_⟩ | ⟨_,ad',c',hT,hF⟩
  ·exact absurd h0 h1
  ·exact ⟨ad',c',h.chgS hb hC hT (hF.weak h.B1)⟩
theorem tflows_st (h : TkSt b B m w0 tv most s s2 hv P w) (hok : TkOk s.L) (hs : s.L.length < 20) (at_ : Int) :
  Calls Tryz.prog 22 #[.pointer (some ⟨s.T,0,none⟩), .int .i64 at_] w fun e w' => ∃ ad c,e = .returned (.tuple #[.slice ad (flowsM tv s.last at_ s.L).length c, .int .i64 (momF at_ s.last)]) ∧ RdK layTk w' ad (flowsM tv s.last at_ s.L) ∧ TkSt b B m w0 tv most s s2 hv P w' ∧ Below w.heap.size w w':=by
 refine (tflows_any s.T B (.slice s.ra s.rn s.rc) tv most s.last s.lst s.L at_ w h.h1 h.l1 hok hs).mono ?_
 rintro e w' ⟨v,he,hO,hb⟩
 obtain ⟨ad,c,rfl, -⟩:=hO.form
 exact ⟨ad,c,he,hO.rd,h.below hb,hb⟩
theorem qflows_st (h : TkSt b B m w0 tv most s s2 hv P w) (hok : TkOk s2.L) (hs : s2.L.length < 20) (at_ : Int) :
  Calls Tryz.prog 23 #[.pointer (some ⟨s2.T,0,none⟩), .int .i64 at_] w fun e w' => ∃ ad c,e = .returned (.tuple #[.slice ad (flowsM tv s2.last at_ s2.L).length c, .int .i64 (momF at_ s2.last)]) ∧ RdK layTk w' ad (flowsM tv s2.last at_ s2.L) ∧ TkSt b B m w0 tv most s s2 hv P w' ∧ Below w.heap.size w w':=by
 refine (qflows_any s2.T B (.slice s2.ra s2.rn s2.rc) tv most s2.last s2.lst s2.L at_ w h.h2 h.l2 hok hs).mono ?_
 rintro e w' ⟨v,he,hO,hb⟩
 obtain ⟨ad,c,rfl, -⟩:=hO.form
 exact ⟨ad,c,he,hO.rd,h.below hb,hb⟩
theorem TkSt.chgP {p3 : Nat} {X : Array Value} (h : TkSt b B m w0 tv most s s2 hv P w) (hb : b < w0.heap.size) (hP : Blk w p3 52 X) (hw : w0.heap.size ≤ p3) (hne : hv.ownBlock ≠ some p3) (hC : Chg p3 (.slice none 0 0) (.slice none 0 0) w w') : TkSt b B m w0 tv most s s2 hv P w':=by
 have k : KeepT [52,65] w w':=KeepT.of_chg (B:=B) (L:=[]) hP (OwnK.nil _ _ _) hC
 exact ⟨h.g.chg hC hw (fun k hk => by cases hk) hb,h.h1.keepT k (by decide),h.l1.chg hC (own_neT h.l1 hP (by decide)) (fun k hk e => by cases e),h.r1.keepT k (by decide) (by decide) (by decide),h.h2.keepT k (by decide),h.l2.chg hC (own_neT h.l2 hP (by decide)) (fun k hk e => by cases e),h.r2.keepT k (by decide) (by decide) (by decide),h.p.chg hC hne (fun k hk e => by cases e),h.ne,h.bB,h.wB,h.BT,h.BT2⟩
end
theorem Chg.of_setRow {T : Nat} {v : Value} {w : World} (c : Array Value) : Chg T v v w (w.setRow T c):=⟨rfl,rfl,rfl,by simp,fun j hj h1 _ => setRow_other w T j c h1, .inl rfl⟩
def TkI (b B : Nat) (w0 : World) (tv : TV) (most : Int) (T T2 m j i : Nat) (hv : Value) (w : World) : Prop :=
 ∃ ra rn rc ra2 rn2 rc2 last lst lst2 L F P,TkSt b B m w0 tv most ⟨T,ra,rn,rc,last,lst,L,F⟩ ⟨T2,ra2,rn2,rc2,last,lst2,L,F⟩ hv P w ∧ TkOk L ∧ L.length ≤ j ∧ (0 ≤ last ∧ last < 345686400) ∧ (∀ r ∈ F,r.Ok) ∧ F.length ≤ 3 ∧ (∀ k ∈ P,k.pv.ok) ∧ P.length = i
theorem TkI.gen {b B m T T2 j i : Nat} {w0 w : World} {tv : TV} {most : Int} {hv : Value} (h : TkI b B w0 tv most T T2 m j i hv w) : Gen b w0 w m:=by
 obtain ⟨_,_,_,_,_,_,_,_,_,_,_,_,hS,_⟩:=h
 exact hS.g
theorem TkI.step {b B m m' T T2 j i : Nat} {w0 w w' : World} {tv : TV} {most : Int} {hv : Value} (h : TkI b B w0 tv most T T2 m j i hv w) (hg : Gen b w w' m') : TkI b B w0 tv most T T2 m' j i hv w':=by
 obtain ⟨ra,rn,rc,ra2,rn2,rc2,last,lst,lst2,L,F,P,hS,hr⟩:=h
 exact ⟨ra,rn,rc,ra2,rn2,rc2,last,lst,lst2,L,F,P,hS.step hg,hr⟩
theorem TkI.mono {b B m m' T T2 j i : Nat} {w0 w : World} {tv : TV} {most : Int} {hv : Value} (h : TkI b B w0 tv most T T2 m j i hv w) (hm : m ≤ m') : TkI b B w0 tv most T T2 m' j i hv w:=by
 obtain ⟨ra,rn,rc,ra2,rn2,rc2,last,lst,lst2,L,F,P,hS,hr⟩:=h
 exact ⟨ra,rn,rc,ra2,rn2,rc2,last,lst,lst2,L,F,P,hS.mono hm,hr⟩
def ouR (T T2 : Nat) (X : Array Value) (i r : Int) : Nat → Value → Nat → World → Prop
 | 0,v,_,_ => v = .pointer (some ⟨T,0,none⟩)
 | 1,v,_,_ => v = .agg X
 | 2,v,_,_ => v = .int .i64 i
 | 3,v,n,_ => v = .int .i64 r ∧ 1 ≤ n
 | 4,v,_,_ => v = .pointer (some ⟨T2,0,none⟩)
 | 5,v,_,_ => v = .agg X
 | 6,v,_,_ => v = .int .i64 i
 | _,v,n,_ => v = .int .i64 r ∧ 2 ≤ n
def ouS (n : Nat) (_ : World) (n' : Nat) (_ : World) : Prop:=n ≤ n'
theorem ouR_keep {T T2 : Nat} {X : Array Value} {i r : Int} (p : Nat) (v : Value) (n : Nat) (u : World) (m : Nat) (w : World) (h : ouR T T2 X i r p v n u) (hb : ouS n u m w) : ouR T T2 X i r p v m w:=by
 unfold ouS at hb
 rcases p with _ | _ | _ | _ | _ | _ | _ | p
 all_goals first
  | exact h
  | exact ⟨h.1,by have:=h.2;omega⟩
def ouC (p3 : Nat) (X : Array Value) (A B C : World → Prop) (n : Nat) (w : World) : Prop:=Blk w p3 52 X ∧ (n = 0 → A w) ∧ (n = 1 → B w) ∧ (2 ≤ n → C w)
theorem wpList_store1 {PP : Program} {ops : Array Oper} {rest : List Oper} {op : Oper} {a : Act} {w : World} {Q : Exit → Act → World → Prop} (hgd : op.guard = none) (ty : TypeId) (x y : Operand) (ho : op.op = .store ty x y)
  (b o : Nat) (v : Value) (hx : a.eval x = .pointer (some ⟨b,o,none⟩)) (hy : a.eval y = v) (h1 : v.oneCell' = true) (hc : (w.cell? ⟨b,o,none⟩).isSome = true) (hf : w.frozen? ⟨b,o,none⟩ = false) (hi : (PP.info? ty).map (·.size) = some 1)
  (h : wpList PP ops Q rest (a.put op.dst undef) (w.setCell ⟨b,o,none⟩ v)) : wpList PP ops Q (op :: rest) a w:=by
 have hst : (storeVar ty ⟨b,o,none⟩ v).run PP w = .ok () (w.setCell ⟨b,o,none⟩ v):=by
  have:=run_storeCells_cells (P:=PP) b o [v] 0 w (fun j hj => by
   have : j = 0:=by simpa using hj
   subst this;simpa using hc) (fun j hj => by
   have : j = 0:=by simpa using hj
   subst this;simpa using hf) (fun u hu => by simp at hu;subst hu;exact h1)
  have hcs : v.cells = #[v]:=by cases v <;> first | rfl | cases h1
  cases hq : PP.info? ty with
  | none => simp [hq] at hi
  | some i =>
    have hs : i.size = 1:=by simpa [hq] using hi
    simp only [Nat.add_zero] at this
    simp [storeVar,sizeOf,typeInfo,hq,hcs,hs,this,World.setCells]
 refine wpList_plain hgd fun K hK => ?_
 unfold Oper.wp execOp
 simp only [ho,hx,hy,Instr.storeAt,Instr.sureAddr,Sem.run_bind,Sem.run_pure,Result.andThen_ok,hst]
 exact hK _ _ h
theorem size_int1 : (Tryz.prog.info? 3).map (·.size) = some 1:=by kernel_rfl
theorem Blk.some1 {w : World} {B : Nat} {t : TypeId} {cs : Array Value} (h : Blk w B t cs) {i : Nat} (hi : i < cs.size) : (w.cell? ⟨B,i,none⟩).isSome = true:=by
 rw [h.cell i,Array.getElem?_eq_getElem hi];rfl
theorem pkE : EI Tryz.prog 45 52 19 144:=EI.mk' (z:=.agg PV.zero.cells) Tryz.underlying45 (by kernel_rfl) rfl (by decide)
theorem size_pk : (Tryz.prog.info? 52).map (·.size) = some 19:=by kernel_rfl
theorem under_pk : Tryz.prog.underlying 52 = some (.struct (Tryz.prog.fieldsOf 52)):=by kernel_rfl
theorem zero_pk : (Tryz.prog.info? 52).map (fun i => (i.size,i.zero.map (fun z => z.cells.size))) = some (19,some 19):=by kernel_rfl
theorem stabT_len (L : List TK) : (stabT L).length = L.length:=by
 unfold stabT
 rw [Array.length_toList,size_insT]
 simp
theorem flowsM_len (tv : TV) (last at_ : Int) (L : List TK) : (flowsM tv last at_ L).length ≤ L.length:=by
 unfold flowsM
 split
 ·rw [stabT_len];exact List.length_filter_le _ _
 ·simp
theorem firstE3 (a b c : Int) : firstE [a,b,c] = if a ≠ 0 then a else if b ≠ 0 then b else c:=by
 by_cases h : a = 0 <;> by_cases h2 : b = 0 <;> by_cases h3 : c = 0 <;> simp [firstE,h,h2,h3]
theorem tnew_two (ad : Option Addr) (n c : Nat) (F : List FR) (tv : TV) (most : Int) (w : World) (h : FlsAt w ad F) (hn : F.length = n) (hs : n ≤ 1000) (hu : ∀ r ∈ F,r.Un) :
  Calls Tryz.prog 7 #[.slice ad n c, .agg tv.cells, .int .i64 most] w fun e w' => ∃ px,e = .returned (.tuple #[.pointer px, .int .i64 (newF F tv most)]) ∧ Below w.heap.size w w' ∧ ((newF F tv most ≠ 0 ∧ px = none) ∨ (newF F tv most = 0 ∧ ∃ T ad' c',px = some ⟨T,0,none⟩ ∧ w.heap.size ≤ T ∧ Blk w' T 80 (trC (.slice ad' n c') tv most 0 (.slice none 0 0)) ∧ FwO w' w.heap.size (.slice ad' n c') F)):=by
 refine (tnew_any ad n c F tv most w h hn hs hu).mono ?_
 rintro e w' ⟨hb,⟨h1,rfl⟩ | ⟨h1,T,ad',c',rfl,h2,h3,h4⟩⟩
 ·exact ⟨none,rfl,hb, .inl ⟨h1,rfl⟩⟩
 ·exact ⟨_,by rw [h1],hb, .inr ⟨h1,T,ad',c',rfl,h2,h3,h4⟩⟩
end Go.Proofs.YthebgfnaomgcnaaGreat
