/-
  A pool with another lease: leased of program and reference.
  The faults of a key and of a number of bits for a lease.
  choose: the free prefix that is taken.
  What a search for a lease gives; TakeOf.
  The generator of right prefixes: what it returns is a right prefix.
  A generator's part of a pool.
-/
import Derived.Test.YteldaicgaeooiaaGreatDoorPK13
import Derived.Test.YteldaicgaeooiaaGreatDoorPK5
import Derived.OwnWalk
import Derived.Deep.Light
import Derived.Test.YteldaicgaeooiaaGreatDoorPK3
import Derived.Test.YteldaicgaeooiaaGreatDoorPK7
set_option linter.unusedVariables false
set_option maxRecDepth 100000
set_option maxHeartbeats 16000000
namespace Go.Proofs.YteldaicgaeooiaaGreatDoor
open Go.RowKit Go Go.Sort
def leasedL (L:List Ls) (key:List UInt8) (x:Pf):List Ls:=stabLs cfKy (L ++ [(key,x)])
theorem leasedL_len (L:List Ls) (key:List UInt8) (x:Pf):(leasedL L key x).length=L.length + 1:=by unfold leasedL;rw [stabLs_len,List.length_append];rfl
def PoolV (w:World) (b:Nat) (v:Value) (P:Pf) (K:List Pf) (L:List Ls):Prop :=
 ∃ a1 c1 a2 c2,v=.agg (plC P (.slice a1 K.length c1) (.slice a2 L.length c2)).toArray∧OwnK layPf w b (.slice a1 K.length c1) K∧OwnK layLs w b (.slice a2 L.length c2) L
theorem PoolV.later {w w':World} {b:Nat} {v:Value} {P:Pf} {K:List Pf} {L:List Ls} (h:PoolV w b v P K L) (hb:Below w.heap.size w w'):PoolV w' b v P K L:=by
 obtain ⟨a1,c1,a2,c2,e,h1,h2⟩:=h
 exact ⟨a1,c1,a2,c2,e,h1.later hb,h2.later hb⟩
theorem PoolV.weak {w:World} {b b':Nat} {v:Value} {P:Pf} {K:List Pf} {L:List Ls} (h:PoolV w b v P K L) (hb:b'≤b):PoolV w b' v P K L:=by
 obtain ⟨a1,c1,a2,c2,e,h1,h2⟩:=h
 exact ⟨a1,c1,a2,c2,e,h1.weak hb,h2.weak hb⟩
theorem Blk.keepS {S:List TypeId} {w w':World} {B:Nat} {t:TypeId} {cs:Array Value} (h:Blk w B t cs) (k:KeepT S w w') (hS:t ∉ S):Blk w' B t cs:=by
 rcases k.2 B h.lt with e | ⟨cur,t2,p,e,ht⟩
 ·exact e.trans h
 ·unfold Blk at h
  rw [h] at e
  injection e with e
  injection e with _ e _
  exact absurd (e ▸ ht) hS
theorem Blk.fillAll {w:World} {B:Nat} {t:TypeId} {cs:Array Value} (h:Blk w B t cs) (vs:List Value) (hl:vs.length=cs.size):Blk (w.setCells B 0 vs) B t vs.toArray:=by
 obtain ⟨cur',h1,h2⟩:=heap_setCells_same vs 0 w cs h
 have hth:w.there B 0 vs.length:=fun j hj => by
  refine ⟨?_,h.free _⟩
  rw [Nat.zero_add,h.cell j,Array.getElem?_eq_getElem (by omega)]
  rfl
 have hr:=World.rangeAt_setCells_same w B 0 vs hth
 have e:cur'=vs.toArray:=by
  apply Array.ext_getElem?
  intro j
  rcases Nat.lt_or_ge j vs.length with hj | hj
  ·have:=hr j _ (List.getElem?_eq_getElem hj)
   rw [Nat.zero_add,cell_of_row _ B j _ _ _ h1] at this
   rw [this,List.getElem?_toArray,List.getElem?_eq_getElem hj]
  ·rw [Array.getElem?_eq_none (by omega),Array.getElem?_eq_none (by simpa using hj)]
 rw [← e]
 exact h1
theorem there_blk {w:World} {B:Nat} {t:TypeId} {cs:Array Value} (h:Blk w B t cs):w.there B 0 cs.size:=fun j hj => by
 refine ⟨?_,frozen_of_row w B _ cs _ h⟩
 rw [h.cell,Array.getElem?_eq_getElem (by omega)]
 rfl
theorem size_pool:(Tryz.prog.info? 34).map (·.size)=some 6:=by kernel_rfl
theorem all_pool (ps:Bool) (ph pl:Nat) (pn:Int) (a1 a2:Option Addr) (n1 c1 n2 c2:Nat):(#[.bool ps, .int .u64 (ph:Int), .int .u64 (pl:Int), .int .i64 pn, .slice a1 n1 c1, .slice a2 n2 c2]:Array Value).all (·.oneCell')=true :=
 all_oneCell_toArray (cs:=[.bool ps, .int .u64 (ph:Int), .int .u64 (pl:Int), .int .i64 pn, .slice a1 n1 c1, .slice a2 n2 c2]) (fun v hv => by simp at hv;rcases hv with rfl | rfl | rfl | rfl | rfl | rfl <;> rfl)
theorem KeepT.of_cells {S:List TypeId} {w:World} {B:Nat} (vs:List Value) {t:TypeId} {cs:Array Value} (h:Blk w B t cs) (ht:t ∈ S) (o:Nat):KeepT S w (w.setCells B o vs):=KeepT.of_grown (grown_setCells B vs o w) h ht
theorem Blk.farCells2 {w:World} {B R:Nat} {t:TypeId} {cs:Array Value} (h:Blk w B t cs) (hne:B ≠ R) (o:Nat) (vs:List Value):Blk (w.setCells R o vs) B t cs :=
 (heap_setCells_other hne vs o w).trans h
def alR (pb:Nat) (ps:Bool) (ph pl:Nat) (pn:Int) (vk vl:Value) (base:Nat) (K:List Pf) (L:List Ls):Nat→Value→World→Prop
 | 0,v,_ => v=.pointer (some ⟨pb,0,none⟩)
 | 1,v,_ => v=.agg #[.bool ps, .int .u64 (ph:Int), .int .u64 (pl:Int), .int .i64 pn]
 | 2,v,_ => v=.pointer (some ⟨pb,4,none⟩)
 | 3,v,_ => v=vk
 | 4,v,w => ∃ a c,v=.slice a K.length c∧OwnK layPf w base v K
 | 5,v,_ => v=.pointer (some ⟨pb,5,none⟩)
 | 6,v,_ => v=vl
 | 7,v,w => ∃ a c,v=.slice a L.length c∧OwnK layLs w base v L
 | 8,v,w => PoolV w base v (ps,ph,pl,pn) K L
 | _,v,w => ∃ B,v=.pointer (some ⟨B,0,none⟩)∧base≤B∧Blk w B 34 #[.bool false, .int .u64 0, .int .u64 0, .int .i64 0, .slice none 0 0, .slice none 0 0]
theorem alR_keep {pb:Nat} {ps:Bool} {ph pl:Nat} {pn:Int} {vk vl:Value} {base:Nat} {K:List Pf} {L:List Ls} (p:Nat) (v:Value) (u w:World) (h:alR pb ps ph pl pn vk vl base K L p v u) (hb:Below u.heap.size u w):alR pb ps ph pl pn vk vl base K L p v w:=by
 rcases p with _ | _ | _ | _ | _ | _ | _ | _ | _ | p
 all_goals first
  | exact h
  | exact PoolV.later h hb
  | (obtain ⟨a,c,h1,h2⟩:=h;exact ⟨a,c,h1,h2.later hb⟩)
  | (obtain ⟨B,h1,h2,h3⟩:=h;exact ⟨B,h1,h2,h3.below hb h3.lt⟩)
theorem aleased_any (P:Pf) (ka la:Option Addr) (kn kc ln lc:Nat) (K:List Pf) (L:List Ls) (key:List UInt8) (x:Pf) (w:World) (hK:RdK layPf w ka K) (hL:RdK layLs w la L) (hkn:K.length=kn) (hln:L.length=ln) (hks:kn≤100) (hls:ln≤11) :
  Calls Tryz.prog 66 #[.agg (plC P (.slice ka kn kc) (.slice la ln lc)).toArray, .string (strL key), .agg (pfC x).toArray] w fun e w' => ∃ v,e=.returned v∧PoolV w' w.heap.size v P K (leasedL L key x)∧Below w.heap.size w w':=by
 have Hkn:=Lib.hid hkn
 have Hln:=Lib.hid hln
 have HCK:=Lib.hid fun wx (hr:RdK layPf wx ka K) => clonePf_any ka kn kc K wx hr hkn (by omega)
 have HCL:=Lib.hid fun wx (hr:RdK layLs wx la L) => cloneLs_any la ln lc L wx hr hln (by omega)
 have HLe:Hid (leasedL L key x=stabLs cfKy (L ++ [(key,x)])):=Lib.hid rfl
 have HLl:=Lib.hid (leasedL_len L key x)
 obtain ⟨ps,ph,pl,pn⟩:=P
 obtain ⟨xs,xh,xl,xn⟩:=x
 rw [show (plC (ps,ph,pl,pn) (.slice ka kn kc) (.slice la ln lc)).toArray=#[.bool ps, .int .u64 (ph:Int), .int .u64 (pl:Int), .int .i64 pn, .slice ka kn kc, .slice la ln lc] from rfl,show (pfC (xs,xh,xl,xn)).toArray=#[.bool xs, .int .u64 (xh:Int), .int .u64 (xl:Int), .int .i64 xn] from rfl]
 have hB01:Below w.heap.size w (((w.alloc (.cells #[.bool ps, .int .u64 (ph:Int), .int .u64 (pl:Int), .int .i64 pn, .slice ka kn kc, .slice la ln lc] 34 (0,0))).alloc (.cells #[.bool xs, .int .u64 (xh:Int), .int .u64 (xl:Int), .int .i64 xn] 30 (0,0))).alloc (.cells #[.bool false, .int .u64 0, .int .u64 0, .int .i64 0, .slice none 0 0, .slice none 0 0] 34 (0,0))):=below_alloc (below_alloc (below_alloc (Below.refl _ _) _) _) _
 have HB01:=Lib.hid hB01
 have HK0:=Lib.hid (hK.below hB01)
 have HL0:=Lib.hid (hL.below hB01)
 have HQ0:Hid (Blk (((w.alloc (.cells #[.bool ps, .int .u64 (ph:Int), .int .u64 (pl:Int), .int .i64 pn, .slice ka kn kc, .slice la ln lc] 34 (0,0))).alloc (.cells #[.bool xs, .int .u64 (xh:Int), .int .u64 (xl:Int), .int .i64 xn] 30 (0,0))).alloc (.cells #[.bool false, .int .u64 0, .int .u64 0, .int .i64 0, .slice none 0 0, .slice none 0 0] 34 (0,0))) w.heap.size 34 #[.bool ps, .int .u64 (ph:Int), .int .u64 (pl:Int), .int .i64 pn, .slice ka kn kc, .slice la ln lc]):=Lib.hid (((Blk.new w _ _).alloc _).alloc _)
 have HX0:Hid (Blk (((w.alloc (.cells #[.bool ps, .int .u64 (ph:Int), .int .u64 (pl:Int), .int .i64 pn, .slice ka kn kc, .slice la ln lc] 34 (0,0))).alloc (.cells #[.bool xs, .int .u64 (xh:Int), .int .u64 (xl:Int), .int .i64 xn] 30 (0,0))).alloc (.cells #[.bool false, .int .u64 0, .int .u64 0, .int .i64 0, .slice none 0 0, .slice none 0 0] 34 (0,0))) (w.heap.size + 1) 30 #[.bool xs, .int .u64 (xh:Int), .int .u64 (xl:Int), .int .i64 xn]):=Lib.hid (by
  have this:=(Blk.new (w.alloc (.cells #[.bool ps, .int .u64 (ph:Int), .int .u64 (pl:Int), .int .i64 pn, .slice ka kn kc, .slice la ln lc] 34 (0,0))) 30 #[.bool xs, .int .u64 (xh:Int), .int .u64 (xl:Int), .int .i64 xn]).alloc (.cells #[.bool false, .int .u64 0, .int .u64 0, .int .i64 0, .slice none 0 0, .slice none 0 0] 34 (0,0))
  rw [World.size_alloc] at this
  exact this)
 have HZ0:Hid (Blk (((w.alloc (.cells #[.bool ps, .int .u64 (ph:Int), .int .u64 (pl:Int), .int .i64 pn, .slice ka kn kc, .slice la ln lc] 34 (0,0))).alloc (.cells #[.bool xs, .int .u64 (xh:Int), .int .u64 (xl:Int), .int .i64 xn] 30 (0,0))).alloc (.cells #[.bool false, .int .u64 0, .int .u64 0, .int .i64 0, .slice none 0 0, .slice none 0 0] 34 (0,0))) (w.heap.size + 2) 34 #[.bool false, .int .u64 0, .int .u64 0, .int .i64 0, .slice none 0 0, .slice none 0 0]):=Lib.hid (by
  have this:=Blk.new ((w.alloc (.cells #[.bool ps, .int .u64 (ph:Int), .int .u64 (pl:Int), .int .i64 pn, .slice ka kn kc, .slice la ln lc] 34 (0,0))).alloc (.cells #[.bool xs, .int .u64 (xh:Int), .int .u64 (xl:Int), .int .i64 xn] 30 (0,0))) 34 #[.bool false, .int .u64 0, .int .u64 0, .int .i64 0, .slice none 0 0, .slice none 0 0]
  rw [World.size_alloc,World.size_alloc] at this
  exact this)
 clear hK hL hB01 hkn hln
 go_enter Tryz.func66,Tryz.ntmps66
 go_upto_region 1 with fail
 generalize (((w.alloc (.cells #[.bool ps, .int .u64 (ph:Int), .int .u64 (pl:Int), .int .i64 pn, .slice ka kn kc, .slice la ln lc] 34 (0,0))).alloc (.cells #[.bool xs, .int .u64 (xh:Int), .int .u64 (xl:Int), .int .i64 xn] 30 (0,0))).alloc (.cells #[.bool false, .int .u64 0, .int .u64 0, .int .i64 0, .slice none 0 0, .slice none 0 0] 34 (0,0)))=w1 at *
 obtain ⟨pb,hpb⟩:∃ q,w.heap.size=q:=⟨_,rfl⟩
 have Hpw:Hid (w.heap.size≤pb):=Lib.hid (by omega)
 rw [hpb] at HQ0 HX0 HZ0 ⊢
 clear hpb
 have p0:=HQ0.out.cell 0
 have p1:=HQ0.out.cell 1
 have p2:=HQ0.out.cell 2
 have p3:=HQ0.out.cell 3
 have p4:=HQ0.out.cell 4
 have p5:=HQ0.out.cell 5
 simp at p0 p1 p2 p3 p4 p5
 have l0:=Later.cell_of p0
 have l1:=Later.cell_of p1
 have l2:=Later.cell_of p2
 have l3:=Later.cell_of p3
 have l4:=Later.cell_of p4
 have l5:=Later.cell_of p5
 refine wp_region_inv 10 0 (alR pb ps ph pl pn (.slice ka kn kc) (.slice la ln lc) w1.heap.size K L) (fun _ wx => Below w1.heap.size w1 wx) (fun u v => Below u.heap.size u v) (fun _ => 0)
  (by kernel_rfl) (by kernel_rfl) (by decide) alR_keep (below_drew (Below.refl _ _)) ?hX
 case' hX => (apply Exists.intro;refine ⟨fun T => ?hA,?hob,?hend⟩)
 case hA =>
  simp only [setAll,List.take_succ_cons,List.take_zero,Act.put,List.setIfInBounds_toArray,List.set_cons_succ,List.set_cons_zero,Nat.reduceAdd]
  exact rfl
 case hob =>
  clear HQ0 HX0 HZ0 p0 p1 p2 p3 p4 p5 HLe HLl
  go_light
  refine ⟨?_,?_,?_,?_,?_,?_,?_,?_,?_,?_,trivial⟩
  all_goals (intro T wx n0 hC hn hp;dsimp only at hn ⊢;unfold Op1)
  ·go_simp
   exact ⟨rfl,Below.refl _ _⟩
  ·obtain ⟨h0, -⟩:=hp
   have h0:T 0=.pointer (some ⟨pb,0,none⟩):=h0
   have e0:=l0 ⟨wx,hC⟩
   have e1:=l1 ⟨wx,hC⟩
   have e2:=l2 ⟨wx,hC⟩
   have e3:=l3 ⟨wx,hC⟩
   simp only at e0 e1 e2 e3
   go_simp
   exact ⟨rfl,Below.refl _ _⟩
  ·go_simp
   exact ⟨rfl,Below.refl _ _⟩
  ·obtain ⟨h0, -⟩:=hp
   have h0:T 2=.pointer (some ⟨pb,4,none⟩):=h0
   have e4:=l4 ⟨wx,hC⟩
   simp only at e4
   go_simp
   exact ⟨rfl,Below.refl _ _⟩
  ·obtain ⟨h0, -⟩:=hp
   have h0:T 3=.slice ka kn kc:=h0
   go_simp
   refine (HCK.out wx (HK0.out.below hC)).mono ?_
   rintro e w5 ⟨v,rfl,hO,hb⟩
   obtain ⟨a5,c5,rfl,_⟩:=hO.form
   exact ⟨_,rfl,⟨_,_,rfl,hO.weak hC.size⟩,hC.trans (hb.mono hC.size),hb⟩
  ·go_simp
   exact ⟨rfl,Below.refl _ _⟩
  ·obtain ⟨h0, -⟩:=hp
   have h0:T 5=.pointer (some ⟨pb,5,none⟩):=h0
   have e5:=l5 ⟨wx,hC⟩
   simp only at e5
   go_simp
   exact ⟨rfl,Below.refl _ _⟩
  ·obtain ⟨h0, -⟩:=hp
   have h0:T 6=.slice la ln lc:=h0
   go_simp
   refine (HCL.out wx (HL0.out.below hC)).mono ?_
   rintro e w5 ⟨v,rfl,hO,hb⟩
   obtain ⟨a5,c5,rfl,_⟩:=hO.form
   exact ⟨_,rfl,⟨_,_,rfl,hO.weak hC.size⟩,hC.trans (hb.mono hC.size),hb⟩
  ·obtain ⟨h0,h1,h2, -⟩:=hp
   have h0:T 1=.agg #[.bool ps, .int .u64 (ph:Int), .int .u64 (pl:Int), .int .i64 pn]:=h0
   obtain ⟨a1,c1,h1,q1⟩:∃ a c,T 4=.slice a K.length c∧OwnK layPf wx w1.heap.size (T 4) K:=h1
   obtain ⟨a2,c2,h2,q2⟩:∃ a c,T 7=.slice a L.length c∧OwnK layLs wx w1.heap.size (T 7) L:=h2
   rw [h1] at q1
   rw [h2] at q2
   have HV:Hid (PoolV wx w1.heap.size (.agg #[.bool ps, .int .u64 (ph:Int), .int .u64 (pl:Int), .int .i64 pn, .slice a1 K.length c1, .slice a2 L.length c2]) (ps,ph,pl,pn) K L):=Lib.hid ⟨a1,c1,a2,c2,rfl,q1,q2⟩
   clear q1 q2
   go_simp
   exact ⟨HV.out,Below.refl _ _⟩
  ·go_simp
   exact ⟨⟨wx.heap.size,rfl,hC.size,Blk.new wx _ _⟩,below_alloc hC _,below_alloc (Below.refl _ _) _⟩
 case hend =>
  intro T w4 ⟨n0,hn0,hb⟩ hR
  obtain ⟨a1,c1,a2,c2,hv,q1,q2⟩:PoolV w4 w1.heap.size (T 8) (ps,ph,pl,pn) K L:=hR 8 (by omega)
  obtain ⟨B,h9,hBg,hBl⟩:∃ B,T 9=.pointer (some ⟨B,0,none⟩)∧w1.heap.size≤B∧Blk w4 B 34 #[.bool false, .int .u64 0, .int .u64 0, .int .i64 0, .slice none 0 0, .slice none 0 0]:=hR 9 (by omega)
  rw [show (plC (ps,ph,pl,pn) (.slice a1 K.length c1) (.slice a2 L.length c2)).toArray=#[.bool ps, .int .u64 (ph:Int), .int .u64 (pl:Int), .int .i64 pn, .slice a1 K.length c1, .slice a2 L.length c2] from rfl] at hv
  have HTH:=Lib.hid (there_blk hBl)
  have HA1:=Lib.hid (all_pool ps ph pl pn a1 a2 K.length c1 L.length c2)
  have hk5:=KeepT.of_cells (S:=[34]) [.bool ps, .int .u64 (ph:Int), .int .u64 (pl:Int), .int .i64 pn, .slice a1 K.length c1, .slice a2 L.length c2] hBl (by simp) 0
  have HB5:Hid (Below w1.heap.size w1 (w4.setCells B 0 [.bool ps, .int .u64 (ph:Int), .int .u64 (pl:Int), .int .i64 pn, .slice a1 K.length c1, .slice a2 L.length c2])):=Lib.hid (hb.grown (grown_setCells B _ 0 w4) hb.size (fun j hj => by injection hj with hj;omega))
  have HOK5:=Lib.hid (q1.keepT hk5 (by decide))
  have HOL5:=Lib.hid (q2.keepT hk5 (by decide))
  have HBl5:=Lib.hid (hBl.fillAll [.bool ps, .int .u64 (ph:Int), .int .u64 (pl:Int), .int .i64 pn, .slice a1 K.length c1, .slice a2 L.length c2] rfl)
  have HX4:=Lib.hid (HX0.out.below hb HX0.out.lt)
  have HX5:=Lib.hid (HX4.out.keepS hk5 (by decide))
  have HZ4:=Lib.hid (HZ0.out.below hb HZ0.out.lt)
  have HZ5:=Lib.hid (HZ4.out.farCells2 (show pb + 2 ≠ B by have:=HZ0.out.lt;omega) 0 [.bool ps, .int .u64 (ph:Int), .int .u64 (pl:Int), .int .i64 pn, .slice a1 K.length c1, .slice a2 L.length c2])
  have HBne:Hid (pb + 2 < B):=Lib.hid (by have:=HZ0.out.lt;omega)
  clear hR hb q1 q2 hk5 hBl p0 p1 p2 p3 p4 p5 l0 l1 l2 l3 l4 l5 HX4 HZ4 HQ0 HX0 HZ0
  simp only [List.drop_succ_cons,List.drop_zero]
  rw [hv,h9]
  go_upto_region 2 with (refine wpList_store_mid rfl 34 _ _ rfl B 0 #[.bool ps, .int .u64 (ph:Int), .int .u64 (pl:Int), .int .i64 pn, .slice a1 K.length c1, .slice a2 L.length c2] rfl rfl HTH.out size_pool HA1.out ?_;show wpList _ _ _ _ _ (w4.setCells B 0 [.bool ps, .int .u64 (ph:Int), .int .u64 (pl:Int), .int .i64 pn, .slice a1 K.length c1, .slice a2 L.length c2]))
  generalize w4.setCells B 0 [.bool ps, .int .u64 (ph:Int), .int .u64 (pl:Int), .int .i64 pn, .slice a1 K.length c1, .slice a2 L.length c2]=w5 at *
  have HV0:Hid (Blk w5 B 34 #[.bool ps, .int .u64 (ph:Int), .int .u64 (pl:Int), .int .i64 pn, .slice a1 K.length c1, .slice a2 L.length c2]):=HBl5
  clear HBl5 HTH HA1
  have HLL:Hid (L.length≤11):=Lib.hid (by have:=Hln.out;omega)
  have hKl:K.length≤100:=by have:=Hkn.out;omega
  have v5:=HV0.out.cell 5
  simp at v5
  have x0:=HX5.out.cell 0
  have x1:=HX5.out.cell 1
  have x2:=HX5.out.cell 2
  have x3:=HX5.out.cell 3
  simp at x0 x1 x2 x3
  generalize hkl:K.length=kl at *
  generalize hll:L.length=ll at *
  have HXe:Hid ((layLs.enc (key,(xs,xh,xl,xn))).toArray=#[.string (strL key), .bool xs, .int .u64 (xh:Int), .int .u64 (xl:Int), .int .i64 xn]):=Lib.hid rfl
  generalize strL key=KY at *
  go_wp2_with (at_builtin;refine wpList_app lsE rfl (.tmp 18) (.tmp 22) rfl rfl (World.ownsRow.alloc HOL5.out _) rfl (src_new layLs _ (key,(xs,xh,xl,xn)) _ _ ?c0) ?c1 ?c2 ?c3 ?c4 ?_)
  case c0 => first | rfl | exact HXe.out.symm
  case c1 => exact layLs.one _
  case c2 => have:=HLL.out;unfold maxLen;omega
  case c3 => have:=HLL.out;omega
  case c4 => have:=HB5.out.size;simp;omega
  intro v' w6 hO hG
  have hO6:OwnK layLs w6 w1.heap.size v' (L ++ [(key,(xs,xh,xl,xn))]):=OwnK.snoc (by rw [hll];exact hO)
  have hk6:=KeepT.of_grew (S:=[67]) HOL5.out hG.allocFirst (by decide)
  have HB6:=Lib.hid (HB5.out.trans (hG.allocFirst.below HB5.out.size (own_base HOL5.out)))
  obtain ⟨a6,c6,rfl, -, -, -⟩:=hO6.form
  have hln6:(L ++ [(key,(xs,xh,xl,xn))]).length=ll + 1:=by rw [List.length_append,hll];rfl
  rw [hln6] at hO6 ⊢
  have HO6:=Lib.hid hO6
  have HV6:=Lib.hid (HV0.out.keepS hk6 (by decide))
  have HOK6:=Lib.hid (HOK5.out.keepT hk6 (by decide))
  have HZ6:=Lib.hid (HZ5.out.keepS hk6 (by decide))
  have HLM:=Lib.hid hln6
  clear hO hG hO6 hk6 hln6 HB5 HOK5 HOL5 HZ5 HX5 HV0 v5 x0 x1 x2 x3 HXe
  have HV7:Hid (Blk (w6.setCell ⟨B,5,none⟩ (.slice a6 (ll + 1) c6)) B 34 #[.bool ps, .int .u64 (ph:Int), .int .u64 (pl:Int), .int .i64 pn, .slice a1 kl c1, .slice a6 (ll + 1) c6]):=Lib.hid (HV6.out.set 5 _)
  have hk7:=KeepT.of_set (S:=[34]) (i:=5) (v:=.slice a6 (ll + 1) c6) HV6.out (by simp)
  have HO7:=Lib.hid (HO6.out.keepT hk7 (by decide))
  have HOK7:=Lib.hid (HOK6.out.keepT hk7 (by decide))
  have HZ7:=Lib.hid (HZ6.out.far (show pb + 2 ≠ B by have:=HBne.out;omega) 5 (.slice a6 (ll + 1) c6))
  have HB7:Hid (Below w1.heap.size w1 (w6.setCell ⟨B,5,none⟩ (.slice a6 (ll + 1) c6))):=Lib.hid (HB6.out.grown (grown_setCells B [.slice a6 (ll + 1) c6] 5 w6) HB6.out.size (fun j hj => by injection hj with hj;omega))
  clear hk7
  have u5:=HV6.out.cell 5
  have uf:=HV6.out.free
  simp at u5
  go_upto_region 3 with fail
  generalize w6.setCell ⟨B,5,none⟩ (.slice a6 (ll + 1) c6)=w7 at *
  clear HV6 HOK6 HZ6 HB6 HO6 u5 uf
  have egs:∀ args w,(callFunc 117 args).run Tryz.prog w=.ok (.enter 117 args) w:=Go.Proofs.enters_of Tryz.func117 (by kernel_rfl) rfl
  have HS:=Lib.hid (sortLs_any cfKy 117 cfKy rfl egs cka_any w1.heap.size (ll + 1) c6 a6 (L ++ [(key,(xs,xh,xl,xn))]) w7 HO7.out (by have:=HLL.out;omega))
  rw [← HLe.out] at HS
  clear egs
  have v5:=HV7.out.cell 5
  simp at v5
  go_wp2_with fail
  refine HS.out.mono ?_
  rintro e w8 ⟨rfl,ho,hG⟩
  have hk8:=KeepT.of_grew (S:=[67]) HO7.out hG (by decide)
  have HO8:=Lib.hid ho
  have HB8:=Lib.hid (HB7.out.trans (hG.below HB7.out.size (own_base HO7.out)))
  have HV8:=Lib.hid (HV7.out.keepS hk8 (by decide))
  have HOK8:=Lib.hid (HOK7.out.keepT hk8 (by decide))
  have HZ8:=Lib.hid (HZ7.out.keepS hk8 (by decide))
  clear ho hG hk8 HV7 HOK7 HZ7 HB7 HO7 HS v5
  have v0:=HV8.out.cell 0
  have v1:=HV8.out.cell 1
  have v2:=HV8.out.cell 2
  have v3:=HV8.out.cell 3
  have v4:=HV8.out.cell 4
  have v5:=HV8.out.cell 5
  simp at v0 v1 v2 v3 v4 v5
  have HTH:=Lib.hid (there_blk HZ8.out)
  have HA1:=Lib.hid (all_pool ps ph pl pn a1 a6 kl c1 (ll + 1) c6)
  have HZ9:=HZ8.out.fillAll [.bool ps, .int .u64 (ph:Int), .int .u64 (pl:Int), .int .i64 pn, .slice a1 kl c1, .slice a6 (ll + 1) c6] rfl
  have hk9:=KeepT.of_cells (S:=[34]) [.bool ps, .int .u64 (ph:Int), .int .u64 (pl:Int), .int .i64 pn, .slice a1 kl c1, .slice a6 (ll + 1) c6] HZ8.out (by simp) 0
  have HP9:Hid (PoolV (w8.setCells (pb + 2) 0 [.bool ps, .int .u64 (ph:Int), .int .u64 (pl:Int), .int .i64 pn, .slice a1 kl c1, .slice a6 (ll + 1) c6]) w1.heap.size (.agg #[.bool ps, .int .u64 (ph:Int), .int .u64 (pl:Int), .int .i64 pn, .slice a1 kl c1, .slice a6 (ll + 1) c6]) (ps,ph,pl,pn) K (leasedL L key (xs,xh,xl,xn))):=Lib.hid ⟨a1,c1,a6,c6,by rw [HLl.out,hkl] <;> rfl,by rw [hkl];exact HOK8.out.keepT hk9 (by decide),by rw [HLl.out];exact HO8.out.keepT hk9 (by decide)⟩
  have HB9:Hid (Below w.heap.size w (w8.setCells (pb + 2) 0 [.bool ps, .int .u64 (ph:Int), .int .u64 (pl:Int), .int .i64 pn, .slice a1 kl c1, .slice a6 (ll + 1) c6])):=Lib.hid ((HB01.out.trans (HB8.out.mono HB01.out.size)).grown (grown_setCells (pb + 2) _ 0 w8) (Nat.le_trans HB01.out.size HB8.out.size) (fun j hj => by injection hj with hj;have:=Hpw.out;omega))
  have z0:=HZ9.cell 0
  have z1:=HZ9.cell 1
  have z2:=HZ9.cell 2
  have z3:=HZ9.cell 3
  have z4:=HZ9.cell 4
  have z5:=HZ9.cell 5
  simp at z0 z1 z2 z3 z4 z5
  clear HZ9 hk9
  go_wp2_with (refine wpList_store_mid rfl 34 _ _ rfl (pb + 2) 0 #[.bool ps, .int .u64 (ph:Int), .int .u64 (pl:Int), .int .i64 pn, .slice a1 kl c1, .slice a6 (ll + 1) c6] rfl rfl HTH.out size_pool HA1.out ?_;show wpList _ _ _ _ _ (w8.setCells (pb + 2) 0 [.bool ps, .int .u64 (ph:Int), .int .u64 (pl:Int), .int .i64 pn, .slice a1 kl c1, .slice a6 (ll + 1) c6]))
  refine bodyPost_ret (v:=.agg #[.bool ps, .int .u64 (ph:Int), .int .u64 (pl:Int), .int .i64 pn, .slice a1 kl c1, .slice a6 (ll + 1) c6]) (by simp [results,Tryz.results66,go_sem, *]) rfl ⟨_,rfl,HP9.out.weak HB01.out.size,HB9.out⟩
def qlR (pb:Nat) (vl:Value) (ky:Value) (xs:Bool) (xh xl:Nat) (xn:Int) (lv:Array Value) (base:Nat) (L:List Ls):Nat→Value→World→Prop
 | 0,v,_ => v=.pointer (some ⟨pb,5,none⟩)
 | 1,v,_ => v=vl
 | 2,v,w => ∃ a c,v=.slice a L.length c∧OwnK layLs w base v L
 | 3,v,_ => v=ky
 | 4,v,_ => v=.agg #[.bool xs, .int .u64 (xh:Int), .int .u64 (xl:Int), .int .i64 xn]
 | 5,v,_ => v=.agg lv
 | _,v,w => ∃ B,v=.slice (some ⟨B,0,none⟩) 1 1∧Blk w B 67 lv
theorem qlR_keep {pb:Nat} {vl ky:Value} {xs:Bool} {xh xl:Nat} {xn:Int} {lv:Array Value} {base:Nat} {L:List Ls} (p:Nat) (v:Value) (u w:World) (h:qlR pb vl ky xs xh xl xn lv base L p v u) (hb:Below u.heap.size u w):qlR pb vl ky xs xh xl xn lv base L p v w:=by
 rcases p with _ | _ | _ | _ | _ | _ | p
 all_goals first
  | exact h
  | (obtain ⟨a,c,h1,h2⟩:=h;exact ⟨a,c,h1,h2.later hb⟩)
  | (obtain ⟨B,h1,h2⟩:=h;exact ⟨B,h1,h2.below hb h2.lt⟩)
theorem qleased_any (P:Pf) (ka la:Option Addr) (kn kc ln lc:Nat) (K:List Pf) (L:List Ls) (key:List UInt8) (x:Pf) (w:World) (hK:RdK layPf w ka K) (hL:RdK layLs w la L) (hkn:K.length=kn) (hln:L.length=ln) (hks:kn≤100) (hls:ln≤11) :
  Calls Tryz.prog 58 #[.agg (plC P (.slice ka kn kc) (.slice la ln lc)).toArray, .string (strL key), .agg (pfC x).toArray] w fun e w' => ∃ v,e=.returned v∧PoolV w' w.heap.size v P K (leasedL L key x)∧Below w.heap.size w w':=by
 have HKw:=Lib.hid hK
 have Hkn:=Lib.hid hkn
 have Hln:=Lib.hid hln
 have HCK:=Lib.hid fun wx (hr:RdK layPf wx ka K) => clonePf_any ka kn kc K wx hr hkn (by omega)
 have HCL:=Lib.hid fun wx (hr:RdK layLs wx la L) => cloneLs_any la ln lc L wx hr hln (by omega)
 have HLe:Hid (leasedL L key x=stabLs cfKy (L ++ [(key,x)])):=Lib.hid rfl
 have HLl:=Lib.hid (leasedL_len L key x)
 obtain ⟨ps,ph,pl,pn⟩:=P
 obtain ⟨xs,xh,xl,xn⟩:=x
 rw [show (plC (ps,ph,pl,pn) (.slice ka kn kc) (.slice la ln lc)).toArray=#[.bool ps, .int .u64 (ph:Int), .int .u64 (pl:Int), .int .i64 pn, .slice ka kn kc, .slice la ln lc] from rfl,show (pfC (xs,xh,xl,xn)).toArray=#[.bool xs, .int .u64 (xh:Int), .int .u64 (xl:Int), .int .i64 xn] from rfl]
 have hB01:Below w.heap.size w (((w.alloc (.cells #[.bool ps, .int .u64 (ph:Int), .int .u64 (pl:Int), .int .i64 pn, .slice ka kn kc, .slice la ln lc] 34 (0,0))).alloc (.cells #[.bool xs, .int .u64 (xh:Int), .int .u64 (xl:Int), .int .i64 xn] 30 (0,0))).alloc (.cells #[.bool false, .int .u64 0, .int .u64 0, .int .i64 0, .slice none 0 0, .slice none 0 0] 34 (0,0))):=below_alloc (below_alloc (below_alloc (Below.refl _ _) _) _) _
 have HB01:=Lib.hid hB01
 have HK0:=Lib.hid (hK.below hB01)
 have HL0:=Lib.hid (hL.below hB01)
 have HQ0:Hid (Blk (((w.alloc (.cells #[.bool ps, .int .u64 (ph:Int), .int .u64 (pl:Int), .int .i64 pn, .slice ka kn kc, .slice la ln lc] 34 (0,0))).alloc (.cells #[.bool xs, .int .u64 (xh:Int), .int .u64 (xl:Int), .int .i64 xn] 30 (0,0))).alloc (.cells #[.bool false, .int .u64 0, .int .u64 0, .int .i64 0, .slice none 0 0, .slice none 0 0] 34 (0,0))) w.heap.size 34 #[.bool ps, .int .u64 (ph:Int), .int .u64 (pl:Int), .int .i64 pn, .slice ka kn kc, .slice la ln lc]):=Lib.hid (((Blk.new w _ _).alloc _).alloc _)
 have HX0:Hid (Blk (((w.alloc (.cells #[.bool ps, .int .u64 (ph:Int), .int .u64 (pl:Int), .int .i64 pn, .slice ka kn kc, .slice la ln lc] 34 (0,0))).alloc (.cells #[.bool xs, .int .u64 (xh:Int), .int .u64 (xl:Int), .int .i64 xn] 30 (0,0))).alloc (.cells #[.bool false, .int .u64 0, .int .u64 0, .int .i64 0, .slice none 0 0, .slice none 0 0] 34 (0,0))) (w.heap.size + 1) 30 #[.bool xs, .int .u64 (xh:Int), .int .u64 (xl:Int), .int .i64 xn]):=Lib.hid (by
  have this:=(Blk.new (w.alloc (.cells #[.bool ps, .int .u64 (ph:Int), .int .u64 (pl:Int), .int .i64 pn, .slice ka kn kc, .slice la ln lc] 34 (0,0))) 30 #[.bool xs, .int .u64 (xh:Int), .int .u64 (xl:Int), .int .i64 xn]).alloc (.cells #[.bool false, .int .u64 0, .int .u64 0, .int .i64 0, .slice none 0 0, .slice none 0 0] 34 (0,0))
  rw [World.size_alloc] at this
  exact this)
 have HZ0:Hid (Blk (((w.alloc (.cells #[.bool ps, .int .u64 (ph:Int), .int .u64 (pl:Int), .int .i64 pn, .slice ka kn kc, .slice la ln lc] 34 (0,0))).alloc (.cells #[.bool xs, .int .u64 (xh:Int), .int .u64 (xl:Int), .int .i64 xn] 30 (0,0))).alloc (.cells #[.bool false, .int .u64 0, .int .u64 0, .int .i64 0, .slice none 0 0, .slice none 0 0] 34 (0,0))) (w.heap.size + 2) 34 #[.bool false, .int .u64 0, .int .u64 0, .int .i64 0, .slice none 0 0, .slice none 0 0]):=Lib.hid (by
  have this:=Blk.new ((w.alloc (.cells #[.bool ps, .int .u64 (ph:Int), .int .u64 (pl:Int), .int .i64 pn, .slice ka kn kc, .slice la ln lc] 34 (0,0))).alloc (.cells #[.bool xs, .int .u64 (xh:Int), .int .u64 (xl:Int), .int .i64 xn] 30 (0,0))) 34 #[.bool false, .int .u64 0, .int .u64 0, .int .i64 0, .slice none 0 0, .slice none 0 0]
  rw [World.size_alloc,World.size_alloc] at this
  exact this)
 clear hK hL hB01 hkn hln
 have HXe:Hid ((layLs.enc (key,(xs,xh,xl,xn))).toArray=#[.string (strL key), .bool xs, .int .u64 (xh:Int), .int .u64 (xl:Int), .int .i64 xn]):=Lib.hid rfl
 go_enter Tryz.func58,Tryz.ntmps58
 go_upto_region 1 with fail
 generalize (((w.alloc (.cells #[.bool ps, .int .u64 (ph:Int), .int .u64 (pl:Int), .int .i64 pn, .slice ka kn kc, .slice la ln lc] 34 (0,0))).alloc (.cells #[.bool xs, .int .u64 (xh:Int), .int .u64 (xl:Int), .int .i64 xn] 30 (0,0))).alloc (.cells #[.bool false, .int .u64 0, .int .u64 0, .int .i64 0, .slice none 0 0, .slice none 0 0] 34 (0,0)))=w1 at *
 obtain ⟨pb,hpb⟩:∃ q,w.heap.size=q:=⟨_,rfl⟩
 have Hpw:Hid (w.heap.size≤pb):=Lib.hid (by omega)
 rw [hpb] at HQ0 HX0 HZ0 ⊢
 clear hpb HK0
 generalize strL key=KY at *
 have p5:=HQ0.out.cell 5
 simp at p5
 have x0:=HX0.out.cell 0
 have x1:=HX0.out.cell 1
 have x2:=HX0.out.cell 2
 have x3:=HX0.out.cell 3
 simp at x0 x1 x2 x3
 have l5:=Later.cell_of p5
 have m0:=Later.cell_of x0
 have m1:=Later.cell_of x1
 have m2:=Later.cell_of x2
 have m3:=Later.cell_of x3
 refine wp_region_inv 7 0 (qlR pb (.slice la ln lc) (.string KY) xs xh xl xn #[.string KY, .bool xs, .int .u64 (xh:Int), .int .u64 (xl:Int), .int .i64 xn] w1.heap.size L) (fun _ wx => Below w1.heap.size w1 wx) (fun u v => Below u.heap.size u v) (fun _ => 0)
  (by kernel_rfl) (by kernel_rfl) (by decide) qlR_keep (below_drew (Below.refl _ _)) ?hX
 case' hX => (apply Exists.intro;refine ⟨fun T => ?hA,?hob,?hend⟩)
 case hA =>
  simp only [setAll,List.take_succ_cons,List.take_zero,Act.put,List.setIfInBounds_toArray,List.set_cons_succ,List.set_cons_zero,Nat.reduceAdd]
  exact rfl
 case hob =>
  clear HQ0 HX0 HZ0 p5 x0 x1 x2 x3 HLe HLl HXe
  go_light
  refine ⟨?_,?_,?_,?_,?_,?_,?_,trivial⟩
  all_goals (intro T wx n0 hC hn hp;dsimp only at hn ⊢;unfold Op1)
  ·go_simp
   exact ⟨rfl,Below.refl _ _⟩
  ·obtain ⟨h0, -⟩:=hp
   have h0:T 0=.pointer (some ⟨pb,5,none⟩):=h0
   have e5:=l5 ⟨wx,hC⟩
   simp only at e5
   go_simp
   exact ⟨rfl,Below.refl _ _⟩
  ·obtain ⟨h0, -⟩:=hp
   have h0:T 1=.slice la ln lc:=h0
   go_simp
   refine (HCL.out wx (HL0.out.below hC)).mono ?_
   rintro e w5 ⟨v,rfl,hO,hb⟩
   obtain ⟨a5,c5,rfl,_⟩:=hO.form
   exact ⟨_,rfl,⟨_,_,rfl,hO.weak hC.size⟩,hC.trans (hb.mono hC.size),hb⟩
  ·go_simp
   exact ⟨rfl,Below.refl _ _⟩
  ·have e0:=m0 ⟨wx,hC⟩
   have e1:=m1 ⟨wx,hC⟩
   have e2:=m2 ⟨wx,hC⟩
   have e3:=m3 ⟨wx,hC⟩
   simp only at e0 e1 e2 e3
   go_simp
   exact ⟨rfl,Below.refl _ _⟩
  ·obtain ⟨h0,h1, -⟩:=hp
   have h0:T 3=.string KY:=h0
   have h1:T 4=.agg #[.bool xs, .int .u64 (xh:Int), .int .u64 (xl:Int), .int .i64 xn]:=h1
   go_simp
   exact ⟨rfl,Below.refl _ _⟩
  ·obtain ⟨h0, -⟩:=hp
   have h0:T 5=.agg #[.string KY, .bool xs, .int .u64 (xh:Int), .int .u64 (xl:Int), .int .i64 xn]:=h0
   go_simp
   exact ⟨⟨wx.heap.size,rfl,Blk.new wx _ _⟩,below_alloc hC _,below_alloc (Below.refl _ _) _⟩
 case hend =>
  intro T w4 ⟨n0,hn0,hb⟩ hR
  obtain ⟨a2,c2,hv2,q2⟩:∃ a c,T 2=.slice a L.length c∧OwnK layLs w4 w1.heap.size (T 2) L:=hR 2 (by omega)
  obtain ⟨B,h6,hBl⟩:∃ B,T 6=.slice (some ⟨B,0,none⟩) 1 1∧Blk w4 B 67 #[.string KY, .bool xs, .int .u64 (xh:Int), .int .u64 (xl:Int), .int .i64 xn]:=hR 6 (by omega)
  have HO4:=Lib.hid q2
  have HB4:=Lib.hid hb
  have HBl:=Lib.hid hBl
  have HLL:Hid (L.length≤11):=Lib.hid (by have:=Hln.out;omega)
  clear hR hb q2 hBl p5 x0 x1 x2 x3 l5 m0 m1 m2 m3 hv2 HX0
  simp only [List.drop_succ_cons,List.drop_zero]
  refine wpList_app (c:=1) lsE rfl (.tmp 9) (.tmp 13) rfl ?hs HO4.out ?hx (src_blk layLs (key,(xs,xh,xl,xn)) HBl.out ?hy) ?c1 ?c2 ?c3 ?c4 ?_
  case hs => rfl
  case hx => exact h6
  case hy => exact HXe.out.symm
  case c1 => exact layLs.one _
  case c2 => have:=HLL.out;unfold maxLen;omega
  case c3 => have:=HLL.out;omega
  case c4 => exact HB4.out.size
  intro v' w6 hO hG
  have hO6:OwnK layLs w6 w1.heap.size v' (L ++ [(key,(xs,xh,xl,xn))]):=OwnK.snoc hO
  have hb6:=HB4.out.trans (hG.below HB4.out.size (own_base HO4.out))
  have HB6:=Lib.hid (HB01.out.trans (hb6.mono HB01.out.size))
  obtain ⟨a6,c6,rfl, -, -, -⟩:=hO6.form
  generalize hll:L.length=ll at *
  have hln6:(L ++ [(key,(xs,xh,xl,xn))]).length=ll + 1:=by rw [List.length_append,hll];rfl
  rw [hln6] at hO6 ⊢
  have HO6:=Lib.hid hO6
  have HQ6:=Lib.hid (HQ0.out.below hb6 HQ0.out.lt)
  have HZ6:=Lib.hid (HZ0.out.below hb6 HZ0.out.lt)
  clear hO hG hO6 hln6 hb6 HB4 HO4 HBl HQ0 HZ0 HXe h6
  have HQ7:Hid (Blk (w6.setCell ⟨pb,5,none⟩ (.slice a6 (ll + 1) c6)) pb 34 #[.bool ps, .int .u64 (ph:Int), .int .u64 (pl:Int), .int .i64 pn, .slice ka kn kc, .slice a6 (ll + 1) c6]):=Lib.hid (HQ6.out.set 5 _)
  have hk7:=KeepT.of_set (S:=[34]) (i:=5) (v:=.slice a6 (ll + 1) c6) HQ6.out (by simp)
  have HO7:=Lib.hid (HO6.out.keepT hk7 (by decide))
  have HZ7:=Lib.hid (HZ6.out.far (show pb + 2 ≠ pb by omega) 5 (.slice a6 (ll + 1) c6))
  have HB7:Hid (Below w.heap.size w (w6.setCell ⟨pb,5,none⟩ (.slice a6 (ll + 1) c6))):=Lib.hid (HB6.out.grown (grown_setCells pb [.slice a6 (ll + 1) c6] 5 w6) HB6.out.size (fun j hj => by injection hj with hj;have:=Hpw.out;omega))
  clear hk7
  have u5:=HQ6.out.cell 5
  have uf:=HQ6.out.free
  simp at u5
  go_upto_region 2 with fail
  generalize w6.setCell ⟨pb,5,none⟩ (.slice a6 (ll + 1) c6)=w7 at *
  clear HQ6 HZ6 HB6 HO6 u5 uf
  have egs:∀ args w,(callFunc 112 args).run Tryz.prog w=.ok (.enter 112 args) w:=Go.Proofs.enters_of Tryz.func112 (by kernel_rfl) rfl
  have HS:=Lib.hid (sortLs_any cfKy 112 cfKy rfl egs ckq_any w1.heap.size (ll + 1) c6 a6 (L ++ [(key,(xs,xh,xl,xn))]) w7 HO7.out (by have:=HLL.out;omega))
  rw [← HLe.out] at HS
  clear egs
  have v5:=HQ7.out.cell 5
  simp at v5
  go_wp2_with fail
  refine HS.out.mono ?_
  rintro e w8 ⟨rfl,ho,hG⟩
  have hk8:=KeepT.of_grew (S:=[67]) HO7.out hG (by decide)
  have HO8:=Lib.hid ho
  have HB8:=Lib.hid (HB7.out.trans (hG.below HB7.out.size (own_base (HO7.out.weak HB01.out.size))))
  have HQ8:=Lib.hid (HQ7.out.keepS hk8 (by decide))
  have HZ8:=Lib.hid (HZ7.out.keepS hk8 (by decide))
  have HC8:=Lib.hid (HCK.out w8 (HKw.out.below HB8.out))
  clear ho hG hk8 HQ7 HZ7 HB7 HO7 HS v5 HCK
  have v4:=HQ8.out.cell 4
  simp at v4
  go_wp2_with fail
  refine HC8.out.mono ?_
  rintro e w9 ⟨v,rfl,hO,hb⟩
  obtain ⟨a9,c9,rfl, -, -, -⟩:=hO.form
  have hkl:K.length=kn:=Hkn.out
  rw [hkl] at hO ⊢
  have HK9:=Lib.hid (hO.weak HB8.out.size)
  have HO9:=Lib.hid (HO8.out.later hb)
  have HB9:=Lib.hid (HB8.out.trans (hb.mono HB8.out.size))
  have HQ9:=Lib.hid (HQ8.out.below hb HQ8.out.lt)
  have HZ9:=Lib.hid (HZ8.out.below hb HZ8.out.lt)
  clear hO hb HQ8 HZ8 HB8 HO8 v4 HC8
  have HQa:Hid (Blk (w9.setCell ⟨pb,4,none⟩ (.slice a9 kn c9)) pb 34 #[.bool ps, .int .u64 (ph:Int), .int .u64 (pl:Int), .int .i64 pn, .slice a9 kn c9, .slice a6 (ll + 1) c6]):=Lib.hid (HQ9.out.set 4 _)
  have hka:=KeepT.of_set (S:=[34]) (i:=4) (v:=.slice a9 kn c9) HQ9.out (by simp)
  have HKa:=Lib.hid (HK9.out.keepT hka (by decide))
  have HOa:=Lib.hid (HO9.out.keepT hka (by decide))
  have HZa:=Lib.hid (HZ9.out.far (show pb + 2 ≠ pb by omega) 4 (.slice a9 kn c9))
  have HBa:Hid (Below w.heap.size w (w9.setCell ⟨pb,4,none⟩ (.slice a9 kn c9))):=Lib.hid (HB9.out.grown (grown_setCells pb [.slice a9 kn c9] 4 w9) HB9.out.size (fun j hj => by injection hj with hj;have:=Hpw.out;omega))
  clear hka
  have u4:=HQ9.out.cell 4
  have uf:=HQ9.out.free
  simp at u4
  go_upto_region 4 with fail
  generalize w9.setCell ⟨pb,4,none⟩ (.slice a9 kn c9)=wa at *
  clear HQ9 HZ9 HB9 HO9 HK9 u4 uf
  have v0:=HQa.out.cell 0
  have v1:=HQa.out.cell 1
  have v2:=HQa.out.cell 2
  have v3:=HQa.out.cell 3
  have v4:=HQa.out.cell 4
  have v5:=HQa.out.cell 5
  simp at v0 v1 v2 v3 v4 v5
  have HTH:=Lib.hid (there_blk HZa.out)
  have HA1:=Lib.hid (all_pool ps ph pl pn a9 a6 kn c9 (ll + 1) c6)
  have HZb:=HZa.out.fillAll [.bool ps, .int .u64 (ph:Int), .int .u64 (pl:Int), .int .i64 pn, .slice a9 kn c9, .slice a6 (ll + 1) c6] rfl
  have hkb:=KeepT.of_cells (S:=[34]) [.bool ps, .int .u64 (ph:Int), .int .u64 (pl:Int), .int .i64 pn, .slice a9 kn c9, .slice a6 (ll + 1) c6] HZa.out (by simp) 0
  have HPb:Hid (PoolV (wa.setCells (pb + 2) 0 [.bool ps, .int .u64 (ph:Int), .int .u64 (pl:Int), .int .i64 pn, .slice a9 kn c9, .slice a6 (ll + 1) c6]) w.heap.size (.agg #[.bool ps, .int .u64 (ph:Int), .int .u64 (pl:Int), .int .i64 pn, .slice a9 kn c9, .slice a6 (ll + 1) c6]) (ps,ph,pl,pn) K (leasedL L key (xs,xh,xl,xn))):=Lib.hid ⟨a9,c9,a6,c6,by rw [HLl.out,hkl] <;> rfl,by rw [hkl];exact HKa.out.keepT hkb (by decide),by rw [HLl.out];exact (HOa.out.weak HB01.out.size).keepT hkb (by decide)⟩
  have HBb:Hid (Below w.heap.size w (wa.setCells (pb + 2) 0 [.bool ps, .int .u64 (ph:Int), .int .u64 (pl:Int), .int .i64 pn, .slice a9 kn c9, .slice a6 (ll + 1) c6])):=Lib.hid (HBa.out.grown (grown_setCells (pb + 2) _ 0 wa) HBa.out.size (fun j hj => by injection hj with hj;have:=Hpw.out;omega))
  have z0:=HZb.cell 0
  have z1:=HZb.cell 1
  have z2:=HZb.cell 2
  have z3:=HZb.cell 3
  have z4:=HZb.cell 4
  have z5:=HZb.cell 5
  simp at z0 z1 z2 z3 z4 z5
  clear HZb hkb
  go_wp2_with (refine wpList_store_mid rfl 34 _ _ rfl (pb + 2) 0 #[.bool ps, .int .u64 (ph:Int), .int .u64 (pl:Int), .int .i64 pn, .slice a9 kn c9, .slice a6 (ll + 1) c6] rfl rfl HTH.out size_pool HA1.out ?_;show wpList _ _ _ _ _ (wa.setCells (pb + 2) 0 [.bool ps, .int .u64 (ph:Int), .int .u64 (pl:Int), .int .i64 pn, .slice a9 kn c9, .slice a6 (ll + 1) c6]))
  refine bodyPost_ret (v:=.agg #[.bool ps, .int .u64 (ph:Int), .int .u64 (pl:Int), .int .i64 pn, .slice a9 kn c9, .slice a6 (ll + 1) c6]) (by simp [results,Tryz.results58,go_sem, *]) rfl ⟨_,rfl,HPb.out,HBb.out⟩
def keyQ (L:List Ls) (key:List UInt8):Int:=if keyB key=false then 5 else if (L.any fun x => x.1 == key)=true then 6 else 0
def keyF (P:Pf) (K:List Pf) (L:List Ls) (key:List UInt8):Int:=if poolF P K L ≠ 0 then poolF P K L else keyQ L key
theorem akeyFault_any (P:Pf) (ka la:Option Addr) (kn kc ln lc:Nat) (K:List Pf) (L:List Ls) (key:List UInt8) (w:World) (hK:RdK layPf w ka K) (hL:RdK layLs w la L) (hkn:K.length=kn) (hln:L.length=ln) (hks:kn≤100) (hls:ln≤100) (hlc:ln≤lc) (huP:u2P P) (huK:U4 K) (huL:UL L) (hky:key.length≤1000) :
  Calls Tryz.prog 61 #[.agg (plC P (.slice ka kn kc) (.slice la ln lc)).toArray, .string (strL key)] w (Ret (.int .i64 (keyF P K L key)) w):=by
 have HC:=Lib.hid fun wx (hk:RdK layPf wx ka K) (hl:RdK layLs wx la L) => checkPool_any P ka la kn kc ln lc K L wx hk hl hkn hln hks hls hlc huP huK huL
 have HKy:=Lib.hid fun wx => isKey_any key wx (by omega)
 have HCt:=Lib.hid fun bx wx (hb:Blk wx bx 9 #[.string (strL key)]) (hr:RdK layLs wx la L) => containsLs_any 115 #[.pointer (some ⟨bx,0,none⟩)] (fun x => x.1 == key) la ln lc L wx hr hln (by omega) (Go.Proofs.enters_of Tryz.func115 (by kernel_rfl) rfl) (fun y hy wx2 hb2 => kf1_any y key bx wx2 ((hb2.cell (p:=⟨bx,0,none⟩) hb.lt).trans (hb.cell 0)) (Nat.lt_of_lt_of_le hb.lt hb2.size))
 have HQ1:Hid (keyB key=false→keyQ L key=5):=Lib.hid fun h => by unfold keyQ;rw [if_pos h]
 have HQ2:Hid (keyB key=true→(L.any fun x => x.1 == key)=true→keyQ L key=6):=Lib.hid fun h h2 => by unfold keyQ;rw [if_neg (by rw [h];decide),if_pos h2]
 have HQ3:Hid (keyB key=true→(L.any fun x => x.1 == key)=false→keyQ L key=0):=Lib.hid fun h h2 => by unfold keyQ;rw [if_neg (by rw [h];decide),if_neg (by rw [h2];decide)]
 have HF1:Hid (poolF P K L ≠ 0→keyF P K L key=poolF P K L):=Lib.hid fun h => by unfold keyF;rw [if_pos h]
 have HF2:Hid (poolF P K L=0→keyF P K L key=keyQ L key):=Lib.hid fun h => by unfold keyF;rw [if_neg (by rw [h];decide)]
 generalize keyF P K L key=KF at *
 generalize keyQ L key=KQ at *
 generalize keyB key=KB at *
 generalize poolF P K L=PF at *
 generalize (L.any fun x => x.1 == key)=LA at *
 clear huP huK huL hkn hln
 obtain ⟨ps,ph,pl,pn⟩:=P
 rw [show (plC (ps,ph,pl,pn) (.slice ka kn kc) (.slice la ln lc)).toArray=#[.bool ps, .int .u64 (ph:Int), .int .u64 (pl:Int), .int .i64 pn, .slice ka kn kc, .slice la ln lc] from rfl] at *
 have hB01:Below w.heap.size w ((w.alloc (.cells #[.bool ps, .int .u64 (ph:Int), .int .u64 (pl:Int), .int .i64 pn, .slice ka kn kc, .slice la ln lc] 34 (0,0))).alloc (.cells #[.string (strL key)] 9 (0,0))):=below_alloc (below_alloc (Below.refl _ _) _) _
 have HB01:=Lib.hid hB01
 have HK0:=Lib.hid (hK.below hB01)
 have HL0:=Lib.hid (hL.below hB01)
 have HQ0:Hid (Blk ((w.alloc (.cells #[.bool ps, .int .u64 (ph:Int), .int .u64 (pl:Int), .int .i64 pn, .slice ka kn kc, .slice la ln lc] 34 (0,0))).alloc (.cells #[.string (strL key)] 9 (0,0))) w.heap.size 34 #[.bool ps, .int .u64 (ph:Int), .int .u64 (pl:Int), .int .i64 pn, .slice ka kn kc, .slice la ln lc]):=Lib.hid ((Blk.new w _ _).alloc _)
 have HS0:Hid (Blk ((w.alloc (.cells #[.bool ps, .int .u64 (ph:Int), .int .u64 (pl:Int), .int .i64 pn, .slice ka kn kc, .slice la ln lc] 34 (0,0))).alloc (.cells #[.string (strL key)] 9 (0,0))) (w.heap.size + 1) 9 #[.string (strL key)]):=Lib.hid (by
  have this:=Blk.new (w.alloc (.cells #[.bool ps, .int .u64 (ph:Int), .int .u64 (pl:Int), .int .i64 pn, .slice ka kn kc, .slice la ln lc] 34 (0,0))) 9 #[.string (strL key)]
  rw [World.size_alloc] at this
  exact this)
 clear hK hL hB01
 go_enter Tryz.func61,Tryz.ntmps61
 go_upto_region 1 with fail
 generalize ((w.alloc (.cells #[.bool ps, .int .u64 (ph:Int), .int .u64 (pl:Int), .int .i64 pn, .slice ka kn kc, .slice la ln lc] 34 (0,0))).alloc (.cells #[.string (strL key)] 9 (0,0)))=w1 at *
 generalize w.heap.size=pb at HQ0 HS0 ⊢
 have p0:=HQ0.out.cell 0
 have p1:=HQ0.out.cell 1
 have p2:=HQ0.out.cell 2
 have p3:=HQ0.out.cell 3
 have p4:=HQ0.out.cell 4
 have p5:=HQ0.out.cell 5
 simp at p0 p1 p2 p3 p4 p5
 go_wp2_with fail
 refine (HC.out _ HK0.out HL0.out).mono ?_
 rintro e w2 ⟨rfl,hb⟩
 have HQ:=Lib.hid (HQ0.out.below hb HQ0.out.lt)
 have HS:=Lib.hid (HS0.out.below hb HS0.out.lt)
 have HL:=Lib.hid (HL0.out.below hb)
 have HB:=Lib.hid hb
 clear hb HC p0 p1 p2 p3 p4 p5 HQ0 HS0 HL0 HK0
 by_cases h0:PF=0
 ·have HK2:=Lib.hid (HF2.out h0)
  subst h0
  clear HF1 HF2
  have s0:=HS.out.cell 0
  simp at s0
  go_wp2_with fail
  refine (HKy.out _).mono ?_
  rintro e w3 ⟨rfl,rfl⟩
  have HS3:=HS
  have HQ3':=HQ
  have HL3:=HL
  have HB3:=HB
  clear HKy s0 HS HQ HL HB
  cases KB
  ·have HE:=Lib.hid (HQ1.out rfl)
   clear HQ1 HQ2 HQ3 HCt
   go_wp2_with fail
   go_ret
   exact ⟨by rw [HK2.out,HE.out] <;> rfl,HB01.out.trans (HB3.out.mono HB01.out.size)⟩
  ·replace HQ2:=Lib.hid (HQ2.out rfl)
   replace HQ3:=Lib.hid (HQ3.out rfl)
   clear HQ1
   have p5:=HQ3'.out.cell 5
   simp at p5
   go_wp2_with fail
   refine (HCt.out _ _ HS3.out HL3.out).mono ?_
   rintro e w4 ⟨rfl,hb⟩
   have HB4:=Lib.hid (HB3.out.trans (hb.mono HB3.out.size))
   clear hb HCt p5 HS3 HQ3' HL3 HB3
   cases LA
   ·have HE:=Lib.hid (HQ3.out rfl)
    clear HQ2 HQ3
    go_wp2_with fail
    go_ret
    exact ⟨by rw [HK2.out,HE.out] <;> rfl,HB01.out.trans (HB4.out.mono HB01.out.size)⟩
   ·have HE:=Lib.hid (HQ2.out rfl)
    clear HQ2 HQ3
    go_wp2_with fail
    go_ret
    exact ⟨by rw [HK2.out,HE.out] <;> rfl,HB01.out.trans (HB4.out.mono HB01.out.size)⟩
 ·have HE:=Lib.hid (HF1.out h0)
  have hF2:(PF != 0)=true:=by simpa using h0
  clear h0 HF1 HF2 HQ1 HQ2 HQ3 HCt HKy
  go_wp2_with fail
  go_ret
  exact ⟨by rw [HE.out] <;> rfl,HB01.out.trans (HB.out.mono HB01.out.size)⟩
theorem keyFault_any (P:Pf) (ka la:Option Addr) (kn kc ln lc:Nat) (K:List Pf) (L:List Ls) (key:List UInt8) (w:World) (hK:RdK layPf w ka K) (hL:RdK layLs w la L) (hkn:K.length=kn) (hln:L.length=ln) (hks:kn≤100) (hls:ln≤100) (hlc:ln≤lc) (huP:u2P P) (huK:U4 K) (huL:UL L) (hky:key.length≤1000) :
  Calls Tryz.prog 16 #[.agg (plC P (.slice ka kn kc) (.slice la ln lc)).toArray, .string (strL key)] w (Ret (.int .i64 (keyQ L key)) w):=by
 have HC:=Lib.hid fun wx (hk:RdK layPf wx ka K) (hl:RdK layLs wx la L) => checkPool_any P ka la kn kc ln lc K L wx hk hl hkn hln hks hls hlc huP huK huL
 have HKy:=Lib.hid fun wx => qKey_any key wx (by omega)
 have HCt:=Lib.hid fun bx wx (hb:Blk wx bx 9 #[.string (strL key)]) (hr:RdK layLs wx la L) => containsLs_any 55 #[.pointer (some ⟨bx,0,none⟩)] (fun x => x.1 == key) la ln lc L wx hr hln (by omega) (Go.Proofs.enters_of Tryz.func55 (by kernel_rfl) rfl) (fun y hy wx2 hb2 => qkf1_any y key bx wx2 ((hb2.cell (p:=⟨bx,0,none⟩) hb.lt).trans (hb.cell 0)) (Nat.lt_of_lt_of_le hb.lt hb2.size))
 have HQ1:Hid (keyB key=false→keyQ L key=5):=Lib.hid fun h => by unfold keyQ;rw [if_pos h]
 have HQ2:Hid (keyB key=true→(L.any fun x => x.1 == key)=true→keyQ L key=6):=Lib.hid fun h h2 => by unfold keyQ;rw [if_neg (by rw [h];decide),if_pos h2]
 have HQ3:Hid (keyB key=true→(L.any fun x => x.1 == key)=false→keyQ L key=0):=Lib.hid fun h h2 => by unfold keyQ;rw [if_neg (by rw [h];decide),if_neg (by rw [h2];decide)]
 have HF1:Hid (poolF P K L ≠ 0→keyF P K L key=poolF P K L):=Lib.hid fun h => by unfold keyF;rw [if_pos h]
 have HF2:Hid (poolF P K L=0→keyF P K L key=keyQ L key):=Lib.hid fun h => by unfold keyF;rw [if_neg (by rw [h];decide)]
 generalize keyF P K L key=KF at *
 generalize keyQ L key=KQ at *
 generalize keyB key=KB at *
 generalize poolF P K L=PF at *
 generalize (L.any fun x => x.1 == key)=LA at *
 clear huP huK huL hkn hln
 obtain ⟨ps,ph,pl,pn⟩:=P
 rw [show (plC (ps,ph,pl,pn) (.slice ka kn kc) (.slice la ln lc)).toArray=#[.bool ps, .int .u64 (ph:Int), .int .u64 (pl:Int), .int .i64 pn, .slice ka kn kc, .slice la ln lc] from rfl] at *
 have hB01:Below w.heap.size w ((w.alloc (.cells #[.bool ps, .int .u64 (ph:Int), .int .u64 (pl:Int), .int .i64 pn, .slice ka kn kc, .slice la ln lc] 34 (0,0))).alloc (.cells #[.string (strL key)] 9 (0,0))):=below_alloc (below_alloc (Below.refl _ _) _) _
 have HB01:=Lib.hid hB01
 have HK0:=Lib.hid (hK.below hB01)
 have HL0:=Lib.hid (hL.below hB01)
 have HQ0:Hid (Blk ((w.alloc (.cells #[.bool ps, .int .u64 (ph:Int), .int .u64 (pl:Int), .int .i64 pn, .slice ka kn kc, .slice la ln lc] 34 (0,0))).alloc (.cells #[.string (strL key)] 9 (0,0))) w.heap.size 34 #[.bool ps, .int .u64 (ph:Int), .int .u64 (pl:Int), .int .i64 pn, .slice ka kn kc, .slice la ln lc]):=Lib.hid ((Blk.new w _ _).alloc _)
 have HS0:Hid (Blk ((w.alloc (.cells #[.bool ps, .int .u64 (ph:Int), .int .u64 (pl:Int), .int .i64 pn, .slice ka kn kc, .slice la ln lc] 34 (0,0))).alloc (.cells #[.string (strL key)] 9 (0,0))) (w.heap.size + 1) 9 #[.string (strL key)]):=Lib.hid (by
  have this:=Blk.new (w.alloc (.cells #[.bool ps, .int .u64 (ph:Int), .int .u64 (pl:Int), .int .i64 pn, .slice ka kn kc, .slice la ln lc] 34 (0,0))) 9 #[.string (strL key)]
  rw [World.size_alloc] at this
  exact this)
 clear hK hL hB01
 go_enter Tryz.func16,Tryz.ntmps16
 go_upto_region 1 with fail
 generalize ((w.alloc (.cells #[.bool ps, .int .u64 (ph:Int), .int .u64 (pl:Int), .int .i64 pn, .slice ka kn kc, .slice la ln lc] 34 (0,0))).alloc (.cells #[.string (strL key)] 9 (0,0)))=w1 at *
 generalize w.heap.size=pb at HQ0 HS0 ⊢
 have HQ:=HQ0
 have HS:=HS0
 have HL:=HL0
 have HB:=Lib.hid (Below.refl w1.heap.size w1)
 clear HQ0 HS0 HL0 HK0 HF1 HF2 HC
 have s0:=HS.out.cell 0
 simp at s0
 go_wp2_with fail
 refine (HKy.out _).mono ?_
 rintro e w3 ⟨rfl,hb⟩
 have HS3:=Lib.hid (HS.out.below hb HS.out.lt)
 have HQ3':=Lib.hid (HQ.out.below hb HQ.out.lt)
 have HL3:=Lib.hid (HL.out.below hb)
 have HB3:=Lib.hid (HB.out.trans (hb.mono HB.out.size))
 clear hb
 clear HKy s0 HS HQ HL HB
 cases KB
 ·have HE:=Lib.hid (HQ1.out rfl)
  clear HQ1 HQ2 HQ3 HCt
  go_wp2_with fail
  go_ret
  exact ⟨by rw [HE.out] <;> rfl,HB01.out.trans (HB3.out.mono HB01.out.size)⟩
 ·replace HQ2:=Lib.hid (HQ2.out rfl)
  replace HQ3:=Lib.hid (HQ3.out rfl)
  clear HQ1
  have p5:=HQ3'.out.cell 5
  simp at p5
  go_wp2_with fail
  refine (HCt.out _ _ HS3.out HL3.out).mono ?_
  rintro e w4 ⟨rfl,hb⟩
  have HB4:=Lib.hid (HB3.out.trans (hb.mono HB3.out.size))
  clear hb HCt p5 HS3 HQ3' HL3 HB3
  cases LA
  ·have HE:=Lib.hid (HQ3.out rfl)
   clear HQ2 HQ3
   go_wp2_with fail
   go_ret
   exact ⟨by rw [HE.out] <;> rfl,HB01.out.trans (HB4.out.mono HB01.out.size)⟩
  ·have HE:=Lib.hid (HQ2.out rfl)
   clear HQ2 HQ3
   go_wp2_with fail
   go_ret
   exact ⟨by rw [HE.out] <;> rfl,HB01.out.trans (HB4.out.mono HB01.out.size)⟩
def atP (o:Option Pf) (n:Int):Pf:=((o.getD zPf).1,(o.getD zPf).2.1,(o.getD zPf).2.2.1,n)
theorem OwnK.farC {α:Type} {E:Lay α} {w:World} {B b:Nat} {v:Value} {L:List α} (h:OwnK E w B v L) (hb:b < B) (o:Nat) (vs:List Value):OwnK E (w.setCells b o vs) B v L :=
 World.ownsRow.kept h (grown_setCells b vs o w) (by
  cases hv:v.ownBlock with
  | none => exact .inl rfl
  | some k => exact .inr (by have:=own_base h k hv;simp;omega))
theorem all_pfx (a:Bool) (b c:Nat) (n:Int):(#[.bool a, .int .u64 (b:Int), .int .u64 (c:Int), .int .i64 n]:Array Value).all (·.oneCell')=true :=
 all_oneCell_toArray (cs:=[.bool a, .int .u64 (b:Int), .int .u64 (c:Int), .int .i64 n]) (fun v hv => by simp at hv;rcases hv with rfl | rfl | rfl | rfl <;> rfl)
theorem Blk.set4w {w:World} {B:Nat} {t:TypeId} {x y z u x' y' z' u':Value} (h:Blk w B t #[x,y,z,u]):Blk ((((w.setCell ⟨B,0,none⟩ x').setCell ⟨B,1,none⟩ y').setCell ⟨B,2,none⟩ z').setCell ⟨B,3,none⟩ u') B t #[x',y',z',u'] :=
 Blk.set (Blk.set (Blk.set (Blk.set h 0 x') 1 y') 2 z') 3 u'
theorem chP_take {F:List Pf} {k:Nat} {f:Pf} (h:F[k]?=some f) (best:Bool) (n:Int):chP best n (F.take (k + 1))=chS best n (chP best n (F.take k)) f:=by
 rw [List.take_add_one,h]
 exact chP_snoc best n _ f
theorem achoose_any (best:Bool) (P:Pf) (ka la:Option Addr) (kn kc ln lc:Nat) (K:List Pf) (L:List Ls) (n:Int) (w:World) (hK:RdK layPf w ka K) (hL:RdK layLs w la L) (hkn:K.length=kn) (hln:L.length=ln) (hs:kn + ln≤7) (hP:OkPf P) (hT:∀ p ∈ takenL K L,OkPf p) :
  Calls Tryz.prog 70 #[.agg (plC P (.slice ka kn kc) (.slice la ln lc)).toArray, .int .i64 n, .bool best] w (Ret (.tuple #[.agg (pfC (atP (chP best n (freeL P K L)) n)).toArray, .bool (chP best n (freeL P K L)).isSome]) w):=by
 have HFr:=Lib.hid fun wx (hk:RdK layPf wx ka K) (hl:RdK layLs wx la L) => free_any P ka la kn kc ln lc K L wx hk hl hkn hln (by omega) (by omega) hP hT
 have HLe:=Lib.hid (free_len hP hT (by omega))
 have HVr:=Lib.hid (freeS_ok hP hT)
 have HSl:Hid ((freeS P K L).length≤100000):=Lib.hid (freeS_len hP hT (by omega))
 rw [show freeL P K L=pfs (freeS P K L) from rfl] at HLe ⊢
 clear hP hT hkn hln
 generalize freeS P K L=S at *
 obtain ⟨ps,ph,pl,pn⟩:=P
 rw [show (plC (ps,ph,pl,pn) (.slice ka kn kc) (.slice la ln lc)).toArray=#[.bool ps, .int .u64 (ph:Int), .int .u64 (pl:Int), .int .i64 pn, .slice ka kn kc, .slice la ln lc] from rfl]
 have hB01:Below w.heap.size w (((w.alloc (.cells #[.bool ps, .int .u64 (ph:Int), .int .u64 (pl:Int), .int .i64 pn, .slice ka kn kc, .slice la ln lc] 34 (0,0))).alloc (.cells #[.bool false, .int .u64 0, .int .u64 0, .int .i64 0] 30 (0,0))).alloc (.cells #[.bool false, .int .u64 0, .int .u64 0, .int .i64 0] 30 (0,0))):=below_alloc (below_alloc (below_alloc (Below.refl _ _) _) _) _
 have HB01:=Lib.hid hB01
 have HK0:=Lib.hid (hK.below hB01)
 have HL0:=Lib.hid (hL.below hB01)
 have HQ0:Hid (Blk (((w.alloc (.cells #[.bool ps, .int .u64 (ph:Int), .int .u64 (pl:Int), .int .i64 pn, .slice ka kn kc, .slice la ln lc] 34 (0,0))).alloc (.cells #[.bool false, .int .u64 0, .int .u64 0, .int .i64 0] 30 (0,0))).alloc (.cells #[.bool false, .int .u64 0, .int .u64 0, .int .i64 0] 30 (0,0))) w.heap.size 34 #[.bool ps, .int .u64 (ph:Int), .int .u64 (pl:Int), .int .i64 pn, .slice ka kn kc, .slice la ln lc]):=Lib.hid (((Blk.new w _ _).alloc _).alloc _)
 have HR0:Hid (Blk (((w.alloc (.cells #[.bool ps, .int .u64 (ph:Int), .int .u64 (pl:Int), .int .i64 pn, .slice ka kn kc, .slice la ln lc] 34 (0,0))).alloc (.cells #[.bool false, .int .u64 0, .int .u64 0, .int .i64 0] 30 (0,0))).alloc (.cells #[.bool false, .int .u64 0, .int .u64 0, .int .i64 0] 30 (0,0))) (w.heap.size + 1) 30 #[.bool false, .int .u64 0, .int .u64 0, .int .i64 0]):=Lib.hid (by
  have this:=(Blk.new (w.alloc (.cells #[.bool ps, .int .u64 (ph:Int), .int .u64 (pl:Int), .int .i64 pn, .slice ka kn kc, .slice la ln lc] 34 (0,0))) 30 #[.bool false, .int .u64 0, .int .u64 0, .int .i64 0]).alloc (.cells #[.bool false, .int .u64 0, .int .u64 0, .int .i64 0] 30 (0,0))
  rw [World.size_alloc] at this
  exact this)
 have HA0:Hid (Blk (((w.alloc (.cells #[.bool ps, .int .u64 (ph:Int), .int .u64 (pl:Int), .int .i64 pn, .slice ka kn kc, .slice la ln lc] 34 (0,0))).alloc (.cells #[.bool false, .int .u64 0, .int .u64 0, .int .i64 0] 30 (0,0))).alloc (.cells #[.bool false, .int .u64 0, .int .u64 0, .int .i64 0] 30 (0,0))) (w.heap.size + 1 + 1) 30 #[.bool false, .int .u64 0, .int .u64 0, .int .i64 0]):=Lib.hid (by
  have this:=Blk.new ((w.alloc (.cells #[.bool ps, .int .u64 (ph:Int), .int .u64 (pl:Int), .int .i64 pn, .slice ka kn kc, .slice la ln lc] 34 (0,0))).alloc (.cells #[.bool false, .int .u64 0, .int .u64 0, .int .i64 0] 30 (0,0))) 30 #[.bool false, .int .u64 0, .int .u64 0, .int .i64 0]
  rw [World.size_alloc,World.size_alloc] at this
  exact this)
 clear hK hL hB01
 go_enter Tryz.func70,Tryz.ntmps70
 go_upto_region 2 with fail
 generalize (((w.alloc (.cells #[.bool ps, .int .u64 (ph:Int), .int .u64 (pl:Int), .int .i64 pn, .slice ka kn kc, .slice la ln lc] 34 (0,0))).alloc (.cells #[.bool false, .int .u64 0, .int .u64 0, .int .i64 0] 30 (0,0))).alloc (.cells #[.bool false, .int .u64 0, .int .u64 0, .int .i64 0] 30 (0,0)))=w1 at *
 obtain ⟨pb,hpb⟩:∃ q,w.heap.size=q:=⟨_,rfl⟩
 have Hpw:Hid (w.heap.size≤pb):=Lib.hid (by omega)
 rw [hpb] at HQ0 HR0 HA0 ⊢
 clear hpb
 obtain ⟨ab,hab⟩:∃ q,pb + 1 + 1=q:=⟨_,rfl⟩
 have Hab2:Hid (pb + 2=ab):=Lib.hid (by omega)
 rw [hab] at HA0 ⊢
 clear hab
 have p0:=HQ0.out.cell 0
 have p1:=HQ0.out.cell 1
 have p2:=HQ0.out.cell 2
 have p3:=HQ0.out.cell 3
 have p4:=HQ0.out.cell 4
 have p5:=HQ0.out.cell 5
 simp at p0 p1 p2 p3 p4 p5
 go_wp2_with fail
 refine (HFr.out _ HK0.out HL0.out).mono ?_
 rintro e w2 ⟨v,rfl,hO,hb⟩
 obtain ⟨b6,d6,rfl,_⟩:=hO.form
 have HPx:=Lib.hid (prefixes_any b6 S.length d6 S w2 hO.rd rfl HSl.out HVr.out)
 have HB2:=Lib.hid hb
 have HR2:=Lib.hid (HR0.out.below hb HR0.out.lt)
 have HA2:=Lib.hid (HA0.out.below hb HA0.out.lt)
 have Hab:Hid (ab < w1.heap.size):=Lib.hid HA0.out.lt
 generalize S.length=sl at *
 generalize pfs S=F at *
 clear hO hb HFr HK0 HL0 HQ0 HR0 HA0 p0 p1 p2 p3 p4 p5
 go_wp2_with fail
 refine HPx.out.mono ?_
 rintro e w3 ⟨v,rfl,hO,hb⟩
 obtain ⟨fa,fc,rfl, -, -, -⟩:=hO.form
 obtain ⟨m,hm⟩:∃ m,F.length=m:=⟨_,rfl⟩
 rw [hm] at hO ⊢
 have Hm:=Lib.hid hm
 have hm9:m≤900:=by rw [← hm];exact HLe.out
 have HO3:=Lib.hid (hO.weak HB2.out.size)
 have HB3:=Lib.hid (HB01.out.trans ((HB2.out.trans (hb.mono HB2.out.size)).mono HB01.out.size))
 have HR3:=Lib.hid (HR2.out.below hb HR2.out.lt)
 have HA3:=Lib.hid (HA2.out.below hb HA2.out.lt)
 clear hO hb HPx hm HB2 HR2 HA2 HVr HSl HLe
 go_wp2_with fail
 go_loopw [9,11,17] (fun fnd bx i wr => ∃ (k:Nat) (o:Option Pf),k≤m∧i=.int .i64 (k:Int)∧fnd=.bool o.isSome∧Hid (chP best n (F.take k)=o)∧Hid (Blk wr ab 30 (pfC (o.getD zPf)).toArray)∧Hid (Blk wr (pb + 1) 30 #[.bool false, .int .u64 0, .int .u64 0, .int .i64 0])∧Hid (OwnK layPf wr w1.heap.size (.slice fa m fc) F)∧Hid (Below w.heap.size w wr)) (fun _ _ i _ => m - (intOf i).toNat)
 case atStart => exact ⟨0,none,Nat.zero_le _,rfl,rfl,Lib.hid rfl,HA3,HR3,HO3,HB3⟩
 case round =>
  clear HA3 HR3 HO3 HB3
  obtain ⟨k,o,hk,rfl,rfl,HE,HA,HR,HO,HB⟩:=hrel
  by_cases hlt:k < m
  ·obtain ⟨f,hf⟩:∃ f,F[k]?=some f:=⟨_,List.getElem?_eq_getElem (by rw [Hm.out];exact hlt)⟩
   have HE2:Hid (chP best n (F.take (k + 1))=chS best n o f):=Lib.hid (by rw [chP_take hf,HE.out])
   obtain ⟨f1,f2,f3,f4⟩:=f
   obtain ⟨g,off,had,hg,c0,c1,c2,c3⟩:=HO.out.rd.pf hf rfl
   subst had
   have HF3:Hid (Blk (wr.alloc (.cells #[.bool f1, .int .u64 (f2:Int), .int .u64 (f3:Int), .int .i64 f4] 30 (0,0))) wr.heap.size 30 #[.bool f1, .int .u64 (f2:Int), .int .u64 (f3:Int), .int .i64 f4]):=Lib.hid (Blk.new wr _ _)
   have HA3:=Lib.hid (HA.out.alloc (.cells #[.bool f1, .int .u64 (f2:Int), .int .u64 (f3:Int), .int .i64 f4] 30 (0,0)))
   have HR3:=Lib.hid (HR.out.alloc (.cells #[.bool f1, .int .u64 (f2:Int), .int .u64 (f3:Int), .int .i64 f4] 30 (0,0)))
   have HO3:=Lib.hid (HO.out.alloc (.cells #[.bool f1, .int .u64 (f2:Int), .int .u64 (f3:Int), .int .i64 f4] 30 (0,0)))
   have HB3:Hid (Below w.heap.size w (wr.alloc (.cells #[.bool f1, .int .u64 (f2:Int), .int .u64 (f3:Int), .int .i64 f4] 30 (0,0)))):=Lib.hid (Below.alloc HB.out HB.out.size _)
   clear hf hg
   go_upto_region 5 with fail
   generalize wr.alloc (.cells #[.bool f1, .int .u64 (f2:Int), .int .u64 (f3:Int), .int .i64 f4] 30 (0,0))=w3 at *
   generalize wr.heap.size=bx at *
   clear HA HR HO HB HE c0 c1 c2 c3
   have d0:=HF3.out.cell 0
   have d1:=HF3.out.cell 1
   have d2:=HF3.out.cell 2
   have d3:=HF3.out.cell 3
   simp at d0 d1 d2 d3
   have HTH:Hid (w3.there ab 0 4):=Lib.hid (there_blk HA3.out)
   have HA1:=Lib.hid (all_pfx f1 f2 f3 f4)
   have HA4:Hid (Blk (w3.setCells ab 0 [.bool f1, .int .u64 (f2:Int), .int .u64 (f3:Int), .int .i64 f4]) ab 30 (pfC ((some (f1,f2,f3,f4)).getD zPf)).toArray):=Lib.hid (HA3.out.fillAll _ rfl)
   have HR4:Hid (Blk (w3.setCells ab 0 [.bool f1, .int .u64 (f2:Int), .int .u64 (f3:Int), .int .i64 f4]) (pb + 1) 30 #[.bool false, .int .u64 0, .int .u64 0, .int .i64 0]):=Lib.hid (HR3.out.farCells2 (show pb + 1 ≠ ab by have:=Hab2.out;omega) 0 _)
   have HO4:Hid (OwnK layPf (w3.setCells ab 0 [.bool f1, .int .u64 (f2:Int), .int .u64 (f3:Int), .int .i64 f4]) w1.heap.size (.slice (some ⟨g,off,none⟩) m fc) F):=Lib.hid (HO3.out.farC Hab.out 0 _)
   have HB4:Hid (Below w.heap.size w (w3.setCells ab 0 [.bool f1, .int .u64 (f2:Int), .int .u64 (f3:Int), .int .i64 f4])):=Lib.hid (HB3.out.grown (grown_setCells ab _ 0 w3) HB3.out.size (fun j hj => by injection hj with hj;have:=Hpw.out;have:=Hab2.out;omega))
   have HY:Hid (f4≤n→o=none→chS best n o (f1,f2,f3,f4)=some (f1,f2,f3,f4)):=Lib.hid fun h h2 => by unfold chS;rw [if_pos ⟨h, .inl h2⟩]
   have HY2:Hid (f4≤n→best=true→(∀ a,o=some a→a.2.2.2 < f4)→chS best n o (f1,f2,f3,f4)=some (f1,f2,f3,f4)):=Lib.hid fun h h2 h3 => by unfold chS;rw [if_pos ⟨h, .inr ⟨h2,h3⟩⟩]
   have HN:Hid ((f4≤n→o ≠ none∧(best=true→∃ a,o=some a∧¬ a.2.2.2 < f4))→chS best n o (f1,f2,f3,f4)=o):=Lib.hid fun h => by
    unfold chS
    rw [if_neg]
    rintro ⟨h1,h2⟩
    obtain ⟨h3,h4⟩:=h h1
    rcases h2 with h2 | ⟨h2,h5⟩
    ·exact h3 h2
    ·obtain ⟨a,ha,h6⟩:=h4 h2
     exact h6 (h5 a ha)
   by_cases hc1:f4≤n
   ·have hcd:decide (f4≤n)=true:=decide_eq_true hc1
    cases o with
    | none =>
      have HE3:=Lib.hid (HE2.out.trans (HY.out hc1 rfl))
      clear HY HY2 HN HE2
      have HAq:Hid (Blk w3 ab 30 #[.bool false, .int .u64 0, .int .u64 0, .int .i64 0]):=HA3
      have q0:=HAq.out.cell 0
      have q1:=HAq.out.cell 1
      have q2:=HAq.out.cell 2
      have q3:=HAq.out.cell 3
      simp at q0 q1 q2 q3
      have qf:=HAq.out.free
      clear HTH HA1 HA3 HR3 HO3 HB3
      go_wp2_with fail
      exact ⟨⟨k + 1,some (f1,f2,f3,f4),by omega,by go_num,rfl,HE3,HA4,HR4,HO4,HB4⟩,by simp [intOf];omega⟩
    | some a =>
      obtain ⟨a1,a2,a3,a4⟩:=a
      have HAq:Hid (Blk w3 ab 30 #[.bool a1, .int .u64 (a2:Int), .int .u64 (a3:Int), .int .i64 a4]):=HA3
      have q3:=HAq.out.cell 3
      simp at q3
      cases best
      ·have HE3:=Lib.hid (HE2.out.trans (HN.out fun _ => ⟨by simp,fun h => by cases h⟩))
       clear HY HY2 HN HE2 HTH HA1 HA4 HR4 HO4 HB4
       go_wp2_with fail
       exact ⟨⟨k + 1,some (a1,a2,a3,a4),by omega,by go_num,rfl,HE3,HA3,HR3,HO3,HB3⟩,by simp [intOf];omega⟩
      ·by_cases hc2:f4 > a4
       ·have hce:decide (a4 < f4)=true:=decide_eq_true hc2
        have HE3:=Lib.hid (HE2.out.trans (HY2.out hc1 rfl fun b hb => by injection hb with hb;subst hb;exact hc2))
        clear HY HY2 HN HE2
        clear q3
        have q0:=HAq.out.cell 0
        have q1:=HAq.out.cell 1
        have q2:=HAq.out.cell 2
        have q3:=HAq.out.cell 3
        simp at q0 q1 q2 q3
        have qf:=HAq.out.free
        clear HTH HA1 HA3 HR3 HO3 HB3
        go_wp2_with fail
        exact ⟨⟨k + 1,some (f1,f2,f3,f4),by omega,by go_num,rfl,HE3,HA4,HR4,HO4,HB4⟩,by simp [intOf];omega⟩
       ·have hce:decide (a4 < f4)=false:=decide_eq_false hc2
        have HE3:=Lib.hid (HE2.out.trans (HN.out fun _ => ⟨by simp,fun _ => ⟨_,rfl,by simpa using hc2⟩⟩))
        clear HY HY2 HN HE2 HTH HA1 HA4 HR4 HO4 HB4
        go_wp2_with fail
        exact ⟨⟨k + 1,some (a1,a2,a3,a4),by omega,by go_num,rfl,HE3,HA3,HR3,HO3,HB3⟩,by simp [intOf];omega⟩
   ·have hcd:decide (f4≤n)=false:=decide_eq_false hc1
    have HE3:=Lib.hid (HE2.out.trans (HN.out fun h => absurd h hc1))
    clear HY HY2 HN HE2 HTH HA1 HA4 HR4 HO4 HB4
    go_wp2_with fail
    exact ⟨⟨k + 1,o,by omega,by go_num,rfl,HE3,HA3,HR3,HO3,HB3⟩,by simp [intOf];omega⟩
  ·obtain ⟨m0,hm0⟩:∃ q,q=m:=⟨_,rfl⟩
   obtain rfl:k=m:=by omega
   subst hm0
   have HEo:Hid (chP best n F=o):=Lib.hid (by have h:=HE.out;rwa [List.take_of_length_le (by rw [Hm.out];exact Nat.le_refl _)] at h)
   obtain ⟨a1,a2,a3,a4,ha⟩:∃ a1 a2 a3 a4,o.getD zPf=(a1,a2,a3,a4):=⟨_,_,_,_,rfl⟩
   have HAt:Hid ((pfC (atP o n)).toArray=#[.bool a1, .int .u64 (a2:Int), .int .u64 (a3:Int), .int .i64 n]):=Lib.hid (by unfold atP;rw [ha];rfl)
   have HAq:Hid (Blk wr ab 30 #[.bool a1, .int .u64 (a2:Int), .int .u64 (a3:Int), .int .i64 a4]):=Lib.hid (by have h:=HA.out;rw [ha] at h;exact h)
   clear HE ha HA HO
   obtain ⟨fnd,hfd⟩:∃ q,o.isSome=q:=⟨_,rfl⟩
   have HFd:=Lib.hid hfd
   rw [hfd]
   clear hfd
   have q0:=HAq.out.cell 0
   have q1:=HAq.out.cell 1
   have q2:=HAq.out.cell 2
   simp at q0 q1 q2
   have c4:=HR.out.set4w (x':=.bool a1) (y':=.int .u64 (a2:Int)) (z':=.int .u64 (a3:Int)) (u':=.int .i64 n)
   have HBb:Hid (Below w.heap.size w ((((wr.setCell ⟨pb + 1,0,none⟩ (.bool a1)).setCell ⟨pb + 1,1,none⟩ (.int .u64 (a2:Int))).setCell ⟨pb + 1,2,none⟩ (.int .u64 (a3:Int))).setCell ⟨pb + 1,3,none⟩ (.int .i64 n))):=Lib.hid (HB.out.grown (grown_setCells (pb + 1) [.bool a1, .int .u64 (a2:Int), .int .u64 (a3:Int), .int .i64 n] 0 wr) HB.out.size (fun j hj => by injection hj with hj;have:=Hpw.out;omega))
   have z0:=c4.cell 0
   have z1:=c4.cell 1
   have z2:=c4.cell 2
   have z3:=c4.cell 3
   simp at z0 z1 z2 z3
   clear c4
   have r0:=HR.out.cell 0
   have r1:=HR.out.cell 1
   have r2:=HR.out.cell 2
   have r3:=HR.out.cell 3
   simp at r0 r1 r2 r3
   have rf:=HR.out.free
   go_wp2_with fail
   refine bodyPost_ret (v:=.tuple #[.agg #[.bool a1, .int .u64 (a2:Int), .int .u64 (a3:Int), .int .i64 n], .bool fnd]) (by simp [results,Tryz.results70,go_sem, *]) rfl ⟨by rw [HEo.out,HAt.out,HFd.out],HBb.out⟩
def gotX (o:Option Pf) (n:Int):Pf:=match o with | none => zPf | some _ => atP o n
def gotP (o:Option Pf) (P:Pf):Pf:=match o with | none => zPf | some _ => P
def gotK (o:Option Pf) (K:List Pf):List Pf:=match o with | none => [] | some _ => K
def gotL (o:Option Pf) (L:List Ls) (key:List UInt8) (n:Int):List Ls:=match o with | none => [] | some _ => leasedL L key (atP o n)
theorem poolV_zero (w:World) (b:Nat):PoolV w b (.agg #[.bool false, .int .u64 0, .int .u64 0, .int .i64 0, .slice none 0 0, .slice none 0 0]) zPf [] []:=⟨none,0,none,0,rfl,OwnK.nil _ _ _,OwnK.nil _ _ _⟩
section
variable {w:World} {B B':Nat} {t:TypeId} {x1 x2 x3 x4 x5 x6 x1' x2' x3' x4' x5' x6' x y z u x' y' z' u':Value} {cs:Array Value}
theorem Blk.set6w (h:Blk w B t #[x1,x2,x3,x4,x5,x6]):Blk ((((((w.setCell ⟨B,0,none⟩ x1').setCell ⟨B,1,none⟩ x2').setCell ⟨B,2,none⟩ x3').setCell ⟨B,3,none⟩ x4').setCell ⟨B,4,none⟩ x5').setCell ⟨B,5,none⟩ x6') B t #[x1',x2',x3',x4',x5',x6'] :=
 Blk.set (Blk.set (Blk.set (Blk.set (Blk.set (Blk.set h 0 x1') 1 x2') 2 x3') 3 x4') 4 x5') 5 x6'
theorem Blk.far6w (h:Blk w B t cs) (hne:B ≠ B'):Blk ((((((w.setCell ⟨B',0,none⟩ x1').setCell ⟨B',1,none⟩ x2').setCell ⟨B',2,none⟩ x3').setCell ⟨B',3,none⟩ x4').setCell ⟨B',4,none⟩ x5').setCell ⟨B',5,none⟩ x6') B t cs :=
 Blk.far (Blk.far (Blk.far (Blk.far (Blk.far (Blk.far h hne 0 x1') hne 1 x2') hne 2 x3') hne 3 x4') hne 4 x5') hne 5 x6'
theorem Blk.far4w (h:Blk w B t cs) (hne:B ≠ B'):Blk ((((w.setCell ⟨B',0,none⟩ x').setCell ⟨B',1,none⟩ y').setCell ⟨B',2,none⟩ z').setCell ⟨B',3,none⟩ u') B t cs :=
 Blk.far (Blk.far (Blk.far (Blk.far h hne 0 x') hne 1 y') hne 2 z') hne 3 u'
theorem size_setC6:((((((w.setCell ⟨B,0,none⟩ x1').setCell ⟨B,1,none⟩ x2').setCell ⟨B,2,none⟩ x3').setCell ⟨B,3,none⟩ x4').setCell ⟨B,4,none⟩ x5').setCell ⟨B,5,none⟩ x6').heap.size=w.heap.size:=by simp
end
def KeepX (b:Nat) (w w':World):Prop:=w.heap.size≤w'.heap.size∧∀ g,g < w.heap.size→g ≠ b→w'.heap[g]?=w.heap[g]?
theorem KeepX.refl (b:Nat) (w:World):KeepX b w w:=⟨Nat.le_refl _,fun _ _ _ => rfl⟩
theorem KeepX.of_below {b:Nat} {w w':World} (h:Below w.heap.size w w'):KeepX b w w':=⟨h.size,fun g hg _ => h.block g hg⟩
theorem KeepX.setRow (b:Nat) (w:World) (cs:Array Value):KeepX b w (w.setRow b cs):=⟨by simp,fun g hg hn => setRow_other w b g cs hn⟩
theorem OwnK.keepX {α:Type} {E:Lay α} {w w':World} {B b:Nat} {v:Value} {L:List α} (h:OwnK E w B v L) (k:KeepX b w w') (hb:b < B):OwnK E w' B v L:=by
 refine ⟨h.1,?_⟩
 rcases h.2 with h2 | ⟨g,cap,cur,hv,hg,hh,r⟩
 ·exact .inl h2
 ·exact .inr ⟨g,cap,cur,hv,hg,(k.2 g (lt_of_block hh) (by omega)).trans hh,r⟩
theorem PoolV.keepX {w w':World} {b B:Nat} {v:Value} {P:Pf} {K:List Pf} {L:List Ls} (h:PoolV w B v P K L) (k:KeepX b w w') (hb:b < B):PoolV w' B v P K L:=by
 obtain ⟨a1,c1,a2,c2,e,h1,h2⟩:=h
 exact ⟨a1,c1,a2,c2,e,h1.keepX k hb,h2.keepX k hb⟩
theorem Op1.store_rowQ {P:Program} {o:Oper} {ρ:Operand→Value} {w:World} {post:Value→World→Prop} (ty:TypeId) (x y:Operand) (ho:o.op=.store ty x y)
  (g:Nat) (cells:Array Value) (hx:ρ x=.pointer (some ⟨g,0,none⟩)) (hy:ρ y=.agg cells) (t:TypeId) (old:Array Value) (hg:w.heap[g]?=some (.cells old t (0,0))) (hi:(P.info? ty).map (·.size)=some cells.size)
  (hold:old.size=cells.size) (h1:cells.all (·.oneCell')=true) (h:post undef (w.setRow g cells)):Op1 P o ρ w post:=by
 unfold Op1 execOp
 simp only [ho,hx,hy,Instr.storeAt,Instr.sureAddr,Sem.run_bind,Sem.run_pure,Result.andThen_ok,run_storeVar_row w g t ty old cells hg hi hold h1]
 exact h
def lrR (pv xv:Array Value) (ky:Value) (bs:Nat) (P:Pf) (K:List Pf) (L:List Ls):Nat→Value→Nat→World→Prop
 | 0,v,_,_ => v=.agg pv
 | 1,v,_,_ => v=ky
 | 2,v,_,_ => v=.agg xv
 | 3,v,_,w => PoolV w bs v P K L
 | 4,v,_,_ => v=.agg xv
 | _,_,n,_ => n=1
def lrC (w0:World) (pb xb rb:Nat) (pv xv:Array Value) (bs:Nat) (P:Pf) (K:List Pf) (L:List Ls) (n:Nat) (w:World):Prop :=
 Below w0.heap.size w0 w∧bs≤w.heap.size∧Blk w pb 34 pv∧Blk w xb 30 xv∧Blk w (rb + 1) 30 #[.bool false, .int .u64 0, .int .u64 0, .int .i64 0]∧∃ cs:Array Value,Blk w rb 34 cs∧cs.size=6∧(n=1→PoolV w bs (.agg cs) P K L)
def lrS (rb:Nat) (n:Nat) (w:World) (n':Nat) (w':World):Prop:=n≤n'∧n'≤1∧KeepX rb w w'
theorem lrR_keep {pv xv:Array Value} {ky:Value} {bs rb:Nat} {P:Pf} {K:List Pf} {L:List Ls} (hb:rb < bs) (p:Nat) (v:Value) (n:Nat) (u:World) (m:Nat) (w:World) (h:lrR pv xv ky bs P K L p v n u) (k:lrS rb n u m w):lrR pv xv ky bs P K L p v m w:=by
 rcases p with _ | _ | _ | _ | _ | p
 ·exact h
 ·exact h
 ·exact h
 ·exact PoolV.keepX h k.2.2 hb
 ·exact h
 ·have h:n=1:=h
  show m=1
  have:=k.1
  have:=k.2.1
  omega
theorem lrC.later {w0:World} {pb xb rb:Nat} {pv xv:Array Value} {bs:Nat} {P:Pf} {K:List Pf} {L:List Ls} {n:Nat} {w w':World} (h:lrC w0 pb xb rb pv xv bs P K L n w) (hb:Below w.heap.size w w'):lrC w0 pb xb rb pv xv bs P K L n w':=by
 obtain ⟨h1,h2,h3,h4,h5,cs,h6,h7,h8⟩:=h
 exact ⟨h1.trans (hb.mono h1.size),Nat.le_trans h2 hb.size,h3.below hb h3.lt,h4.below hb h4.lt,h5.below hb h5.lt,cs,h6.below hb h6.lt,h7,fun e => (h8 e).later hb⟩
theorem lrC.store {w0:World} {pb xb rb:Nat} {pv xv:Array Value} {bs:Nat} {P:Pf} {K:List Pf} {L:List Ls} {n:Nat} {w:World} (h:lrC w0 pb xb rb pv xv bs P K L n w) (cs:Array Value) (hs:cs.size=6) (hV:PoolV w bs (.agg cs) P K L) (hrb:rb < bs) (h0:w0.heap.size≤rb) (e1:pb ≠ rb) (e2:xb ≠ rb):lrC w0 pb xb rb pv xv bs P K L 1 (w.setRow rb cs):=by
 obtain ⟨h1,h2,h3,h4,h5,co,h6,h7,h8⟩:=h
 refine ⟨h1.trans ((Below.refl _ w).trans ⟨rfl,rfl,rfl,by simp,fun j hj => setRow_other w rb j cs (by omega)⟩),by simpa using h2,(setRow_other w rb pb cs e1).trans h3,(setRow_other w rb xb cs e2).trans h4,(setRow_other w rb (rb + 1) cs (by omega)).trans h5,cs,setRow_heap w rb co cs _ (0,0) h6,hs,fun _ => hV.keepX (KeepX.setRow rb w cs) hrb⟩
theorem find_first {F:List Pf} {q:Pf→Bool} {k:Nat} {f:Pf} (hf:F[k]?=some f) (hq:q f=true) (hn:∀ (j:Nat) (g:Pf),j < k→F[j]?=some g→q g=false):F.find? q=some f:=by
 induction F generalizing k with
 | nil => simp at hf
 | cons a F ih =>
   cases k with
   | zero =>
     simp at hf
     subst hf
     simp [hq]
   | succ k =>
     have ha:=hn 0 a (by omega) rfl
     rw [List.find?_cons,ha]
     exact ih (by simpa using hf) (fun j g hj hg => hn (j + 1) g (by omega) (by simpa using hg))
theorem find_none {F:List Pf} {q:Pf→Bool} (hn:∀ (j:Nat) (g:Pf),F[j]?=some g→q g=false):F.find? q=none:=by
 rw [List.find?_eq_none]
 intro g hg
 obtain ⟨j,hj,rfl⟩:=List.getElem_of_mem hg
 simp [hn j _ (List.getElem?_eq_getElem hj)]
theorem takeOf_any (P:Pf) (ka la:Option Addr) (kn kc ln lc:Nat) (K:List Pf) (L:List Ls) (key:List UInt8) (n:Int) (w:World) (hK:RdK layPf w ka K) (hL:RdK layLs w la L) (hkn:K.length=kn) (hln:L.length=ln) (hs:kn + ln≤7) (hP:OkPf P) (hT:∀ p ∈ takenL K L,OkPf p) :
  Calls Tryz.prog 18 #[.agg (plC P (.slice ka kn kc) (.slice la ln lc)).toArray, .string (strL key), .int .i64 n] w fun e w' => ∃ v,e=.returned (.tuple #[v, .agg (pfC (gotX (chP false n (freeL P K L)) n)).toArray, .bool (chP false n (freeL P K L)).isSome])∧PoolV w' w.heap.size v (gotP (chP false n (freeL P K L)) P) (gotK (chP false n (freeL P K L)) K) (gotL (chP false n (freeL P K L)) L key n)∧Below w.heap.size w w':=by
 have HFr:=Lib.hid fun wx (hk:RdK layPf wx ka K) (hl:RdK layLs wx la L) => freeOf_any P ka la kn kc ln lc K L wx hk hl hkn hln hs hP hT
 have HLe:=Lib.hid (free_len hP hT (by omega))
 have HLd0:=Lib.hid fun x wx (hk:RdK layPf wx ka K) (hl:RdK layLs wx la L) => qleased_any P ka la kn kc ln lc K L key x wx hk hl hkn hln (by omega) (by omega)
 rw [chP_first]
 generalize freeL P K L=F at *
 have hl2:((ln:Nat):Int) < 200:=by omega
 clear hP hT hkn hln
 obtain ⟨o,ho⟩:∃ o,F.find? (fun f => decide (f.2.2.2≤n))=o:=⟨_,rfl⟩
 have HO:=Lib.hid ho
 rw [ho]
 clear ho
 obtain ⟨ps,ph,pl,pn⟩:=P
 rw [show (plC (ps,ph,pl,pn) (.slice ka kn kc) (.slice la ln lc)).toArray=#[.bool ps, .int .u64 (ph:Int), .int .u64 (pl:Int), .int .i64 pn, .slice ka kn kc, .slice la ln lc] from rfl] at *
 have hB01:Below w.heap.size w (((w.alloc (.cells #[.bool ps, .int .u64 (ph:Int), .int .u64 (pl:Int), .int .i64 pn, .slice ka kn kc, .slice la ln lc] 34 (0,0))).alloc (.cells #[.bool false, .int .u64 0, .int .u64 0, .int .i64 0, .slice none 0 0, .slice none 0 0] 34 (0,0))).alloc (.cells #[.bool false, .int .u64 0, .int .u64 0, .int .i64 0] 30 (0,0))):=below_alloc (below_alloc (below_alloc (Below.refl _ _) _) _) _
 have HB01:=Lib.hid hB01
 have HKw:=Lib.hid hK
 have HLw:=Lib.hid hL
 have HQ0:Hid (Blk (((w.alloc (.cells #[.bool ps, .int .u64 (ph:Int), .int .u64 (pl:Int), .int .i64 pn, .slice ka kn kc, .slice la ln lc] 34 (0,0))).alloc (.cells #[.bool false, .int .u64 0, .int .u64 0, .int .i64 0, .slice none 0 0, .slice none 0 0] 34 (0,0))).alloc (.cells #[.bool false, .int .u64 0, .int .u64 0, .int .i64 0] 30 (0,0))) w.heap.size 34 #[.bool ps, .int .u64 (ph:Int), .int .u64 (pl:Int), .int .i64 pn, .slice ka kn kc, .slice la ln lc]):=Lib.hid (((Blk.new w _ _).alloc _).alloc _)
 have HR1:Hid (Blk (((w.alloc (.cells #[.bool ps, .int .u64 (ph:Int), .int .u64 (pl:Int), .int .i64 pn, .slice ka kn kc, .slice la ln lc] 34 (0,0))).alloc (.cells #[.bool false, .int .u64 0, .int .u64 0, .int .i64 0, .slice none 0 0, .slice none 0 0] 34 (0,0))).alloc (.cells #[.bool false, .int .u64 0, .int .u64 0, .int .i64 0] 30 (0,0))) (w.heap.size + 1) 34 #[.bool false, .int .u64 0, .int .u64 0, .int .i64 0, .slice none 0 0, .slice none 0 0]):=Lib.hid (by
  have this:=(Blk.new (w.alloc (.cells #[.bool ps, .int .u64 (ph:Int), .int .u64 (pl:Int), .int .i64 pn, .slice ka kn kc, .slice la ln lc] 34 (0,0))) 34 #[.bool false, .int .u64 0, .int .u64 0, .int .i64 0, .slice none 0 0, .slice none 0 0]).alloc (.cells #[.bool false, .int .u64 0, .int .u64 0, .int .i64 0] 30 (0,0))
  rw [World.size_alloc] at this
  exact this)
 have HR2:Hid (Blk (((w.alloc (.cells #[.bool ps, .int .u64 (ph:Int), .int .u64 (pl:Int), .int .i64 pn, .slice ka kn kc, .slice la ln lc] 34 (0,0))).alloc (.cells #[.bool false, .int .u64 0, .int .u64 0, .int .i64 0, .slice none 0 0, .slice none 0 0] 34 (0,0))).alloc (.cells #[.bool false, .int .u64 0, .int .u64 0, .int .i64 0] 30 (0,0))) (w.heap.size + 1 + 1) 30 #[.bool false, .int .u64 0, .int .u64 0, .int .i64 0]):=Lib.hid (by
  have this:=Blk.new ((w.alloc (.cells #[.bool ps, .int .u64 (ph:Int), .int .u64 (pl:Int), .int .i64 pn, .slice ka kn kc, .slice la ln lc] 34 (0,0))).alloc (.cells #[.bool false, .int .u64 0, .int .u64 0, .int .i64 0, .slice none 0 0, .slice none 0 0] 34 (0,0))) 30 #[.bool false, .int .u64 0, .int .u64 0, .int .i64 0]
  rw [World.size_alloc,World.size_alloc] at this
  exact this)
 clear hK hL hB01
 go_enter Tryz.func18,Tryz.ntmps18
 go_upto_region 1 with fail
 generalize (((w.alloc (.cells #[.bool ps, .int .u64 (ph:Int), .int .u64 (pl:Int), .int .i64 pn, .slice ka kn kc, .slice la ln lc] 34 (0,0))).alloc (.cells #[.bool false, .int .u64 0, .int .u64 0, .int .i64 0, .slice none 0 0, .slice none 0 0] 34 (0,0))).alloc (.cells #[.bool false, .int .u64 0, .int .u64 0, .int .i64 0] 30 (0,0)))=w1 at *
 obtain ⟨pb,hpb⟩:∃ q,w.heap.size=q:=⟨_,rfl⟩
 have Hpw:Hid (w.heap.size≤pb):=Lib.hid (by omega)
 rw [hpb] at HQ0 HR1 HR2 ⊢
 clear hpb
 have p0:=HQ0.out.cell 0
 have p1:=HQ0.out.cell 1
 have p2:=HQ0.out.cell 2
 have p3:=HQ0.out.cell 3
 have p4:=HQ0.out.cell 4
 have p5:=HQ0.out.cell 5
 simp at p0 p1 p2 p3 p4 p5
 go_wp2_with fail
 refine (HFr.out _ (HKw.out.below HB01.out) (HLw.out.below HB01.out)).mono ?_
 rintro e w2 ⟨v,rfl,hO,hb⟩
 obtain ⟨fa,fc,rfl, -, -, -⟩:=hO.form
 obtain ⟨m,hm⟩:∃ m,F.length=m:=⟨_,rfl⟩
 rw [hm] at hO ⊢
 have Hm:=Lib.hid hm
 have hm9:m≤900:=by rw [← hm];exact HLe.out
 have HF2:=Lib.hid hO.rd
 have HB2:=Lib.hid hb
 have HBw:=Lib.hid (HB01.out.trans (hb.mono HB01.out.size))
 clear hO hm HFr HLe p0 p1 p2 p3 p4 p5
 have Hb2:Hid (pb + 1 + 1 < w1.heap.size):=Lib.hid HR2.out.lt
 go_wp2_with fail
 go_loopw [10,11,15] (fun s10 s11 i wr => ∃ k:Nat,k≤m∧i=.int .i64 (k:Int)∧Hid (∀ (j:Nat) (g:Pf),j < k→F[j]?=some g→decide (g.2.2.2≤n)=false)∧Hid (Below w2.heap.size w2 wr)) (fun _ _ i _ => m - (intOf i).toNat)
 case atStart => exact ⟨0,Nat.zero_le _,rfl,Lib.hid fun j g hj => absurd hj (Nat.not_lt_zero _),Lib.hid (Below.refl _ _)⟩
 case round =>
  obtain ⟨k,hk,rfl,HN,HBr⟩:=hrel
  have hb2:Below w1.heap.size w1 wr:=HB2.out.trans (HBr.out.mono HB2.out.size)
  have HBx:=Lib.hid (HB01.out.trans (hb2.mono HB01.out.size))
  have HQx:=Lib.hid (HQ0.out.below hb2 HQ0.out.lt)
  have HR1x:=Lib.hid (HR1.out.below hb2 HR1.out.lt)
  have HR2x:=Lib.hid (HR2.out.below hb2 HR2.out.lt)
  have Hbx2:Hid (pb + 1 + 1 < wr.heap.size):=Lib.hid HR2x.out.lt
  clear hb2
  by_cases hlt:k < m
  ·obtain ⟨f,hf⟩:∃ f,F[k]?=some f:=⟨_,List.getElem?_eq_getElem (by rw [Hm.out];exact hlt)⟩
   have HY:Hid (decide (f.2.2.2≤n)=true→o=some f):=Lib.hid fun h => by rw [← HO.out];exact find_first hf h HN.out
   have HN2:Hid (decide (f.2.2.2≤n)=false→∀ (j:Nat) (g:Pf),j < k + 1→F[j]?=some g→decide (g.2.2.2≤n)=false):=Lib.hid fun h j g hj hg => by
    rcases Nat.lt_or_ge j k with h1 | h1
    ·exact HN.out j g h1 hg
    ·obtain rfl:j=k:=by omega
     rw [hf] at hg
     injection hg with hg
     subst hg
     exact h
   obtain ⟨f1,f2,f3,f4⟩:=f
   obtain ⟨g,off,had,hg,d0,d1,d2,d3⟩:=(HF2.out.below HBr.out).pf hf rfl
   subst had
   have HX3:Hid (Blk (wr.alloc (.cells #[.bool f1, .int .u64 (f2:Int), .int .u64 (f3:Int), .int .i64 f4] 30 (0,0))) wr.heap.size 30 #[.bool f1, .int .u64 (f2:Int), .int .u64 (f3:Int), .int .i64 f4]):=Lib.hid (Blk.new wr _ _)
   have HQ3:=Lib.hid (HQx.out.alloc (.cells #[.bool f1, .int .u64 (f2:Int), .int .u64 (f3:Int), .int .i64 f4] 30 (0,0)))
   have HR13:=Lib.hid (HR1x.out.alloc (.cells #[.bool f1, .int .u64 (f2:Int), .int .u64 (f3:Int), .int .i64 f4] 30 (0,0)))
   have HR23:=Lib.hid (HR2x.out.alloc (.cells #[.bool f1, .int .u64 (f2:Int), .int .u64 (f3:Int), .int .i64 f4] 30 (0,0)))
   have HB3:Hid (Below w.heap.size w (wr.alloc (.cells #[.bool f1, .int .u64 (f2:Int), .int .u64 (f3:Int), .int .i64 f4] 30 (0,0)))):=Lib.hid (Below.alloc HBx.out HBx.out.size _)
   have HBr3:Hid (Below w2.heap.size w2 (wr.alloc (.cells #[.bool f1, .int .u64 (f2:Int), .int .u64 (f3:Int), .int .i64 f4] 30 (0,0)))):=Lib.hid (Below.alloc HBr.out HBr.out.size _)
   clear hf hg HN
   go_upto_region 4 with fail
   generalize wr.alloc (.cells #[.bool f1, .int .u64 (f2:Int), .int .u64 (f3:Int), .int .i64 f4] 30 (0,0))=w3 at *
   obtain ⟨bx,hbx⟩:∃ q,wr.heap.size=q:=⟨_,rfl⟩
   rw [hbx] at HX3 Hbx2 ⊢
   clear hbx HBr HBx HQx HR1x HR2x d0 d1 d2 d3
   have d0:=HX3.out.cell 0
   have d1:=HX3.out.cell 1
   have d2:=HX3.out.cell 2
   have d3:=HX3.out.cell 3
   simp at d0 d1 d2 d3
   have p5:=HQ3.out.cell 5
   simp at p5
   by_cases hc:f4≤n
   ·have hcd:decide (f4≤n)=true:=decide_eq_true hc
    have HE:=Lib.hid (HY.out hcd)
    have hb4:Below w3.heap.size w3 (w3.alloc (.cells #[.bool f1, .int .u64 (f2:Int), .int .u64 (f3:Int), .int .i64 n] 30 (0,0))):=below_alloc (Below.refl _ _) _
    have HX4:Hid (Blk (w3.alloc (.cells #[.bool f1, .int .u64 (f2:Int), .int .u64 (f3:Int), .int .i64 n] 30 (0,0))) w3.heap.size 30 #[.bool f1, .int .u64 (f2:Int), .int .u64 (f3:Int), .int .i64 n]):=Lib.hid (Blk.new w3 _ _)
    have HQ4:=Lib.hid (HQ3.out.below hb4 HQ3.out.lt)
    have HR14:=Lib.hid (HR13.out.below hb4 HR13.out.lt)
    have HR24:=Lib.hid (HR23.out.below hb4 HR23.out.lt)
    have HB4:=Lib.hid (HB3.out.trans (hb4.mono HB3.out.size))
    have HXb:Hid (pb + 1 + 1 < w3.heap.size):=Lib.hid HR23.out.lt
    have hk4:(w3.alloc (.cells #[.bool f1, .int .u64 (f2:Int), .int .u64 (f3:Int), .int .i64 n] 30 (0,0))).heap.size=w3.heap.size + 1:=World.size_alloc _ _
    clear hb4 HY HN2
    go_upto_region 6 with fail
    generalize w3.alloc (.cells #[.bool f1, .int .u64 (f2:Int), .int .u64 (f3:Int), .int .i64 n] 30 (0,0))=w5 at *
    obtain ⟨xb,hxb⟩:∃ q,w3.heap.size=q:=⟨_,rfl⟩
    rw [hxb] at HX4 HXb hk4 ⊢
    have Hb5:Hid (pb + 1 + 1 < w5.heap.size):=Lib.hid (by have:=HXb.out;omega)
    clear hxb hk4 HX3 HQ3 HR13 HR23 HB3 HBr3 d0 d1 d2 d3 p5 HR1 HR2 Hb2
    have HX3:=HX4
    have HQ3:=HQ4
    have HR1:=HR14
    have HR2:=HR24
    have HB3:=HB4
    have Hb2:=Hb5
    have HLd:=Lib.hid fun wx hk hl => HLd0.out (f1,f2,f3,n) wx hk hl
    rw [show (pfC (f1,f2,f3,n)).toArray=#[.bool f1, .int .u64 (f2:Int), .int .u64 (f3:Int), .int .i64 n] from rfl] at HLd
    obtain ⟨LL,hLL⟩:∃ q,leasedL L key (f1,f2,f3,n)=q:=⟨_,rfl⟩
    have HLL:=Lib.hid hLL
    rw [hLL] at HLd
    clear hLL HX4 HQ4 HR14 HR24 HB4 Hb5 HLd0
    have hbs:pb + 1 < w5.heap.size:=HR1.out.lt
    have hC3:lrC w pb xb (pb + 1) #[.bool ps, .int .u64 (ph:Int), .int .u64 (pl:Int), .int .i64 pn, .slice ka kn kc, .slice la ln lc] #[.bool f1, .int .u64 (f2:Int), .int .u64 (f3:Int), .int .i64 n] w5.heap.size (ps,ph,pl,pn) K LL 0 w5:=⟨HB3.out,Nat.le_refl _,HQ3.out,HX3.out,HR2.out,_,HR1.out,rfl,fun h => by cases h⟩
    have HC3:=Lib.hid hC3
    have Hbs:=Lib.hid hbs
    have Hxb:Hid (pb + 1 < xb):=Lib.hid (by have:=HXb.out;omega)
    clear hC3 hbs HB3 HQ3 HX3 HR1 HR2
    refine Lm.wp_region_lim 6 1 (lrR #[.bool ps, .int .u64 (ph:Int), .int .u64 (pl:Int), .int .i64 pn, .slice ka kn kc, .slice la ln lc] #[.bool f1, .int .u64 (f2:Int), .int .u64 (f3:Int), .int .i64 n] (.string (strL key)) w5.heap.size (ps,ph,pl,pn) K LL) (lrC w pb xb (pb + 1) #[.bool ps, .int .u64 (ph:Int), .int .u64 (pl:Int), .int .i64 pn, .slice ka kn kc, .slice la ln lc] #[.bool f1, .int .u64 (f2:Int), .int .u64 (f3:Int), .int .i64 n] w5.heap.size (ps,ph,pl,pn) K LL) (lrS (pb + 1)) (fun i => if i=5 then 1 else 0) (fun i => if i=4 then 1 else 0)
     (by kernel_rfl) (by kernel_rfl) (by decide) (by kernel_rfl) (lrR_keep Hbs.out) (lrC.later HC3.out (below_drew (Below.refl _ _))) ?hX
    case' hX => (apply Exists.intro;refine ⟨fun T => ?hA,?hob,?hend⟩)
    case hA =>
     simp only [setAll,List.take_succ_cons,List.take_zero,Act.put,List.setIfInBounds_toArray,List.set_cons_succ,List.set_cons_zero,Nat.reduceAdd]
     exact rfl
    case hob =>
     clear HE
     go_light
     refine ⟨?_,?_,?_,?_,?_,?_,trivial⟩
     all_goals (intro T wx n0 hC hn hp;dsimp only at hn ⊢)
     ·have hn1:n0≤1:=by simp at hn;omega
      have hS:lrS (pb + 1) n0 wx n0 wx:=⟨Nat.le_refl _,hn1,KeepX.refl _ _⟩
      have q:=hC.2.2.1
      have e0:=q.cell 0
      have e1:=q.cell 1
      have e2:=q.cell 2
      have e3:=q.cell 3
      have e4:=q.cell 4
      have e5:=q.cell 5
      simp at e0 e1 e2 e3 e4 e5
      clear q
      unfold Op1
      go_simp
      first | exact ⟨rfl,hC,hS⟩ | exact ⟨rfl,hS⟩ | exact ⟨hC,hS⟩ | exact rfl | exact hS
     ·have hn1:n0≤1:=by simp at hn;omega
      have hS:lrS (pb + 1) n0 wx n0 wx:=⟨Nat.le_refl _,hn1,KeepX.refl _ _⟩
      unfold Op1
      go_simp
      first | exact ⟨rfl,hC,hS⟩ | exact ⟨rfl,hS⟩ | exact ⟨hC,hS⟩ | exact rfl | exact hS
     ·have hn1:n0≤1:=by simp at hn;omega
      have hS:lrS (pb + 1) n0 wx n0 wx:=⟨Nat.le_refl _,hn1,KeepX.refl _ _⟩
      have q:=hC.2.2.2.1
      have e0:=q.cell 0
      have e1:=q.cell 1
      have e2:=q.cell 2
      have e3:=q.cell 3
      simp at e0 e1 e2 e3
      clear q
      unfold Op1
      go_simp
      first | exact ⟨rfl,hC,hS⟩ | exact ⟨rfl,hS⟩ | exact ⟨hC,hS⟩ | exact rfl | exact hS
     ·have hn1:n0≤1:=by simp at hn;omega
      obtain ⟨h0,h1,h2, -⟩:=hp
      have h0:T 0=.agg #[.bool ps, .int .u64 (ph:Int), .int .u64 (pl:Int), .int .i64 pn, .slice ka kn kc, .slice la ln lc]:=h0
      have h1:T 1=.string (strL key):=h1
      have h2:T 2=.agg #[.bool f1, .int .u64 (f2:Int), .int .u64 (f3:Int), .int .i64 n]:=h2
      unfold Op1
      go_simp
      refine (HLd.out wx (HKw.out.below hC.1) (HLw.out.below hC.1)).mono ?_
      rintro e w5 ⟨v,rfl,hV,hb⟩
      exact ⟨_,rfl,hV.weak hC.2.1,hC.later hb,Nat.le_refl _,hn1,KeepX.of_below hb⟩
     ·have hn1:n0≤1:=by simp at hn;omega
      have hS:lrS (pb + 1) n0 wx n0 wx:=⟨Nat.le_refl _,hn1,KeepX.refl _ _⟩
      have q:=hC.2.2.2.1
      have e0:=q.cell 0
      have e1:=q.cell 1
      have e2:=q.cell 2
      have e3:=q.cell 3
      simp at e0 e1 e2 e3
      clear q
      unfold Op1
      go_simp
      first | exact ⟨rfl,hC,hS⟩ | exact ⟨rfl,hS⟩ | exact ⟨hC,hS⟩ | exact rfl | exact hS
     ·obtain rfl:n0=0:=by simpa using hn
      obtain ⟨h3, -⟩:=hp
      have h3:PoolV wx w5.heap.size (T 3) (ps,ph,pl,pn) K LL:=h3
      obtain ⟨a1,c1,a2,c2,e,q1,q2⟩:=h3
      have hV:PoolV wx w5.heap.size (.agg #[.bool ps, .int .u64 (ph:Int), .int .u64 (pl:Int), .int .i64 pn, .slice a1 K.length c1, .slice a2 LL.length c2]) (ps,ph,pl,pn) K LL:=⟨a1,c1,a2,c2,rfl,q1,q2⟩
      obtain ⟨cs,hb1,hsz, -⟩:=hC.2.2.2.2.2
      refine Op1.store_rowQ 34 (.tmp 6) (.tmp 36) rfl (pb + 1) #[.bool ps, .int .u64 (ph:Int), .int .u64 (pl:Int), .int .i64 pn, .slice a1 K.length c1, .slice a2 LL.length c2] rfl e 34 cs hb1 size_pool hsz (all_pool ps ph pl pn a1 a2 K.length c1 LL.length c2) ?_
      exact ⟨rfl,hC.store _ rfl hV Hbs.out (by have:=Hpw.out;omega) (by omega) (by have:=Hxb.out;omega),by simp,by simp,KeepX.setRow _ _ _⟩
    case hend =>
     intro T w4 ⟨n0,hn0,hC,hR⟩
     have h5:n0=1:=hR 5 (by omega)
     subst h5
     have hT4:T 4=.agg #[.bool f1, .int .u64 (f2:Int), .int .u64 (f3:Int), .int .i64 n]:=hR 4 (by omega)
     obtain ⟨hB4,hbs4, -, -,hR24,cs,hR14, -,hV⟩:=hC
     obtain ⟨a1,c1,a2,c2,e,q1,q2⟩:=hV rfl
     injection e with e
     subst e
     have HR1:Hid (Blk w4 (pb + 1) 34 #[.bool ps, .int .u64 (ph:Int), .int .u64 (pl:Int), .int .i64 pn, .slice a1 K.length c1, .slice a2 LL.length c2]):=Lib.hid hR14
     have HR2:=Lib.hid hR24
     have HB:=Lib.hid hB4
     have HOK:=Lib.hid q1
     have HOL:=Lib.hid q2
     clear hR hV q1 q2 hR14 hR24 hB4 hbs4 HC3 HLd
     simp only [List.drop_succ_cons,List.drop_zero]
     rw [hT4]
     have c4:=HR2.out.set4w (x':=.bool f1) (y':=.int .u64 (f2:Int)) (z':=.int .u64 (f3:Int)) (u':=.int .i64 n)
     have c6:=HR1.out.far4w (show pb + 1 ≠ pb + 1 + 1 by omega) (x':=.bool f1) (y':=.int .u64 (f2:Int)) (z':=.int .u64 (f3:Int)) (u':=.int .i64 n)
     have z0:=c6.cell 0
     have z1:=c6.cell 1
     have z2:=c6.cell 2
     have z3:=c6.cell 3
     have z4:=c6.cell 4
     have z5:=c6.cell 5
     have y0:=c4.cell 0
     have y1:=c4.cell 1
     have y2:=c4.cell 2
     have y3:=c4.cell 3
     simp at z0 z1 z2 z3 z4 z5 y0 y1 y2 y3
     clear c4 c6
     have r0:=HR2.out.cell 0
     have r1:=HR2.out.cell 1
     have r2:=HR2.out.cell 2
     have r3:=HR2.out.cell 3
     simp at r0 r1 r2 r3
     have rf:=HR2.out.free
     have HBf:Hid (Below w.heap.size w ((((w4.setCell ⟨pb + 1 + 1,0,none⟩ (.bool f1)).setCell ⟨pb + 1 + 1,1,none⟩ (.int .u64 (f2:Int))).setCell ⟨pb + 1 + 1,2,none⟩ (.int .u64 (f3:Int))).setCell ⟨pb + 1 + 1,3,none⟩ (.int .i64 n))):=Lib.hid (HB.out.grown (grown_setCells (pb + 1 + 1) [.bool f1, .int .u64 (f2:Int), .int .u64 (f3:Int), .int .i64 n] 0 w4) HB.out.size (fun j hj => by injection hj with hj;have:=Hpw.out;omega))
     have HVf:Hid (PoolV ((((w4.setCell ⟨pb + 1 + 1,0,none⟩ (.bool f1)).setCell ⟨pb + 1 + 1,1,none⟩ (.int .u64 (f2:Int))).setCell ⟨pb + 1 + 1,2,none⟩ (.int .u64 (f3:Int))).setCell ⟨pb + 1 + 1,3,none⟩ (.int .i64 n)) w.heap.size (.agg #[.bool ps, .int .u64 (ph:Int), .int .u64 (pl:Int), .int .i64 pn, .slice a1 K.length c1, .slice a2 LL.length c2]) (ps,ph,pl,pn) K LL):=Lib.hid (PoolV.weak ⟨a1,c1,a2,c2,rfl,HOK.out.farC (show pb + 1 + 1 < w5.heap.size by have:=Hb2.out;omega) 0 [.bool f1, .int .u64 (f2:Int), .int .u64 (f3:Int), .int .i64 n],HOL.out.farC (show pb + 1 + 1 < w5.heap.size by have:=Hb2.out;omega) 0 [.bool f1, .int .u64 (f2:Int), .int .u64 (f3:Int), .int .i64 n]⟩ (show w.heap.size≤w5.heap.size by have:=Hbs.out;have:=Hpw.out;omega))
     go_wp2_with fail
     refine bodyPost_ret (v:=.tuple #[.agg #[.bool ps, .int .u64 (ph:Int), .int .u64 (pl:Int), .int .i64 pn, .slice a1 K.length c1, .slice a2 LL.length c2], .agg #[.bool f1, .int .u64 (f2:Int), .int .u64 (f3:Int), .int .i64 n], .bool true]) (by simp [results,Tryz.results18,go_sem, *]) rfl ⟨_,by rw [HE.out];rfl,by rw [HE.out];show PoolV _ _ _ (ps,ph,pl,pn) K (leasedL L key (f1,f2,f3,n));rw [HLL.out];exact HVf.out,HBf.out⟩
   ·have hcd:decide (f4≤n)=false:=decide_eq_false hc
    have HN3:=Lib.hid (HN2.out hcd)
    clear HY HN2
    go_wp2_with fail
    exact ⟨⟨k + 1,by omega,by go_num,HN3,HBr3⟩,by simp [intOf];omega⟩
  ·obtain ⟨m0,hm0⟩:∃ q,q=m:=⟨_,rfl⟩
   obtain rfl:k=m:=by omega
   subst hm0
   have HE:Hid (o=none):=Lib.hid (by
    rw [← HO.out]
    exact find_none fun j g hj => HN.out j g (by rw [← Hm.out];exact (List.getElem?_eq_some_iff.1 hj).1) hj)
   clear HN HR1 HR2 HBr HLd0 hlt hk
   have HR1:=HR1x
   have HR2:=HR2x
   have HB:=HBx
   clear HR1x HR2x HBx HQx
   have c6:=HR1.out.set6w (x1':=.bool false) (x2':=.int .u64 0) (x3':=.int .u64 0) (x4':=.int .i64 0) (x5':=.slice none 0 0) (x6':=.slice none 0 0)
   have c6b:=HR2.out.far6w (show pb + 1 + 1 ≠ pb + 1 by omega) (x1':=.bool false) (x2':=.int .u64 0) (x3':=.int .u64 0) (x4':=.int .i64 0) (x5':=.slice none 0 0) (x6':=.slice none 0 0)
   have c4:=c6b.set4w (x':=.bool false) (y':=.int .u64 0) (z':=.int .u64 0) (u':=.int .i64 0)
   have c6c:=c6.far4w (show pb + 1 ≠ pb + 1 + 1 by omega) (x':=.bool false) (y':=.int .u64 0) (z':=.int .u64 0) (u':=.int .i64 0)
   have b0:=c6b.cell 0
   have b1:=c6b.cell 1
   have b2:=c6b.cell 2
   have b3:=c6b.cell 3
   have bf:=c6b.free
   have z0:=c6c.cell 0
   have z1:=c6c.cell 1
   have z2:=c6c.cell 2
   have z3:=c6c.cell 3
   have z4:=c6c.cell 4
   have z5:=c6c.cell 5
   have y0:=c4.cell 0
   have y1:=c4.cell 1
   have y2:=c4.cell 2
   have y3:=c4.cell 3
   simp at b0 b1 b2 b3 z0 z1 z2 z3 z4 z5 y0 y1 y2 y3
   clear c6 c6b c4 c6c
   have r0:=HR1.out.cell 0
   have r1:=HR1.out.cell 1
   have r2:=HR1.out.cell 2
   have r3:=HR1.out.cell 3
   have r4:=HR1.out.cell 4
   have r5:=HR1.out.cell 5
   simp at r0 r1 r2 r3 r4 r5
   have rf:=HR1.out.free
   have HBf:Hid (Below w.heap.size w ((((((((((wr.setCell ⟨pb + 1,0,none⟩ (.bool false)).setCell ⟨pb + 1,1,none⟩ (.int .u64 0)).setCell ⟨pb + 1,2,none⟩ (.int .u64 0)).setCell ⟨pb + 1,3,none⟩ (.int .i64 0)).setCell ⟨pb + 1,4,none⟩ (.slice none 0 0)).setCell ⟨pb + 1,5,none⟩ (.slice none 0 0)).setCell ⟨pb + 1 + 1,0,none⟩ (.bool false)).setCell ⟨pb + 1 + 1,1,none⟩ (.int .u64 0)).setCell ⟨pb + 1 + 1,2,none⟩ (.int .u64 0)).setCell ⟨pb + 1 + 1,3,none⟩ (.int .i64 0))):=Lib.hid ((HB.out.grown (grown_setCells (pb + 1) [.bool false, .int .u64 0, .int .u64 0, .int .i64 0, .slice none 0 0, .slice none 0 0] 0 wr) HB.out.size (fun j hj => by injection hj with hj;have:=Hpw.out;omega)).grown (grown_setCells (pb + 1 + 1) [.bool false, .int .u64 0, .int .u64 0, .int .i64 0] 0 ((((((wr.setCell ⟨pb + 1,0,none⟩ (.bool false)).setCell ⟨pb + 1,1,none⟩ (.int .u64 0)).setCell ⟨pb + 1,2,none⟩ (.int .u64 0)).setCell ⟨pb + 1,3,none⟩ (.int .i64 0)).setCell ⟨pb + 1,4,none⟩ (.slice none 0 0)).setCell ⟨pb + 1,5,none⟩ (.slice none 0 0))) (Nat.le_trans HB.out.size (by rw [size_setCellsR];exact Nat.le_refl _)) (fun j hj => by injection hj with hj;have:=Hpw.out;omega))
   go_wp2_with fail
   refine bodyPost_ret (v:=.tuple #[.agg #[.bool false, .int .u64 0, .int .u64 0, .int .i64 0, .slice none 0 0, .slice none 0 0], .agg #[.bool false, .int .u64 0, .int .u64 0, .int .i64 0], .bool false]) (by simp [results,Tryz.results18,go_sem, *]) rfl ⟨_,by rw [HE.out];rfl,by rw [HE.out];exact (poolV_zero _ _),HBf.out⟩
open Go.RowKit Go
def Capt (b pb sb lb:Nat) (six:Bool) (hi lo:Nat) (bits:Int) (vk vl:Value) (w:World):Prop :=
 Blk w pb 34 #[.bool six, .int .u64 (hi:Int), .int .u64 (lo:Int), .int .i64 bits,vk,vl]∧Blk w sb 23 #[.pointer (some ⟨b,0,none⟩)]∧Blk w lb 3 #[.int .i64 ((lenN six:Nat):Int)]∧pb ≠ b∧sb ≠ b∧lb ≠ b
theorem Capt.gen {b pb sb lb:Nat} {six:Bool} {hi lo:Nat} {bits:Int} {vk vl:Value} {w w':World} (h:Capt b pb sb lb six hi lo bits vk vl w) (hg:w.grownBy w' (some b)):Capt b pb sb lb six hi lo bits vk vl w':=by
 obtain ⟨h1,h2,h3,n1,n2,n3⟩:=h
 exact ⟨h1.keep hg n1,h2.keep hg n2,h3.keep hg n3,n1,n2,n3⟩
theorem Capt.below {b pb sb lb:Nat} {six:Bool} {hi lo:Nat} {bits:Int} {vk vl:Value} {w w':World} (h:Capt b pb sb lb six hi lo bits vk vl w) (hb:Below w.heap.size w w'):Capt b pb sb lb six hi lo bits vk vl w':=by
 obtain ⟨h1,h2,h3,n1,n2,n3⟩:=h
 exact ⟨h1.below hb h1.lt,h2.below hb h2.lt,h3.below hb h3.lt,n1,n2,n3⟩
theorem Capt.belowB {b pb sb lb B:Nat} {six:Bool} {hi lo:Nat} {bits:Int} {vk vl:Value} {w w':World} (h:Capt b pb sb lb six hi lo bits vk vl w) (hb:Below B w w') (h1:pb < B) (h2:sb < B) (h3:lb < B):Capt b pb sb lb six hi lo bits vk vl w':=by
 obtain ⟨k1,k2,k3,n⟩:=h
 exact ⟨k1.below hb h1,k2.below hb h2,k3.below hb h3,n⟩
theorem Capt.far {b pb sb lb:Nat} {six:Bool} {hi lo:Nat} {bits:Int} {vk vl:Value} {w:World} {B:Nat} (h:Capt b pb sb lb six hi lo bits vk vl w) (h1:pb ≠ B) (h2:sb ≠ B) (h3:lb ≠ B) (i:Nat) (v:Value):Capt b pb sb lb six hi lo bits vk vl (w.setCell ⟨B,i,none⟩ v):=by
 obtain ⟨k1,k2,k3,n⟩:=h
 exact ⟨k1.far h1 i v,k2.far h2 i v,k3.far h3 i v,n⟩
def paR (b ab lo:Nat):Nat→Value→World→Prop
 | 0,v,_ => v=.pointer (some ⟨ab,2,none⟩)
 | 1,v,_ => v=.int .u64 (lo:Int)
 | 2,v,_ => v=.pointer (some ⟨b,0,none⟩)
 | 3,v,_ => ∃ k:Int,v=.int .i64 k∧0≤k∧k≤15
 | 4,v,_ => v=.pointer (some ⟨b,0,none⟩)
 | 5,v,w => ∃ g,v=.slice (some ⟨g,0,none⟩) 3 3∧g ≠ b∧RdInts w g 0 3 [1,2,4]
 | 6,v,_ => ∃ k:Int,v=.int .i64 k∧(k=1 ∨ k=2 ∨ k=4)
 | 7,v,_ => ∃ k:Int,v=.int .i64 k∧0≤k∧k≤60
 | 8,v,_ => ∃ k:Int,v=.int .u64 k∧0≤k∧k≤60
 | _,v,_ => ∃ k:Nat,v=.int .u64 ((lo + k:Nat):Int)∧k≤60
theorem paR_keep {b ab lo:Nat} (p:Nat) (v:Value) (u w:World) (h:paR b ab lo p v u) (hg:u.grownBy w (some b)):paR b ab lo p v w:=by
 rcases p with _ | _ | _ | _ | _ | _ | _ | _ | _ | p
 all_goals first
  | exact h
  | (obtain ⟨g,h1,h2,h3⟩:=h;exact ⟨g,h1,h2,h3.grown hg h2⟩)
def pbR (b pb:Nat) (six:Bool) (hi x:Nat) (bits:Int):Nat→Value→World→Prop
 | 0,v,_ => v=.agg #[.bool six, .int .u64 (hi:Int), .int .u64 (x:Int)]
 | 1,v,_ => v=.int .i64 ((lenN six:Nat):Int)
 | 2,v,_ => v=.pointer (some ⟨pb,0,none⟩)
 | 3,v,_ => v=.pointer (some ⟨pb,3,none⟩)
 | 4,v,_ => v=.int .i64 bits
 | 5,v,_ => v=.pointer (some ⟨b,0,none⟩)
 | 6,v,_ => ∃ k:Int,v=.int .i64 k∧1≤k∧k≤8
 | 7,v,_ => ∃ k:Int,v=.int .i64 k∧0≤k∧k≤200
 | 8,v,_ => ∃ n:Nat,v=.int .i64 (n:Int)∧n≤lenN six
 | _,v,_ => ∃ q:Pf,v=.agg (pfC q).toArray∧OkPf q
theorem pbR_keep {b pb:Nat} {six:Bool} {hi x:Nat} {bits:Int} (p:Nat) (v:Value) (u w:World) (h:pbR b pb six hi x bits p v u) (hg:u.grownBy w (some b)):pbR b pb six hi x bits p v w:=by
 rcases p with _ | _ | _ | _ | _ | _ | _ | _ | _ | p
 all_goals exact h
theorem part_gen (b m pb sb lb:Nat) (six:Bool) (hi lo:Nat) (bits:Int) (vk vl:Value) (w:World) (h:Strm w b m) (hm:m + 10 < 1099511627776) (hC:Capt b pb sb lb six hi lo bits vk vl w) (hA:∀ k,k≤60→AOK six hi (lo + k)) (hb:0≤bits∧bits≤128) :
  Calls Tryz.prog 78 #[.pointer (some ⟨pb,0,none⟩), .pointer (some ⟨sb,0,none⟩), .pointer (some ⟨lb,0,none⟩)] w fun e w' => ∃ q:Pf,e=.returned (.agg (pfC q).toArray)∧OkPf q∧Gen b w w' (m + 3):=by
 have hblt:=h.lt
 have HA:=Lib.hid hA
 have Hpb:Hid (pb < w.heap.size∧sb < w.heap.size∧lb < w.heap.size):=Lib.hid ⟨hC.1.lt,hC.2.1.lt,hC.2.2.1.lt⟩
 obtain ⟨hb0,hb1⟩:=hb
 have hlo:lo + 60 < 18446744073709551616:=(hA 60 (by omega)).2.1
 have hln:=lenN_le six
 have HG0:Hid (Gen b w (w.alloc (.cells #[.bool false, .int .u64 0, .int .u64 0, .int .i64 0] 30 (0,0))) m):=Lib.hid ((Gen.start h).alloc _)
 have HR0:Hid (Blk (w.alloc (.cells #[.bool false, .int .u64 0, .int .u64 0, .int .i64 0] 30 (0,0))) w.heap.size 30 #[.bool false, .int .u64 0, .int .u64 0, .int .i64 0]):=Lib.hid (Blk.new w _ _)
 have HC0:=Lib.hid (hC.below (below_alloc (Below.refl _ _) (.cells #[.bool false, .int .u64 0, .int .u64 0, .int .i64 0] 30 (0,0))))
 clear h hC hA
 go_enter Tryz.func78,Tryz.ntmps78
 go_upto_region 1 with fail
 generalize w.alloc (.cells #[.bool false, .int .u64 0, .int .u64 0, .int .i64 0] 30 (0,0))=w1 at *
 obtain ⟨rb,hrb⟩:∃ q,w.heap.size=q:=⟨_,rfl⟩
 have Hrb:Hid (w.heap.size≤rb∧b < rb):=Lib.hid ⟨by omega,by omega⟩
 rw [hrb] at HR0 ⊢
 clear hrb
 have p0:=HC0.out.1.cell 0
 have p1:=HC0.out.1.cell 1
 have p2:=HC0.out.1.cell 2
 simp at p0 p1 p2
 have HA1:Hid (Blk (w1.alloc (.cells #[.bool six, .int .u64 (hi:Int), .int .u64 (lo:Int)] 28 (0,0))) w1.heap.size 28 #[.bool six, .int .u64 (hi:Int), .int .u64 (lo:Int)]):=Lib.hid (Blk.new w1 _ _)
 have HG1:=Lib.hid (HG0.out.alloc (.cells #[.bool six, .int .u64 (hi:Int), .int .u64 (lo:Int)] 28 (0,0)))
 have HR1:=Lib.hid (HR0.out.alloc (.cells #[.bool six, .int .u64 (hi:Int), .int .u64 (lo:Int)] 28 (0,0)))
 have HC1:=Lib.hid (HC0.out.below (below_alloc (Below.refl _ _) (.cells #[.bool six, .int .u64 (hi:Int), .int .u64 (lo:Int)] 28 (0,0))))
 have Hab:Hid (rb < w1.heap.size):=Lib.hid HR0.out.lt
 go_upto_region 2 with fail
 generalize w1.alloc (.cells #[.bool six, .int .u64 (hi:Int), .int .u64 (lo:Int)] 28 (0,0))=w2 at *
 obtain ⟨ab,hab⟩:∃ q,w1.heap.size=q:=⟨_,rfl⟩
 rw [hab] at HA1 Hab ⊢
 clear hab HG0 HR0 HC0 p0 p1 p2
 have hab:ab ≠ b:=by have:=Hab.out;have:=Hrb.out;omega
 have hrbn:rb ≠ b:=by have:=Hrb.out;omega
 refine wp_region_inv 10 2 (paR b ab lo) (fun n wx => Gen b w wx (m + n)∧Blk wx ab 28 #[.bool six, .int .u64 (hi:Int), .int .u64 (lo:Int)]∧Blk wx rb 30 #[.bool false, .int .u64 0, .int .u64 0, .int .i64 0]∧Capt b pb sb lb six hi lo bits vk vl wx) (fun u v => u.grownBy v (some b)) (fun i => if i=3 ∨ i=6 then 1 else 0)
  (by kernel_rfl) (by kernel_rfl) (by decide) paR_keep ⟨HG1.out.drew,HA1.out.drewN 1,HR1.out.drewN 1,HC1.out.below (below_drew (Below.refl _ _))⟩ ?hX
 case' hX => (apply Exists.intro;refine ⟨fun T => ?hA,?hob,?hend⟩)
 case hA =>
  simp only [setAll,List.take_succ_cons,List.take_zero,Act.put,List.setIfInBounds_toArray,List.set_cons_succ,List.set_cons_zero,Nat.reduceAdd]
  exact rfl
 case hob =>
  clear HA1 HG1 HR1 HC1
  go_light
  refine ⟨?_,?_,?_,?_,?_,?_,?_,?_,?_,?_,trivial⟩
  all_goals (intro T wx n0 hI hn hp;obtain ⟨hG,hB,hR,hC⟩:=hI;dsimp only at hn ⊢;unfold Op1)
  ·skip
   go_simp
   first | exact ⟨rfl,⟨hG,hB,hR,hC⟩,World.grownBy.refl _ _⟩ | exact ⟨rfl,World.grownBy.refl _ _⟩ | exact World.grownBy.refl _ _
  ·obtain ⟨h0, -⟩:=hp
   have h0:T 0=.pointer (some ⟨ab,2,none⟩):=h0
   have e2:=hB.cell 2
   simp at e2
   go_simp
   first | exact ⟨rfl,⟨hG,hB,hR,hC⟩,World.grownBy.refl _ _⟩ | exact ⟨rfl,World.grownBy.refl _ _⟩ | exact World.grownBy.refl _ _
  ·skip
   have e0:=hC.2.1.cell 0
   simp at e0
   go_simp
   first | exact ⟨rfl,⟨hG,hB,hR,hC⟩,World.grownBy.refl _ _⟩ | exact ⟨rfl,World.grownBy.refl _ _⟩ | exact World.grownBy.refl _ _
  ·obtain ⟨h0, -⟩:=hp
   have h0:T 2=.pointer (some ⟨b,0,none⟩):=h0
   go_simp
   refine (range_gen b (m + n0) 0 15 _ hG.s (by simp at hn;omega) (by omega) (by omega)).mono ?_
   rintro e w3 ⟨k,rfl,hk,hg2⟩
   exact ⟨_,rfl,⟨k,rfl,by unfold RangeRes at hk;omega,by unfold RangeRes at hk;omega⟩,⟨hG.trans hg2,hB.keep hg2.g hab,hR.keep hg2.g hrbn,hC.gen hg2.g⟩,hg2.g⟩
  ·skip
   have e0:=hC.2.1.cell 0
   simp at e0
   go_simp
   first | exact ⟨rfl,⟨hG,hB,hR,hC⟩,World.grownBy.refl _ _⟩ | exact ⟨rfl,World.grownBy.refl _ _⟩ | exact World.grownBy.refl _ _
  ·go_simp
   exact ⟨⟨wx.heap.size,rfl,by have:=hG.s.lt;omega,rdInts_new wx _ [1,2,4] _ rfl⟩,⟨hG.alloc _,hB.alloc _,hR.alloc _,hC.below (below_alloc (Below.refl _ _) _)⟩,World.grownBy_alloc _ _ _⟩
  ·obtain ⟨h0,h1, -⟩:=hp
   have h0:T 4=.pointer (some ⟨b,0,none⟩):=h0
   obtain ⟨g,h1,hgb,hz⟩:∃ g,T 5=.slice (some ⟨g,0,none⟩) 3 3∧g ≠ b∧RdInts wx g 0 3 [1,2,4]:=h1
   go_simp
   refine (pick_gen b (m + n0) g 0 3 3 [1,2,4] _ hG.s (by simp at hn;omega) (by omega) hz hgb).mono ?_
   rintro e w3 ⟨k,rfl,hk,hg2⟩
   exact ⟨_,rfl,⟨k,rfl,by simpa using hk⟩,⟨hG.trans hg2,hB.keep hg2.g hab,hR.keep hg2.g hrbn,hC.gen hg2.g⟩,hg2.g⟩
  ·obtain ⟨h0,h1, -⟩:=hp
   obtain ⟨k1,h0,ha1,ha2⟩:∃ k:Int,T 3=.int .i64 k∧0≤k∧k≤15:=h0
   obtain ⟨k2,h1,hk2⟩:∃ k:Int,T 6=.int .i64 k∧(k=1 ∨ k=2 ∨ k=4):=h1
   obtain ⟨k3,hk3⟩:∃ k:Int,k1 * k2=k:=⟨_,rfl⟩
   have hk4:0≤k3∧k3≤60:=by rcases hk2 with rfl | rfl | rfl <;> omega
   have e7:wrap64 k3=k3:=by unfold wrap64;omega
   have e8:IntKind.i64.wrap k3=k3:=by rw [IntKind.wrap_i64];omega
   have HK4:=Lib.hid hk4
   have HI:=Lib.hid (And.intro hG (And.intro hB (And.intro hR hC)))
   clear hk2 hk4 hG hB hR hC
   go_simp
   first | exact ⟨⟨k3,rfl,HK4.out⟩,HI.out,World.grownBy.refl _ _⟩ | exact ⟨⟨k3,by rw [hk3],HK4.out⟩,HI.out,World.grownBy.refl _ _⟩
  ·obtain ⟨h0, -⟩:=hp
   obtain ⟨k1,h0,ha1,ha2⟩:∃ k:Int,T 7=.int .i64 k∧0≤k∧k≤60:=h0
   have e7:IntKind.u64.wrap k1=k1:=by simp [IntKind.wrap,IntKind.bits,IntKind.signed];omega
   have HI:=Lib.hid (And.intro hG (And.intro hB (And.intro hR hC)))
   clear hG hB hR hC
   go_simp
   exact ⟨⟨k1,rfl,ha1,ha2⟩,HI.out,World.grownBy.refl _ _⟩
  ·obtain ⟨h0,h1, -⟩:=hp
   have h0:T 1=.int .u64 (lo:Int):=h0
   obtain ⟨k1,h1,ha1,ha2⟩:∃ k:Int,T 8=.int .u64 k∧0≤k∧k≤60:=h1
   have e7:IntKind.u64.wrap ((lo:Int) + k1)=(lo:Int) + k1:=by simp [IntKind.wrap,IntKind.bits,IntKind.signed];omega
   have HI:=Lib.hid (And.intro hG (And.intro hB (And.intro hR hC)))
   clear hG hB hR hC
   go_simp
   exact ⟨⟨k1.toNat,by rw [show ((lo + k1.toNat:Nat):Int)=(lo:Int) + k1 by omega],by omega⟩,HI.out,World.grownBy.refl _ _⟩
 case hend =>
  intro T w4 ⟨n0,hn0,hG,hB,hR,hC⟩ hRR
  obtain ⟨k,h9,hk⟩:∃ k:Nat,T 9=.int .u64 ((lo + k:Nat):Int)∧k≤60:=hRR 9 (by omega)
  have HAk:=Lib.hid (HA.out k hk)
  obtain ⟨x,hx⟩:∃ x,lo + k=x:=⟨_,rfl⟩
  rw [hx] at h9 HAk
  have HB5:Hid (Blk (w4.setCell ⟨ab,2,none⟩ (.int .u64 (x:Int))) ab 28 #[.bool six, .int .u64 (hi:Int), .int .u64 (x:Int)]):=Lib.hid (hB.set 2 _)
  have HG5:Hid (Gen b w (w4.setCell ⟨ab,2,none⟩ (.int .u64 (x:Int))) (m + 2)):=Lib.hid ((hG.mono (by omega)).setCell _ _ (by have:=Hab.out;have:=Hrb.out;show w.heap.size≤ab;omega) (by have:=Hab.out;have:=Hrb.out;show b < ab;omega))
  have HR5:=Lib.hid (hR.far (show rb ≠ ab by have:=Hab.out;omega) 2 (.int .u64 (x:Int)))
  have HC5:=Lib.hid (hC.far (show pb ≠ ab by have:=Hpb.out;have:=Hab.out;have:=Hrb.out;omega) (show sb ≠ ab by have:=Hpb.out;have:=Hab.out;have:=Hrb.out;omega) (show lb ≠ ab by have:=Hpb.out;have:=Hab.out;have:=Hrb.out;omega) 2 (.int .u64 (x:Int)))
  have a2:=hB.cell 2
  have af:=hB.free
  simp at a2
  clear hRR hG hB hR hC HA1 HG1 HR1 HC1 hk hx HA
  simp only [List.drop_succ_cons,List.drop_zero]
  rw [h9]
  go_upto_region 3 with fail
  generalize w4.setCell ⟨ab,2,none⟩ (.int .u64 (x:Int))=w5 at *
  clear a2 af h9
  refine wp_region_inv 10 1 (pbR b pb six hi x bits) (fun n wx => Gen b w wx (m + 2 + n)∧Blk wx ab 28 #[.bool six, .int .u64 (hi:Int), .int .u64 (x:Int)]∧Blk wx rb 30 #[.bool false, .int .u64 0, .int .u64 0, .int .i64 0]∧Capt b pb sb lb six hi lo bits vk vl wx) (fun u v => u.grownBy v (some b)) (fun i => if i=6 then 1 else 0)
   (by kernel_rfl) (by kernel_rfl) (by decide) pbR_keep ⟨HG5.out.drew,HB5.out.drewN 1,HR5.out.drewN 1,HC5.out.below (below_drew (Below.refl _ _))⟩ ?hY
  case' hY => (apply Exists.intro;refine ⟨fun T => ?hA2,?hob2,?hend2⟩)
  case hA2 =>
   simp only [setAll,List.take_succ_cons,List.take_zero,Act.put,List.setIfInBounds_toArray,List.set_cons_succ,List.set_cons_zero,Nat.reduceAdd]
   exact rfl
  case hob2 =>
   clear HB5 HG5 HR5 HC5
   go_light
   refine ⟨?_,?_,?_,?_,?_,?_,?_,?_,?_,?_,trivial⟩
   all_goals (intro T wx n0 hI hn hp;obtain ⟨hG,hB,hR,hC⟩:=hI;dsimp only at hn ⊢;unfold Op1)
   ·skip
    have e0:=hB.cell 0
    have e1:=hB.cell 1
    have e2:=hB.cell 2
    simp at e0 e1 e2
    go_simp
    first | exact ⟨rfl,⟨hG,hB,hR,hC⟩,World.grownBy.refl _ _⟩ | exact ⟨rfl,World.grownBy.refl _ _⟩ | exact World.grownBy.refl _ _
   ·skip
    have e0:=hC.2.2.1.cell 0
    simp at e0
    go_simp
    first | exact ⟨rfl,⟨hG,hB,hR,hC⟩,World.grownBy.refl _ _⟩ | exact ⟨rfl,World.grownBy.refl _ _⟩ | exact World.grownBy.refl _ _
   ·skip
    go_simp
    first | exact ⟨rfl,⟨hG,hB,hR,hC⟩,World.grownBy.refl _ _⟩ | exact ⟨rfl,World.grownBy.refl _ _⟩ | exact World.grownBy.refl _ _
   ·obtain ⟨h0, -⟩:=hp
    have h0:T 2=.pointer (some ⟨pb,0,none⟩):=h0
    go_simp
    first | exact ⟨rfl,⟨hG,hB,hR,hC⟩,World.grownBy.refl _ _⟩ | exact ⟨rfl,World.grownBy.refl _ _⟩ | exact World.grownBy.refl _ _
   ·obtain ⟨h0, -⟩:=hp
    have h0:T 3=.pointer (some ⟨pb,3,none⟩):=h0
    have e3:=hC.1.cell 3
    simp at e3
    go_simp
    first | exact ⟨rfl,⟨hG,hB,hR,hC⟩,World.grownBy.refl _ _⟩ | exact ⟨rfl,World.grownBy.refl _ _⟩ | exact World.grownBy.refl _ _
   ·skip
    have e0:=hC.2.1.cell 0
    simp at e0
    go_simp
    first | exact ⟨rfl,⟨hG,hB,hR,hC⟩,World.grownBy.refl _ _⟩ | exact ⟨rfl,World.grownBy.refl _ _⟩ | exact World.grownBy.refl _ _
   ·obtain ⟨h0, -⟩:=hp
    have h0:T 5=.pointer (some ⟨b,0,none⟩):=h0
    go_simp
    refine (range_gen b (m + 2 + n0) 1 8 _ hG.s (by simp at hn;omega) (by omega) (by omega)).mono ?_
    rintro e w3 ⟨k,rfl,hk,hg2⟩
    exact ⟨_,rfl,⟨k,rfl,by unfold RangeRes at hk;omega,by unfold RangeRes at hk;omega⟩,⟨hG.trans hg2,hB.keep hg2.g hab,hR.keep hg2.g hrbn,hC.gen hg2.g⟩,hg2.g⟩
   ·obtain ⟨h0,h1, -⟩:=hp
    have h0:T 4=.int .i64 bits:=h0
    obtain ⟨k1,h1,ha1,ha2⟩:∃ k:Int,T 6=.int .i64 k∧1≤k∧k≤8:=h1
    have e7:IntKind.i64.wrap (bits + k1)=bits + k1:=by rw [IntKind.wrap_i64];omega
    have e8:wrap64 (bits + k1)=bits + k1:=by unfold wrap64;omega
    have HI:=Lib.hid (And.intro hG (And.intro hB (And.intro hR hC)))
    clear hG hB hR hC
    go_simp
    exact ⟨⟨bits + k1,rfl,by omega,by omega⟩,HI.out,World.grownBy.refl _ _⟩
   ·obtain ⟨h0,h1, -⟩:=hp
    have h0:T 1=.int .i64 ((lenN six:Nat):Int):=h0
    obtain ⟨k1,h1,ha1,ha2⟩:∃ k:Int,T 7=.int .i64 k∧0≤k∧k≤200:=h1
    have HI:=Lib.hid (And.intro hG (And.intro hB (And.intro hR hC)))
    have HM:Hid (((min ((lenN six:Nat):Int) k1).toNat:Int)=min ((lenN six:Nat):Int) k1∧(min ((lenN six:Nat):Int) k1).toNat≤lenN six):=Lib.hid (by omega)
    clear hG hB hR hC
    go_simp
    exact ⟨⟨(min ((lenN six:Nat):Int) k1).toNat,by rw [HM.out.1],HM.out.2⟩,HI.out,World.grownBy.refl _ _⟩
   ·obtain ⟨h0,h1, -⟩:=hp
    have h0:T 0=.agg #[.bool six, .int .u64 (hi:Int), .int .u64 (x:Int)]:=h0
    obtain ⟨nq,h1,hnq⟩:∃ n:Nat,T 8=.int .i64 (n:Int)∧n≤lenN six:=h1
    have HI:=Lib.hid (And.intro hG (And.intro hB (And.intro hR hC)))
    have HM:=Lib.hid fun wx => maskOf_any six hi x nq wx HAk.out.1 HAk.out.2.1 (by omega)
    unfold vA at HM
    have HO:Hid (OkPf (six,mHi six hi nq,mLo six x nq,(nq:Int))):=Lib.hid ⟨by simp,by simpa using mask_pok HAk.out hnq⟩
    clear hG hB hR hC
    go_simp
    refine (HM.out _).mono ?_
    rintro e w3 ⟨rfl,hb⟩
    exact ⟨_,rfl,⟨(six,mHi six hi nq,mLo six x nq,(nq:Int)),rfl,HO.out⟩,⟨HI.out.1.below0 hb HI.out.1.s.lt,HI.out.2.1.below hb HI.out.2.1.lt,HI.out.2.2.1.below hb HI.out.2.2.1.lt,HI.out.2.2.2.below hb⟩,⟨hb.os,hb.tape,hb.output,hb.size,fun j hj _ => hb.block j hj⟩⟩
  case hend2 =>
   intro T w6 ⟨n0,hn0,hG,hB,hR,hC⟩ hRR
   obtain ⟨q,h9,hq⟩:∃ q:Pf,T 9=.agg (pfC q).toArray∧OkPf q:=hRR 9 (by omega)
   have HO:=Lib.hid hq
   obtain ⟨q1,q2,q3,q4⟩:=q
   rw [show (pfC (q1,q2,q3,q4)).toArray=#[.bool q1, .int .u64 (q2:Int), .int .u64 (q3:Int), .int .i64 q4] from rfl] at h9
   have c4:=hR.set4w (x':=.bool q1) (y':=.int .u64 (q2:Int)) (z':=.int .u64 (q3:Int)) (u':=.int .i64 q4)
   have HGf:Hid (Gen b w ((((w6.setCell ⟨rb,0,none⟩ (.bool q1)).setCell ⟨rb,1,none⟩ (.int .u64 (q2:Int))).setCell ⟨rb,2,none⟩ (.int .u64 (q3:Int))).setCell ⟨rb,3,none⟩ (.int .i64 q4)) (m + 3)):=Lib.hid (by
    repeat refine Gen.setCell ?_ _ _ Hrb.out.1 Hrb.out.2
    exact hG.mono (by omega))
   have z0:=c4.cell 0
   have z1:=c4.cell 1
   have z2:=c4.cell 2
   have z3:=c4.cell 3
   simp at z0 z1 z2 z3
   clear c4
   have r0:=hR.cell 0
   have r1:=hR.cell 1
   have r2:=hR.cell 2
   have r3:=hR.cell 3
   have rf:=hR.free
   simp at r0 r1 r2 r3
   clear hRR hG hB hR hC HB5 HG5 HR5 HC5 hq
   simp only [List.drop_succ_cons,List.drop_zero]
   rw [h9]
   go_wp2_with fail
   refine bodyPost_ret (v:=.agg #[.bool q1, .int .u64 (q2:Int), .int .u64 (q3:Int), .int .i64 q4]) (by simp [results,Tryz.results78,go_sem, *]) rfl ⟨(q1,q2,q3,q4),rfl,HO.out,HGf.out⟩
end Go.Proofs.YteldaicgaeooiaaGreatDoor
