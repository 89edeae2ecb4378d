/-
  The generator of right pools.
  Lists without the elements that are alike to the one ahead of them, in plain words.
  Functions of package slices at a row of structs.
  Functions of package slices at a row of structs.
  The program's order of flows and of reports; the count of draws never goes down.
  The reference's order of flows and of reports; the count of draws never goes down.
  The stable sort of reports by their order: program and reference (at most twenty).
  Phases of a region: from none to one.
-/
import Derived.Test.YteldaicgaeooiaaGreatDoorPK14
import Derived.Test.YteldaicgaeooiaaGreatDoorPK11
import Derived.Test.YteldaicgaeooiaaGreatDoorPK10
import Derived.Test.YteldaicgaeooiaaGreatDoorPK6
import Derived.Test.YteldaicgaeooiaaGreatDoorPK9
import Derived.WalkSpells
import Derived.Test.YteldaicgaeooiaaGreatDoorPK4
import Derived.Test.YteldaicgaeooiaaGreatDoorPK1
set_option linter.unusedVariables false
set_option maxRecDepth 100000
set_option maxHeartbeats 16000000
namespace Go.Proofs.YteldaicgaeooiaaGreatDoor
open Go.RowKit Go Go.Sort
theorem OwnK.belowN {α:Type} {E:Lay α} {w w':World} {B n:Nat} {v:Value} {L:List α} (h:OwnK E w B v L) (hb:Below n w w') (hn:∀ g,v.ownBlock=some g→g < n):OwnK E w' B v L:=by
 refine ⟨h.1,?_⟩
 rcases h.2 with h2 | ⟨g,cap,cur,hv,hg,hh,r⟩
 ·exact .inl h2
 ·refine .inr ⟨g,cap,cur,hv,hg,(hb.block g (hn g ?_)).trans hh,r⟩
  rw [hv];rfl
theorem rightPool_gen (b m:Nat) (w:World) (h:Strm w b m) (hm:m + 200 < 1099511627776) :
  Calls Tryz.prog 27 #[.pointer (some ⟨b,0,none⟩)] w fun e w' => ∃ v P K L,e=.returned v∧PoolV w' w.heap.size v P K L∧OkPf P∧(∀ p ∈ K,OkPf p)∧(∀ x ∈ L,OkPf x.2∧x.1.length≤1000)∧K.length≤2∧L.length≤4∧Gen b w w' (m + 50):=by
 have hblt:=h.lt
 have HG0:Hid (Gen b w ((w.alloc (.cells #[.pointer (some ⟨b,0,none⟩)] 23 (0,0))).alloc (.cells #[.bool false, .int .u64 0, .int .u64 0, .int .i64 0, .slice none 0 0, .slice none 0 0] 34 (0,0))) m):=Lib.hid (((Gen.start h).alloc _).alloc _)
 have HS0:Hid (Blk ((w.alloc (.cells #[.pointer (some ⟨b,0,none⟩)] 23 (0,0))).alloc (.cells #[.bool false, .int .u64 0, .int .u64 0, .int .i64 0, .slice none 0 0, .slice none 0 0] 34 (0,0))) w.heap.size 23 #[.pointer (some ⟨b,0,none⟩)]):=Lib.hid ((Blk.new w _ _).alloc _)
 have HR0:Hid (Blk ((w.alloc (.cells #[.pointer (some ⟨b,0,none⟩)] 23 (0,0))).alloc (.cells #[.bool false, .int .u64 0, .int .u64 0, .int .i64 0, .slice none 0 0, .slice none 0 0] 34 (0,0))) (w.heap.size + 1) 34 #[.bool false, .int .u64 0, .int .u64 0, .int .i64 0, .slice none 0 0, .slice none 0 0]):=Lib.hid (by
  have this:=Blk.new (w.alloc (.cells #[.pointer (some ⟨b,0,none⟩)] 23 (0,0))) 34 #[.bool false, .int .u64 0, .int .u64 0, .int .i64 0, .slice none 0 0, .slice none 0 0]
  rw [World.size_alloc] at this
  exact this)
 clear h
 go_enter Tryz.func27,Tryz.ntmps27
 go_upto_region 1 with fail
 generalize ((w.alloc (.cells #[.pointer (some ⟨b,0,none⟩)] 23 (0,0))).alloc (.cells #[.bool false, .int .u64 0, .int .u64 0, .int .i64 0, .slice none 0 0, .slice none 0 0] 34 (0,0)))=w1 at *
 obtain ⟨sb,hsb⟩:∃ q,w.heap.size=q:=⟨_,rfl⟩
 obtain ⟨rb,hrb⟩:∃ q,sb + 1=q:=⟨_,rfl⟩
 have Hsb:Hid (w.heap.size=sb∧sb + 1=rb):=Lib.hid ⟨hsb,hrb⟩
 have hsbn:sb ≠ b:=by omega
 have hrbn:rb ≠ b:=by omega
 rw [hsb,hrb] at HR0
 rw [hsb] at HS0 ⊢
 rw [hrb]
 clear hsb hrb
 have s0:=HS0.out.cell 0
 simp at s0
 go_wp2_with fail
 refine (pick_new b m _ _ _ _ [24,26,28,29] _ HG0.out.s rfl (by omega) rfl (by decide) rfl).mono ?_
 rintro e w2 ⟨x,rfl,hx,hg⟩
 have hxb:x=24 ∨ x=26 ∨ x=28 ∨ x=29:=by simpa using hx
 have HXb:=Lib.hid hxb
 have HG3:=Lib.hid ((HG0.out.trans hg).alloc (.cells #[.bool false, .int .u64 0, .int .u64 167772160, .int .i64 x, .slice none 0 0, .slice none 0 0] 34 (0,0)))
 have HS3:=Lib.hid ((HS0.out.keep hg.g hsbn).alloc (.cells #[.bool false, .int .u64 0, .int .u64 167772160, .int .i64 x, .slice none 0 0, .slice none 0 0] 34 (0,0)))
 have HR3:=Lib.hid ((HR0.out.keep hg.g hrbn).alloc (.cells #[.bool false, .int .u64 0, .int .u64 167772160, .int .i64 x, .slice none 0 0, .slice none 0 0] 34 (0,0)))
 have HP3:Hid (Blk (w2.alloc (.cells #[.bool false, .int .u64 0, .int .u64 167772160, .int .i64 x, .slice none 0 0, .slice none 0 0] 34 (0,0))) w2.heap.size 34 #[.bool false, .int .u64 0, .int .u64 167772160, .int .i64 x, .slice none 0 0, .slice none 0 0]):=Lib.hid (Blk.new w2 _ _)
 have Hw2:Hid (rb < w2.heap.size∧b < w2.heap.size):=Lib.hid ⟨(HR0.out.keep hg.g hrbn).lt,hg.s.lt⟩
 clear hx hxb hg HG0 HS0 HR0 s0
 go_upto_region 2 with fail
 generalize w2.alloc (.cells #[.bool false, .int .u64 0, .int .u64 167772160, .int .i64 x, .slice none 0 0, .slice none 0 0] 34 (0,0))=w3 at *
 obtain ⟨pb,hpb⟩:∃ q,w2.heap.size=q:=⟨_,rfl⟩
 rw [hpb] at HP3 Hw2 ⊢
 clear hpb
 have hpbn:pb ≠ b:=by have:=Hw2.out;omega
 have s0:=HS3.out.cell 0
 simp at s0
 go_wp2_with fail
 refine (flip_gen b (m + 1) _ _ HG3.out.s (by omega) (by omega)).mono ?_
 rintro e w4 ⟨kf,rfl,hg⟩
 have HG4:=Lib.hid (HG3.out.trans hg)
 have HS4:=Lib.hid (HS3.out.keep hg.g hsbn)
 have HR4:=Lib.hid (HR3.out.keep hg.g hrbn)
 have HP4:=Lib.hid (HP3.out.keep hg.g hpbn)
 clear hg HG3 HS3 HR3 HP3 s0
 cases kf
 ·have HG5:=Lib.hid (HG4.out.alloc (.cells #[.int .i64 32] 3 (0,0)))
  have HS5:=Lib.hid (HS4.out.alloc (.cells #[.int .i64 32] 3 (0,0)))
  have HR5:=Lib.hid (HR4.out.alloc (.cells #[.int .i64 32] 3 (0,0)))
  have HP5:=Lib.hid (HP4.out.alloc (.cells #[.int .i64 32] 3 (0,0)))
  have HL5:Hid (Blk (w4.alloc (.cells #[.int .i64 32] 3 (0,0))) w4.heap.size 3 #[.int .i64 32]):=Lib.hid (Blk.new w4 _ _)
  have Hlb:Hid (pb < w4.heap.size∧b < w4.heap.size):=Lib.hid ⟨HP4.out.lt,HG4.out.s.lt⟩
  go_upto_region 5 with fail
  generalize w4.alloc (.cells #[.int .i64 32] 3 (0,0))=wc at *
  obtain ⟨lb,hlb⟩:∃ q,w4.heap.size=q:=⟨_,rfl⟩
  rw [hlb] at HL5 Hlb ⊢
  clear hlb HG4 HS4 HR4 HP4
  have HC:Hid (Capt b pb sb lb false 0 167772160 x (.slice none 0 0) (.slice none 0 0) wc):=Lib.hid ⟨HP5.out,HS5.out,HL5.out,hpbn,hsbn,by have:=Hlb.out;omega⟩
  have HR:=HR5
  have HG:Hid (Gen b w wc (m + 3)):=Lib.hid (HG5.out.mono (by omega))
  have HP:Hid (OkPf (false,0,167772160,x)):=Lib.hid (by
   rcases HXb.out with rfl | rfl | rfl | rfl
   all_goals exact okPf_of (by decide +kernel) (by show (0:Nat) < 18446744073709551616;decide) (by show (167772160:Nat) < 18446744073709551616;decide))
  have HA:Hid (∀ k,k≤60→AOK false 0 (167772160 + k)):=Lib.hid fun k hk => ⟨by show (0:Nat) < 18446744073709551616;decide,by show 167772160 + k < 18446744073709551616;omega,fun _ => ⟨rfl,by omega⟩⟩
  have hbd:0≤x∧x≤128:=by have:=HXb.out;omega
  have Hord:Hid (b < sb∧sb < rb∧rb < pb∧pb < lb):=Lib.hid (by have:=Hlb.out;have:=Hw2.out;have:=Hsb.out;omega)
  have p0:=HP5.out.cell 0
  simp at p0
  go_upto_region 7 with fail
  clear p0 HP5 HS5 HL5 HR5 HG5
  have s0:=HC.out.2.1.cell 0
  simp at s0
  go_wp2_with fail
  refine (pick_new b (m + 3) _ _ _ _ [0,0,1,2] _ HG.out.s rfl (by omega) rfl (by decide) rfl).mono ?_
  rintro e wd ⟨nk,rfl,hnk,hg⟩
  obtain ⟨nn,rfl,hnn⟩:∃ nn:Nat,nk=(nn:Int)∧nn≤2:=by
   have:nk=0 ∨ nk=1 ∨ nk=2:=by simpa using hnk
   exact ⟨nk.toNat,by omega,by omega⟩
  have HCd:=Lib.hid (HC.out.gen hg.g)
  have HRd:=Lib.hid (HR.out.keep hg.g hrbn)
  have HGd:Hid (Gen b w wd (m + 4)):=Lib.hid (HG.out.trans hg)
  have Hbs:Hid (pb < wd.heap.size∧sb < wd.heap.size∧lb < wd.heap.size∧rb < wd.heap.size∧b < wd.heap.size∧w.heap.size≤wd.heap.size):=Lib.hid ⟨HCd.out.1.lt,HCd.out.2.1.lt,HCd.out.2.2.1.lt,HRd.out.lt,HGd.out.s.lt,HGd.out.g.size⟩
  clear hg hnk HC HR HG s0
  go_wp2_with fail
  go_loopw [6,32] (fun s6 i wr => ∃ (k:Nat) (V:Value) (K:List Pf),k≤nn∧i=.int .i64 (k:Int)∧Hid (Capt b pb sb lb false 0 167772160 x V (.slice none 0 0) wr)∧Hid (OwnK layPf wr wd.heap.size V K)∧Hid (K.length≤k∧∀ p ∈ K,OkPf p)∧Hid (Blk wr rb 34 #[.bool false, .int .u64 0, .int .u64 0, .int .i64 0, .slice none 0 0, .slice none 0 0])∧Hid (Gen b w wr (m + 4 + 3 * k))∧Hid (wd.heap.size≤wr.heap.size)) (fun _ i _ => nn - (intOf i).toNat)
  case atStart => exact ⟨0,_, [],Nat.zero_le _,rfl,HCd,Lib.hid (OwnK.nil _ _ _),Lib.hid ⟨Nat.le_refl _,by simp⟩,HRd,HGd,Lib.hid (Nat.le_refl _)⟩
  case round =>
   clear HCd HRd HGd
   obtain ⟨k,V,K,hk,rfl,HC,HO,HK,HR,HG,HZ⟩:=hrel
   by_cases hlt:k < nn
   ·go_wp2_with fail
    refine (part_gen b (m + 4 + 3 * k) pb sb lb false 0 167772160 x V _ wr HG.out.s (by omega) HC.out HA.out hbd).mono ?_
    rintro e we ⟨q,rfl,hq,hg⟩
    have HQ:=Lib.hid hq
    have HW:=Lib.hid fun wx => within_pf wx hq HP.out
    obtain ⟨q1,q2,q3,q4⟩:=q
    rw [show (pfC (q1,q2,q3,q4)).toArray=#[.bool q1, .int .u64 (q2:Int), .int .u64 (q3:Int), .int .i64 q4] from rfl] at HW ⊢
    rw [show (pfC (false,0,167772160,x)).toArray=#[.bool false, .int .u64 ((0:Nat):Int), .int .u64 ((167772160:Nat):Int), .int .i64 x] from rfl] at HW
    have hbl:Below we.heap.size we (we.alloc (.cells #[.bool q1, .int .u64 (q2:Int), .int .u64 (q3:Int), .int .i64 q4] 30 (0,0))):=below_alloc (Below.refl _ _) _
    have HX3:Hid (Blk (we.alloc (.cells #[.bool q1, .int .u64 (q2:Int), .int .u64 (q3:Int), .int .i64 q4] 30 (0,0))) we.heap.size 30 #[.bool q1, .int .u64 (q2:Int), .int .u64 (q3:Int), .int .i64 q4]):=Lib.hid (Blk.new we _ _)
    have HC3:=Lib.hid ((HC.out.gen hg.g).below hbl)
    have HO3:=Lib.hid ((HO.out.gen hg Hbs.out.2.2.2.2.1).later hbl)
    have HR3:=Lib.hid ((HR.out.keep hg.g hrbn).alloc (.cells #[.bool q1, .int .u64 (q2:Int), .int .u64 (q3:Int), .int .i64 q4] 30 (0,0)))
    have HG3:Hid (Gen b w (we.alloc (.cells #[.bool q1, .int .u64 (q2:Int), .int .u64 (q3:Int), .int .i64 q4] 30 (0,0))) (m + 4 + 3 * (k + 1))):=Lib.hid (((HG.out.trans hg).alloc _).mono (by omega))
    have HZ3:Hid (wd.heap.size≤(we.alloc (.cells #[.bool q1, .int .u64 (q2:Int), .int .u64 (q3:Int), .int .i64 q4] 30 (0,0))).heap.size):=Lib.hid (by have h1:=HZ.out;have h2:=hg.g.size;rw [World.size_alloc];omega)
    clear hq hg hbl HC HO HR HG HZ
    generalize insP (q1,q2,q3,q4) (false,0,167772160,x)=IB at *
    go_upto_region 11 with fail
    generalize we.alloc (.cells #[.bool q1, .int .u64 (q2:Int), .int .u64 (q3:Int), .int .i64 q4] 30 (0,0))=w3 at *
    generalize we.heap.size=qb at *
    have d0:=HX3.out.cell 0
    have d1:=HX3.out.cell 1
    have d2:=HX3.out.cell 2
    have d3:=HX3.out.cell 3
    simp at d0 d1 d2 d3
    have p0:=HC3.out.1.cell 0
    have p1:=HC3.out.1.cell 1
    have p2:=HC3.out.1.cell 2
    have p3:=HC3.out.1.cell 3
    simp at p0 p1 p2 p3
    go_wp2_with fail
    refine (HW.out _).mono ?_
    rintro e w4 ⟨rfl,hb⟩
    have HX4:=Lib.hid (HX3.out.below hb HX3.out.lt)
    have HC4:=Lib.hid (HC3.out.below hb)
    have HO4:=Lib.hid (HO3.out.later hb)
    have HR4:=Lib.hid (HR3.out.below hb HR3.out.lt)
    have HG4:=Lib.hid (HG3.out.below0 hb HG3.out.s.lt)
    have HZ4:Hid (wd.heap.size≤w4.heap.size):=Lib.hid (Nat.le_trans HZ3.out hb.size)
    clear hb HZ3 HX3 HC3 HO3 HR3 HG3 HW d0 d1 d2 d3 p0 p1 p2 p3
    cases IB
    ·have HK2:Hid (K.length≤k + 1∧∀ p ∈ K,OkPf p):=Lib.hid ⟨by have:=HK.out.1;omega,HK.out.2⟩
     go_wp2_with fail
     exact ⟨⟨k + 1,V,K,by omega,by go_num,HC4,HO4,HK2,HR4,HG4,HZ4⟩,by simp [intOf];omega⟩
    ·obtain ⟨ad,c,rfl, -, -, -⟩:=HO4.out.form
     have HLn:Hid (K.length≤2):=Lib.hid (by have:=HK.out.1;omega)
     have d0:=HX4.out.cell 0
     have d1:=HX4.out.cell 1
     have d2:=HX4.out.cell 2
     have d3:=HX4.out.cell 3
     simp at d0 d1 d2 d3
     have p4:=HC4.out.1.cell 4
     simp at p4
     have HXe:Hid ((layPf.enc (q1,q2,q3,q4)).toArray=#[.bool q1, .int .u64 (q2:Int), .int .u64 (q3:Int), .int .i64 q4]):=Lib.hid rfl
     go_wp2_with (at_builtin;refine wpList_app pfE rfl (.tmp 41) (.tmp 43) rfl rfl (World.ownsRow.alloc HO4.out _) rfl (src_new layPf _ (q1,q2,q3,q4) _ _ ?c0) ?c1 ?c2 ?c3 ?c4 ?_)
     case c0 => first | rfl | exact HXe.out.symm
     case c1 => exact layPf.one _
     case c2 => have:=HLn.out;unfold maxLen;omega
     case c3 => have:=HLn.out;omega
     case c4 => have:=HZ4.out;simp;omega
     intro v' w6 hO hG
     have hO6:OwnK layPf w6 wd.heap.size v' (K ++ [(q1,q2,q3,q4)]):=OwnK.snoc hO
     have hbg:Below wd.heap.size w4 w6:=hG.allocFirst.below HZ4.out (own_base HO4.out)
     obtain ⟨a6,c6,rfl, -, -, -⟩:=hO6.form
     have HO6:=Lib.hid hO6
     have HC6:=Lib.hid (HC4.out.belowB hbg Hbs.out.1 Hbs.out.2.1 Hbs.out.2.2.1)
     have HR6:=Lib.hid (HR4.out.below hbg Hbs.out.2.2.2.1)
     have HG6:=Lib.hid (HG4.out.below hbg Hbs.out.2.2.2.2.2 Hbs.out.2.2.2.2.1)
     have HZ6:Hid (wd.heap.size≤w6.heap.size):=Lib.hid (Nat.le_trans HZ4.out hbg.size)
     generalize hkl:(K ++ [(q1,q2,q3,q4)]).length=kl at *
     clear hO hG hO6 hbg HX4 HC4 HO4 HR4 HG4 HZ4 d0 d1 d2 d3 p4 HXe
     have HC7:Hid (Capt b pb sb lb false 0 167772160 x (.slice a6 kl c6) (.slice none 0 0) (w6.setCell ⟨pb,4,none⟩ (.slice a6 kl c6))):=Lib.hid ⟨HC6.out.1.set 4 _,HC6.out.2.1.far (show sb ≠ pb by have:=Hord.out;omega) 4 _,HC6.out.2.2.1.far (show lb ≠ pb by have:=Hord.out;omega) 4 _,HC6.out.2.2.2⟩
     have hk7:=KeepT.of_set (S:=[34]) (i:=4) (v:=.slice a6 kl c6) HC6.out.1 (by simp)
     have HO7:=Lib.hid (HO6.out.keepT hk7 (by decide))
     have HR7:=Lib.hid (HR6.out.far (show rb ≠ pb by have:=Hord.out;omega) 4 (.slice a6 kl c6))
     have HG7:Hid (Gen b w (w6.setCell ⟨pb,4,none⟩ (.slice a6 kl c6)) (m + 4 + 3 * (k + 1))):=Lib.hid (HG6.out.setCell _ _ (by have:=Hord.out;have:=Hsb.out;show w.heap.size≤pb;omega) (by have:=Hord.out;show b < pb;omega))
     have HZ7:Hid (wd.heap.size≤(w6.setCell ⟨pb,4,none⟩ (.slice a6 kl c6)).heap.size):=Lib.hid (Nat.le_trans HZ6.out hk7.1)
     have HK7:Hid ((K ++ [(q1,q2,q3,q4)]).length≤k + 1∧∀ p ∈ K ++ [(q1,q2,q3,q4)],OkPf p):=Lib.hid ⟨by rw [List.length_append];have:=HK.out.1;simp;omega,fun p hp => by
      rcases List.mem_append.1 hp with hp | hp
      ·exact HK.out.2 p hp
      ·rw [List.mem_singleton.1 hp];exact HQ.out⟩
     have u4:=HC6.out.1.cell 4
     have uf:=HC6.out.1.free
     simp at u4
     clear hk7
     go_wp2_with fail
     exact ⟨⟨k + 1, .slice a6 kl c6,K ++ [(q1,q2,q3,q4)],by omega,by go_num,HC7,HO7,HK7,HR7,HG7,HZ7⟩,by simp [intOf];omega⟩
   ·obtain ⟨m0,hm0⟩:∃ q,q=nn:=⟨_,rfl⟩
    obtain rfl:k=nn:=by omega
    subst hm0
    obtain ⟨ka,kc,rfl, -, -, -⟩:=HO.out.form
    have HKl:Hid (K.length≤2):=Lib.hid (by have:=HK.out.1;omega)
    have HG1:Hid (Gen b w wr (m + 10)):=Lib.hid (HG.out.mono (by omega))
    clear HG hlt hk
    have HSt:Hid (Blk (wr.alloc (.cells #[.string ⟨#[108,97]⟩, .string ⟨#[108,98]⟩, .string ⟨#[108,99]⟩, .string ⟨#[108,100]⟩] 9 (0,0))) wr.heap.size 9 #[.string ⟨#[108,97]⟩, .string ⟨#[108,98]⟩, .string ⟨#[108,99]⟩, .string ⟨#[108,100]⟩]):=Lib.hid (Blk.new wr _ _)
    have hbl:Below wr.heap.size wr (wr.alloc (.cells #[.string ⟨#[108,97]⟩, .string ⟨#[108,98]⟩, .string ⟨#[108,99]⟩, .string ⟨#[108,100]⟩] 9 (0,0))):=below_alloc (Below.refl _ _) _
    have HC1:=Lib.hid (HC.out.below hbl)
    have HO1:=Lib.hid (HO.out.later hbl)
    have HR1:=Lib.hid (HR.out.below hbl HR.out.lt)
    have HG2:Hid (Gen b w (wr.alloc (.cells #[.string ⟨#[108,97]⟩, .string ⟨#[108,98]⟩, .string ⟨#[108,99]⟩, .string ⟨#[108,100]⟩] 9 (0,0))) (m + 10 + 4 * 0)):=Lib.hid (HG1.out.alloc (.cells #[.string ⟨#[108,97]⟩, .string ⟨#[108,98]⟩, .string ⟨#[108,99]⟩, .string ⟨#[108,100]⟩] 9 (0,0)))
    have HZ1:Hid (wd.heap.size≤(wr.alloc (.cells #[.string ⟨#[108,97]⟩, .string ⟨#[108,98]⟩, .string ⟨#[108,99]⟩, .string ⟨#[108,100]⟩] 9 (0,0))).heap.size):=Lib.hid (Nat.le_trans HZ.out hbl.size)
    have Hgs:Hid (wd.heap.size≤wr.heap.size):=HZ
    obtain ⟨gs,hgs⟩:∃ q,wr.heap.size=q:=⟨_,rfl⟩
    rw [hgs] at HSt Hgs
    have hgsb:gs ≠ b:=by have:=Hgs.out;have:=Hbs.out;omega
    clear hbl HC HO HR HG1
    go_wp2_with fail
    go_loopw [8,9,49] (fun s8 s9 i wx => ∃ (k:Nat) (la:Option Addr) (lc:Nat) (L:List Ls),k≤4∧i=.int .i64 (k:Int)∧Hid (Capt b pb sb lb false 0 167772160 x (.slice ka K.length kc) (.slice la L.length lc) wx)∧Hid (OwnK layPf wx wd.heap.size (.slice ka K.length kc) K)∧Hid (OwnK layLs wx wd.heap.size (.slice la L.length lc) L)∧Hid (L.length≤k∧∀ x ∈ L,OkPf x.2∧x.1.length≤1000)∧Hid (Blk wx rb 34 #[.bool false, .int .u64 0, .int .u64 0, .int .i64 0, .slice none 0 0, .slice none 0 0])∧Hid (Blk wx gs 9 #[.string ⟨#[108,97]⟩, .string ⟨#[108,98]⟩, .string ⟨#[108,99]⟩, .string ⟨#[108,100]⟩])∧Hid (Gen b w wx (m + 10 + 4 * k))∧Hid (wd.heap.size≤wx.heap.size)) (fun _ _ i _ => 4 - (intOf i).toNat)
    case atStart => exact ⟨0,none,0, [],Nat.zero_le _,rfl,HC1,HO1,Lib.hid (OwnK.nil _ _ _),Lib.hid ⟨Nat.le_refl _,by simp⟩,HR1,HSt,HG2,HZ1⟩
    case round =>
     clear HC1 HO1 HR1 HSt HG2 HZ1 HZ
     obtain ⟨k,la,lc,L,hk,rfl,HC,HO,HL,HX,HR,HSt,HG,HZ⟩:=hrel
     have HLl:Hid (L.length≤4):=Lib.hid (by have:=HX.out.1;omega)
     by_cases hlt:k < 4
     ·obtain ⟨ky,hky,hkyl⟩:∃ ky:List UInt8,wr.cell? ⟨gs,k,none⟩=some (.string (strL ky))∧ky.length≤1000:=by
       have hk4:k=0 ∨ k=1 ∨ k=2 ∨ k=3:=by omega
       rcases hk4 with rfl | rfl | rfl | rfl
       ·exact ⟨[108,97],by rw [HSt.out.cell] <;> rfl,by decide⟩
       ·exact ⟨[108,98],by rw [HSt.out.cell] <;> rfl,by decide⟩
       ·exact ⟨[108,99],by rw [HSt.out.cell] <;> rfl,by decide⟩
       ·exact ⟨[108,100],by rw [HSt.out.cell] <;> rfl,by decide⟩
      have Hkyl:=Lib.hid hkyl
      have p0:=HC.out.1.cell 0
      have p1:=HC.out.1.cell 1
      have p2:=HC.out.1.cell 2
      have p3:=HC.out.1.cell 3
      have p4:=HC.out.1.cell 4
      have p5:=HC.out.1.cell 5
      simp at p0 p1 p2 p3 p4 p5
      have hbl:Below wr.heap.size wr (wr.alloc (.cells #[.bool false, .int .u64 ((0:Nat):Int), .int .u64 ((167772160:Nat):Int), .int .i64 x, .slice ka K.length kc, .slice la L.length lc] 34 (0,0))):=below_alloc (Below.refl _ _) _
      have HX3:Hid (Blk (wr.alloc (.cells #[.bool false, .int .u64 ((0:Nat):Int), .int .u64 ((167772160:Nat):Int), .int .i64 x, .slice ka K.length kc, .slice la L.length lc] 34 (0,0))) wr.heap.size 34 #[.bool false, .int .u64 ((0:Nat):Int), .int .u64 ((167772160:Nat):Int), .int .i64 x, .slice ka K.length kc, .slice la L.length lc]):=Lib.hid (Blk.new wr _ _)
      have HC3:=Lib.hid (HC.out.below hbl)
      have HO3:=Lib.hid (HO.out.later hbl)
      have HL3:=Lib.hid (HL.out.later hbl)
      have HR3:=Lib.hid (HR.out.below hbl HR.out.lt)
      have HS3:=Lib.hid (HSt.out.below hbl HSt.out.lt)
      have HG3:=Lib.hid (HG.out.alloc (.cells #[.bool false, .int .u64 ((0:Nat):Int), .int .u64 ((167772160:Nat):Int), .int .i64 x, .slice ka K.length kc, .slice la L.length lc] 34 (0,0)))
      have HZ3:Hid (wd.heap.size≤wr.heap.size∧wr.heap.size < (wr.alloc (.cells #[.bool false, .int .u64 ((0:Nat):Int), .int .u64 ((167772160:Nat):Int), .int .i64 x, .slice ka K.length kc, .slice la L.length lc] 34 (0,0))).heap.size∧gs < wr.heap.size):=Lib.hid ⟨HZ.out,by rw [World.size_alloc];omega,HSt.out.lt⟩
      clear hbl HC HO HL HR HSt HG HZ hkyl
      go_upto_region 18 with fail
      generalize wr.alloc (.cells #[.bool false, .int .u64 ((0:Nat):Int), .int .u64 ((167772160:Nat):Int), .int .i64 x, .slice ka K.length kc, .slice la L.length lc] 34 (0,0))=w3 at *
      obtain ⟨xb,hxb⟩:∃ q,wr.heap.size=q:=⟨_,rfl⟩
      rw [hxb] at HX3 HZ3 ⊢
      clear hxb p0 p1 p2 p3 p4 p5 hky
      have hxbn:xb ≠ b:=by have:=HZ3.out;have:=Hbs.out;omega
      have HCl:=Lib.hid (cloneLs_any la L.length lc L w3 HL3.out.rd rfl (by have:=HLl.out;omega))
      have p5:=HC3.out.1.cell 5
      simp at p5
      go_wp2_with fail
      refine HCl.out.mono ?_
      rintro e w4 ⟨v,rfl,hO,hb⟩
      obtain ⟨a4,c4,rfl, -, -, -⟩:=hO.form
      have HN4:=Lib.hid hO
      have HX4:=Lib.hid (HX3.out.below hb HX3.out.lt)
      have HC4:=Lib.hid (HC3.out.below hb)
      have HO4:=Lib.hid (HO3.out.later hb)
      have HL4:=Lib.hid (HL3.out.later hb)
      have HR4:=Lib.hid (HR3.out.below hb HR3.out.lt)
      have HS4:=Lib.hid (HS3.out.below hb HS3.out.lt)
      have HG4:=Lib.hid (HG3.out.below0 hb HG3.out.s.lt)
      have HZ4:Hid (w3.heap.size≤w4.heap.size):=Lib.hid hb.size
      have HLb:Hid (∀ g,(Value.slice la L.length lc).ownBlock=some g→g < w3.heap.size):=Lib.hid fun g hg => own_lt HL3.out g hg
      clear hO hb HX3 HC3 HO3 HL3 HR3 HS3 HG3 HCl p5
      go_wp2_with fail
      refine (part_gen b (m + 10 + 4 * k) pb sb lb false 0 167772160 x (.slice ka K.length kc) (.slice la L.length lc) w4 HG4.out.s (by omega) HC4.out HA.out hbd).mono ?_
      rintro e w5 ⟨q,rfl,hq,hg⟩
      have HQ:=Lib.hid hq
      have HN5:=Lib.hid (HN4.out.gen hg (show b < w3.heap.size by have:=HZ3.out;have:=Hbs.out;omega))
      have HX5:=Lib.hid (HX4.out.keep hg.g hxbn)
      have HC5:=Lib.hid (HC4.out.gen hg.g)
      have HO5:=Lib.hid (HO4.out.gen hg (show b < wd.heap.size by have:=Hbs.out;omega))
      have HL5:=Lib.hid (HL4.out.gen hg (show b < wd.heap.size by have:=Hbs.out;omega))
      have HR5:=Lib.hid (HR4.out.keep hg.g hrbn)
      have HS5:=Lib.hid (HS4.out.keep hg.g hgsb)
      have HG5:Hid (Gen b w w5 (m + 10 + 4 * k + 3)):=Lib.hid (HG4.out.trans hg)
      have HZ5:Hid (w3.heap.size≤w5.heap.size):=Lib.hid (Nat.le_trans HZ4.out hg.g.size)
      clear hq hg HN4 HX4 HC4 HO4 HL4 HR4 HS4 HG4 HZ4
      obtain ⟨q1,q2,q3,q4⟩:=q
      rw [show (pfC (q1,q2,q3,q4)).toArray=#[.bool q1, .int .u64 (q2:Int), .int .u64 (q3:Int), .int .i64 q4] from rfl]
      have HXe:Hid ((layLs.enc (ky,(q1,q2,q3,q4))).toArray=#[.string (strL ky), .bool q1, .int .u64 (q2:Int), .int .u64 (q3:Int), .int .i64 q4]):=Lib.hid rfl
      go_wp2_with (at_builtin;refine wpList_app lsE rfl (.tmp 56) (.tmp 61) rfl rfl (World.ownsRow.alloc HN5.out _) rfl (src_new layLs _ (ky,(q1,q2,q3,q4)) _ _ ?c0) ?c1 ?c2 ?c3 ?c4 ?_)
      case c0 => first | rfl | exact HXe.out.symm
      case c1 => exact layLs.one _
      case c2 => have:=HLl.out;unfold maxLen;omega
      case c3 => have:=HLl.out;omega
      case c4 => have:=HZ5.out;simp;omega
      intro v' w6 hO hG
      have hO6:OwnK layLs w6 w3.heap.size v' (L ++ [(ky,(q1,q2,q3,q4))]):=OwnK.snoc hO
      have hbg:Below w3.heap.size w5 w6:=hG.allocFirst.below HZ5.out (own_base HN5.out)
      have hk6:=KeepT.of_grew (S:=[67]) HN5.out hG.allocFirst (by decide)
      obtain ⟨a6,c6,rfl, -,hc6, -⟩:=hO6.form
      have HN6:=Lib.hid hO6
      have Hc6:=Lib.hid hc6
      have HX6:=Lib.hid (HX5.out.keepS hk6 (by decide))
      have HC6:=Lib.hid (HC5.out.belowB hbg (show pb < w3.heap.size by have:=HZ3.out;have:=Hbs.out;omega) (show sb < w3.heap.size by have:=HZ3.out;have:=Hbs.out;omega) (show lb < w3.heap.size by have:=HZ3.out;have:=Hbs.out;omega))
      have HO6:=Lib.hid (HO5.out.keepT hk6 (by decide))
      have HL6:=Lib.hid (HL5.out.belowN hbg HLb.out)
      have HR6:=Lib.hid (HR5.out.keepS hk6 (by decide))
      have HS6:=Lib.hid (HS5.out.keepS hk6 (by decide))
      have HG6:=Lib.hid (HG5.out.below hbg (show w.heap.size≤w3.heap.size by have:=HZ3.out;have:=Hbs.out;omega) (show b < w3.heap.size by have:=HZ3.out;have:=Hbs.out;omega))
      have HZ6:Hid (w3.heap.size≤w6.heap.size):=Lib.hid (Nat.le_trans HZ5.out hbg.size)
      have Hl6:Hid ((L ++ [(ky,(q1,q2,q3,q4))]).length=L.length + 1):=Lib.hid (by rw [List.length_append];rfl)
      generalize hln6:(L ++ [(ky,(q1,q2,q3,q4))]).length=ln6 at *
      have Hln6:=Lib.hid hln6
      clear hO hG hO6 hbg hk6 hc6 hln6 HN5 HX5 HC5 HO5 HL5 HR5 HS5 HG5 HZ5 HXe
      have HX7:Hid (Blk (w6.setCell ⟨xb,5,none⟩ (.slice a6 ln6 c6)) xb 34 #[.bool false, .int .u64 ((0:Nat):Int), .int .u64 ((167772160:Nat):Int), .int .i64 x, .slice ka K.length kc, .slice a6 ln6 c6]):=Lib.hid (HX6.out.set 5 _)
      have hk7:=KeepT.of_set (S:=[34]) (i:=5) (v:=.slice a6 ln6 c6) HX6.out (by simp)
      have HN7:=Lib.hid (HN6.out.keepT hk7 (by decide))
      have HO7:=Lib.hid (HO6.out.keepT hk7 (by decide))
      have HL7:=Lib.hid (HL6.out.keepT hk7 (by decide))
      have HC7:=Lib.hid (HC6.out.far (show pb ≠ xb by have:=HZ3.out;have:=Hbs.out;omega) (show sb ≠ xb by have:=HZ3.out;have:=Hbs.out;omega) (show lb ≠ xb by have:=HZ3.out;have:=Hbs.out;omega) 5 (.slice a6 ln6 c6))
      have HR7:=Lib.hid (HR6.out.far (show rb ≠ xb by have:=HZ3.out;have:=Hbs.out;omega) 5 (.slice a6 ln6 c6))
      have HS7:=Lib.hid (HS6.out.far (show gs ≠ xb by have:=HZ3.out;omega) 5 (.slice a6 ln6 c6))
      have HG7:Hid (Gen b w (w6.setCell ⟨xb,5,none⟩ (.slice a6 ln6 c6)) (m + 10 + 4 * k + 3)):=Lib.hid (HG6.out.setCell _ _ (by have:=HZ3.out;have:=Hbs.out;show w.heap.size≤xb;omega) (by have:=HZ3.out;have:=Hbs.out;show b < xb;omega))
      have HZ7:Hid (w3.heap.size≤(w6.setCell ⟨xb,5,none⟩ (.slice a6 ln6 c6)).heap.size):=Lib.hid (Nat.le_trans HZ6.out hk7.1)
      have u5:=HX6.out.cell 5
      have uf:=HX6.out.free
      simp at u5
      go_upto_region 19 with fail
      generalize w6.setCell ⟨xb,5,none⟩ (.slice a6 ln6 c6)=w7 at *
      clear hk7 u5 uf HX6 HN6 HO6 HL6 HC6 HR6 HS6 HG6 HZ6
      have s0:=HC7.out.2.1.cell 0
      simp at s0
      go_wp2_with fail
      refine (flip_gen b (m + 10 + 4 * k + 3) _ _ HG7.out.s (by omega) (by omega)).mono ?_
      rintro e w8 ⟨kf,rfl,hg⟩
      have HX8:=Lib.hid (HX7.out.keep hg.g hxbn)
      have HN8:=Lib.hid (HN7.out.gen hg (show b < w3.heap.size by have:=HZ3.out;have:=Hbs.out;omega))
      have HO8:=Lib.hid (HO7.out.gen hg (show b < wd.heap.size by have:=Hbs.out;omega))
      have HL8:=Lib.hid (HL7.out.gen hg (show b < wd.heap.size by have:=Hbs.out;omega))
      have HC8:=Lib.hid (HC7.out.gen hg.g)
      have HR8:=Lib.hid (HR7.out.keep hg.g hrbn)
      have HS8:=Lib.hid (HS7.out.keep hg.g hgsb)
      have HG8:Hid (Gen b w w8 (m + 10 + 4 * (k + 1))):=Lib.hid ((HG7.out.trans hg).mono (by omega))
      have HZ8:Hid (wd.heap.size≤w8.heap.size):=Lib.hid (by have h1:=HZ7.out;have h2:=hg.g.size;have:=HZ3.out;omega)
      have HX2:Hid (L.length≤k + 1∧∀ x ∈ L,OkPf x.2∧x.1.length≤1000):=Lib.hid ⟨by have:=HX.out.1;omega,HX.out.2⟩
      clear hg HX7 HN7 HO7 HL7 HC7 HR7 HS7 HG7 HZ7 s0
      cases kf
      ·have HX9:Hid ((L ++ [(ky,(q1,q2,q3,q4))]).length≤k + 1∧∀ x ∈ L ++ [(ky,(q1,q2,q3,q4))],OkPf x.2∧x.1.length≤1000):=Lib.hid ⟨by rw [Hln6.out,Hl6.out];have:=HX.out.1;omega,fun x hx => by
        rcases List.mem_append.1 hx with hx | hx
        ·exact HX.out.2 x hx
        ·rw [List.mem_singleton.1 hx];exact ⟨HQ.out,Hkyl.out⟩⟩
       have HPF:=Lib.hid (poolFault_any (false,0,167772160,x) ka a6 K.length kc ln6 c6 K (L ++ [(ky,(q1,q2,q3,q4))]) w8 HO8.out.rd HN8.out.rd rfl Hln6.out (by have:=HKl.out;omega) (by have:=HLl.out;have:=Hl6.out;omega) Hc6.out ⟨HP.out.ok.1.1,HP.out.ok.1.2.1⟩ (fun p hp => ⟨(HK.out.2 p hp).ok.1.1,(HK.out.2 p hp).ok.1.2.1⟩) (fun x hx => ⟨⟨(HX9.out.2 x hx).1.ok.1.1,(HX9.out.2 x hx).1.ok.1.2.1⟩,(HX9.out.2 x hx).2⟩))
       rw [show (plC (false,0,167772160,x) (.slice ka K.length kc) (.slice a6 ln6 c6)).toArray=#[.bool false, .int .u64 ((0:Nat):Int), .int .u64 ((167772160:Nat):Int), .int .i64 x, .slice ka K.length kc, .slice a6 ln6 c6] from rfl] at HPF
       generalize poolF (false,0,167772160,x) K (L ++ [(ky,(q1,q2,q3,q4))])=F at *
       have x0:=HX8.out.cell 0
       have x1:=HX8.out.cell 1
       have x2:=HX8.out.cell 2
       have x3:=HX8.out.cell 3
       have x4:=HX8.out.cell 4
       have x5:=HX8.out.cell 5
       simp at x0 x1 x2 x3 x4 x5
       go_wp2_with fail
       refine HPF.out.mono ?_
       rintro e w9 ⟨rfl,hb⟩
       have HXb:=Lib.hid (HX8.out.below hb HX8.out.lt)
       have HN9:=Lib.hid (HN8.out.later hb)
       have HO9:=Lib.hid (HO8.out.later hb)
       have HL9:=Lib.hid (HL8.out.later hb)
       have HC9:=Lib.hid (HC8.out.below hb)
       have HR9:=Lib.hid (HR8.out.below hb HR8.out.lt)
       have HS9:=Lib.hid (HS8.out.below hb HS8.out.lt)
       have HG9:=Lib.hid (HG8.out.below0 hb HG8.out.s.lt)
       have HZ9:Hid (wd.heap.size≤w9.heap.size):=Lib.hid (Nat.le_trans HZ8.out hb.size)
       clear hb HPF HX8 HN8 HO8 HL8 HC8 HR8 HS8 HG8 HZ8 x0 x1 x2 x3 x4 x5
       by_cases hF0:F=0
       ·subst hF0
        have x0:=HXb.out.cell 0
        have x1:=HXb.out.cell 1
        have x2:=HXb.out.cell 2
        have x3:=HXb.out.cell 3
        have x4:=HXb.out.cell 4
        have x5:=HXb.out.cell 5
        simp at x0 x1 x2 x3 x4 x5
        have p0:=HC9.out.1.cell 0
        have p1:=HC9.out.1.cell 1
        have p2:=HC9.out.1.cell 2
        have p3:=HC9.out.1.cell 3
        have p4:=HC9.out.1.cell 4
        have p5:=HC9.out.1.cell 5
        simp at p0 p1 p2 p3 p4 p5
        have pf:=HC9.out.1.free
        have HCf:Hid (Capt b pb sb lb false 0 167772160 x (.slice ka K.length kc) (.slice a6 ln6 c6) ((((((w9.setCell ⟨pb,0,none⟩ (.bool false)).setCell ⟨pb,1,none⟩ (.int .u64 ((0:Nat):Int))).setCell ⟨pb,2,none⟩ (.int .u64 ((167772160:Nat):Int))).setCell ⟨pb,3,none⟩ (.int .i64 x)).setCell ⟨pb,4,none⟩ (.slice ka K.length kc)).setCell ⟨pb,5,none⟩ (.slice a6 ln6 c6))):=Lib.hid ⟨HC9.out.1.set6w,HC9.out.2.1.far6w (show sb ≠ pb by have:=Hord.out;omega),HC9.out.2.2.1.far6w (show lb ≠ pb by have:=Hord.out;omega),HC9.out.2.2.2⟩
        have HOf:Hid (OwnK layPf ((((((w9.setCell ⟨pb,0,none⟩ (.bool false)).setCell ⟨pb,1,none⟩ (.int .u64 ((0:Nat):Int))).setCell ⟨pb,2,none⟩ (.int .u64 ((167772160:Nat):Int))).setCell ⟨pb,3,none⟩ (.int .i64 x)).setCell ⟨pb,4,none⟩ (.slice ka K.length kc)).setCell ⟨pb,5,none⟩ (.slice a6 ln6 c6)) wd.heap.size (.slice ka K.length kc) K):=Lib.hid (HO9.out.farC (show pb < wd.heap.size by have:=Hbs.out;omega) 0 [.bool false, .int .u64 ((0:Nat):Int), .int .u64 ((167772160:Nat):Int), .int .i64 x, .slice ka K.length kc, .slice a6 ln6 c6])
        have HNf:Hid (OwnK layLs ((((((w9.setCell ⟨pb,0,none⟩ (.bool false)).setCell ⟨pb,1,none⟩ (.int .u64 ((0:Nat):Int))).setCell ⟨pb,2,none⟩ (.int .u64 ((167772160:Nat):Int))).setCell ⟨pb,3,none⟩ (.int .i64 x)).setCell ⟨pb,4,none⟩ (.slice ka K.length kc)).setCell ⟨pb,5,none⟩ (.slice a6 ln6 c6)) wd.heap.size (.slice a6 ln6 c6) (L ++ [(ky,(q1,q2,q3,q4))])):=Lib.hid ((HN9.out.farC (show pb < w3.heap.size by have:=Hbs.out;have:=HZ3.out;omega) 0 [.bool false, .int .u64 ((0:Nat):Int), .int .u64 ((167772160:Nat):Int), .int .i64 x, .slice ka K.length kc, .slice a6 ln6 c6]).weak (show wd.heap.size≤w3.heap.size by have:=HZ3.out;omega))
        have HRf:Hid (Blk ((((((w9.setCell ⟨pb,0,none⟩ (.bool false)).setCell ⟨pb,1,none⟩ (.int .u64 ((0:Nat):Int))).setCell ⟨pb,2,none⟩ (.int .u64 ((167772160:Nat):Int))).setCell ⟨pb,3,none⟩ (.int .i64 x)).setCell ⟨pb,4,none⟩ (.slice ka K.length kc)).setCell ⟨pb,5,none⟩ (.slice a6 ln6 c6)) rb 34 #[.bool false, .int .u64 0, .int .u64 0, .int .i64 0, .slice none 0 0, .slice none 0 0]):=Lib.hid (HR9.out.far6w (show rb ≠ pb by have:=Hord.out;omega))
        have HSf:Hid (Blk ((((((w9.setCell ⟨pb,0,none⟩ (.bool false)).setCell ⟨pb,1,none⟩ (.int .u64 ((0:Nat):Int))).setCell ⟨pb,2,none⟩ (.int .u64 ((167772160:Nat):Int))).setCell ⟨pb,3,none⟩ (.int .i64 x)).setCell ⟨pb,4,none⟩ (.slice ka K.length kc)).setCell ⟨pb,5,none⟩ (.slice a6 ln6 c6)) gs 9 #[.string ⟨#[108,97]⟩, .string ⟨#[108,98]⟩, .string ⟨#[108,99]⟩, .string ⟨#[108,100]⟩]):=Lib.hid (HS9.out.far6w (show gs ≠ pb by have:=Hbs.out;have:=Hgs.out;omega))
        have HGf:Hid (Gen b w ((((((w9.setCell ⟨pb,0,none⟩ (.bool false)).setCell ⟨pb,1,none⟩ (.int .u64 ((0:Nat):Int))).setCell ⟨pb,2,none⟩ (.int .u64 ((167772160:Nat):Int))).setCell ⟨pb,3,none⟩ (.int .i64 x)).setCell ⟨pb,4,none⟩ (.slice ka K.length kc)).setCell ⟨pb,5,none⟩ (.slice a6 ln6 c6)) (m + 10 + 4 * (k + 1))):=Lib.hid (by
         repeat refine Gen.setCell ?_ _ _ (show w.heap.size≤pb by have:=Hord.out;have:=Hsb.out;omega) (show b < pb by have:=Hord.out;omega)
         exact HG9.out)
        have HZf:Hid (wd.heap.size≤((((((w9.setCell ⟨pb,0,none⟩ (.bool false)).setCell ⟨pb,1,none⟩ (.int .u64 ((0:Nat):Int))).setCell ⟨pb,2,none⟩ (.int .u64 ((167772160:Nat):Int))).setCell ⟨pb,3,none⟩ (.int .i64 x)).setCell ⟨pb,4,none⟩ (.slice ka K.length kc)).setCell ⟨pb,5,none⟩ (.slice a6 ln6 c6)).heap.size):=Lib.hid (by rw [size_setC6];exact HZ9.out)
        clear HXb HN9 HO9 HL9 HC9 HR9 HS9 HG9 HZ9
        go_wp2_with fail
        exact ⟨⟨k + 1,a6,c6,L ++ [(ky,(q1,q2,q3,q4))],by omega,by go_num,by rw [Hln6.out];exact HCf,HOf,by rw [Hln6.out];exact HNf,HX9,HRf,HSf,HGf,HZf⟩,by simp [intOf];omega⟩
       ·have hF3:(F == 0)=false:=by simpa using hF0
        clear hF0
        go_wp2_with fail
        exact ⟨⟨k + 1,la,lc,L,by omega,by go_num,HC9,HO9,HL9,HX2,HR9,HS9,HG9,HZ9⟩,by simp [intOf];omega⟩
      ·go_wp2_with fail
       exact ⟨⟨k + 1,la,lc,L,by omega,by go_num,HC8,HO8,HL8,HX2,HR8,HS8,HG8,HZ8⟩,by simp [intOf];omega⟩
     ·obtain rfl:k=4:=by omega
      have c6:=HR.out.set6w (x1':=.bool false) (x2':=.int .u64 ((0:Nat):Int)) (x3':=.int .u64 ((167772160:Nat):Int)) (x4':=.int .i64 x) (x5':=.slice ka K.length kc) (x6':=.slice la L.length lc)
      have HPf:Hid (PoolV ((((((wr.setCell ⟨rb,0,none⟩ (.bool false)).setCell ⟨rb,1,none⟩ (.int .u64 ((0:Nat):Int))).setCell ⟨rb,2,none⟩ (.int .u64 ((167772160:Nat):Int))).setCell ⟨rb,3,none⟩ (.int .i64 x)).setCell ⟨rb,4,none⟩ (.slice ka K.length kc)).setCell ⟨rb,5,none⟩ (.slice la L.length lc)) w.heap.size (.agg #[.bool false, .int .u64 ((0:Nat):Int), .int .u64 ((167772160:Nat):Int), .int .i64 x, .slice ka K.length kc, .slice la L.length lc]) (false,0,167772160,x) K L):=Lib.hid (PoolV.weak ⟨ka,kc,la,lc,rfl,HO.out.farC (show rb < wd.heap.size by have:=Hbs.out;omega) 0 [.bool false, .int .u64 ((0:Nat):Int), .int .u64 ((167772160:Nat):Int), .int .i64 x, .slice ka K.length kc, .slice la L.length lc],HL.out.farC (show rb < wd.heap.size by have:=Hbs.out;omega) 0 [.bool false, .int .u64 ((0:Nat):Int), .int .u64 ((167772160:Nat):Int), .int .i64 x, .slice ka K.length kc, .slice la L.length lc]⟩ (show w.heap.size≤wd.heap.size by have:=Hbs.out;omega))
      have HGf:Hid (Gen b w ((((((wr.setCell ⟨rb,0,none⟩ (.bool false)).setCell ⟨rb,1,none⟩ (.int .u64 ((0:Nat):Int))).setCell ⟨rb,2,none⟩ (.int .u64 ((167772160:Nat):Int))).setCell ⟨rb,3,none⟩ (.int .i64 x)).setCell ⟨rb,4,none⟩ (.slice ka K.length kc)).setCell ⟨rb,5,none⟩ (.slice la L.length lc)) (m + 50)):=Lib.hid (by
       repeat refine Gen.setCell ?_ _ _ (show w.heap.size≤rb by have:=Hord.out;have:=Hsb.out;omega) (show b < rb by have:=Hord.out;omega)
       exact HG.out.mono (by omega))
      have z0:=c6.cell 0
      have z1:=c6.cell 1
      have z2:=c6.cell 2
      have z3:=c6.cell 3
      have z4:=c6.cell 4
      have z5:=c6.cell 5
      simp at z0 z1 z2 z3 z4 z5
      clear c6
      have p0:=HC.out.1.cell 0
      have p1:=HC.out.1.cell 1
      have p2:=HC.out.1.cell 2
      have p3:=HC.out.1.cell 3
      have p4:=HC.out.1.cell 4
      have p5:=HC.out.1.cell 5
      simp at p0 p1 p2 p3 p4 p5
      have r0:=HR.out.cell 0
      have r1:=HR.out.cell 1
      have r2:=HR.out.cell 2
      have r3:=HR.out.cell 3
      have r4:=HR.out.cell 4
      have r5:=HR.out.cell 5
      simp at r0 r1 r2 r3 r4 r5
      have rf:=HR.out.free
      clear HC HR HSt HG HZ HO HL
      go_wp2_with fail
      refine bodyPost_ret (v:=.agg #[.bool false, .int .u64 ((0:Nat):Int), .int .u64 ((167772160:Nat):Int), .int .i64 x, .slice ka K.length kc, .slice la L.length lc]) (by simp [results,Tryz.results27,go_sem, *]) rfl ⟨_,(false,0,167772160,x),K,L,rfl,HPf.out,HP.out,HK.out.2,HX.out.2,HKl.out,HLl.out,HGf.out⟩
 ·have s0:=HS4.out.cell 0
  simp at s0
  go_wp2_with fail
  refine (pick_new b (m + 2) _ _ _ _ [120,124,110,64] _ HG4.out.s rfl (by omega) rfl (by decide) rfl).mono ?_
  rintro e w5 ⟨y,rfl,hy,hg⟩
  have hyb:y=120 ∨ y=124 ∨ y=110 ∨ y=64:=by simpa using hy
  have HYb:=Lib.hid hyb
  have hP5:=HP4.out.keep hg.g hpbn
  have HP6:Hid (Blk ((((w5.setCell ⟨pb,0,none⟩ (.bool true)).setCell ⟨pb,1,none⟩ (.int .u64 18230571291595767808)).setCell ⟨pb,2,none⟩ (.int .u64 0)).setCell ⟨pb,3,none⟩ (.int .i64 y)) pb 34 #[.bool true, .int .u64 18230571291595767808, .int .u64 0, .int .i64 y, .slice none 0 0, .slice none 0 0]):=Lib.hid (Blk.set (Blk.set (Blk.set (Blk.set hP5 0 _) 1 _) 2 _) 3 _)
  have HS6:Hid (Blk ((((w5.setCell ⟨pb,0,none⟩ (.bool true)).setCell ⟨pb,1,none⟩ (.int .u64 18230571291595767808)).setCell ⟨pb,2,none⟩ (.int .u64 0)).setCell ⟨pb,3,none⟩ (.int .i64 y)) sb 23 #[.pointer (some ⟨b,0,none⟩)]):=Lib.hid ((HS4.out.keep hg.g hsbn).far4w (show sb ≠ pb by have:=Hw2.out;have:=Hsb.out;omega))
  have HR6:Hid (Blk ((((w5.setCell ⟨pb,0,none⟩ (.bool true)).setCell ⟨pb,1,none⟩ (.int .u64 18230571291595767808)).setCell ⟨pb,2,none⟩ (.int .u64 0)).setCell ⟨pb,3,none⟩ (.int .i64 y)) rb 34 #[.bool false, .int .u64 0, .int .u64 0, .int .i64 0, .slice none 0 0, .slice none 0 0]):=Lib.hid ((HR4.out.keep hg.g hrbn).far4w (show rb ≠ pb by have:=Hw2.out;omega))
  have HG6:Hid (Gen b w ((((w5.setCell ⟨pb,0,none⟩ (.bool true)).setCell ⟨pb,1,none⟩ (.int .u64 18230571291595767808)).setCell ⟨pb,2,none⟩ (.int .u64 0)).setCell ⟨pb,3,none⟩ (.int .i64 y)) (m + 3)):=Lib.hid (by
   repeat refine Gen.setCell ?_ _ _ (show w.heap.size≤pb by have:=Hw2.out;have:=Hsb.out;omega) (show b < pb by have:=Hw2.out;omega)
   exact HG4.out.trans hg)
  have p0:=hP5.cell 0
  have p1:=hP5.cell 1
  have p2:=hP5.cell 2
  have p3:=hP5.cell 3
  have pf:=hP5.free
  simp at p0 p1 p2 p3
  clear hy hyb hg hP5 HG4 HS4 HR4 HP4 s0
  go_upto_region 4 with fail
  generalize ((((w5.setCell ⟨pb,0,none⟩ (.bool true)).setCell ⟨pb,1,none⟩ (.int .u64 18230571291595767808)).setCell ⟨pb,2,none⟩ (.int .u64 0)).setCell ⟨pb,3,none⟩ (.int .i64 y))=w6 at *
  clear p0 p1 p2 p3 pf
  have HG7:=Lib.hid (HG6.out.alloc (.cells #[.int .i64 32] 3 (0,0)))
  have HS7:=Lib.hid (HS6.out.alloc (.cells #[.int .i64 32] 3 (0,0)))
  have HR7:=Lib.hid (HR6.out.alloc (.cells #[.int .i64 32] 3 (0,0)))
  have HP7:=Lib.hid (HP6.out.alloc (.cells #[.int .i64 32] 3 (0,0)))
  have HL7:Hid (Blk (w6.alloc (.cells #[.int .i64 32] 3 (0,0))) w6.heap.size 3 #[.int .i64 32]):=Lib.hid (Blk.new w6 _ _)
  have Hlb:Hid (pb < w6.heap.size∧b < w6.heap.size):=Lib.hid ⟨HP6.out.lt,HG6.out.s.lt⟩
  go_upto_region 5 with fail
  generalize w6.alloc (.cells #[.int .i64 32] 3 (0,0))=w7 at *
  obtain ⟨lb,hlb⟩:∃ q,w6.heap.size=q:=⟨_,rfl⟩
  rw [hlb] at HL7 Hlb ⊢
  clear hlb HG6 HS6 HR6 HP6
  have Hord:Hid (b < sb∧sb < rb∧rb < pb∧pb < lb):=Lib.hid (by have:=Hlb.out;have:=Hw2.out;have:=Hsb.out;omega)
  have HC:Hid (Capt b pb sb lb true 18230571291595767808 0 y (.slice none 0 0) (.slice none 0 0) (w7.setCell ⟨lb,0,none⟩ (.int .i64 128))):=Lib.hid ⟨HP7.out.far (show pb ≠ lb by have:=Hord.out;omega) 0 _,HS7.out.far (show sb ≠ lb by have:=Hord.out;omega) 0 _,HL7.out.set 0 _,hpbn,hsbn,by have:=Hord.out;omega⟩
  have HR:=Lib.hid (HR7.out.far (show rb ≠ lb by have:=Hord.out;omega) 0 (.int .i64 128))
  have HG:Hid (Gen b w (w7.setCell ⟨lb,0,none⟩ (.int .i64 128)) (m + 3)):=Lib.hid (HG7.out.setCell _ _ (by have:=Hord.out;have:=Hsb.out;show w.heap.size≤lb;omega) (by have:=Hord.out;show b < lb;omega))
  have HP:Hid (OkPf (true,18230571291595767808,0,y)):=Lib.hid (by
   rcases HYb.out with rfl | rfl | rfl | rfl
   all_goals exact okPf_of (by decide +kernel) (by show (18230571291595767808:Nat) < 18446744073709551616;decide) (by show (0:Nat) < 18446744073709551616;decide))
  have HA:Hid (∀ k,k≤60→AOK true 18230571291595767808 (0 + k)):=Lib.hid fun k hk => ⟨by show (18230571291595767808:Nat) < 18446744073709551616;decide,by show 0 + k < 18446744073709551616;omega,fun h => by cases h⟩
  have hbd:0≤y∧y≤128:=by have:=HYb.out;omega
  have p0:=HP7.out.cell 0
  simp at p0
  have l0:=HL7.out.cell 0
  simp at l0
  have lf:=HL7.out.free
  go_upto_region 7 with fail
  generalize w7.setCell ⟨lb,0,none⟩ (.int .i64 128)=wc at *
  clear p0 l0 lf HP7 HS7 HL7 HR7 HG7
  have s0:=HC.out.2.1.cell 0
  simp at s0
  go_wp2_with fail
  refine (pick_new b (m + 3) _ _ _ _ [0,0,1,2] _ HG.out.s rfl (by omega) rfl (by decide) rfl).mono ?_
  rintro e wd ⟨nk,rfl,hnk,hg⟩
  obtain ⟨nn,rfl,hnn⟩:∃ nn:Nat,nk=(nn:Int)∧nn≤2:=by
   have:nk=0 ∨ nk=1 ∨ nk=2:=by simpa using hnk
   exact ⟨nk.toNat,by omega,by omega⟩
  have HCd:=Lib.hid (HC.out.gen hg.g)
  have HRd:=Lib.hid (HR.out.keep hg.g hrbn)
  have HGd:Hid (Gen b w wd (m + 4)):=Lib.hid (HG.out.trans hg)
  have Hbs:Hid (pb < wd.heap.size∧sb < wd.heap.size∧lb < wd.heap.size∧rb < wd.heap.size∧b < wd.heap.size∧w.heap.size≤wd.heap.size):=Lib.hid ⟨HCd.out.1.lt,HCd.out.2.1.lt,HCd.out.2.2.1.lt,HRd.out.lt,HGd.out.s.lt,HGd.out.g.size⟩
  clear hg hnk HC HR HG s0
  go_wp2_with fail
  go_loopw [6,32] (fun s6 i wr => ∃ (k:Nat) (V:Value) (K:List Pf),k≤nn∧i=.int .i64 (k:Int)∧Hid (Capt b pb sb lb true 18230571291595767808 0 y V (.slice none 0 0) wr)∧Hid (OwnK layPf wr wd.heap.size V K)∧Hid (K.length≤k∧∀ p ∈ K,OkPf p)∧Hid (Blk wr rb 34 #[.bool false, .int .u64 0, .int .u64 0, .int .i64 0, .slice none 0 0, .slice none 0 0])∧Hid (Gen b w wr (m + 4 + 3 * k))∧Hid (wd.heap.size≤wr.heap.size)) (fun _ i _ => nn - (intOf i).toNat)
  case atStart => exact ⟨0,_, [],Nat.zero_le _,rfl,HCd,Lib.hid (OwnK.nil _ _ _),Lib.hid ⟨Nat.le_refl _,by simp⟩,HRd,HGd,Lib.hid (Nat.le_refl _)⟩
  case round =>
   clear HCd HRd HGd
   obtain ⟨k,V,K,hk,rfl,HC,HO,HK,HR,HG,HZ⟩:=hrel
   by_cases hlt:k < nn
   ·go_wp2_with fail
    refine (part_gen b (m + 4 + 3 * k) pb sb lb true 18230571291595767808 0 y V _ wr HG.out.s (by omega) HC.out HA.out hbd).mono ?_
    rintro e we ⟨q,rfl,hq,hg⟩
    have HQ:=Lib.hid hq
    have HW:=Lib.hid fun wx => within_pf wx hq HP.out
    obtain ⟨q1,q2,q3,q4⟩:=q
    rw [show (pfC (q1,q2,q3,q4)).toArray=#[.bool q1, .int .u64 (q2:Int), .int .u64 (q3:Int), .int .i64 q4] from rfl] at HW ⊢
    rw [show (pfC (true,18230571291595767808,0,y)).toArray=#[.bool true, .int .u64 ((18230571291595767808:Nat):Int), .int .u64 ((0:Nat):Int), .int .i64 y] from rfl] at HW
    have hbl:Below we.heap.size we (we.alloc (.cells #[.bool q1, .int .u64 (q2:Int), .int .u64 (q3:Int), .int .i64 q4] 30 (0,0))):=below_alloc (Below.refl _ _) _
    have HX3:Hid (Blk (we.alloc (.cells #[.bool q1, .int .u64 (q2:Int), .int .u64 (q3:Int), .int .i64 q4] 30 (0,0))) we.heap.size 30 #[.bool q1, .int .u64 (q2:Int), .int .u64 (q3:Int), .int .i64 q4]):=Lib.hid (Blk.new we _ _)
    have HC3:=Lib.hid ((HC.out.gen hg.g).below hbl)
    have HO3:=Lib.hid ((HO.out.gen hg Hbs.out.2.2.2.2.1).later hbl)
    have HR3:=Lib.hid ((HR.out.keep hg.g hrbn).alloc (.cells #[.bool q1, .int .u64 (q2:Int), .int .u64 (q3:Int), .int .i64 q4] 30 (0,0)))
    have HG3:Hid (Gen b w (we.alloc (.cells #[.bool q1, .int .u64 (q2:Int), .int .u64 (q3:Int), .int .i64 q4] 30 (0,0))) (m + 4 + 3 * (k + 1))):=Lib.hid (((HG.out.trans hg).alloc _).mono (by omega))
    have HZ3:Hid (wd.heap.size≤(we.alloc (.cells #[.bool q1, .int .u64 (q2:Int), .int .u64 (q3:Int), .int .i64 q4] 30 (0,0))).heap.size):=Lib.hid (by have h1:=HZ.out;have h2:=hg.g.size;rw [World.size_alloc];omega)
    clear hq hg hbl HC HO HR HG HZ
    generalize insP (q1,q2,q3,q4) (true,18230571291595767808,0,y)=IB at *
    go_upto_region 11 with fail
    generalize we.alloc (.cells #[.bool q1, .int .u64 (q2:Int), .int .u64 (q3:Int), .int .i64 q4] 30 (0,0))=w3 at *
    generalize we.heap.size=qb at *
    have d0:=HX3.out.cell 0
    have d1:=HX3.out.cell 1
    have d2:=HX3.out.cell 2
    have d3:=HX3.out.cell 3
    simp at d0 d1 d2 d3
    have p0:=HC3.out.1.cell 0
    have p1:=HC3.out.1.cell 1
    have p2:=HC3.out.1.cell 2
    have p3:=HC3.out.1.cell 3
    simp at p0 p1 p2 p3
    go_wp2_with fail
    refine (HW.out _).mono ?_
    rintro e w4 ⟨rfl,hb⟩
    have HX4:=Lib.hid (HX3.out.below hb HX3.out.lt)
    have HC4:=Lib.hid (HC3.out.below hb)
    have HO4:=Lib.hid (HO3.out.later hb)
    have HR4:=Lib.hid (HR3.out.below hb HR3.out.lt)
    have HG4:=Lib.hid (HG3.out.below0 hb HG3.out.s.lt)
    have HZ4:Hid (wd.heap.size≤w4.heap.size):=Lib.hid (Nat.le_trans HZ3.out hb.size)
    clear hb HZ3 HX3 HC3 HO3 HR3 HG3 HW d0 d1 d2 d3 p0 p1 p2 p3
    cases IB
    ·have HK2:Hid (K.length≤k + 1∧∀ p ∈ K,OkPf p):=Lib.hid ⟨by have:=HK.out.1;omega,HK.out.2⟩
     go_wp2_with fail
     exact ⟨⟨k + 1,V,K,by omega,by go_num,HC4,HO4,HK2,HR4,HG4,HZ4⟩,by simp [intOf];omega⟩
    ·obtain ⟨ad,c,rfl, -, -, -⟩:=HO4.out.form
     have HLn:Hid (K.length≤2):=Lib.hid (by have:=HK.out.1;omega)
     have d0:=HX4.out.cell 0
     have d1:=HX4.out.cell 1
     have d2:=HX4.out.cell 2
     have d3:=HX4.out.cell 3
     simp at d0 d1 d2 d3
     have p4:=HC4.out.1.cell 4
     simp at p4
     have HXe:Hid ((layPf.enc (q1,q2,q3,q4)).toArray=#[.bool q1, .int .u64 (q2:Int), .int .u64 (q3:Int), .int .i64 q4]):=Lib.hid rfl
     go_wp2_with (at_builtin;refine wpList_app pfE rfl (.tmp 41) (.tmp 43) rfl rfl (World.ownsRow.alloc HO4.out _) rfl (src_new layPf _ (q1,q2,q3,q4) _ _ ?c0) ?c1 ?c2 ?c3 ?c4 ?_)
     case c0 => first | rfl | exact HXe.out.symm
     case c1 => exact layPf.one _
     case c2 => have:=HLn.out;unfold maxLen;omega
     case c3 => have:=HLn.out;omega
     case c4 => have:=HZ4.out;simp;omega
     intro v' w6 hO hG
     have hO6:OwnK layPf w6 wd.heap.size v' (K ++ [(q1,q2,q3,q4)]):=OwnK.snoc hO
     have hbg:Below wd.heap.size w4 w6:=hG.allocFirst.below HZ4.out (own_base HO4.out)
     obtain ⟨a6,c6,rfl, -, -, -⟩:=hO6.form
     have HO6:=Lib.hid hO6
     have HC6:=Lib.hid (HC4.out.belowB hbg Hbs.out.1 Hbs.out.2.1 Hbs.out.2.2.1)
     have HR6:=Lib.hid (HR4.out.below hbg Hbs.out.2.2.2.1)
     have HG6:=Lib.hid (HG4.out.below hbg Hbs.out.2.2.2.2.2 Hbs.out.2.2.2.2.1)
     have HZ6:Hid (wd.heap.size≤w6.heap.size):=Lib.hid (Nat.le_trans HZ4.out hbg.size)
     generalize hkl:(K ++ [(q1,q2,q3,q4)]).length=kl at *
     clear hO hG hO6 hbg HX4 HC4 HO4 HR4 HG4 HZ4 d0 d1 d2 d3 p4 HXe
     have HC7:Hid (Capt b pb sb lb true 18230571291595767808 0 y (.slice a6 kl c6) (.slice none 0 0) (w6.setCell ⟨pb,4,none⟩ (.slice a6 kl c6))):=Lib.hid ⟨HC6.out.1.set 4 _,HC6.out.2.1.far (show sb ≠ pb by have:=Hord.out;omega) 4 _,HC6.out.2.2.1.far (show lb ≠ pb by have:=Hord.out;omega) 4 _,HC6.out.2.2.2⟩
     have hk7:=KeepT.of_set (S:=[34]) (i:=4) (v:=.slice a6 kl c6) HC6.out.1 (by simp)
     have HO7:=Lib.hid (HO6.out.keepT hk7 (by decide))
     have HR7:=Lib.hid (HR6.out.far (show rb ≠ pb by have:=Hord.out;omega) 4 (.slice a6 kl c6))
     have HG7:Hid (Gen b w (w6.setCell ⟨pb,4,none⟩ (.slice a6 kl c6)) (m + 4 + 3 * (k + 1))):=Lib.hid (HG6.out.setCell _ _ (by have:=Hord.out;have:=Hsb.out;show w.heap.size≤pb;omega) (by have:=Hord.out;show b < pb;omega))
     have HZ7:Hid (wd.heap.size≤(w6.setCell ⟨pb,4,none⟩ (.slice a6 kl c6)).heap.size):=Lib.hid (Nat.le_trans HZ6.out hk7.1)
     have HK7:Hid ((K ++ [(q1,q2,q3,q4)]).length≤k + 1∧∀ p ∈ K ++ [(q1,q2,q3,q4)],OkPf p):=Lib.hid ⟨by rw [List.length_append];have:=HK.out.1;simp;omega,fun p hp => by
      rcases List.mem_append.1 hp with hp | hp
      ·exact HK.out.2 p hp
      ·rw [List.mem_singleton.1 hp];exact HQ.out⟩
     have u4:=HC6.out.1.cell 4
     have uf:=HC6.out.1.free
     simp at u4
     clear hk7
     go_wp2_with fail
     exact ⟨⟨k + 1, .slice a6 kl c6,K ++ [(q1,q2,q3,q4)],by omega,by go_num,HC7,HO7,HK7,HR7,HG7,HZ7⟩,by simp [intOf];omega⟩
   ·obtain ⟨m0,hm0⟩:∃ q,q=nn:=⟨_,rfl⟩
    obtain rfl:k=nn:=by omega
    subst hm0
    obtain ⟨ka,kc,rfl, -, -, -⟩:=HO.out.form
    have HKl:Hid (K.length≤2):=Lib.hid (by have:=HK.out.1;omega)
    have HG1:Hid (Gen b w wr (m + 10)):=Lib.hid (HG.out.mono (by omega))
    clear HG hlt hk
    have HSt:Hid (Blk (wr.alloc (.cells #[.string ⟨#[108,97]⟩, .string ⟨#[108,98]⟩, .string ⟨#[108,99]⟩, .string ⟨#[108,100]⟩] 9 (0,0))) wr.heap.size 9 #[.string ⟨#[108,97]⟩, .string ⟨#[108,98]⟩, .string ⟨#[108,99]⟩, .string ⟨#[108,100]⟩]):=Lib.hid (Blk.new wr _ _)
    have hbl:Below wr.heap.size wr (wr.alloc (.cells #[.string ⟨#[108,97]⟩, .string ⟨#[108,98]⟩, .string ⟨#[108,99]⟩, .string ⟨#[108,100]⟩] 9 (0,0))):=below_alloc (Below.refl _ _) _
    have HC1:=Lib.hid (HC.out.below hbl)
    have HO1:=Lib.hid (HO.out.later hbl)
    have HR1:=Lib.hid (HR.out.below hbl HR.out.lt)
    have HG2:Hid (Gen b w (wr.alloc (.cells #[.string ⟨#[108,97]⟩, .string ⟨#[108,98]⟩, .string ⟨#[108,99]⟩, .string ⟨#[108,100]⟩] 9 (0,0))) (m + 10 + 4 * 0)):=Lib.hid (HG1.out.alloc (.cells #[.string ⟨#[108,97]⟩, .string ⟨#[108,98]⟩, .string ⟨#[108,99]⟩, .string ⟨#[108,100]⟩] 9 (0,0)))
    have HZ1:Hid (wd.heap.size≤(wr.alloc (.cells #[.string ⟨#[108,97]⟩, .string ⟨#[108,98]⟩, .string ⟨#[108,99]⟩, .string ⟨#[108,100]⟩] 9 (0,0))).heap.size):=Lib.hid (Nat.le_trans HZ.out hbl.size)
    have Hgs:Hid (wd.heap.size≤wr.heap.size):=HZ
    obtain ⟨gs,hgs⟩:∃ q,wr.heap.size=q:=⟨_,rfl⟩
    rw [hgs] at HSt Hgs
    have hgsb:gs ≠ b:=by have:=Hgs.out;have:=Hbs.out;omega
    clear hbl HC HO HR HG1
    go_wp2_with fail
    go_loopw [8,9,49] (fun s8 s9 i wx => ∃ (k:Nat) (la:Option Addr) (lc:Nat) (L:List Ls),k≤4∧i=.int .i64 (k:Int)∧Hid (Capt b pb sb lb true 18230571291595767808 0 y (.slice ka K.length kc) (.slice la L.length lc) wx)∧Hid (OwnK layPf wx wd.heap.size (.slice ka K.length kc) K)∧Hid (OwnK layLs wx wd.heap.size (.slice la L.length lc) L)∧Hid (L.length≤k∧∀ x ∈ L,OkPf x.2∧x.1.length≤1000)∧Hid (Blk wx rb 34 #[.bool false, .int .u64 0, .int .u64 0, .int .i64 0, .slice none 0 0, .slice none 0 0])∧Hid (Blk wx gs 9 #[.string ⟨#[108,97]⟩, .string ⟨#[108,98]⟩, .string ⟨#[108,99]⟩, .string ⟨#[108,100]⟩])∧Hid (Gen b w wx (m + 10 + 4 * k))∧Hid (wd.heap.size≤wx.heap.size)) (fun _ _ i _ => 4 - (intOf i).toNat)
    case atStart => exact ⟨0,none,0, [],Nat.zero_le _,rfl,HC1,HO1,Lib.hid (OwnK.nil _ _ _),Lib.hid ⟨Nat.le_refl _,by simp⟩,HR1,HSt,HG2,HZ1⟩
    case round =>
     clear HC1 HO1 HR1 HSt HG2 HZ1 HZ
     obtain ⟨k,la,lc,L,hk,rfl,HC,HO,HL,HX,HR,HSt,HG,HZ⟩:=hrel
     have HLl:Hid (L.length≤4):=Lib.hid (by have:=HX.out.1;omega)
     by_cases hlt:k < 4
     ·obtain ⟨ky,hky,hkyl⟩:∃ ky:List UInt8,wr.cell? ⟨gs,k,none⟩=some (.string (strL ky))∧ky.length≤1000:=by
       have hk4:k=0 ∨ k=1 ∨ k=2 ∨ k=3:=by omega
       rcases hk4 with rfl | rfl | rfl | rfl
       ·exact ⟨[108,97],by rw [HSt.out.cell] <;> rfl,by decide⟩
       ·exact ⟨[108,98],by rw [HSt.out.cell] <;> rfl,by decide⟩
       ·exact ⟨[108,99],by rw [HSt.out.cell] <;> rfl,by decide⟩
       ·exact ⟨[108,100],by rw [HSt.out.cell] <;> rfl,by decide⟩
      have Hkyl:=Lib.hid hkyl
      have p0:=HC.out.1.cell 0
      have p1:=HC.out.1.cell 1
      have p2:=HC.out.1.cell 2
      have p3:=HC.out.1.cell 3
      have p4:=HC.out.1.cell 4
      have p5:=HC.out.1.cell 5
      simp at p0 p1 p2 p3 p4 p5
      have hbl:Below wr.heap.size wr (wr.alloc (.cells #[.bool true, .int .u64 ((18230571291595767808:Nat):Int), .int .u64 ((0:Nat):Int), .int .i64 y, .slice ka K.length kc, .slice la L.length lc] 34 (0,0))):=below_alloc (Below.refl _ _) _
      have HX3:Hid (Blk (wr.alloc (.cells #[.bool true, .int .u64 ((18230571291595767808:Nat):Int), .int .u64 ((0:Nat):Int), .int .i64 y, .slice ka K.length kc, .slice la L.length lc] 34 (0,0))) wr.heap.size 34 #[.bool true, .int .u64 ((18230571291595767808:Nat):Int), .int .u64 ((0:Nat):Int), .int .i64 y, .slice ka K.length kc, .slice la L.length lc]):=Lib.hid (Blk.new wr _ _)
      have HC3:=Lib.hid (HC.out.below hbl)
      have HO3:=Lib.hid (HO.out.later hbl)
      have HL3:=Lib.hid (HL.out.later hbl)
      have HR3:=Lib.hid (HR.out.below hbl HR.out.lt)
      have HS3:=Lib.hid (HSt.out.below hbl HSt.out.lt)
      have HG3:=Lib.hid (HG.out.alloc (.cells #[.bool true, .int .u64 ((18230571291595767808:Nat):Int), .int .u64 ((0:Nat):Int), .int .i64 y, .slice ka K.length kc, .slice la L.length lc] 34 (0,0)))
      have HZ3:Hid (wd.heap.size≤wr.heap.size∧wr.heap.size < (wr.alloc (.cells #[.bool true, .int .u64 ((18230571291595767808:Nat):Int), .int .u64 ((0:Nat):Int), .int .i64 y, .slice ka K.length kc, .slice la L.length lc] 34 (0,0))).heap.size∧gs < wr.heap.size):=Lib.hid ⟨HZ.out,by rw [World.size_alloc];omega,HSt.out.lt⟩
      clear hbl HC HO HL HR HSt HG HZ hkyl
      go_upto_region 18 with fail
      generalize wr.alloc (.cells #[.bool true, .int .u64 ((18230571291595767808:Nat):Int), .int .u64 ((0:Nat):Int), .int .i64 y, .slice ka K.length kc, .slice la L.length lc] 34 (0,0))=w3 at *
      obtain ⟨xb,hxb⟩:∃ q,wr.heap.size=q:=⟨_,rfl⟩
      rw [hxb] at HX3 HZ3 ⊢
      clear hxb p0 p1 p2 p3 p4 p5 hky
      have hxbn:xb ≠ b:=by have:=HZ3.out;have:=Hbs.out;omega
      have HCl:=Lib.hid (cloneLs_any la L.length lc L w3 HL3.out.rd rfl (by have:=HLl.out;omega))
      have p5:=HC3.out.1.cell 5
      simp at p5
      go_wp2_with fail
      refine HCl.out.mono ?_
      rintro e w4 ⟨v,rfl,hO,hb⟩
      obtain ⟨a4,c4,rfl, -, -, -⟩:=hO.form
      have HN4:=Lib.hid hO
      have HX4:=Lib.hid (HX3.out.below hb HX3.out.lt)
      have HC4:=Lib.hid (HC3.out.below hb)
      have HO4:=Lib.hid (HO3.out.later hb)
      have HL4:=Lib.hid (HL3.out.later hb)
      have HR4:=Lib.hid (HR3.out.below hb HR3.out.lt)
      have HS4:=Lib.hid (HS3.out.below hb HS3.out.lt)
      have HG4:=Lib.hid (HG3.out.below0 hb HG3.out.s.lt)
      have HZ4:Hid (w3.heap.size≤w4.heap.size):=Lib.hid hb.size
      have HLb:Hid (∀ g,(Value.slice la L.length lc).ownBlock=some g→g < w3.heap.size):=Lib.hid fun g hg => own_lt HL3.out g hg
      clear hO hb HX3 HC3 HO3 HL3 HR3 HS3 HG3 HCl p5
      go_wp2_with fail
      refine (part_gen b (m + 10 + 4 * k) pb sb lb true 18230571291595767808 0 y (.slice ka K.length kc) (.slice la L.length lc) w4 HG4.out.s (by omega) HC4.out HA.out hbd).mono ?_
      rintro e w5 ⟨q,rfl,hq,hg⟩
      have HQ:=Lib.hid hq
      have HN5:=Lib.hid (HN4.out.gen hg (show b < w3.heap.size by have:=HZ3.out;have:=Hbs.out;omega))
      have HX5:=Lib.hid (HX4.out.keep hg.g hxbn)
      have HC5:=Lib.hid (HC4.out.gen hg.g)
      have HO5:=Lib.hid (HO4.out.gen hg (show b < wd.heap.size by have:=Hbs.out;omega))
      have HL5:=Lib.hid (HL4.out.gen hg (show b < wd.heap.size by have:=Hbs.out;omega))
      have HR5:=Lib.hid (HR4.out.keep hg.g hrbn)
      have HS5:=Lib.hid (HS4.out.keep hg.g hgsb)
      have HG5:Hid (Gen b w w5 (m + 10 + 4 * k + 3)):=Lib.hid (HG4.out.trans hg)
      have HZ5:Hid (w3.heap.size≤w5.heap.size):=Lib.hid (Nat.le_trans HZ4.out hg.g.size)
      clear hq hg HN4 HX4 HC4 HO4 HL4 HR4 HS4 HG4 HZ4
      obtain ⟨q1,q2,q3,q4⟩:=q
      rw [show (pfC (q1,q2,q3,q4)).toArray=#[.bool q1, .int .u64 (q2:Int), .int .u64 (q3:Int), .int .i64 q4] from rfl]
      have HXe:Hid ((layLs.enc (ky,(q1,q2,q3,q4))).toArray=#[.string (strL ky), .bool q1, .int .u64 (q2:Int), .int .u64 (q3:Int), .int .i64 q4]):=Lib.hid rfl
      go_wp2_with (at_builtin;refine wpList_app lsE rfl (.tmp 56) (.tmp 61) rfl rfl (World.ownsRow.alloc HN5.out _) rfl (src_new layLs _ (ky,(q1,q2,q3,q4)) _ _ ?c0) ?c1 ?c2 ?c3 ?c4 ?_)
      case c0 => first | rfl | exact HXe.out.symm
      case c1 => exact layLs.one _
      case c2 => have:=HLl.out;unfold maxLen;omega
      case c3 => have:=HLl.out;omega
      case c4 => have:=HZ5.out;simp;omega
      intro v' w6 hO hG
      have hO6:OwnK layLs w6 w3.heap.size v' (L ++ [(ky,(q1,q2,q3,q4))]):=OwnK.snoc hO
      have hbg:Below w3.heap.size w5 w6:=hG.allocFirst.below HZ5.out (own_base HN5.out)
      have hk6:=KeepT.of_grew (S:=[67]) HN5.out hG.allocFirst (by decide)
      obtain ⟨a6,c6,rfl, -,hc6, -⟩:=hO6.form
      have HN6:=Lib.hid hO6
      have Hc6:=Lib.hid hc6
      have HX6:=Lib.hid (HX5.out.keepS hk6 (by decide))
      have HC6:=Lib.hid (HC5.out.belowB hbg (show pb < w3.heap.size by have:=HZ3.out;have:=Hbs.out;omega) (show sb < w3.heap.size by have:=HZ3.out;have:=Hbs.out;omega) (show lb < w3.heap.size by have:=HZ3.out;have:=Hbs.out;omega))
      have HO6:=Lib.hid (HO5.out.keepT hk6 (by decide))
      have HL6:=Lib.hid (HL5.out.belowN hbg HLb.out)
      have HR6:=Lib.hid (HR5.out.keepS hk6 (by decide))
      have HS6:=Lib.hid (HS5.out.keepS hk6 (by decide))
      have HG6:=Lib.hid (HG5.out.below hbg (show w.heap.size≤w3.heap.size by have:=HZ3.out;have:=Hbs.out;omega) (show b < w3.heap.size by have:=HZ3.out;have:=Hbs.out;omega))
      have HZ6:Hid (w3.heap.size≤w6.heap.size):=Lib.hid (Nat.le_trans HZ5.out hbg.size)
      have Hl6:Hid ((L ++ [(ky,(q1,q2,q3,q4))]).length=L.length + 1):=Lib.hid (by rw [List.length_append];rfl)
      generalize hln6:(L ++ [(ky,(q1,q2,q3,q4))]).length=ln6 at *
      have Hln6:=Lib.hid hln6
      clear hO hG hO6 hbg hk6 hc6 hln6 HN5 HX5 HC5 HO5 HL5 HR5 HS5 HG5 HZ5 HXe
      have HX7:Hid (Blk (w6.setCell ⟨xb,5,none⟩ (.slice a6 ln6 c6)) xb 34 #[.bool true, .int .u64 ((18230571291595767808:Nat):Int), .int .u64 ((0:Nat):Int), .int .i64 y, .slice ka K.length kc, .slice a6 ln6 c6]):=Lib.hid (HX6.out.set 5 _)
      have hk7:=KeepT.of_set (S:=[34]) (i:=5) (v:=.slice a6 ln6 c6) HX6.out (by simp)
      have HN7:=Lib.hid (HN6.out.keepT hk7 (by decide))
      have HO7:=Lib.hid (HO6.out.keepT hk7 (by decide))
      have HL7:=Lib.hid (HL6.out.keepT hk7 (by decide))
      have HC7:=Lib.hid (HC6.out.far (show pb ≠ xb by have:=HZ3.out;have:=Hbs.out;omega) (show sb ≠ xb by have:=HZ3.out;have:=Hbs.out;omega) (show lb ≠ xb by have:=HZ3.out;have:=Hbs.out;omega) 5 (.slice a6 ln6 c6))
      have HR7:=Lib.hid (HR6.out.far (show rb ≠ xb by have:=HZ3.out;have:=Hbs.out;omega) 5 (.slice a6 ln6 c6))
      have HS7:=Lib.hid (HS6.out.far (show gs ≠ xb by have:=HZ3.out;omega) 5 (.slice a6 ln6 c6))
      have HG7:Hid (Gen b w (w6.setCell ⟨xb,5,none⟩ (.slice a6 ln6 c6)) (m + 10 + 4 * k + 3)):=Lib.hid (HG6.out.setCell _ _ (by have:=HZ3.out;have:=Hbs.out;show w.heap.size≤xb;omega) (by have:=HZ3.out;have:=Hbs.out;show b < xb;omega))
      have HZ7:Hid (w3.heap.size≤(w6.setCell ⟨xb,5,none⟩ (.slice a6 ln6 c6)).heap.size):=Lib.hid (Nat.le_trans HZ6.out hk7.1)
      have u5:=HX6.out.cell 5
      have uf:=HX6.out.free
      simp at u5
      go_upto_region 19 with fail
      generalize w6.setCell ⟨xb,5,none⟩ (.slice a6 ln6 c6)=w7 at *
      clear hk7 u5 uf HX6 HN6 HO6 HL6 HC6 HR6 HS6 HG6 HZ6
      have s0:=HC7.out.2.1.cell 0
      simp at s0
      go_wp2_with fail
      refine (flip_gen b (m + 10 + 4 * k + 3) _ _ HG7.out.s (by omega) (by omega)).mono ?_
      rintro e w8 ⟨kf,rfl,hg⟩
      have HX8:=Lib.hid (HX7.out.keep hg.g hxbn)
      have HN8:=Lib.hid (HN7.out.gen hg (show b < w3.heap.size by have:=HZ3.out;have:=Hbs.out;omega))
      have HO8:=Lib.hid (HO7.out.gen hg (show b < wd.heap.size by have:=Hbs.out;omega))
      have HL8:=Lib.hid (HL7.out.gen hg (show b < wd.heap.size by have:=Hbs.out;omega))
      have HC8:=Lib.hid (HC7.out.gen hg.g)
      have HR8:=Lib.hid (HR7.out.keep hg.g hrbn)
      have HS8:=Lib.hid (HS7.out.keep hg.g hgsb)
      have HG8:Hid (Gen b w w8 (m + 10 + 4 * (k + 1))):=Lib.hid ((HG7.out.trans hg).mono (by omega))
      have HZ8:Hid (wd.heap.size≤w8.heap.size):=Lib.hid (by have h1:=HZ7.out;have h2:=hg.g.size;have:=HZ3.out;omega)
      have HX2:Hid (L.length≤k + 1∧∀ x ∈ L,OkPf x.2∧x.1.length≤1000):=Lib.hid ⟨by have:=HX.out.1;omega,HX.out.2⟩
      clear hg HX7 HN7 HO7 HL7 HC7 HR7 HS7 HG7 HZ7 s0
      cases kf
      ·have HX9:Hid ((L ++ [(ky,(q1,q2,q3,q4))]).length≤k + 1∧∀ x ∈ L ++ [(ky,(q1,q2,q3,q4))],OkPf x.2∧x.1.length≤1000):=Lib.hid ⟨by rw [Hln6.out,Hl6.out];have:=HX.out.1;omega,fun x hx => by
        rcases List.mem_append.1 hx with hx | hx
        ·exact HX.out.2 x hx
        ·rw [List.mem_singleton.1 hx];exact ⟨HQ.out,Hkyl.out⟩⟩
       have HPF:=Lib.hid (poolFault_any (true,18230571291595767808,0,y) ka a6 K.length kc ln6 c6 K (L ++ [(ky,(q1,q2,q3,q4))]) w8 HO8.out.rd HN8.out.rd rfl Hln6.out (by have:=HKl.out;omega) (by have:=HLl.out;have:=Hl6.out;omega) Hc6.out ⟨HP.out.ok.1.1,HP.out.ok.1.2.1⟩ (fun p hp => ⟨(HK.out.2 p hp).ok.1.1,(HK.out.2 p hp).ok.1.2.1⟩) (fun x hx => ⟨⟨(HX9.out.2 x hx).1.ok.1.1,(HX9.out.2 x hx).1.ok.1.2.1⟩,(HX9.out.2 x hx).2⟩))
       rw [show (plC (true,18230571291595767808,0,y) (.slice ka K.length kc) (.slice a6 ln6 c6)).toArray=#[.bool true, .int .u64 ((18230571291595767808:Nat):Int), .int .u64 ((0:Nat):Int), .int .i64 y, .slice ka K.length kc, .slice a6 ln6 c6] from rfl] at HPF
       generalize poolF (true,18230571291595767808,0,y) K (L ++ [(ky,(q1,q2,q3,q4))])=F at *
       have x0:=HX8.out.cell 0
       have x1:=HX8.out.cell 1
       have x2:=HX8.out.cell 2
       have x3:=HX8.out.cell 3
       have x4:=HX8.out.cell 4
       have x5:=HX8.out.cell 5
       simp at x0 x1 x2 x3 x4 x5
       go_wp2_with fail
       refine HPF.out.mono ?_
       rintro e w9 ⟨rfl,hb⟩
       have HXb:=Lib.hid (HX8.out.below hb HX8.out.lt)
       have HN9:=Lib.hid (HN8.out.later hb)
       have HO9:=Lib.hid (HO8.out.later hb)
       have HL9:=Lib.hid (HL8.out.later hb)
       have HC9:=Lib.hid (HC8.out.below hb)
       have HR9:=Lib.hid (HR8.out.below hb HR8.out.lt)
       have HS9:=Lib.hid (HS8.out.below hb HS8.out.lt)
       have HG9:=Lib.hid (HG8.out.below0 hb HG8.out.s.lt)
       have HZ9:Hid (wd.heap.size≤w9.heap.size):=Lib.hid (Nat.le_trans HZ8.out hb.size)
       clear hb HPF HX8 HN8 HO8 HL8 HC8 HR8 HS8 HG8 HZ8 x0 x1 x2 x3 x4 x5
       by_cases hF0:F=0
       ·subst hF0
        have x0:=HXb.out.cell 0
        have x1:=HXb.out.cell 1
        have x2:=HXb.out.cell 2
        have x3:=HXb.out.cell 3
        have x4:=HXb.out.cell 4
        have x5:=HXb.out.cell 5
        simp at x0 x1 x2 x3 x4 x5
        have p0:=HC9.out.1.cell 0
        have p1:=HC9.out.1.cell 1
        have p2:=HC9.out.1.cell 2
        have p3:=HC9.out.1.cell 3
        have p4:=HC9.out.1.cell 4
        have p5:=HC9.out.1.cell 5
        simp at p0 p1 p2 p3 p4 p5
        have pf:=HC9.out.1.free
        have HCf:Hid (Capt b pb sb lb true 18230571291595767808 0 y (.slice ka K.length kc) (.slice a6 ln6 c6) ((((((w9.setCell ⟨pb,0,none⟩ (.bool true)).setCell ⟨pb,1,none⟩ (.int .u64 ((18230571291595767808:Nat):Int))).setCell ⟨pb,2,none⟩ (.int .u64 ((0:Nat):Int))).setCell ⟨pb,3,none⟩ (.int .i64 y)).setCell ⟨pb,4,none⟩ (.slice ka K.length kc)).setCell ⟨pb,5,none⟩ (.slice a6 ln6 c6))):=Lib.hid ⟨HC9.out.1.set6w,HC9.out.2.1.far6w (show sb ≠ pb by have:=Hord.out;omega),HC9.out.2.2.1.far6w (show lb ≠ pb by have:=Hord.out;omega),HC9.out.2.2.2⟩
        have HOf:Hid (OwnK layPf ((((((w9.setCell ⟨pb,0,none⟩ (.bool true)).setCell ⟨pb,1,none⟩ (.int .u64 ((18230571291595767808:Nat):Int))).setCell ⟨pb,2,none⟩ (.int .u64 ((0:Nat):Int))).setCell ⟨pb,3,none⟩ (.int .i64 y)).setCell ⟨pb,4,none⟩ (.slice ka K.length kc)).setCell ⟨pb,5,none⟩ (.slice a6 ln6 c6)) wd.heap.size (.slice ka K.length kc) K):=Lib.hid (HO9.out.farC (show pb < wd.heap.size by have:=Hbs.out;omega) 0 [.bool true, .int .u64 ((18230571291595767808:Nat):Int), .int .u64 ((0:Nat):Int), .int .i64 y, .slice ka K.length kc, .slice a6 ln6 c6])
        have HNf:Hid (OwnK layLs ((((((w9.setCell ⟨pb,0,none⟩ (.bool true)).setCell ⟨pb,1,none⟩ (.int .u64 ((18230571291595767808:Nat):Int))).setCell ⟨pb,2,none⟩ (.int .u64 ((0:Nat):Int))).setCell ⟨pb,3,none⟩ (.int .i64 y)).setCell ⟨pb,4,none⟩ (.slice ka K.length kc)).setCell ⟨pb,5,none⟩ (.slice a6 ln6 c6)) wd.heap.size (.slice a6 ln6 c6) (L ++ [(ky,(q1,q2,q3,q4))])):=Lib.hid ((HN9.out.farC (show pb < w3.heap.size by have:=Hbs.out;have:=HZ3.out;omega) 0 [.bool true, .int .u64 ((18230571291595767808:Nat):Int), .int .u64 ((0:Nat):Int), .int .i64 y, .slice ka K.length kc, .slice a6 ln6 c6]).weak (show wd.heap.size≤w3.heap.size by have:=HZ3.out;omega))
        have HRf:Hid (Blk ((((((w9.setCell ⟨pb,0,none⟩ (.bool true)).setCell ⟨pb,1,none⟩ (.int .u64 ((18230571291595767808:Nat):Int))).setCell ⟨pb,2,none⟩ (.int .u64 ((0:Nat):Int))).setCell ⟨pb,3,none⟩ (.int .i64 y)).setCell ⟨pb,4,none⟩ (.slice ka K.length kc)).setCell ⟨pb,5,none⟩ (.slice a6 ln6 c6)) rb 34 #[.bool false, .int .u64 0, .int .u64 0, .int .i64 0, .slice none 0 0, .slice none 0 0]):=Lib.hid (HR9.out.far6w (show rb ≠ pb by have:=Hord.out;omega))
        have HSf:Hid (Blk ((((((w9.setCell ⟨pb,0,none⟩ (.bool true)).setCell ⟨pb,1,none⟩ (.int .u64 ((18230571291595767808:Nat):Int))).setCell ⟨pb,2,none⟩ (.int .u64 ((0:Nat):Int))).setCell ⟨pb,3,none⟩ (.int .i64 y)).setCell ⟨pb,4,none⟩ (.slice ka K.length kc)).setCell ⟨pb,5,none⟩ (.slice a6 ln6 c6)) gs 9 #[.string ⟨#[108,97]⟩, .string ⟨#[108,98]⟩, .string ⟨#[108,99]⟩, .string ⟨#[108,100]⟩]):=Lib.hid (HS9.out.far6w (show gs ≠ pb by have:=Hbs.out;have:=Hgs.out;omega))
        have HGf:Hid (Gen b w ((((((w9.setCell ⟨pb,0,none⟩ (.bool true)).setCell ⟨pb,1,none⟩ (.int .u64 ((18230571291595767808:Nat):Int))).setCell ⟨pb,2,none⟩ (.int .u64 ((0:Nat):Int))).setCell ⟨pb,3,none⟩ (.int .i64 y)).setCell ⟨pb,4,none⟩ (.slice ka K.length kc)).setCell ⟨pb,5,none⟩ (.slice a6 ln6 c6)) (m + 10 + 4 * (k + 1))):=Lib.hid (by
         repeat refine Gen.setCell ?_ _ _ (show w.heap.size≤pb by have:=Hord.out;have:=Hsb.out;omega) (show b < pb by have:=Hord.out;omega)
         exact HG9.out)
        have HZf:Hid (wd.heap.size≤((((((w9.setCell ⟨pb,0,none⟩ (.bool true)).setCell ⟨pb,1,none⟩ (.int .u64 ((18230571291595767808:Nat):Int))).setCell ⟨pb,2,none⟩ (.int .u64 ((0:Nat):Int))).setCell ⟨pb,3,none⟩ (.int .i64 y)).setCell ⟨pb,4,none⟩ (.slice ka K.length kc)).setCell ⟨pb,5,none⟩ (.slice a6 ln6 c6)).heap.size):=Lib.hid (by rw [size_setC6];exact HZ9.out)
        clear HXb HN9 HO9 HL9 HC9 HR9 HS9 HG9 HZ9
        go_wp2_with fail
        exact ⟨⟨k + 1,a6,c6,L ++ [(ky,(q1,q2,q3,q4))],by omega,by go_num,by rw [Hln6.out];exact HCf,HOf,by rw [Hln6.out];exact HNf,HX9,HRf,HSf,HGf,HZf⟩,by simp [intOf];omega⟩
       ·have hF3:(F == 0)=false:=by simpa using hF0
        clear hF0
        go_wp2_with fail
        exact ⟨⟨k + 1,la,lc,L,by omega,by go_num,HC9,HO9,HL9,HX2,HR9,HS9,HG9,HZ9⟩,by simp [intOf];omega⟩
      ·go_wp2_with fail
       exact ⟨⟨k + 1,la,lc,L,by omega,by go_num,HC8,HO8,HL8,HX2,HR8,HS8,HG8,HZ8⟩,by simp [intOf];omega⟩
     ·obtain rfl:k=4:=by omega
      have c6:=HR.out.set6w (x1':=.bool true) (x2':=.int .u64 ((18230571291595767808:Nat):Int)) (x3':=.int .u64 ((0:Nat):Int)) (x4':=.int .i64 y) (x5':=.slice ka K.length kc) (x6':=.slice la L.length lc)
      have HPf:Hid (PoolV ((((((wr.setCell ⟨rb,0,none⟩ (.bool true)).setCell ⟨rb,1,none⟩ (.int .u64 ((18230571291595767808:Nat):Int))).setCell ⟨rb,2,none⟩ (.int .u64 ((0:Nat):Int))).setCell ⟨rb,3,none⟩ (.int .i64 y)).setCell ⟨rb,4,none⟩ (.slice ka K.length kc)).setCell ⟨rb,5,none⟩ (.slice la L.length lc)) w.heap.size (.agg #[.bool true, .int .u64 ((18230571291595767808:Nat):Int), .int .u64 ((0:Nat):Int), .int .i64 y, .slice ka K.length kc, .slice la L.length lc]) (true,18230571291595767808,0,y) K L):=Lib.hid (PoolV.weak ⟨ka,kc,la,lc,rfl,HO.out.farC (show rb < wd.heap.size by have:=Hbs.out;omega) 0 [.bool true, .int .u64 ((18230571291595767808:Nat):Int), .int .u64 ((0:Nat):Int), .int .i64 y, .slice ka K.length kc, .slice la L.length lc],HL.out.farC (show rb < wd.heap.size by have:=Hbs.out;omega) 0 [.bool true, .int .u64 ((18230571291595767808:Nat):Int), .int .u64 ((0:Nat):Int), .int .i64 y, .slice ka K.length kc, .slice la L.length lc]⟩ (show w.heap.size≤wd.heap.size by have:=Hbs.out;omega))
      have HGf:Hid (Gen b w ((((((wr.setCell ⟨rb,0,none⟩ (.bool true)).setCell ⟨rb,1,none⟩ (.int .u64 ((18230571291595767808:Nat):Int))).setCell ⟨rb,2,none⟩ (.int .u64 ((0:Nat):Int))).setCell ⟨rb,3,none⟩ (.int .i64 y)).setCell ⟨rb,4,none⟩ (.slice ka K.length kc)).setCell ⟨rb,5,none⟩ (.slice la L.length lc)) (m + 50)):=Lib.hid (by
       repeat refine Gen.setCell ?_ _ _ (show w.heap.size≤rb by have:=Hord.out;have:=Hsb.out;omega) (show b < rb by have:=Hord.out;omega)
       exact HG.out.mono (by omega))
      have z0:=c6.cell 0
      have z1:=c6.cell 1
      have z2:=c6.cell 2
      have z3:=c6.cell 3
      have z4:=c6.cell 4
      have z5:=c6.cell 5
      simp at z0 z1 z2 z3 z4 z5
      clear c6
      have p0:=HC.out.1.cell 0
      have p1:=HC.out.1.cell 1
      have p2:=HC.out.1.cell 2
      have p3:=HC.out.1.cell 3
      have p4:=HC.out.1.cell 4
      have p5:=HC.out.1.cell 5
      simp at p0 p1 p2 p3 p4 p5
      have r0:=HR.out.cell 0
      have r1:=HR.out.cell 1
      have r2:=HR.out.cell 2
      have r3:=HR.out.cell 3
      have r4:=HR.out.cell 4
      have r5:=HR.out.cell 5
      simp at r0 r1 r2 r3 r4 r5
      have rf:=HR.out.free
      clear HC HR HSt HG HZ HO HL
      go_wp2_with fail
      refine bodyPost_ret (v:=.agg #[.bool true, .int .u64 ((18230571291595767808:Nat):Int), .int .u64 ((0:Nat):Int), .int .i64 y, .slice ka K.length kc, .slice la L.length lc]) (by simp [results,Tryz.results27,go_sem, *]) rfl ⟨_,(true,18230571291595767808,0,y),K,L,rfl,HPf.out,HP.out,HK.out.2,HX.out.2,HKl.out,HLl.out,HGf.out⟩
open Go.RowKit Go
section
variable {α:Type} (eq:α→α→Bool)
end
section
variable {α:Type} [Inhabited α] {E:Lay α}
end
end Go.Proofs.YteldaicgaeooiaaGreatDoor
