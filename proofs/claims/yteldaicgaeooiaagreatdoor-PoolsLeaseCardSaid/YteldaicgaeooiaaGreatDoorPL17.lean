/-
  The law PoolsLease: walked.
-/
import Derived.Test.YteldaicgaeooiaaGreatDoorPL16
import Derived.Test.YteldaicgaeooiaaGreatDoorPL5
set_option linter.unusedVariables false
set_option maxRecDepth 100000
set_option maxHeartbeats 32000000
namespace Go.Proofs.YteldaicgaeooiaaGreatDoor
open Go.RowKit Go Go.Sort
theorem Gen.toBelowR {b m:Nat} {w u v:World} (h:Gen b u v m) (hw:Below w.heap.size w u) (hb:w.heap.size≤b):Below w.heap.size w v :=
 hw.trans ⟨h.g.os,h.g.tape,h.g.output,h.g.size,fun k hk => h.g.block k (Nat.lt_of_lt_of_le hk hw.size) (by intro e;injection e with e;omega)⟩
def plR (b pb:Nat) (bits:Int):Nat→Value→World→Prop
 | 0,v,_ => v=.pointer (some ⟨pb,0,none⟩)
 | 1,v,_ => v=.pointer (some ⟨pb,3,none⟩)
 | 2,v,_ => v=.int .i64 bits
 | 3,v,_ => v=.pointer (some ⟨b,0,none⟩)
 | 4,v,w => ∃ g,v=.slice (some ⟨g,0,none⟩) 8 8∧g ≠ b∧RdInts w g 0 8 [0,1,2,3,4,8,21, -1]
 | _,v,_ => ∃ k:Int,v=.int .i64 k∧-1≤k∧k≤21
theorem plR_keep {b pb:Nat} {bits:Int} (p:Nat) (v:Value) (u w:World) (h:plR b pb bits p v u) (hg:u.grownBy w (some b)):plR b pb bits p v w:=by
 rcases p with _ | _ | _ | _ | _ | p
 all_goals first
  | exact h
  | (obtain ⟨g,h1,h2,h3⟩:=h;exact ⟨g,h1,h2,h3.grown hg h2⟩)
structure PlS (w wx:World) (B pb:Nat) (P:Pf) (K:List Pf) (L:List Ls) (ka la:Option Addr) (kn kc ln lc:Nat):Prop where
 bel:Below w.heap.size w wx
 le:B≤wx.heap.size
 blk:Blk wx pb 34 (plC P (.slice ka kn kc) (.slice la ln lc)).toArray
 rk:OwnK layPf wx B (.slice ka kn kc) K
 rl:OwnK layLs wx B (.slice la ln lc) L
theorem PlS.later {w wx wy:World} {B pb:Nat} {P:Pf} {K:List Pf} {L:List Ls} {ka la:Option Addr} {kn kc ln lc:Nat} (h:PlS w wx B pb P K L ka la kn kc ln lc) (hb:Below wx.heap.size wx wy):PlS w wy B pb P K L ka la kn kc ln lc :=
 ⟨h.bel.trans (hb.mono h.bel.size),Nat.le_trans h.le hb.size,h.blk.below hb h.blk.lt,h.rk.later hb,h.rl.later hb⟩
structure TkS (wx:World) (B tb xb:Nat) (P1:Pf) (K1:List Pf) (L1:List Ls) (X1:Pf) (ta ua:Option Addr) (k1 tc l1 uc:Nat):Prop where
 pb:Blk wx tb 34 (plC P1 (.slice ta k1 tc) (.slice ua l1 uc)).toArray
 xb:Blk wx xb 30 (pfC X1).toArray
 rk:OwnK layPf wx B (.slice ta k1 tc) K1
 rl:OwnK layLs wx B (.slice ua l1 uc) L1
theorem TkS.new {w:World} {B:Nat} {P1:Pf} {K1:List Pf} {L1:List Ls} {X1:Pf} {ta ua:Option Addr} {k1 tc l1 uc:Nat} (h1:OwnK layPf w B (.slice ta k1 tc) K1) (h2:OwnK layLs w B (.slice ua l1 uc) L1) :
  TkS ((w.alloc (.cells (plC P1 (.slice ta k1 tc) (.slice ua l1 uc)).toArray 34 (0,0))).alloc (.cells (pfC X1).toArray 30 (0,0))) B w.heap.size (w.heap.size + 1) P1 K1 L1 X1 ta ua k1 tc l1 uc :=
 ⟨(Blk.new w _ _).alloc _,by
  have e:(w.alloc (.cells (plC P1 (.slice ta k1 tc) (.slice ua l1 uc)).toArray 34 (0,0))).heap.size=w.heap.size + 1:=by simp
  rw [← e]
  exact Blk.new _ _ _,(h1.alloc _).alloc _,(h2.alloc _).alloc _⟩
theorem TkS.later {wx wy:World} {B tb xb:Nat} {P1:Pf} {K1:List Pf} {L1:List Ls} {X1:Pf} {ta ua:Option Addr} {k1 tc l1 uc:Nat} (h:TkS wx B tb xb P1 K1 L1 X1 ta ua k1 tc l1 uc) (hb:Below wx.heap.size wx wy):TkS wy B tb xb P1 K1 L1 X1 ta ua k1 tc l1 uc :=
 ⟨h.pb.below hb h.pb.lt,h.xb.below hb h.xb.lt,h.rk.later hb,h.rl.later hb⟩
theorem below_two (w:World) (a b:Obj):Below w.heap.size w ((w.alloc a).alloc b):=below_alloc (below_alloc (Below.refl _ _) _) _
theorem four_new (w:World) (A B C D:Array Value) (t u:TypeId):Blk ((((w.alloc (.cells A t (0,0))).alloc (.cells B t (0,0))).alloc (.cells C u (0,0))).alloc (.cells D u (0,0))) w.heap.size t A∧Blk ((((w.alloc (.cells A t (0,0))).alloc (.cells B t (0,0))).alloc (.cells C u (0,0))).alloc (.cells D u (0,0))) (w.heap.size + 1) t B ∧
  Blk ((((w.alloc (.cells A t (0,0))).alloc (.cells B t (0,0))).alloc (.cells C u (0,0))).alloc (.cells D u (0,0))) (w.heap.size + 1 + 1) u C∧Blk ((((w.alloc (.cells A t (0,0))).alloc (.cells B t (0,0))).alloc (.cells C u (0,0))).alloc (.cells D u (0,0))) (w.heap.size + 1 + 1 + 1) u D ∧
  Below w.heap.size w ((((w.alloc (.cells A t (0,0))).alloc (.cells B t (0,0))).alloc (.cells C u (0,0))).alloc (.cells D u (0,0))):=by
 have e:∀ (w:World) (o:Obj),(w.alloc o).heap.size=w.heap.size + 1:=fun w o => by simp
 refine ⟨(((Blk.new w _ _).alloc _).alloc _).alloc _,?_,?_,?_,below_alloc (below_alloc (below_two w _ _) _) _⟩
 ·rw [← e w (.cells A t (0,0))]
  exact ((Blk.new _ _ _).alloc _).alloc _
 ·rw [← e w (.cells A t (0,0)), ← e (w.alloc (.cells A t (0,0))) (.cells B t (0,0))]
  exact (Blk.new _ _ _).alloc _
 ·rw [← e w (.cells A t (0,0)), ← e (w.alloc (.cells A t (0,0))) (.cells B t (0,0)), ← e ((w.alloc (.cells A t (0,0))).alloc (.cells B t (0,0))) (.cells C u (0,0))]
  exact Blk.new _ _ _
def pmR (cs:Array Value) (ky:List UInt8) (nb A Bo:Int):Nat→Value→World→Prop
 | 0,v,_ => v=.agg cs
 | 1,v,_ => v=.string (strL ky)
 | 2,v,_ => v=.int .i64 A
 | 3,v,_ => v=.agg cs
 | 4,v,_ => v=.int .i64 nb
 | 5,v,_ => v=.int .i64 Bo
 | 6,v,w => ∃ g,v=.slice (some ⟨g,0,none⟩) 2 2∧RdInts w g 0 2 [A,Bo]
 | _,v,_ => v=.int .i64 (firstE [A,Bo])
theorem pmR_keep {cs:Array Value} {ky:List UInt8} {nb A Bo:Int} (p:Nat) (v:Value) (u w:World) (h:pmR cs ky nb A Bo p v u) (hg:Below u.heap.size u w):pmR cs ky nb A Bo p v w:=by
 rcases p with _ | _ | _ | _ | _ | _ | _ | p
 all_goals first
  | exact h
  | (obtain ⟨g,h1,h2,h3,h4⟩:=h;exact ⟨g,h1,h2,Nat.lt_of_lt_of_le h3 hg.size,fun i hi => (hg.cell (p:=⟨g,0 + i,none⟩) h3).trans (h4 i hi)⟩)
theorem firstE_two (a b:Int):firstE [a,b]=if a ≠ 0 then a else b:=by
 by_cases h:a=0
 ·subst h
  by_cases h2:b=0
  ·subst h2;rfl
  ·simp [firstE,h2]
 ·simp [firstE,h]
theorem gotK_len (o:Option Pf) (K:List Pf):(gotK o K).length≤K.length:=by
 cases o
 ·exact Nat.zero_le _
 ·exact Nat.le_refl _
theorem gotL_len (o:Option Pf) (L:List Ls) (key:List UInt8) (n:Int):(gotL o L key n).length≤L.length + 1:=by
 cases o
 ·exact Nat.zero_le _
 ·exact Nat.le_of_eq (leasedL_len _ _ _)
theorem law_PoolsLease (ad:Option Addr) (n c:Nat) (w:World) (h:LawArg w ad n) :
  Calls Tryz.prog 3 #[.slice ad n c] w (Ret (.bool true) w):=by
 have hS:=LawArg.strm (c:=c) h
 have HB0:Hid (Below w.heap.size w (w.alloc (.cells #[.slice ad n c, .int .i64 0] 25 (0,0)))):=Lib.hid (below_alloc (Below.refl _ _) _)
 have hblt:w.heap.size < (w.alloc (.cells #[.slice ad n c, .int .i64 0] 25 (0,0))).heap.size:=hS.lt
 have HS:=Lib.hid hS
 clear h hS
 go_enter Tryz.func3,Tryz.ntmps3
 go_wp2_with fail
 generalize w.alloc (.cells #[.slice ad n c, .int .i64 0] 25 (0,0))=w0 at *
 obtain ⟨b,hbw⟩:∃ b,w.heap.size=b:=⟨_,rfl⟩
 rw [hbw] at hblt HS HB0 ⊢
 have Hbw:=Lib.hid hbw
 clear hbw
 refine (pool_gen b 0 _ HS.out (by omega)).mono ?_
 rintro e w1 ⟨v,P,K,L,rfl,hV,hU,hg⟩
 have HG1:Hid (Gen b w0 w1 100):=Lib.hid (hg.mono (by omega))
 have HU:=Lib.hid hU
 have HV1:=Lib.hid hV
 clear hU hg hV HS
 go_wp2_with fail
 refine (leaseKey_gen b 100 _ HG1.out.s (by omega)).mono ?_
 rintro e w2 ⟨ky,rfl,hky,hg⟩
 obtain ⟨ka,kc,la,lc,rfl,q1,q2⟩:=HV1.out
 have HG2:Hid (Gen b w0 w2 101):=Lib.hid (HG1.out.trans hg)
 have HK2:=Lib.hid (q1.gen hg hblt)
 have HL2:=Lib.hid (q2.gen hg hblt)
 have Hky:=Lib.hid hky
 clear hky hg q1 q2 HV1 HG1
 obtain ⟨ps,ph,pl,pn⟩:=P
 rw [show (plC (ps,ph,pl,pn) (.slice ka K.length kc) (.slice la L.length lc)).toArray=#[.bool ps, .int .u64 (ph:Int), .int .u64 (pl:Int), .int .i64 pn, .slice ka K.length kc, .slice la L.length lc] from rfl]
 have hbl:Below w2.heap.size w2 (w2.alloc (.cells #[.bool ps, .int .u64 (ph:Int), .int .u64 (pl:Int), .int .i64 pn, .slice ka K.length kc, .slice la L.length lc] 34 (0,0))):=below_alloc (Below.refl _ _) _
 have HX3:Hid (Blk (w2.alloc (.cells #[.bool ps, .int .u64 (ph:Int), .int .u64 (pl:Int), .int .i64 pn, .slice ka K.length kc, .slice la L.length lc] 34 (0,0))) w2.heap.size 34 #[.bool ps, .int .u64 (ph:Int), .int .u64 (pl:Int), .int .i64 pn, .slice ka K.length kc, .slice la L.length lc]):=Lib.hid (Blk.new w2 _ _)
 have HK3:=Lib.hid (HK2.out.later hbl)
 have HL3:=Lib.hid (HL2.out.later hbl)
 have HG3:Hid (Gen b w0 (w2.alloc (.cells #[.bool ps, .int .u64 (ph:Int), .int .u64 (pl:Int), .int .i64 pn, .slice ka K.length kc, .slice la L.length lc] 34 (0,0))) 101):=Lib.hid (HG2.out.alloc _)
 have hpb:b < w2.heap.size:=by have:=HG2.out.s.lt;omega
 clear hbl HG2 HK2 HL2
 go_upto_region 3 with fail
 generalize w2.alloc (.cells #[.bool ps, .int .u64 (ph:Int), .int .u64 (pl:Int), .int .i64 pn, .slice ka K.length kc, .slice la L.length lc] 34 (0,0))=w3 at *
 obtain ⟨pb,hq⟩:∃ q,w2.heap.size=q:=⟨_,rfl⟩
 rw [hq] at HX3 hpb ⊢
 clear hq
 have hpbn:pb ≠ b:=by omega
 obtain ⟨kn,hkn⟩:∃ q,K.length=q:=⟨_,rfl⟩
 obtain ⟨ln,hln⟩:∃ q,L.length=q:=⟨_,rfl⟩
 rw [hkn] at HX3 HK3
 rw [hln] at HX3 HL3
 have Hkn:=Lib.hid hkn
 have Hln:=Lib.hid hln
 clear hkn hln
 refine wp_region_inv 6 1 (plR b pb pn) (fun n wx => Gen b w0 wx (101 + n)∧Blk wx pb 34 #[.bool ps, .int .u64 (ph:Int), .int .u64 (pl:Int), .int .i64 pn, .slice ka kn kc, .slice la ln lc]∧OwnK layPf wx w0.heap.size (.slice ka kn kc) K∧OwnK layLs wx w0.heap.size (.slice la ln lc) L) (fun u v => u.grownBy v (some b)) (fun i => if i=5 then 1 else 0)
  (by kernel_rfl) (by kernel_rfl) (by decide) plR_keep ⟨HG3.out.drew,HX3.out.drewN 1,HK3.out.later (below_drew (Below.refl _ _)),HL3.out.later (below_drew (Below.refl _ _))⟩ ?hX
 case' hX => (apply Exists.intro;refine ⟨fun T => ?hA,?hob,?hend⟩)
 case hA =>
  simp only [setAll,List.take_succ_cons,List.take_zero,Act.put,List.setIfInBounds_toArray,List.set_cons_succ,List.set_cons_zero,Nat.reduceAdd]
  exact rfl
 case hob =>
  clear HX3 HG3 HK3 HL3
  go_light
  refine ⟨?_,?_,?_,?_,?_,?_,trivial⟩
  all_goals (intro T wx n0 hI hn hp;obtain ⟨hG,hB,hR,hC⟩:=hI;dsimp only at hn ⊢;unfold Op1)
  ·skip
   go_simp
   first | exact ⟨rfl,⟨hG,hB,hR,hC⟩,World.grownBy.refl _ _⟩ | exact ⟨rfl,World.grownBy.refl _ _⟩ | exact World.grownBy.refl _ _
  ·obtain ⟨h0, -⟩:=hp
   have h0:T 0=.pointer (some ⟨pb,0,none⟩):=h0
   go_simp
   first | exact ⟨rfl,⟨hG,hB,hR,hC⟩,World.grownBy.refl _ _⟩ | exact ⟨rfl,World.grownBy.refl _ _⟩ | exact World.grownBy.refl _ _
  ·obtain ⟨h0, -⟩:=hp
   have h0:T 1=.pointer (some ⟨pb,3,none⟩):=h0
   have e3:=hB.cell 3
   simp at e3
   go_simp
   first | exact ⟨rfl,⟨hG,hB,hR,hC⟩,World.grownBy.refl _ _⟩ | exact ⟨rfl,World.grownBy.refl _ _⟩ | exact World.grownBy.refl _ _
  ·skip
   go_simp
   first | exact ⟨rfl,⟨hG,hB,hR,hC⟩,World.grownBy.refl _ _⟩ | exact ⟨rfl,World.grownBy.refl _ _⟩ | exact World.grownBy.refl _ _
  ·go_simp
   exact ⟨⟨wx.heap.size,rfl,by have:=hG.s.lt;omega,rdInts_new wx _ [0,1,2,3,4,8,21, -1] _ rfl⟩,⟨hG.alloc _,hB.alloc _,hR.alloc _,hC.alloc _⟩,World.grownBy_alloc _ _ _⟩
  ·obtain ⟨h0,h1, -⟩:=hp
   have h0:T 3=.pointer (some ⟨b,0,none⟩):=h0
   obtain ⟨g,h1,hgb,hz⟩:∃ g,T 4=.slice (some ⟨g,0,none⟩) 8 8∧g ≠ b∧RdInts wx g 0 8 [0,1,2,3,4,8,21, -1]:=h1
   go_simp
   refine (pick_gen b (101 + n0) g 0 8 8 [0,1,2,3,4,8,21, -1] _ hG.s (by simp at hn;omega) (by omega) hz hgb).mono ?_
   rintro e w4 ⟨k,rfl,hk,hg2⟩
   exact ⟨_,rfl,⟨k,rfl,by simp at hk;omega⟩,⟨hG.trans hg2,hB.keep hg2.g hpbn,hR.gen hg2 hblt,hC.gen hg2 hblt⟩,hg2.g⟩
 case hend =>
  intro T w4 ⟨n0,hn0,hG,hB,hR,hC⟩ hY
  have hT2:T 2=.int .i64 pn:=hY 2 (by omega)
  obtain ⟨k,hT5,hk⟩:∃ k:Int,T 5=.int .i64 k∧-1≤k∧k≤21:=hY 5 (by omega)
  have HG4:Hid (Gen b w0 w4 102):=Lib.hid (hG.mono (by omega))
  have HX4:=Lib.hid hB
  have HK4:=Lib.hid hR
  have HL4:=Lib.hid hC
  clear hY hG hB hR hC HG3 HX3 HK3 HL3
  simp only [List.drop_succ_cons,List.drop_zero]
  obtain ⟨nb,hnb⟩:∃ q,IntKind.i64.wrap (pn + k)=q:=⟨_,rfl⟩
  have HS4:Hid (PlS w w4 w0.heap.size pb (ps,ph,pl,pn) K L ka la kn kc ln lc):=Lib.hid ⟨Gen.toBelowR (w:=w) HG4.out (by rw [Hbw.out];exact HB0.out) (by rw [Hbw.out];exact Nat.le_refl _),HG4.out.g.size,HX4.out,HK4.out,HL4.out⟩
  have hlc:ln≤lc:=by
   obtain ⟨ad9,c9,e9, -,h9, -⟩:=HL4.out.form
   injection e9 with _ e8 e7
   omega
  obtain ⟨huP, -,huK,huL,hkl⟩:=HU.out
  rw [Hkn.out,Hln.out] at hkl
  have HAf:=Lib.hid fun wx (hk:RdK layPf wx ka K) (hl:RdK layLs wx la L) => aFree_any (ps,ph,pl,pn) ka la kn kc ln lc K L wx hk hl Hkn.out Hln.out hkl hlc huP huK huL
  have HAt:=Lib.hid fun wx (hk:RdK layPf wx ka K) (hl:RdK layLs wx la L) => aTake_any (ps,ph,pl,pn) ka la kn kc ln lc K L ky nb wx hk hl Hkn.out Hln.out hkl hlc huP huK huL Hky.out
  have HAb:=Lib.hid fun wx (hk:RdK layPf wx ka K) (hl:RdK layLs wx la L) => aBest_any (ps,ph,pl,pn) ka la kn kc ln lc K L ky nb wx hk hl Hkn.out Hln.out hkl hlc huP huK huL Hky.out
  have HPf:=Lib.hid fun wx (hk:RdK layPf wx ka K) (hl:RdK layLs wx la L) => poolFault_any (ps,ph,pl,pn) ka la kn kc ln lc K L wx hk hl Hkn.out Hln.out (by omega) (by omega) hlc huP huK huL
  have HCp:=Lib.hid fun wx (hk:RdK layPf wx ka K) (hl:RdK layLs wx la L) => checkPool_any (ps,ph,pl,pn) ka la kn kc ln lc K L wx hk hl Hkn.out Hln.out (by omega) (by omega) hlc huP huK huL
  clear HX4 HK4 HL4 HG4
  have p0:=HS4.out.blk.cell 0
  have p1:=HS4.out.blk.cell 1
  have p2:=HS4.out.blk.cell 2
  have p3:=HS4.out.blk.cell 3
  have p4:=HS4.out.blk.cell 4
  have p5:=HS4.out.blk.cell 5
  simp [plC,pfC] at p0 p1 p2 p3 p4 p5
  go_upto_region 4 with fail
  go_wp2_with fail
  refine (HAf.out w4 HS4.out.rk.rd HS4.out.rl.rd).mono ?_
  rintro e w5 ⟨vF,rfl,hF,hb⟩
  have HS5:=Lib.hid (HS4.out.later hb)
  have HF5:=Lib.hid hF
  clear hF hb HS4 p0 p1 p2 p3 p4 p5 HAf
  have p0:=HS5.out.blk.cell 0
  have p1:=HS5.out.blk.cell 1
  have p2:=HS5.out.blk.cell 2
  have p3:=HS5.out.blk.cell 3
  have p4:=HS5.out.blk.cell 4
  have p5:=HS5.out.blk.cell 5
  simp [plC,pfC] at p0 p1 p2 p3 p4 p5
  go_wp2_with fail
  refine (HAt.out w5 HS5.out.rk.rd HS5.out.rl.rd).mono ?_
  rintro e w6 ⟨vT,rfl,hT,hb⟩
  have HS6:=Lib.hid (HS5.out.later hb)
  have HF6:=Lib.hid (HF5.out.later hb)
  have Hw5:Hid (w0.heap.size≤w5.heap.size):=Lib.hid HS5.out.le
  clear hb HS5 p0 p1 p2 p3 p4 p5 HAt HF5
  obtain ⟨ta,tc,ua,uc,rfl,r1,r2⟩:=hT
  obtain ⟨⟨x1,x2,x3,x4⟩,hX1⟩:∃ q:Pf,gotX (takO false (ps,ph,pl,pn) K L ky nb) nb=q:=⟨_,rfl⟩
  obtain ⟨⟨g1,g2,g3,g4⟩,hP1⟩:∃ q:Pf,gotP (takO false (ps,ph,pl,pn) K L ky nb) (ps,ph,pl,pn)=q:=⟨_,rfl⟩
  obtain ⟨K1,hK1⟩:∃ q:List Pf,gotK (takO false (ps,ph,pl,pn) K L ky nb) K=q:=⟨_,rfl⟩
  obtain ⟨L1,hL1⟩:∃ q:List Ls,gotL (takO false (ps,ph,pl,pn) K L ky nb) L ky nb=q:=⟨_,rfl⟩
  rw [hX1,hP1,hK1,hL1]
  rw [hK1] at r1
  rw [hL1] at r2
  rw [show (pfC (x1,x2,x3,x4)).toArray=#[.bool x1, .int .u64 (x2:Int), .int .u64 (x3:Int), .int .i64 x4] from rfl,show (plC (g1,g2,g3,g4) (.slice ta K1.length tc) (.slice ua L1.length uc)).toArray=#[.bool g1, .int .u64 (g2:Int), .int .u64 (g3:Int), .int .i64 g4, .slice ta K1.length tc, .slice ua L1.length uc] from rfl]
  obtain ⟨k1,hk1⟩:∃ q,K1.length=q:=⟨_,rfl⟩
  obtain ⟨l1,hl1⟩:∃ q,L1.length=q:=⟨_,rfl⟩
  rw [hk1] at r1 ⊢
  rw [hl1] at r2 ⊢
  have HT1:Hid (TkS ((w6.alloc (.cells #[.bool g1, .int .u64 (g2:Int), .int .u64 (g3:Int), .int .i64 g4, .slice ta k1 tc, .slice ua l1 uc] 34 (0,0))).alloc (.cells #[.bool x1, .int .u64 (x2:Int), .int .u64 (x3:Int), .int .i64 x4] 30 (0,0))) w0.heap.size w6.heap.size (w6.heap.size + 1) (g1,g2,g3,g4) K1 L1 (x1,x2,x3,x4) ta ua k1 tc l1 uc):=Lib.hid (TkS.new (P1:=(g1,g2,g3,g4)) (X1:=(x1,x2,x3,x4)) (r1.weak Hw5.out) (r2.weak Hw5.out))
  have Hr1:=Lib.hid (And.intro hX1 (And.intro hP1 (And.intro hK1 (And.intro hL1 (And.intro hk1 hl1)))))
  clear hX1 hP1 hK1 hL1 hk1 hl1 r1 r2
  have HS7:=Lib.hid (HS6.out.later (below_two w6 (.cells #[.bool g1, .int .u64 (g2:Int), .int .u64 (g3:Int), .int .i64 g4, .slice ta k1 tc, .slice ua l1 uc] 34 (0,0)) (.cells #[.bool x1, .int .u64 (x2:Int), .int .u64 (x3:Int), .int .i64 x4] 30 (0,0))))
  have HF7:=Lib.hid (HF6.out.later (below_two w6 (.cells #[.bool g1, .int .u64 (g2:Int), .int .u64 (g3:Int), .int .i64 g4, .slice ta k1 tc, .slice ua l1 uc] 34 (0,0)) (.cells #[.bool x1, .int .u64 (x2:Int), .int .u64 (x3:Int), .int .i64 x4] 30 (0,0))))
  clear HS6 HF6
  go_upto_region 6 with fail
  generalize ((w6.alloc (.cells #[.bool g1, .int .u64 (g2:Int), .int .u64 (g3:Int), .int .i64 g4, .slice ta k1 tc, .slice ua l1 uc] 34 (0,0))).alloc (.cells #[.bool x1, .int .u64 (x2:Int), .int .u64 (x3:Int), .int .i64 x4] 30 (0,0)))=w7 at *
  obtain ⟨tb,htb⟩:∃ q,w6.heap.size=q:=⟨_,rfl⟩
  rw [htb] at HT1 ⊢
  clear htb
  have p0:=HS7.out.blk.cell 0
  have p1:=HS7.out.blk.cell 1
  have p2:=HS7.out.blk.cell 2
  have p3:=HS7.out.blk.cell 3
  have p4:=HS7.out.blk.cell 4
  have p5:=HS7.out.blk.cell 5
  simp [plC,pfC] at p0 p1 p2 p3 p4 p5
  go_wp2_with fail
  refine (HAb.out w7 HS7.out.rk.rd HS7.out.rl.rd).mono ?_
  rintro e w8 ⟨vB,rfl,hT,hb⟩
  have HS8:=Lib.hid (HS7.out.later hb)
  have HF8:=Lib.hid (HF7.out.later hb)
  have HT8:=Lib.hid (HT1.out.later hb)
  have Hw7:Hid (w0.heap.size≤w7.heap.size):=Lib.hid HS7.out.le
  clear hb HS7 HF7 HT1 p0 p1 p2 p3 p4 p5 HAb
  obtain ⟨tA,tC,uA,uC,rfl,r1,r2⟩:=hT
  obtain ⟨⟨y1,y2,y3,y4⟩,hX2⟩:∃ q:Pf,gotX (takO true (ps,ph,pl,pn) K L ky nb) nb=q:=⟨_,rfl⟩
  obtain ⟨⟨h1,h2,h3,h4⟩,hP2⟩:∃ q:Pf,gotP (takO true (ps,ph,pl,pn) K L ky nb) (ps,ph,pl,pn)=q:=⟨_,rfl⟩
  obtain ⟨K2,hK2⟩:∃ q:List Pf,gotK (takO true (ps,ph,pl,pn) K L ky nb) K=q:=⟨_,rfl⟩
  obtain ⟨L2,hL2⟩:∃ q:List Ls,gotL (takO true (ps,ph,pl,pn) K L ky nb) L ky nb=q:=⟨_,rfl⟩
  rw [hX2,hP2,hK2,hL2]
  rw [hK2] at r1
  rw [hL2] at r2
  rw [show (pfC (y1,y2,y3,y4)).toArray=#[.bool y1, .int .u64 (y2:Int), .int .u64 (y3:Int), .int .i64 y4] from rfl,show (plC (h1,h2,h3,h4) (.slice tA K2.length tC) (.slice uA L2.length uC)).toArray=#[.bool h1, .int .u64 (h2:Int), .int .u64 (h3:Int), .int .i64 h4, .slice tA K2.length tC, .slice uA L2.length uC] from rfl]
  obtain ⟨k2,hk2⟩:∃ q,K2.length=q:=⟨_,rfl⟩
  obtain ⟨l2,hl2⟩:∃ q,L2.length=q:=⟨_,rfl⟩
  rw [hk2] at r1 ⊢
  rw [hl2] at r2 ⊢
  have HT2:Hid (TkS ((w8.alloc (.cells #[.bool h1, .int .u64 (h2:Int), .int .u64 (h3:Int), .int .i64 h4, .slice tA k2 tC, .slice uA l2 uC] 34 (0,0))).alloc (.cells #[.bool y1, .int .u64 (y2:Int), .int .u64 (y3:Int), .int .i64 y4] 30 (0,0))) w0.heap.size w8.heap.size (w8.heap.size + 1) (h1,h2,h3,h4) K2 L2 (y1,y2,y3,y4) tA uA k2 tC l2 uC):=Lib.hid (TkS.new (P1:=(h1,h2,h3,h4)) (X1:=(y1,y2,y3,y4)) (r1.weak Hw7.out) (r2.weak Hw7.out))
  have Hr2:=Lib.hid (And.intro hX2 (And.intro hP2 (And.intro hK2 (And.intro hL2 (And.intro hk2 hl2)))))
  clear hX2 hP2 hK2 hL2 hk2 hl2 r1 r2
  have HS9:=Lib.hid (HS8.out.later (below_two w8 (.cells #[.bool h1, .int .u64 (h2:Int), .int .u64 (h3:Int), .int .i64 h4, .slice tA k2 tC, .slice uA l2 uC] 34 (0,0)) (.cells #[.bool y1, .int .u64 (y2:Int), .int .u64 (y3:Int), .int .i64 y4] 30 (0,0))))
  have HF9:=Lib.hid (HF8.out.later (below_two w8 (.cells #[.bool h1, .int .u64 (h2:Int), .int .u64 (h3:Int), .int .i64 h4, .slice tA k2 tC, .slice uA l2 uC] 34 (0,0)) (.cells #[.bool y1, .int .u64 (y2:Int), .int .u64 (y3:Int), .int .i64 y4] 30 (0,0))))
  have HU9:=Lib.hid (HT8.out.later (below_two w8 (.cells #[.bool h1, .int .u64 (h2:Int), .int .u64 (h3:Int), .int .i64 h4, .slice tA k2 tC, .slice uA l2 uC] 34 (0,0)) (.cells #[.bool y1, .int .u64 (y2:Int), .int .u64 (y3:Int), .int .i64 y4] 30 (0,0))))
  clear HS8 HF8 HT8
  go_upto_region 7 with fail
  generalize ((w8.alloc (.cells #[.bool h1, .int .u64 (h2:Int), .int .u64 (h3:Int), .int .i64 h4, .slice tA k2 tC, .slice uA l2 uC] 34 (0,0))).alloc (.cells #[.bool y1, .int .u64 (y2:Int), .int .u64 (y3:Int), .int .i64 y4] 30 (0,0)))=w9 at *
  obtain ⟨bb,hbb⟩:∃ q,w8.heap.size=q:=⟨_,rfl⟩
  rw [hbb] at HT2 ⊢
  clear hbb
  have p0:=HS9.out.blk.cell 0
  have p1:=HS9.out.blk.cell 1
  have p2:=HS9.out.blk.cell 2
  have p3:=HS9.out.blk.cell 3
  have p4:=HS9.out.blk.cell 4
  have p5:=HS9.out.blk.cell 5
  simp [plC,pfC] at p0 p1 p2 p3 p4 p5
  go_wp2_with fail
  refine (HPf.out w9 HS9.out.rk.rd HS9.out.rl.rd).mono ?_
  rintro e w10 ⟨rfl,hb⟩
  have HS10:=Lib.hid (HS9.out.later hb)
  have HF10:=Lib.hid (HF9.out.later hb)
  have HU10:=Lib.hid (HU9.out.later hb)
  have HV10:=Lib.hid (HT2.out.later hb)
  clear hb HS9 HF9 HU9 HT2 p0 p1 p2 p3 p4 p5 HPf
  have p0:=HS10.out.blk.cell 0
  have p1:=HS10.out.blk.cell 1
  have p2:=HS10.out.blk.cell 2
  have p3:=HS10.out.blk.cell 3
  have p4:=HS10.out.blk.cell 4
  have p5:=HS10.out.blk.cell 5
  simp [plC,pfC] at p0 p1 p2 p3 p4 p5
  go_wp2_with fail
  refine (HCp.out w10 HS10.out.rk.rd HS10.out.rl.rd).mono ?_
  rintro e w11 ⟨rfl,hb⟩
  have HS11:=Lib.hid (HS10.out.later hb)
  have HF11:=Lib.hid (HF10.out.later hb)
  have HU11:=Lib.hid (HU10.out.later hb)
  have HV11:=Lib.hid (HV10.out.later hb)
  clear hb HS10 HF10 HU10 HV10 p0 p1 p2 p3 p4 p5 HCp
  obtain ⟨pf,hpf⟩:∃ q,poolF (ps,ph,pl,pn) K L=q:=⟨_,rfl⟩
  rw [hpf] at HF11 ⊢
  have Hpf:=Lib.hid hpf
  clear hpf
  by_cases hz:pf=0
  ·subst hz
   rw [if_pos rfl] at HF11
   obtain ⟨hOk,hKk,hLk,hTk⟩:=poolF_ok Hpf.out huP huK huL
   have hfl:=free_len (P:=(ps,ph,pl,pn)) (K:=K) (L:=L) hOk hTk (by rw [Hkn.out,Hln.out];exact hkl)
   have HFo:=Lib.hid fun wx (hk:RdK layPf wx ka K) (hl:RdK layLs wx la L) => freeOf_any (ps,ph,pl,pn) ka la kn kc ln lc K L wx hk hl Hkn.out Hln.out hkl hOk hTk
   obtain ⟨FL,hFL⟩:∃ q,freeL (ps,ph,pl,pn) K L=q:=⟨_,rfl⟩
   rw [hFL] at HF11 HFo hfl
   have HFL:=Lib.hid hFL
   clear hFL
   obtain ⟨fa,fc,rfl, -⟩:=HF11.out.form
   obtain ⟨fn,hfn⟩:∃ q,FL.length=q:=⟨_,rfl⟩
   rw [hfn] at HF11 hfl ⊢
   have Hfn:=Lib.hid hfn
   clear hfn
   have p0:=HS11.out.blk.cell 0
   have p1:=HS11.out.blk.cell 1
   have p2:=HS11.out.blk.cell 2
   have p3:=HS11.out.blk.cell 3
   have p4:=HS11.out.blk.cell 4
   have p5:=HS11.out.blk.cell 5
   simp [plC,pfC] at p0 p1 p2 p3 p4 p5
   go_wp2_with fail
   refine (HFo.out w11 HS11.out.rk.rd HS11.out.rl.rd).mono ?_
   rintro e w12 ⟨vG,rfl,hG,hb⟩
   have HS12:=Lib.hid (HS11.out.later hb)
   have HF12:=Lib.hid (HF11.out.later hb)
   have HU12:=Lib.hid (HU11.out.later hb)
   have HV12:=Lib.hid (HV11.out.later hb)
   clear hb HS11 HF11 HU11 HV11 HFo p0 p1 p2 p3 p4 p5
   obtain ⟨ga,gc,rfl, -⟩:=hG.form
   rw [Hfn.out] at hG ⊢
   have HG12:=Lib.hid hG.rd
   clear hG
   go_wp2_with fail
   have hEq:=equal_pf fa ga fc gc FL FL w12 HF12.out.rd HG12.out (by rw [Hfn.out];omega)
   rw [Hfn.out,decide_eq_true rfl] at hEq
   refine hEq.mono ?_
   clear hEq
   rintro e w13 ⟨rfl,nq,hnq⟩
   have hb:Below w12.heap.size w12 w13:=by rw [hnq];exact below_drewN (Below.refl _ _) nq
   clear hnq
   have HS13:=Lib.hid (HS12.out.later hb)
   have HU13:=Lib.hid (HU12.out.later hb)
   have HV13:=Lib.hid (HV12.out.later hb)
   clear hb HS12 HF12 HU12 HV12 HG12
   go_upto_region 11 with fail
   have HKf:=Lib.hid fun wx (hk:RdK layPf wx ka K) (hl:RdK layLs wx la L) => keyFault_any (ps,ph,pl,pn) ka la kn kc ln lc K L ky wx hk hl Hkn.out Hln.out (by omega) (by omega) hlc huP huK huL Hky.out
   have HBf:=Lib.hid fun wx => bitsFault_any (ps,ph,pl,pn) ka la kn kc ln lc K L nb wx hOk
   refine wp_region_inv 8 0 (pmR #[.bool ps, .int .u64 (ph:Int), .int .u64 (pl:Int), .int .i64 pn, .slice ka kn kc, .slice la ln lc] ky nb (keyQ L ky) (if outP (ps,ph,pl,pn) nb=true then 1 else 0)) (fun _ wx => Below w13.heap.size w13 wx) (fun u v => Below u.heap.size u v) (fun _ => 0)
    (by kernel_rfl) (by kernel_rfl) (by decide) pmR_keep (below_drew (Below.refl _ _)) ?hX2
   case' hX2 => (apply Exists.intro;refine ⟨fun T => ?hA2,?hob2,?hend2⟩)
   case hA2 =>
    simp only [setAll,List.take_succ_cons,List.take_zero,Act.put,List.setIfInBounds_toArray,List.set_cons_succ,List.set_cons_zero,Nat.reduceAdd]
    exact rfl
   case hob2 =>
    clear HU13 HV13 HFL Hpf Hr1 Hr2
    have HS13b:=HS13
    go_light
    refine ⟨?_,?_,?_,?_,?_,?_,?_,?_,trivial⟩
    all_goals (intro T wx n0 hI hn hp;dsimp only at hn ⊢;unfold Op1)
    ·have q:=HS13.out.blk.below hI HS13.out.blk.lt
     have e0:=q.cell 0
     have e1:=q.cell 1
     have e2:=q.cell 2
     have e3:=q.cell 3
     have e4:=q.cell 4
     have e5:=q.cell 5
     simp [plC,pfC] at e0 e1 e2 e3 e4 e5
     clear q
     go_simp
     first | exact ⟨rfl,hI,Below.refl _ _⟩ | exact ⟨rfl,Below.refl _ _⟩ | exact Below.refl _ _
    ·go_simp
     first | exact ⟨rfl,hI,Below.refl _ _⟩ | exact ⟨rfl,Below.refl _ _⟩ | exact Below.refl _ _
    ·obtain ⟨h0,h1, -⟩:=hp
     have h0:T 0=.agg #[.bool ps, .int .u64 (ph:Int), .int .u64 (pl:Int), .int .i64 pn, .slice ka kn kc, .slice la ln lc]:=h0
     have h1:T 1=.string (strL ky):=h1
     go_simp
     refine (HKf.out wx (HS13.out.rk.rd.below hI) (HS13.out.rl.rd.below hI)).mono ?_
     rintro e w14 ⟨rfl,hb⟩
     exact ⟨_,rfl,rfl,hI.trans (hb.mono hI.size),hb⟩
    ·have q:=HS13.out.blk.below hI HS13.out.blk.lt
     have e0:=q.cell 0
     have e1:=q.cell 1
     have e2:=q.cell 2
     have e3:=q.cell 3
     have e4:=q.cell 4
     have e5:=q.cell 5
     simp [plC,pfC] at e0 e1 e2 e3 e4 e5
     clear q
     go_simp
     first | exact ⟨rfl,hI,Below.refl _ _⟩ | exact ⟨rfl,Below.refl _ _⟩ | exact Below.refl _ _
    ·go_simp
     first | exact ⟨rfl,hI,Below.refl _ _⟩ | exact ⟨rfl,Below.refl _ _⟩ | exact Below.refl _ _
    ·obtain ⟨h0,h1, -⟩:=hp
     have h0:T 3=.agg #[.bool ps, .int .u64 (ph:Int), .int .u64 (pl:Int), .int .i64 pn, .slice ka kn kc, .slice la ln lc]:=h0
     have h1:T 4=.int .i64 nb:=h1
     go_simp
     refine (HBf.out wx).mono ?_
     rintro e w14 ⟨rfl,hb⟩
     exact ⟨_,rfl,rfl,hI.trans (hb.mono hI.size),hb⟩
    ·obtain ⟨h0,h1, -⟩:=hp
     have h0:T 2=.int .i64 (keyQ L ky):=h0
     have h1:T 5=.int .i64 (if outP (ps,ph,pl,pn) nb=true then 1 else 0):=h1
     go_simp
     exact ⟨⟨wx.heap.size,rfl,rdInts_new wx _ [_,_] _ rfl⟩,Below.alloc hI hI.size _,below_alloc (Below.refl _ _) _⟩
    ·obtain ⟨h0, -⟩:=hp
     obtain ⟨g,h0,hz⟩:∃ g,T 6=.slice (some ⟨g,0,none⟩) 2 2∧RdInts wx g 0 2 [keyQ L ky,(if outP (ps,ph,pl,pn) nb=true then 1 else 0)]:=h0
     go_simp
     refine (errs_any g 2 2 _ wx hz (by omega)).mono ?_
     rintro e w14 ⟨rfl,rfl⟩
     exact ⟨_,rfl,rfl,hI,Below.refl _ _⟩
   case hend2 =>
    intro T w11 ⟨n0,hn0,hB⟩ hY
    have hT7:T 7=.int .i64 (firstE [keyQ L ky,if outP (ps,ph,pl,pn) nb=true then 1 else 0]):=hY 7 (by omega)
    have HS11:=Lib.hid (HS13.out.later hB)
    have HU11:=Lib.hid (HU13.out.later hB)
    have HV11:=Lib.hid (HV13.out.later hB)
    clear hY hB HS13 HU13 HV13 HKf HBf
    simp only [List.drop_succ_cons,List.drop_zero]
    rw [hT7]
    clear hT7
    obtain ⟨F,hF⟩:∃ F,firstE [keyQ L ky,if outP (ps,ph,pl,pn) nb=true then 1 else 0]=F:=⟨_,rfl⟩
    rw [hF]
    rw [firstE_two] at hF
    have hkq:keyF (ps,ph,pl,pn) K L ky=keyQ L ky:=by
     unfold keyF
     rw [Hpf.out,if_neg (by simp)]
    by_cases hz:F=0
    ·have hk0:keyQ L ky=0∧outP (ps,ph,pl,pn) nb=false:=by
      by_cases h1:keyQ L ky ≠ 0
      ·rw [if_pos h1] at hF
       exact absurd (hF.trans hz) h1
      ·rw [if_neg h1] at hF
       refine ⟨Decidable.not_not.1 h1,?_⟩
       by_cases h2:outP (ps,ph,pl,pn) nb=true
       ·rw [if_pos h2] at hF
        omega
       ·simpa using h2
     subst hz
     obtain ⟨hk0,hk1⟩:=hk0
     obtain ⟨m,hm,hm128⟩:∃ m:Nat,nb=(m:Int)∧m≤128:=by
      obtain ⟨q,hq,hql⟩:=okPf_bits hOk
      have h:=hk1
      unfold outP outB at h
      rw [Bool.or_eq_false_iff,decide_eq_false_iff_not,decide_eq_false_iff_not] at h
      have hl:lenN (ps,ph,pl,pn).1≤128:=lenN_le ps
      exact ⟨nb.toNat,by omega,by omega⟩
     subst hm
     have hT3:∀ best,takF best (ps,ph,pl,pn) K L ky (m:Int)=(if (chP best (m:Int) FL).isSome=true then 0 else 12)∧takO best (ps,ph,pl,pn) K L ky (m:Int)=chP best (m:Int) FL:=by
      intro best
      have hk3:keyF (ps,ph,pl,pn) K L ky=0:=by rw [hkq];exact hk0
      unfold takF takO
      constructor
      ·rw [if_neg (by rw [hk3];simp),if_neg (by rw [hk1];decide),HFL.out]
      ·rw [if_neg (by rw [hk3];simp),if_neg (by rw [hk1];decide),HFL.out]
     obtain ⟨hF1,hO1⟩:=hT3 false
     obtain ⟨hF2,hO2⟩:=hT3 true
     clear hT3 hkq hF hk0 hk1
     rw [hF1,hF2]
     obtain ⟨e1,e2,e3,e4,e5,e6⟩:=Hr1.out
     obtain ⟨u1,u2,u3,u4,u5,u6⟩:=Hr2.out
     rw [hO1] at e1 e2 e3 e4
     rw [hO2] at u1 u2 u3 u4
     clear hF1 hF2 hO1 hO2 Hr1 Hr2
     have HTk:Hid (∀ wx,RdK layPf wx ka K→RdK layLs wx la L→Calls Tryz.prog 18 #[.agg #[.bool ps, .int .u64 (ph:Int), .int .u64 (pl:Int), .int .i64 pn, .slice ka kn kc, .slice la ln lc], .string (strL ky), .int .i64 (m:Int)] wx fun e w' => ∃ v,e=.returned (.tuple #[v, .agg #[.bool x1, .int .u64 (x2:Int), .int .u64 (x3:Int), .int .i64 x4], .bool (chP false (m:Int) FL).isSome])∧PoolV w' wx.heap.size v (g1,g2,g3,g4) K1 L1∧Below wx.heap.size wx w'):=Lib.hid fun wx hk hl => by
      have h:=takeOf_any (ps,ph,pl,pn) ka la kn kc ln lc K L ky (m:Int) wx hk hl Hkn.out Hln.out hkl hOk hTk
      rw [HFL.out,e1,e2,e3,e4] at h
      exact h
     have HBs:Hid (∀ wx,RdK layPf wx ka K→RdK layLs wx la L→Calls Tryz.prog 19 #[.agg #[.bool ps, .int .u64 (ph:Int), .int .u64 (pl:Int), .int .i64 pn, .slice ka kn kc, .slice la ln lc], .string (strL ky), .int .i64 (m:Int)] wx fun e w' => ∃ v,e=.returned (.tuple #[v, .agg #[.bool y1, .int .u64 (y2:Int), .int .u64 (y3:Int), .int .i64 y4], .bool (chP true (m:Int) FL).isSome])∧PoolV w' wx.heap.size v (h1,h2,h3,h4) K2 L2∧Below wx.heap.size wx w'):=Lib.hid fun wx hk hl => by
      have h:=bestOf_any (ps,ph,pl,pn) ka la kn kc ln lc K L ky m wx hk hl Hkn.out Hln.out hkl hOk hTk hm128
      rw [HFL.out,u1,u2,u3,u4] at h
      exact h
     have Hb:Hid (k1≤1000∧l1≤1000∧k2≤1000∧l2≤1000):=Lib.hid (by
      have b1:=gotK_len (chP false (m:Int) FL) K
      have b2:=gotL_len (chP false (m:Int) FL) L ky (m:Int)
      have b3:=gotK_len (chP true (m:Int) FL) K
      have b4:=gotL_len (chP true (m:Int) FL) L ky (m:Int)
      rw [e3,e5,Hkn.out] at b1
      rw [e4,e6,Hln.out] at b2
      rw [u3,u5,Hkn.out] at b3
      rw [u4,u6,Hln.out] at b4
      omega)
     clear e1 e2 e3 e4 u1 u2 u3 u4
     obtain ⟨s1,hs1⟩:∃ s,(chP false (m:Int) FL).isSome=s:=⟨_,rfl⟩
     obtain ⟨s2,hs2⟩:∃ s,(chP true (m:Int) FL).isSome=s:=⟨_,rfl⟩
     rw [hs1] at HTk ⊢
     rw [hs2] at HBs ⊢
     clear hs1 hs2 HFL
     obtain ⟨z1,hz1⟩:∃ z:Int,(if s1=true then (0:Int) else 12)=z:=⟨_,rfl⟩
     obtain ⟨z2,hz2⟩:∃ z:Int,(if s2=true then (0:Int) else 12)=z:=⟨_,rfl⟩
     rw [hz1,hz2]
     have HW1:Hid (∀ wx,Calls Tryz.prog 20 #[.bool (!s1), .int .i64 12] wx fun e w' => e=.returned (.int .i64 z1)∧wx=w'):=Lib.hid fun wx => by
      have h:=when_any (!s1) 12 wx
      rw [show (if (!s1)=true then (12:Int) else 0)=z1 by rw [← hz1];cases s1 <;> rfl] at h
      exact h
     have HW2:Hid (∀ wx,Calls Tryz.prog 20 #[.bool (!s2), .int .i64 12] wx fun e w' => e=.returned (.int .i64 z2)∧wx=w'):=Lib.hid fun wx => by
      have h:=when_any (!s2) 12 wx
      rw [show (if (!s2)=true then (12:Int) else 0)=z2 by rw [← hz2];cases s2 <;> rfl] at h
      exact h
     clear hz1 hz2
     have He:=Lib.hid (And.intro e5 (And.intro e6 (And.intro u5 u6)))
     clear e5 e6 u5 u6
     go_upto_region 12 with fail
     have HZ:=Lib.hid (four_new w11 #[.bool false, .int .u64 0, .int .u64 0, .int .i64 0, .slice none 0 0, .slice none 0 0] #[.bool false, .int .u64 0, .int .u64 0, .int .i64 0, .slice none 0 0, .slice none 0 0] #[.bool false, .int .u64 0, .int .u64 0, .int .i64 0] #[.bool false, .int .u64 0, .int .u64 0, .int .i64 0] 34 30)
     go_upto_region 17 with fail
     generalize ((((w11.alloc (.cells #[.bool false, .int .u64 0, .int .u64 0, .int .i64 0, .slice none 0 0, .slice none 0 0] 34 (0,0))).alloc (.cells #[.bool false, .int .u64 0, .int .u64 0, .int .i64 0, .slice none 0 0, .slice none 0 0] 34 (0,0))).alloc (.cells #[.bool false, .int .u64 0, .int .u64 0, .int .i64 0] 30 (0,0))).alloc (.cells #[.bool false, .int .u64 0, .int .u64 0, .int .i64 0] 30 (0,0)))=w12 at *
     obtain ⟨zb,hzb⟩:∃ q,w11.heap.size=q:=⟨_,rfl⟩
     have Hzb:=Lib.hid hzb
     rw [hzb] at HZ ⊢
     clear hzb
     obtain ⟨hz1,hz2,hz3,hz4,hB⟩:=HZ.out
     have HB12:Hid (Below w11.heap.size w11 w12):=Lib.hid (by rw [Hzb.out];exact hB)
     have HZ1:=Lib.hid hz1
     have HZ2:=Lib.hid hz2
     have HZ3:=Lib.hid hz3
     have HZ4:=Lib.hid hz4
     clear hz1 hz2 hz3 hz4 hB HZ
     have Hlt:Hid (zb + 1 + 1 + 1 < w12.heap.size):=Lib.hid HZ4.out.lt
     have HSx:=Lib.hid (HS11.out.later HB12.out)
     have p0:=HSx.out.blk.cell 0
     have p1:=HSx.out.blk.cell 1
     have p2:=HSx.out.blk.cell 2
     have p3:=HSx.out.blk.cell 3
     have p4:=HSx.out.blk.cell 4
     have p5:=HSx.out.blk.cell 5
     simp [plC,pfC] at p0 p1 p2 p3 p4 p5
     go_wp2_with fail
     refine (HTk.out w12 HSx.out.rk.rd HSx.out.rl.rd).mono ?_
     rintro e w13 ⟨v,rfl,hV,hb⟩
     clear HTk p0 p1 p2 p3 p4 p5 HSx
     obtain ⟨a1,c1,a2,c2,rfl,q1,q2⟩:=hV
     rw [show (plC (g1,g2,g3,g4) (.slice a1 K1.length c1) (.slice a2 L1.length c2)).toArray=#[.bool g1, .int .u64 (g2:Int), .int .u64 (g3:Int), .int .i64 g4, .slice a1 K1.length c1, .slice a2 L1.length c2] from rfl]
     rw [He.out.1] at q1 ⊢
     rw [He.out.2.1] at q2 ⊢
     have HB13b:=Lib.hid (HB12.out.trans (hb.mono HB12.out.size))
     replace HZ1:=Lib.hid (HZ1.out.below hb HZ1.out.lt)
     replace HZ2:=Lib.hid (HZ2.out.below hb HZ2.out.lt)
     replace HZ3:=Lib.hid (HZ3.out.below hb HZ3.out.lt)
     replace HZ4:=Lib.hid (HZ4.out.below hb HZ4.out.lt)
     have HL12:Hid (zb + 1 + 1 + 1 < w12.heap.size):=Hlt
     replace Hlt:=Lib.hid (Nat.lt_of_lt_of_le Hlt.out hb.size)
     have c6:=HZ1.out.set6w (x1':=.bool g1) (x2':=.int .u64 (g2:Int)) (x3':=.int .u64 (g3:Int)) (x4':=.int .i64 g4) (x5':=.slice a1 k1 c1) (x6':=.slice a2 l1 c2)
     have c6b:=HZ3.out.far6w (show zb + 1 + 1 ≠ zb by omega) (x1':=.bool g1) (x2':=.int .u64 (g2:Int)) (x3':=.int .u64 (g3:Int)) (x4':=.int .i64 g4) (x5':=.slice a1 k1 c1) (x6':=.slice a2 l1 c2)
     have cX4:=c6b.set4w (x':=.bool x1) (y':=.int .u64 (x2:Int)) (z':=.int .u64 (x3:Int)) (u':=.int .i64 x4)
     have c6c:=c6.far4w (show zb ≠ zb + 1 + 1 by omega) (x':=.bool x1) (y':=.int .u64 (x2:Int)) (z':=.int .u64 (x3:Int)) (u':=.int .i64 x4)
     have b9:=c6b.free
     have b0:=c6b.cell 0
     have b1:=c6b.cell 1
     have b2:=c6b.cell 2
     have b3:=c6b.cell 3
     have r9:=HZ1.out.free
     have r0:=HZ1.out.cell 0
     have r1:=HZ1.out.cell 1
     have r2:=HZ1.out.cell 2
     have r3:=HZ1.out.cell 3
     have r4:=HZ1.out.cell 4
     have r5:=HZ1.out.cell 5
     simp at b0 b1 b2 b3 r0 r1 r2 r3 r4 r5
     have NHZ1:=Lib.hid c6c
     have NHZ3:=Lib.hid cX4
     have NHZ2:=Lib.hid ((HZ2.out.far6w (show zb + 1 ≠ zb by omega) (x1':=.bool g1) (x2':=.int .u64 (g2:Int)) (x3':=.int .u64 (g3:Int)) (x4':=.int .i64 g4) (x5':=.slice a1 k1 c1) (x6':=.slice a2 l1 c2)).far4w (show zb + 1 ≠ zb + 1 + 1 by omega) (x':=.bool x1) (y':=.int .u64 (x2:Int)) (z':=.int .u64 (x3:Int)) (u':=.int .i64 x4))
     have NHZ4:=Lib.hid ((HZ4.out.far6w (show zb + 1 + 1 + 1 ≠ zb by omega) (x1':=.bool g1) (x2':=.int .u64 (g2:Int)) (x3':=.int .u64 (g3:Int)) (x4':=.int .i64 g4) (x5':=.slice a1 k1 c1) (x6':=.slice a2 l1 c2)).far4w (show zb + 1 + 1 + 1 ≠ zb + 1 + 1 by omega) (x':=.bool x1) (y':=.int .u64 (x2:Int)) (z':=.int .u64 (x3:Int)) (u':=.int .i64 x4))
     have HB13:Hid (Below w11.heap.size w11 ((((((((((w13.setCell ⟨zb,0,none⟩ (.bool g1)).setCell ⟨zb,1,none⟩ (.int .u64 (g2:Int))).setCell ⟨zb,2,none⟩ (.int .u64 (g3:Int))).setCell ⟨zb,3,none⟩ (.int .i64 g4)).setCell ⟨zb,4,none⟩ (.slice a1 k1 c1)).setCell ⟨zb,5,none⟩ (.slice a2 l1 c2)).setCell ⟨zb + 1 + 1,0,none⟩ (.bool x1)).setCell ⟨zb + 1 + 1,1,none⟩ (.int .u64 (x2:Int))).setCell ⟨zb + 1 + 1,2,none⟩ (.int .u64 (x3:Int))).setCell ⟨zb + 1 + 1,3,none⟩ (.int .i64 x4))):=Lib.hid (((((((((((HB13b.out.setCell (show w11.heap.size≤zb by rw [Hzb.out];omega) _).setCell (show w11.heap.size≤zb by rw [Hzb.out];omega) _).setCell (show w11.heap.size≤zb by rw [Hzb.out];omega) _).setCell (show w11.heap.size≤zb by rw [Hzb.out];omega) _).setCell (show w11.heap.size≤zb by rw [Hzb.out];omega) _).setCell (show w11.heap.size≤zb by rw [Hzb.out];omega) _).setCell (show w11.heap.size≤zb + 1 + 1 by rw [Hzb.out];omega) _).setCell (show w11.heap.size≤zb + 1 + 1 by rw [Hzb.out];omega) _).setCell (show w11.heap.size≤zb + 1 + 1 by rw [Hzb.out];omega) _).setCell (show w11.heap.size≤zb + 1 + 1 by rw [Hzb.out];omega) _))
     have HR13:Hid (OwnK layPf ((((((((((w13.setCell ⟨zb,0,none⟩ (.bool g1)).setCell ⟨zb,1,none⟩ (.int .u64 (g2:Int))).setCell ⟨zb,2,none⟩ (.int .u64 (g3:Int))).setCell ⟨zb,3,none⟩ (.int .i64 g4)).setCell ⟨zb,4,none⟩ (.slice a1 k1 c1)).setCell ⟨zb,5,none⟩ (.slice a2 l1 c2)).setCell ⟨zb + 1 + 1,0,none⟩ (.bool x1)).setCell ⟨zb + 1 + 1,1,none⟩ (.int .u64 (x2:Int))).setCell ⟨zb + 1 + 1,2,none⟩ (.int .u64 (x3:Int))).setCell ⟨zb + 1 + 1,3,none⟩ (.int .i64 x4)) w12.heap.size (.slice a1 k1 c1) K1∧OwnK layLs ((((((((((w13.setCell ⟨zb,0,none⟩ (.bool g1)).setCell ⟨zb,1,none⟩ (.int .u64 (g2:Int))).setCell ⟨zb,2,none⟩ (.int .u64 (g3:Int))).setCell ⟨zb,3,none⟩ (.int .i64 g4)).setCell ⟨zb,4,none⟩ (.slice a1 k1 c1)).setCell ⟨zb,5,none⟩ (.slice a2 l1 c2)).setCell ⟨zb + 1 + 1,0,none⟩ (.bool x1)).setCell ⟨zb + 1 + 1,1,none⟩ (.int .u64 (x2:Int))).setCell ⟨zb + 1 + 1,2,none⟩ (.int .u64 (x3:Int))).setCell ⟨zb + 1 + 1,3,none⟩ (.int .i64 x4)) w12.heap.size (.slice a2 l1 c2) L1):=Lib.hid ⟨((q1.farC (show zb < _ by have:=HL12.out;omega) 0 [.bool g1, .int .u64 (g2:Int), .int .u64 (g3:Int), .int .i64 g4, .slice a1 k1 c1, .slice a2 l1 c2]).farC (show zb + 1 + 1 < _ by have:=HL12.out;omega) 0 [.bool x1, .int .u64 (x2:Int), .int .u64 (x3:Int), .int .i64 x4]),((q2.farC (show zb < _ by have:=HL12.out;omega) 0 [.bool g1, .int .u64 (g2:Int), .int .u64 (g3:Int), .int .i64 g4, .slice a1 k1 c1, .slice a2 l1 c2]).farC (show zb + 1 + 1 < _ by have:=HL12.out;omega) 0 [.bool x1, .int .u64 (x2:Int), .int .u64 (x3:Int), .int .i64 x4])⟩
     have NHlt:Hid (zb + 1 + 1 + 1 < (((((((((((w13.setCell ⟨zb,0,none⟩ (.bool g1)).setCell ⟨zb,1,none⟩ (.int .u64 (g2:Int))).setCell ⟨zb,2,none⟩ (.int .u64 (g3:Int))).setCell ⟨zb,3,none⟩ (.int .i64 g4)).setCell ⟨zb,4,none⟩ (.slice a1 k1 c1)).setCell ⟨zb,5,none⟩ (.slice a2 l1 c2)).setCell ⟨zb + 1 + 1,0,none⟩ (.bool x1)).setCell ⟨zb + 1 + 1,1,none⟩ (.int .u64 (x2:Int))).setCell ⟨zb + 1 + 1,2,none⟩ (.int .u64 (x3:Int))).setCell ⟨zb + 1 + 1,3,none⟩ (.int .i64 x4))).heap.size):=Lib.hid (by simpa using Hlt.out)
     clear c6 c6b cX4 c6c q1 q2 hb HZ1 HZ2 HZ3 HZ4 Hlt
     go_upto_region 18 with fail
     generalize ((((((((((w13.setCell ⟨zb,0,none⟩ (.bool g1)).setCell ⟨zb,1,none⟩ (.int .u64 (g2:Int))).setCell ⟨zb,2,none⟩ (.int .u64 (g3:Int))).setCell ⟨zb,3,none⟩ (.int .i64 g4)).setCell ⟨zb,4,none⟩ (.slice a1 k1 c1)).setCell ⟨zb,5,none⟩ (.slice a2 l1 c2)).setCell ⟨zb + 1 + 1,0,none⟩ (.bool x1)).setCell ⟨zb + 1 + 1,1,none⟩ (.int .u64 (x2:Int))).setCell ⟨zb + 1 + 1,2,none⟩ (.int .u64 (x3:Int))).setCell ⟨zb + 1 + 1,3,none⟩ (.int .i64 x4))=w13 at *
     clear b0 b1 b2 b3 b9 r0 r1 r2 r3 r4 r5 r9
     have HZ1:=NHZ1
     have HZ2:=NHZ2
     have HZ3:=NHZ3
     have HZ4:=NHZ4
     have Hlt:=NHlt
     clear NHZ1 NHZ2 NHZ3 NHZ4 NHlt
     have HSx:=Lib.hid (HS11.out.later HB13.out)
     have p0:=HSx.out.blk.cell 0
     have p1:=HSx.out.blk.cell 1
     have p2:=HSx.out.blk.cell 2
     have p3:=HSx.out.blk.cell 3
     have p4:=HSx.out.blk.cell 4
     have p5:=HSx.out.blk.cell 5
     simp [plC,pfC] at p0 p1 p2 p3 p4 p5
     go_wp2_with fail
     refine (HBs.out w13 HSx.out.rk.rd HSx.out.rl.rd).mono ?_
     rintro e w14 ⟨v,rfl,hV,hb⟩
     clear HBs p0 p1 p2 p3 p4 p5 HSx
     obtain ⟨a3,c3,a4,c4,rfl,q1,q2⟩:=hV
     rw [show (plC (h1,h2,h3,h4) (.slice a3 K2.length c3) (.slice a4 L2.length c4)).toArray=#[.bool h1, .int .u64 (h2:Int), .int .u64 (h3:Int), .int .i64 h4, .slice a3 K2.length c3, .slice a4 L2.length c4] from rfl]
     rw [He.out.2.2.1] at q1 ⊢
     rw [He.out.2.2.2] at q2 ⊢
     have HB14b:=Lib.hid (HB13.out.trans (hb.mono HB13.out.size))
     replace HZ1:=Lib.hid (HZ1.out.below hb HZ1.out.lt)
     replace HZ2:=Lib.hid (HZ2.out.below hb HZ2.out.lt)
     replace HZ3:=Lib.hid (HZ3.out.below hb HZ3.out.lt)
     replace HZ4:=Lib.hid (HZ4.out.below hb HZ4.out.lt)
     have HL13:Hid (zb + 1 + 1 + 1 < w13.heap.size):=Hlt
     have NHR13:Hid (OwnK layPf ((((((((((w14.setCell ⟨zb + 1,0,none⟩ (.bool h1)).setCell ⟨zb + 1,1,none⟩ (.int .u64 (h2:Int))).setCell ⟨zb + 1,2,none⟩ (.int .u64 (h3:Int))).setCell ⟨zb + 1,3,none⟩ (.int .i64 h4)).setCell ⟨zb + 1,4,none⟩ (.slice a3 k2 c3)).setCell ⟨zb + 1,5,none⟩ (.slice a4 l2 c4)).setCell ⟨zb + 1 + 1 + 1,0,none⟩ (.bool y1)).setCell ⟨zb + 1 + 1 + 1,1,none⟩ (.int .u64 (y2:Int))).setCell ⟨zb + 1 + 1 + 1,2,none⟩ (.int .u64 (y3:Int))).setCell ⟨zb + 1 + 1 + 1,3,none⟩ (.int .i64 y4)) w12.heap.size (.slice a1 k1 c1) K1∧OwnK layLs ((((((((((w14.setCell ⟨zb + 1,0,none⟩ (.bool h1)).setCell ⟨zb + 1,1,none⟩ (.int .u64 (h2:Int))).setCell ⟨zb + 1,2,none⟩ (.int .u64 (h3:Int))).setCell ⟨zb + 1,3,none⟩ (.int .i64 h4)).setCell ⟨zb + 1,4,none⟩ (.slice a3 k2 c3)).setCell ⟨zb + 1,5,none⟩ (.slice a4 l2 c4)).setCell ⟨zb + 1 + 1 + 1,0,none⟩ (.bool y1)).setCell ⟨zb + 1 + 1 + 1,1,none⟩ (.int .u64 (y2:Int))).setCell ⟨zb + 1 + 1 + 1,2,none⟩ (.int .u64 (y3:Int))).setCell ⟨zb + 1 + 1 + 1,3,none⟩ (.int .i64 y4)) w12.heap.size (.slice a2 l1 c2) L1):=Lib.hid ⟨(((HR13.out.1.later hb).farC (show zb + 1 < _ by have:=HL12.out;omega) 0 [.bool h1, .int .u64 (h2:Int), .int .u64 (h3:Int), .int .i64 h4, .slice a3 k2 c3, .slice a4 l2 c4]).farC (show zb + 1 + 1 + 1 < _ by have:=HL12.out;omega) 0 [.bool y1, .int .u64 (y2:Int), .int .u64 (y3:Int), .int .i64 y4]),(((HR13.out.2.later hb).farC (show zb + 1 < _ by have:=HL12.out;omega) 0 [.bool h1, .int .u64 (h2:Int), .int .u64 (h3:Int), .int .i64 h4, .slice a3 k2 c3, .slice a4 l2 c4]).farC (show zb + 1 + 1 + 1 < _ by have:=HL12.out;omega) 0 [.bool y1, .int .u64 (y2:Int), .int .u64 (y3:Int), .int .i64 y4])⟩
     replace Hlt:=Lib.hid (Nat.lt_of_lt_of_le Hlt.out hb.size)
     have c6:=HZ2.out.set6w (x1':=.bool h1) (x2':=.int .u64 (h2:Int)) (x3':=.int .u64 (h3:Int)) (x4':=.int .i64 h4) (x5':=.slice a3 k2 c3) (x6':=.slice a4 l2 c4)
     have c6b:=HZ4.out.far6w (show zb + 1 + 1 + 1 ≠ zb + 1 by omega) (x1':=.bool h1) (x2':=.int .u64 (h2:Int)) (x3':=.int .u64 (h3:Int)) (x4':=.int .i64 h4) (x5':=.slice a3 k2 c3) (x6':=.slice a4 l2 c4)
     have cX4:=c6b.set4w (x':=.bool y1) (y':=.int .u64 (y2:Int)) (z':=.int .u64 (y3:Int)) (u':=.int .i64 y4)
     have c6c:=c6.far4w (show zb + 1 ≠ zb + 1 + 1 + 1 by omega) (x':=.bool y1) (y':=.int .u64 (y2:Int)) (z':=.int .u64 (y3:Int)) (u':=.int .i64 y4)
     have b9:=c6b.free
     have b0:=c6b.cell 0
     have b1:=c6b.cell 1
     have b2:=c6b.cell 2
     have b3:=c6b.cell 3
     have r9:=HZ2.out.free
     have r0:=HZ2.out.cell 0
     have r1:=HZ2.out.cell 1
     have r2:=HZ2.out.cell 2
     have r3:=HZ2.out.cell 3
     have r4:=HZ2.out.cell 4
     have r5:=HZ2.out.cell 5
     simp at b0 b1 b2 b3 r0 r1 r2 r3 r4 r5
     have NHZ2:=Lib.hid c6c
     have NHZ4:=Lib.hid cX4
     have NHZ1:=Lib.hid ((HZ1.out.far6w (show zb ≠ zb + 1 by omega) (x1':=.bool h1) (x2':=.int .u64 (h2:Int)) (x3':=.int .u64 (h3:Int)) (x4':=.int .i64 h4) (x5':=.slice a3 k2 c3) (x6':=.slice a4 l2 c4)).far4w (show zb ≠ zb + 1 + 1 + 1 by omega) (x':=.bool y1) (y':=.int .u64 (y2:Int)) (z':=.int .u64 (y3:Int)) (u':=.int .i64 y4))
     have NHZ3:=Lib.hid ((HZ3.out.far6w (show zb + 1 + 1 ≠ zb + 1 by omega) (x1':=.bool h1) (x2':=.int .u64 (h2:Int)) (x3':=.int .u64 (h3:Int)) (x4':=.int .i64 h4) (x5':=.slice a3 k2 c3) (x6':=.slice a4 l2 c4)).far4w (show zb + 1 + 1 ≠ zb + 1 + 1 + 1 by omega) (x':=.bool y1) (y':=.int .u64 (y2:Int)) (z':=.int .u64 (y3:Int)) (u':=.int .i64 y4))
     have HB14:Hid (Below w11.heap.size w11 ((((((((((w14.setCell ⟨zb + 1,0,none⟩ (.bool h1)).setCell ⟨zb + 1,1,none⟩ (.int .u64 (h2:Int))).setCell ⟨zb + 1,2,none⟩ (.int .u64 (h3:Int))).setCell ⟨zb + 1,3,none⟩ (.int .i64 h4)).setCell ⟨zb + 1,4,none⟩ (.slice a3 k2 c3)).setCell ⟨zb + 1,5,none⟩ (.slice a4 l2 c4)).setCell ⟨zb + 1 + 1 + 1,0,none⟩ (.bool y1)).setCell ⟨zb + 1 + 1 + 1,1,none⟩ (.int .u64 (y2:Int))).setCell ⟨zb + 1 + 1 + 1,2,none⟩ (.int .u64 (y3:Int))).setCell ⟨zb + 1 + 1 + 1,3,none⟩ (.int .i64 y4))):=Lib.hid (((((((((((HB14b.out.setCell (show w11.heap.size≤zb + 1 by rw [Hzb.out];omega) _).setCell (show w11.heap.size≤zb + 1 by rw [Hzb.out];omega) _).setCell (show w11.heap.size≤zb + 1 by rw [Hzb.out];omega) _).setCell (show w11.heap.size≤zb + 1 by rw [Hzb.out];omega) _).setCell (show w11.heap.size≤zb + 1 by rw [Hzb.out];omega) _).setCell (show w11.heap.size≤zb + 1 by rw [Hzb.out];omega) _).setCell (show w11.heap.size≤zb + 1 + 1 + 1 by rw [Hzb.out];omega) _).setCell (show w11.heap.size≤zb + 1 + 1 + 1 by rw [Hzb.out];omega) _).setCell (show w11.heap.size≤zb + 1 + 1 + 1 by rw [Hzb.out];omega) _).setCell (show w11.heap.size≤zb + 1 + 1 + 1 by rw [Hzb.out];omega) _))
     have HR14:Hid (OwnK layPf ((((((((((w14.setCell ⟨zb + 1,0,none⟩ (.bool h1)).setCell ⟨zb + 1,1,none⟩ (.int .u64 (h2:Int))).setCell ⟨zb + 1,2,none⟩ (.int .u64 (h3:Int))).setCell ⟨zb + 1,3,none⟩ (.int .i64 h4)).setCell ⟨zb + 1,4,none⟩ (.slice a3 k2 c3)).setCell ⟨zb + 1,5,none⟩ (.slice a4 l2 c4)).setCell ⟨zb + 1 + 1 + 1,0,none⟩ (.bool y1)).setCell ⟨zb + 1 + 1 + 1,1,none⟩ (.int .u64 (y2:Int))).setCell ⟨zb + 1 + 1 + 1,2,none⟩ (.int .u64 (y3:Int))).setCell ⟨zb + 1 + 1 + 1,3,none⟩ (.int .i64 y4)) w13.heap.size (.slice a3 k2 c3) K2∧OwnK layLs ((((((((((w14.setCell ⟨zb + 1,0,none⟩ (.bool h1)).setCell ⟨zb + 1,1,none⟩ (.int .u64 (h2:Int))).setCell ⟨zb + 1,2,none⟩ (.int .u64 (h3:Int))).setCell ⟨zb + 1,3,none⟩ (.int .i64 h4)).setCell ⟨zb + 1,4,none⟩ (.slice a3 k2 c3)).setCell ⟨zb + 1,5,none⟩ (.slice a4 l2 c4)).setCell ⟨zb + 1 + 1 + 1,0,none⟩ (.bool y1)).setCell ⟨zb + 1 + 1 + 1,1,none⟩ (.int .u64 (y2:Int))).setCell ⟨zb + 1 + 1 + 1,2,none⟩ (.int .u64 (y3:Int))).setCell ⟨zb + 1 + 1 + 1,3,none⟩ (.int .i64 y4)) w13.heap.size (.slice a4 l2 c4) L2):=Lib.hid ⟨((q1.farC (show zb + 1 < _ by have:=HL13.out;omega) 0 [.bool h1, .int .u64 (h2:Int), .int .u64 (h3:Int), .int .i64 h4, .slice a3 k2 c3, .slice a4 l2 c4]).farC (show zb + 1 + 1 + 1 < _ by have:=HL13.out;omega) 0 [.bool y1, .int .u64 (y2:Int), .int .u64 (y3:Int), .int .i64 y4]),((q2.farC (show zb + 1 < _ by have:=HL13.out;omega) 0 [.bool h1, .int .u64 (h2:Int), .int .u64 (h3:Int), .int .i64 h4, .slice a3 k2 c3, .slice a4 l2 c4]).farC (show zb + 1 + 1 + 1 < _ by have:=HL13.out;omega) 0 [.bool y1, .int .u64 (y2:Int), .int .u64 (y3:Int), .int .i64 y4])⟩
     have NHlt:Hid (zb + 1 + 1 + 1 < (((((((((((w14.setCell ⟨zb + 1,0,none⟩ (.bool h1)).setCell ⟨zb + 1,1,none⟩ (.int .u64 (h2:Int))).setCell ⟨zb + 1,2,none⟩ (.int .u64 (h3:Int))).setCell ⟨zb + 1,3,none⟩ (.int .i64 h4)).setCell ⟨zb + 1,4,none⟩ (.slice a3 k2 c3)).setCell ⟨zb + 1,5,none⟩ (.slice a4 l2 c4)).setCell ⟨zb + 1 + 1 + 1,0,none⟩ (.bool y1)).setCell ⟨zb + 1 + 1 + 1,1,none⟩ (.int .u64 (y2:Int))).setCell ⟨zb + 1 + 1 + 1,2,none⟩ (.int .u64 (y3:Int))).setCell ⟨zb + 1 + 1 + 1,3,none⟩ (.int .i64 y4))).heap.size):=Lib.hid (by simpa using Hlt.out)
     clear c6 c6b cX4 c6c q1 q2 hb HZ1 HZ2 HZ3 HZ4 Hlt HR13
     go_upto_region 19 with fail
     generalize ((((((((((w14.setCell ⟨zb + 1,0,none⟩ (.bool h1)).setCell ⟨zb + 1,1,none⟩ (.int .u64 (h2:Int))).setCell ⟨zb + 1,2,none⟩ (.int .u64 (h3:Int))).setCell ⟨zb + 1,3,none⟩ (.int .i64 h4)).setCell ⟨zb + 1,4,none⟩ (.slice a3 k2 c3)).setCell ⟨zb + 1,5,none⟩ (.slice a4 l2 c4)).setCell ⟨zb + 1 + 1 + 1,0,none⟩ (.bool y1)).setCell ⟨zb + 1 + 1 + 1,1,none⟩ (.int .u64 (y2:Int))).setCell ⟨zb + 1 + 1 + 1,2,none⟩ (.int .u64 (y3:Int))).setCell ⟨zb + 1 + 1 + 1,3,none⟩ (.int .i64 y4))=w14 at *
     clear b0 b1 b2 b3 b9 r0 r1 r2 r3 r4 r5 r9
     have HZ1:=NHZ1
     have HZ2:=NHZ2
     have HZ3:=NHZ3
     have HZ4:=NHZ4
     have Hlt:=NHlt
     have HR13:=NHR13
     clear NHZ1 NHZ2 NHZ3 NHZ4 NHlt NHR13
     have HU14:=Lib.hid (HU11.out.later HB14.out)
     have HV14:=Lib.hid (HV11.out.later HB14.out)
     have p0:=HU14.out.pb.cell 0
     have p1:=HU14.out.pb.cell 1
     have p2:=HU14.out.pb.cell 2
     have p3:=HU14.out.pb.cell 3
     have p4:=HU14.out.pb.cell 4
     have p5:=HU14.out.pb.cell 5
     simp [plC,pfC] at p0 p1 p2 p3 p4 p5
     have q0:=HZ1.out.cell 0
     have q1:=HZ1.out.cell 1
     have q2:=HZ1.out.cell 2
     have q3:=HZ1.out.cell 3
     have q4:=HZ1.out.cell 4
     have q5:=HZ1.out.cell 5
     simp at q0 q1 q2 q3 q4 q5
     go_wp2_with fail
     refine (HW1.out _).mono ?_
     rintro e wz ⟨rfl,rfl⟩
     go_wp2_with fail
     refine (HW2.out _).mono ?_
     rintro e wz ⟨rfl,rfl⟩
     go_wp2_with fail
     refine (samePool_any (g1,g2,g3,g4) K1 L1 ta ua a1 a2 k1 l1 tc uc c1 c2 w14 HU14.out.rk.rd HU14.out.rl.rd HR13.out.1.rd HR13.out.2.rd He.out.1 He.out.2.1 Hb.out.1 Hb.out.2.1).mono ?_
     rintro e w15 ⟨rfl,hb⟩
     have HB15:=Lib.hid (HB14.out.trans (hb.mono HB14.out.size))
     replace HZ2:=Lib.hid (HZ2.out.below hb HZ2.out.lt)
     replace HZ3:=Lib.hid (HZ3.out.below hb HZ3.out.lt)
     replace HZ4:=Lib.hid (HZ4.out.below hb HZ4.out.lt)
     have HR15:=Lib.hid (And.intro (HR14.out.1.later hb) (HR14.out.2.later hb))
     clear hb HZ1 HR13 HR14 HU14 HV14 p0 p1 p2 p3 p4 p5 q0 q1 q2 q3 q4 q5
     have HV15:=Lib.hid (HV11.out.later HB15.out)
     have p0:=HV15.out.pb.cell 0
     have p1:=HV15.out.pb.cell 1
     have p2:=HV15.out.pb.cell 2
     have p3:=HV15.out.pb.cell 3
     have p4:=HV15.out.pb.cell 4
     have p5:=HV15.out.pb.cell 5
     simp [plC,pfC] at p0 p1 p2 p3 p4 p5
     have q0:=HZ2.out.cell 0
     have q1:=HZ2.out.cell 1
     have q2:=HZ2.out.cell 2
     have q3:=HZ2.out.cell 3
     have q4:=HZ2.out.cell 4
     have q5:=HZ2.out.cell 5
     simp at q0 q1 q2 q3 q4 q5
     go_wp2_with fail
     refine (samePool_any (h1,h2,h3,h4) K2 L2 tA uA a3 a4 k2 l2 tC uC c3 c4 w15 HV15.out.rk.rd HV15.out.rl.rd HR15.out.1.rd HR15.out.2.rd He.out.2.2.1 He.out.2.2.2 Hb.out.2.2.1 Hb.out.2.2.2).mono ?_
     rintro e w16 ⟨rfl,hb⟩
     have HB16:=Lib.hid (HB15.out.trans (hb.mono HB15.out.size))
     replace HZ3:=Lib.hid (HZ3.out.below hb HZ3.out.lt)
     replace HZ4:=Lib.hid (HZ4.out.below hb HZ4.out.lt)
     clear hb HZ2 HR15 HV15 p0 p1 p2 p3 p4 p5 q0 q1 q2 q3 q4 q5
     have HU16:=Lib.hid (HU11.out.later HB16.out)
     have HV16:=Lib.hid (HV11.out.later HB16.out)
     have p0:=HU16.out.xb.cell 0
     have p1:=HU16.out.xb.cell 1
     have p2:=HU16.out.xb.cell 2
     have p3:=HU16.out.xb.cell 3
     simp [pfC] at p0 p1 p2 p3
     have q0:=HV16.out.xb.cell 0
     have q1:=HV16.out.xb.cell 1
     have q2:=HV16.out.xb.cell 2
     have q3:=HV16.out.xb.cell 3
     simp [pfC] at q0 q1 q2 q3
     have r0:=HZ3.out.cell 0
     have r1:=HZ3.out.cell 1
     have r2:=HZ3.out.cell 2
     have r3:=HZ3.out.cell 3
     simp at r0 r1 r2 r3
     have s0:=HZ4.out.cell 0
     have s1:=HZ4.out.cell 1
     have s2:=HZ4.out.cell 2
     have s3:=HZ4.out.cell 3
     simp at s0 s1 s2 s3
     have hAd:=Lib.hid fun wx => addressed_any wx
     have hE1:=fun wq => pfx_eql x1 x1 (x2:Int) (x2:Int) (x3:Int) (x3:Int) x4 x4 wq
     have hE2:=fun wq => pfx_eql y1 y1 (y2:Int) (y2:Int) (y3:Int) (y3:Int) y4 y4 wq
     simp only [decide_true] at hE1 hE2
     have hGd:=pfx_guard .eql
     go_wp2_with fail
     refine (hAd.out _).mono ?_
     rintro e z ⟨rfl,hb⟩
     have HE:=Lib.hid ((HS11.out.later HB16.out).later hb).bel
     clear hb
     go_wp2_with fail
     go_ret
     exact ⟨rfl,HE.out⟩
    ·have hF3:∀ best,takF best (ps,ph,pl,pn) K L ky nb=F∧takO best (ps,ph,pl,pn) K L ky nb=none:=by
      intro best
      unfold takF takO
      rw [hkq]
      by_cases h1:keyQ L ky ≠ 0
      ·rw [if_pos h1] at hF
       rw [if_pos h1,if_pos h1]
       exact ⟨hF,rfl⟩
      ·rw [if_neg h1] at hF
       rw [if_neg h1,if_neg h1]
       by_cases h2:outP (ps,ph,pl,pn) nb=true
       ·rw [if_pos h2] at hF
        rw [if_pos h2,if_pos h2]
        exact ⟨hF,rfl⟩
       ·rw [if_neg h2] at hF
        exact absurd hF.symm hz
     obtain ⟨hF1,hO1⟩:=hF3 false
     obtain ⟨hF2,hO2⟩:=hF3 true
     clear hF3 hkq hF
     rw [hF1,hF2]
     obtain ⟨e1,e2,e3,e4,e5,e6⟩:=Hr1.out
     obtain ⟨u1,u2,u3,u4,u5,u6⟩:=Hr2.out
     rw [hO1] at e1 e2 e3 e4
     rw [hO2] at u1 u2 u3 u4
     injection e1 with a1 e1;injection e1 with a2 e1;injection e1 with a3 a4
     injection e2 with b1 e2;injection e2 with b2 e2;injection e2 with b3 b4
     injection u1 with c1 u1;injection u1 with c2 u1;injection u1 with c3 c4
     injection u2 with d1 u2;injection u2 with d2 u2;injection u2 with d3 d4
     have e3:[]=K1:=e3
     have e4:[]=L1:=e4
     have u3:[]=K2:=u3
     have u4:[]=L2:=u4
     subst e3 e4 u3 u4 a1 a2 a3 a4 b1 b2 b3 b4 c1 c2 c3 c4 d1 d2 d3 d4 e5 e6 u5 u6
     clear hF1 hF2 hO1 hO2 Hr1 Hr2
     go_upto_region 12 with fail
     have HZ:=Lib.hid (four_new w11 #[.bool false, .int .u64 0, .int .u64 0, .int .i64 0, .slice none 0 0, .slice none 0 0] #[.bool false, .int .u64 0, .int .u64 0, .int .i64 0, .slice none 0 0, .slice none 0 0] #[.bool false, .int .u64 0, .int .u64 0, .int .i64 0] #[.bool false, .int .u64 0, .int .u64 0, .int .i64 0] 34 30)
     have HS12:=Lib.hid (HS11.out.later HZ.out.2.2.2.2)
     have HU12:=Lib.hid (HU11.out.later HZ.out.2.2.2.2)
     have HV12:=Lib.hid (HV11.out.later HZ.out.2.2.2.2)
     clear HS11 HU11 HV11
     go_upto_region 14 with fail
     generalize ((((w11.alloc (.cells #[.bool false, .int .u64 0, .int .u64 0, .int .i64 0, .slice none 0 0, .slice none 0 0] 34 (0,0))).alloc (.cells #[.bool false, .int .u64 0, .int .u64 0, .int .i64 0, .slice none 0 0, .slice none 0 0] 34 (0,0))).alloc (.cells #[.bool false, .int .u64 0, .int .u64 0, .int .i64 0] 30 (0,0))).alloc (.cells #[.bool false, .int .u64 0, .int .u64 0, .int .i64 0] 30 (0,0)))=w12 at *
     obtain ⟨zb,hzb⟩:∃ q,w11.heap.size=q:=⟨_,rfl⟩
     rw [hzb] at HZ ⊢
     clear hzb
     obtain ⟨hz1,hz2,hz3,hz4, -⟩:=HZ.out
     have HSm:=Lib.hid fun (a1 a2:Option Addr) (c1 c2:Nat) wx => samePool_any zPf [] [] a1 a2 none none 0 0 c1 c2 0 0 wx (RdK.nil _ _) (RdK.nil _ _) (RdK.nil _ _) (RdK.nil _ _) rfl rfl (by omega) (by omega)
     have p0:=HU12.out.pb.cell 0
     have p1:=HU12.out.pb.cell 1
     have p2:=HU12.out.pb.cell 2
     have p3:=HU12.out.pb.cell 3
     have p4:=HU12.out.pb.cell 4
     have p5:=HU12.out.pb.cell 5
     simp [plC,pfC] at p0 p1 p2 p3 p4 p5
     have q0:=hz1.cell 0
     have q1:=hz1.cell 1
     have q2:=hz1.cell 2
     have q3:=hz1.cell 3
     have q4:=hz1.cell 4
     have q5:=hz1.cell 5
     simp at q0 q1 q2 q3 q4 q5
     go_wp2_with fail
     refine (HSm.out _ _ _ _ w12).mono ?_
     rintro e w13 ⟨rfl,hb⟩
     have HS13:=Lib.hid (HS12.out.later hb)
     have HU13:=Lib.hid (HU12.out.later hb)
     have HV13:=Lib.hid (HV12.out.later hb)
     have HZ13:=Lib.hid (And.intro (hz2.below hb hz2.lt) (And.intro (hz3.below hb hz3.lt) (hz4.below hb hz4.lt)))
     clear hb hz1 hz2 hz3 hz4 p0 q0 p1 q1 p2 q2 p3 q3 p4 q4 p5 q5
     clear HZ HS12 HU12 HV12
     obtain ⟨hz2,hz3,hz4⟩:=HZ13.out
     have p0:=HV13.out.pb.cell 0
     have p1:=HV13.out.pb.cell 1
     have p2:=HV13.out.pb.cell 2
     have p3:=HV13.out.pb.cell 3
     have p4:=HV13.out.pb.cell 4
     have p5:=HV13.out.pb.cell 5
     simp [plC,pfC] at p0 p1 p2 p3 p4 p5
     have q0:=hz2.cell 0
     have q1:=hz2.cell 1
     have q2:=hz2.cell 2
     have q3:=hz2.cell 3
     have q4:=hz2.cell 4
     have q5:=hz2.cell 5
     simp at q0 q1 q2 q3 q4 q5
     go_wp2_with fail
     refine (HSm.out _ _ _ _ w13).mono ?_
     rintro e w14 ⟨rfl,hb⟩
     have HS14:=Lib.hid (HS13.out.later hb)
     have HU14:=Lib.hid (HU13.out.later hb)
     have HV14:=Lib.hid (HV13.out.later hb)
     have HZ14:=Lib.hid (And.intro (hz3.below hb hz3.lt) (hz4.below hb hz4.lt))
     clear hb hz2 hz3 hz4 p0 q0 p1 q1 p2 q2 p3 q3 p4 q4 p5 q5
     clear HZ13 HS13 HU13 HV13 HSm
     obtain ⟨hz3,hz4⟩:=HZ14.out
     have p0:=HU14.out.xb.cell 0
     have p1:=HU14.out.xb.cell 1
     have p2:=HU14.out.xb.cell 2
     have p3:=HU14.out.xb.cell 3
     simp [pfC] at p0 p1 p2 p3
     have q0:=HV14.out.xb.cell 0
     have q1:=HV14.out.xb.cell 1
     have q2:=HV14.out.xb.cell 2
     have q3:=HV14.out.xb.cell 3
     simp [pfC] at q0 q1 q2 q3
     have r0:=hz3.cell 0
     have r1:=hz3.cell 1
     have r2:=hz3.cell 2
     have r3:=hz3.cell 3
     simp at r0 r1 r2 r3
     have s0:=hz4.cell 0
     have s1:=hz4.cell 1
     have s2:=hz4.cell 2
     have s3:=hz4.cell 3
     simp at s0 s1 s2 s3
     have hAd:=Lib.hid fun wx => addressed_any wx
     go_wp2_with fail
     refine (hAd.out _).mono ?_
     rintro e z ⟨rfl,hb⟩
     have HE:=Lib.hid (HS14.out.later hb).bel
     clear hb
     go_wp2_with fail
     go_ret
     exact ⟨rfl,HE.out⟩
  ·have hkF:keyF (ps,ph,pl,pn) K L ky=pf:=by
    unfold keyF
    rw [Hpf.out,if_pos hz]
   have hF1:takF false (ps,ph,pl,pn) K L ky nb=pf:=by
    unfold takF
    rw [hkF,if_pos hz]
   have hF2:takF true (ps,ph,pl,pn) K L ky nb=pf:=by
    unfold takF
    rw [hkF,if_pos hz]
   have hO1:takO false (ps,ph,pl,pn) K L ky nb=none:=by
    unfold takO
    rw [hkF,if_pos hz]
   have hO2:takO true (ps,ph,pl,pn) K L ky nb=none:=by
    unfold takO
    rw [hkF,if_pos hz]
   rw [if_neg hz] at HF11
   obtain ⟨fa,fc,rfl, -⟩:=HF11.out.form
   rw [hF1,hF2]
   obtain ⟨e1,e2,e3,e4,e5,e6⟩:=Hr1.out
   obtain ⟨u1,u2,u3,u4,u5,u6⟩:=Hr2.out
   rw [hO1] at e1 e2 e3 e4
   rw [hO2] at u1 u2 u3 u4
   injection e1 with a1 e1;injection e1 with a2 e1;injection e1 with a3 a4
   injection e2 with b1 e2;injection e2 with b2 e2;injection e2 with b3 b4
   injection u1 with c1 u1;injection u1 with c2 u1;injection u1 with c3 c4
   injection u2 with d1 u2;injection u2 with d2 u2;injection u2 with d3 d4
   have e3:[]=K1:=e3
   have e4:[]=L1:=e4
   have u3:[]=K2:=u3
   have u4:[]=L2:=u4
   subst e3 e4 u3 u4 a1 a2 a3 a4 b1 b2 b3 b4 c1 c2 c3 c4 d1 d2 d3 d4 e5 e6 u5 u6
   clear hF1 hF2 hO1 hO2 hkF Hr1 Hr2
   go_upto_region 12 with fail
   have HZ:=Lib.hid (four_new w11 #[.bool false, .int .u64 0, .int .u64 0, .int .i64 0, .slice none 0 0, .slice none 0 0] #[.bool false, .int .u64 0, .int .u64 0, .int .i64 0, .slice none 0 0, .slice none 0 0] #[.bool false, .int .u64 0, .int .u64 0, .int .i64 0] #[.bool false, .int .u64 0, .int .u64 0, .int .i64 0] 34 30)
   have HS12:=Lib.hid (HS11.out.later HZ.out.2.2.2.2)
   have HU12:=Lib.hid (HU11.out.later HZ.out.2.2.2.2)
   have HV12:=Lib.hid (HV11.out.later HZ.out.2.2.2.2)
   clear HS11 HU11 HV11 HF11
   go_upto_region 14 with fail
   generalize ((((w11.alloc (.cells #[.bool false, .int .u64 0, .int .u64 0, .int .i64 0, .slice none 0 0, .slice none 0 0] 34 (0,0))).alloc (.cells #[.bool false, .int .u64 0, .int .u64 0, .int .i64 0, .slice none 0 0, .slice none 0 0] 34 (0,0))).alloc (.cells #[.bool false, .int .u64 0, .int .u64 0, .int .i64 0] 30 (0,0))).alloc (.cells #[.bool false, .int .u64 0, .int .u64 0, .int .i64 0] 30 (0,0)))=w12 at *
   obtain ⟨zb,hzb⟩:∃ q,w11.heap.size=q:=⟨_,rfl⟩
   rw [hzb] at HZ ⊢
   clear hzb
   obtain ⟨hz1,hz2,hz3,hz4, -⟩:=HZ.out
   have HSm:=Lib.hid fun (a1 a2:Option Addr) (c1 c2:Nat) wx => samePool_any zPf [] [] a1 a2 none none 0 0 c1 c2 0 0 wx (RdK.nil _ _) (RdK.nil _ _) (RdK.nil _ _) (RdK.nil _ _) rfl rfl (by omega) (by omega)
   have p0:=HU12.out.pb.cell 0
   have p1:=HU12.out.pb.cell 1
   have p2:=HU12.out.pb.cell 2
   have p3:=HU12.out.pb.cell 3
   have p4:=HU12.out.pb.cell 4
   have p5:=HU12.out.pb.cell 5
   simp [plC,pfC] at p0 p1 p2 p3 p4 p5
   have q0:=hz1.cell 0
   have q1:=hz1.cell 1
   have q2:=hz1.cell 2
   have q3:=hz1.cell 3
   have q4:=hz1.cell 4
   have q5:=hz1.cell 5
   simp at q0 q1 q2 q3 q4 q5
   go_wp2_with fail
   refine (HSm.out _ _ _ _ w12).mono ?_
   rintro e w13 ⟨rfl,hb⟩
   have HS13:=Lib.hid (HS12.out.later hb)
   have HU13:=Lib.hid (HU12.out.later hb)
   have HV13:=Lib.hid (HV12.out.later hb)
   have HZ13:=Lib.hid (And.intro (hz2.below hb hz2.lt) (And.intro (hz3.below hb hz3.lt) (hz4.below hb hz4.lt)))
   clear hb hz1 hz2 hz3 hz4 p0 q0 p1 q1 p2 q2 p3 q3 p4 q4 p5 q5
   clear HZ HS12 HU12 HV12
   obtain ⟨hz2,hz3,hz4⟩:=HZ13.out
   have p0:=HV13.out.pb.cell 0
   have p1:=HV13.out.pb.cell 1
   have p2:=HV13.out.pb.cell 2
   have p3:=HV13.out.pb.cell 3
   have p4:=HV13.out.pb.cell 4
   have p5:=HV13.out.pb.cell 5
   simp [plC,pfC] at p0 p1 p2 p3 p4 p5
   have q0:=hz2.cell 0
   have q1:=hz2.cell 1
   have q2:=hz2.cell 2
   have q3:=hz2.cell 3
   have q4:=hz2.cell 4
   have q5:=hz2.cell 5
   simp at q0 q1 q2 q3 q4 q5
   go_wp2_with fail
   refine (HSm.out _ _ _ _ w13).mono ?_
   rintro e w14 ⟨rfl,hb⟩
   have HS14:=Lib.hid (HS13.out.later hb)
   have HU14:=Lib.hid (HU13.out.later hb)
   have HV14:=Lib.hid (HV13.out.later hb)
   have HZ14:=Lib.hid (And.intro (hz3.below hb hz3.lt) (hz4.below hb hz4.lt))
   clear hb hz2 hz3 hz4 p0 q0 p1 q1 p2 q2 p3 q3 p4 q4 p5 q5
   clear HZ13 HS13 HU13 HV13 HSm
   obtain ⟨hz3,hz4⟩:=HZ14.out
   have p0:=HU14.out.xb.cell 0
   have p1:=HU14.out.xb.cell 1
   have p2:=HU14.out.xb.cell 2
   have p3:=HU14.out.xb.cell 3
   simp [pfC] at p0 p1 p2 p3
   have q0:=HV14.out.xb.cell 0
   have q1:=HV14.out.xb.cell 1
   have q2:=HV14.out.xb.cell 2
   have q3:=HV14.out.xb.cell 3
   simp [pfC] at q0 q1 q2 q3
   have r0:=hz3.cell 0
   have r1:=hz3.cell 1
   have r2:=hz3.cell 2
   have r3:=hz3.cell 3
   simp at r0 r1 r2 r3
   have s0:=hz4.cell 0
   have s1:=hz4.cell 1
   have s2:=hz4.cell 2
   have s3:=hz4.cell 3
   simp at s0 s1 s2 s3
   have hAd:=Lib.hid fun wx => addressed_any wx
   go_wp2_with fail
   refine (hAd.out _).mono ?_
   rintro e z ⟨rfl,hb⟩
   have HE:=Lib.hid (HS14.out.later hb).bel
   clear hb
   go_wp2_with fail
   go_ret
   exact ⟨rfl,HE.out⟩
end Go.Proofs.YteldaicgaeooiaaGreatDoor
