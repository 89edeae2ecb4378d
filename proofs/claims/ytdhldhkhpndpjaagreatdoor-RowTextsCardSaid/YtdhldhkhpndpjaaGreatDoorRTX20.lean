/-
  The generator of a part of a row (lanemake's Row$1).
  The generator of a range of ports.
  Rows of ranges that a call owns: two cells an element.
  The reference's least list of ports: port by port.
  hasPorts of both.
  slices.Equal of two rows of ranges.
  Checks of ports, of rows of any length (more than a thousand: 2).
  Bytes: put and big (a number in some bytes), Equal of two slices of bytes.
-/
import Derived.Test.YtdhldhkhpndpjaaGreatDoorRTX19
import Derived.Test.YtdhldhkhpndpjaaGreatDoorRTX7
import Derived.Test.YtdhldhkhpndpjaaGreatDoorRTX16
import Derived.Test.YtdhldhkhpndpjaaGreatDoorRTX3
import Derived.Test.YtdhldhkhpndpjaaGreatDoorRTX18
import Derived.Laws.StructEq
import Derived.Test.YtdhldhkhpndpjaaGreatDoorRTX17
set_option linter.unusedVariables false
set_option maxRecDepth 100000
set_option maxHeartbeats 4000000
namespace Go.Proofs.YtdhldhkhpndpjaaGreatDoor
open Go.RowKit Go
theorem okPf_at {lo n:Nat} (hl:lo < 2 ^ 32) (hn:n≤32):OkPf (false,mHi false 0 n,mLo false lo n,(n:Int)) :=
 ⟨rfl,mask_pok (s:=false) (h:=0) (l:=lo) ⟨by decide,Nat.lt_trans hl (by decide),fun _ => ⟨rfl,hl⟩⟩ (show n≤32 from hn)⟩
theorem okPf_six {n:Nat} (hn:n=64 ∨ n=127):OkPf (true,18230571291595767808,0,(n:Int)):=by
 refine ⟨rfl,?_⟩
 rcases hn with rfl | rfl
 ·show POK true 18230571291595767808 0 64
  unfold POK AOK mHi mLo lenN
  decide
 ·show POK true 18230571291595767808 0 127
  unfold POK AOK mHi mLo lenN
  decide
def rpR (b:Nat) (out:Value):Nat→Value→World→Prop
 | 0,v,_ => v=out
 | 1,v,_ => v=.pointer (some ⟨b,0,none⟩)
 | 2,v,_ => ∃ k:Nat,v=.int .i64 (k:Int)∧k≤7
 | 3,v,_ => ∃ k:Nat,v=.agg #[.bool false, .int .u64 ((0:Nat):Int), .int .u64 ((1681915904 + k:Nat):Int)]∧k≤7
 | 4,v,_ => v=.pointer (some ⟨b,0,none⟩)
 | 5,v,w => ∃ g,v=.slice (some ⟨g,0,none⟩) 4 4∧g ≠ b∧RdInts w g 0 4 [30,31,32,32]
 | 6,v,_ => ∃ n:Nat,v=.int .i64 (n:Int)∧n≤32
 | 7,v,_ => ∃ p:Pf,v=.agg (pfC p).toArray∧OkPf p
 | _,v,w => ∃ (B:Nat) (p:Pf),v=.slice (some ⟨B,0,none⟩) 1 1∧Blk w B 30 (pfC p).toArray∧OkPf p∧B ≠ b
theorem rpR_keep {b:Nat} {out:Value} (p:Nat) (v:Value) (u w:World) (h:rpR b out p v u) (hg:u.grownBy w (some b)):rpR b out p v w:=by
 rcases p with _ | _ | _ | _ | _ | _ | _ | _ | p
 all_goals first
  | exact h
  | (obtain ⟨g,h1,h2,h3⟩:=h;exact ⟨g,h1,h2,h3.grown hg h2⟩)
  | (obtain ⟨B,p,h1,h2,h3,h4⟩:=h;exact ⟨B,p,h1,h2.keep hg h4,h3,h4⟩)
def rqR (b:Nat) (out:Value):Nat→Value→World→Prop
 | 0,v,_ => v=out
 | 1,v,_ => v=.agg #[.bool true, .int .u64 18230571291595767808, .int .u64 0]
 | 2,v,_ => v=.pointer (some ⟨b,0,none⟩)
 | 3,v,w => ∃ g,v=.slice (some ⟨g,0,none⟩) 2 2∧g ≠ b∧RdInts w g 0 2 [64,127]
 | 4,v,_ => ∃ n:Nat,v=.int .i64 (n:Int)∧(n=64 ∨ n=127)
 | 5,v,_ => ∃ p:Pf,v=.agg (pfC p).toArray∧OkPf p
 | _,v,w => ∃ (B:Nat) (p:Pf),v=.slice (some ⟨B,0,none⟩) 1 1∧Blk w B 30 (pfC p).toArray∧OkPf p∧B ≠ b
theorem rqR_keep {b:Nat} {out:Value} (p:Nat) (v:Value) (u w:World) (h:rqR b out p v u) (hg:u.grownBy w (some b)):rqR b out p v w:=by
 rcases p with _ | _ | _ | _ | _ | _ | p
 all_goals first
  | exact h
  | (obtain ⟨g,h1,h2,h3⟩:=h;exact ⟨g,h1,h2,h3.grown hg h2⟩)
  | (obtain ⟨B,p,h1,h2,h3,h4⟩:=h;exact ⟨B,p,h1,h2.keep hg h4,h3,h4⟩)
theorem rowPart_gen (b m bx:Nat) (w:World) (h:Strm w b m) (hx:Blk w bx 23 #[.pointer (some ⟨b,0,none⟩)]) (hne:bx ≠ b) (hm:m + 50 < 1099511627776) :
  Calls Tryz.prog 247 #[.pointer (some ⟨bx,0,none⟩)] w fun e w' => ∃ v L,e=.returned v∧OwnK layPf w' w.heap.size v L∧L.length≤4∧(∀ p ∈ L,OkPf p)∧Gen b w w' (m + 9):=by
 have hblt:=h.lt
 have HG0:Hid (Gen b w w m):=Lib.hid (Gen.start h)
 have HX0:=Lib.hid hx
 have e0:=hx.cell 0
 have hbx:=hx.lt
 simp at e0
 clear h hx
 go_enter Tryz.func247,Tryz.ntmps247
 go_wp2_with fail
 refine (pick_new b m _ _ _ _ [1,1,2,3] _ HG0.out.s rfl (by omega) rfl (by decide) rfl).mono ?_
 rintro e w1 ⟨x,rfl,hx,hg⟩
 have hxb:0≤x∧x≤3:=by simp at hx;omega
 obtain ⟨K,rfl⟩:=Int.eq_ofNat_of_zero_le hxb.1
 have hK:K≤3:=by omega
 have HG1:Hid (Gen b w w1 (m + 1)):=Lib.hid (HG0.out.trans hg)
 have HX1:Hid (Blk w1 bx 23 #[.pointer (some ⟨b,0,none⟩)]):=Lib.hid (HX0.out.keep hg.g hne)
 clear hx hxb hg HG0 HX0 e0
 go_wp2_with fail
 go_loopw [2,6] (fun out i wr => ∃ (j:Nat) (L:List Pf),j≤K∧i=.int .i64 (j:Int)∧Hid (OwnK layPf wr w.heap.size out L)∧Hid (L.length=j)∧Hid (∀ p ∈ L,OkPf p)∧Hid (Gen b w wr (m + 1 + 2 * j))∧Hid (Blk wr bx 23 #[.pointer (some ⟨b,0,none⟩)])) (fun _ i _ => K - (intOf i).toNat)
 case atStart => exact ⟨0, [],Nat.zero_le _,rfl,Lib.hid (OwnK.nil _ _ _),Lib.hid rfl,Lib.hid (by simp),HG1,HX1⟩
 case round =>
  obtain ⟨j,L,hj,rfl,HO,HL,HK,HG,HX⟩:=hrel
  by_cases hlt:j < K
  ·have hbw:=HG.out.s.lt
   go_upto_region 4 with fail
   refine wp_region_inv 9 2 (rpR b u2) (fun n wx => Gen b wr wx (m + 1 + 2 * j + n)∧Blk wx bx 23 #[.pointer (some ⟨b,0,none⟩)]) (fun u v => u.grownBy v (some b)) (fun i => if i=2 ∨ i=6 then 1 else 0)
    (by kernel_rfl) (by kernel_rfl) (by decide) rpR_keep ⟨(Gen.start HG.out.s).drew,HX.out.drewN 1⟩ ?hX
   case' hX => (apply Exists.intro;refine ⟨fun T => ?hA,?hob,?hend⟩)
   case hA =>
    simp only [setAll,List.take_succ_cons,List.take_zero,Act.put,List.setIfInBounds_toArray,List.set_cons_succ,List.set_cons_zero,Nat.reduceAdd]
    exact rfl
   case hob =>
    clear HO HL HK HG HX
    go_light
    refine ⟨?_,?_,?_,?_,?_,?_,?_,?_,?_,trivial⟩
    all_goals (intro T wx n hC hn hp;obtain ⟨hC,hB⟩:=hC;dsimp only at hn ⊢;unfold Op1)
    ·go_simp
     exact ⟨rfl,World.grownBy.refl _ _⟩
    ·have e0:=hB.cell 0
     simp at e0
     go_simp
     exact ⟨rfl,World.grownBy.refl _ _⟩
    ·obtain ⟨h1, -⟩:=hp
     have h1:T 1=.pointer (some ⟨b,0,none⟩):=h1
     go_simp
     refine (range_gen b (m + 1 + 2 * j + n) _ _ _ hC.s (by simp at hn;omega) (by omega) (by omega)).mono ?_
     rintro e w2 ⟨y,rfl,⟨hy0,hy1⟩,hg2⟩
     obtain ⟨k,rfl⟩:=Int.eq_ofNat_of_zero_le hy0
     exact ⟨_,rfl,⟨k,rfl,by omega⟩,⟨hC.trans hg2,hB.keep hg2.g hne⟩,hg2.g⟩
    ·obtain ⟨⟨k,hT2,hk⟩, -⟩:=hp
     go_simp
     refine (at_any _ _ (by omega)).mono ?_
     rintro e w2 ⟨rfl,o,rfl⟩
     exact ⟨_,rfl,⟨k,rfl,hk⟩,⟨hC.alloc _,hB.alloc _⟩,World.grownBy_alloc _ _ _⟩
    ·have e0:=hB.cell 0
     simp at e0
     go_simp
     exact ⟨rfl,World.grownBy.refl _ _⟩
    ·go_simp
     exact ⟨⟨wx.heap.size,rfl,by have:=hC.s.lt;omega,rdInts_new wx _ [30,31,32,32] _ rfl⟩,⟨hC.alloc _,hB.alloc _⟩,World.grownBy_alloc _ _ _⟩
    ·obtain ⟨h1,⟨g,h2,hgb,hR⟩, -⟩:=hp
     have h1:T 4=.pointer (some ⟨b,0,none⟩):=h1
     go_simp
     refine (pick_gen b (m + 1 + 2 * j + n) g 0 4 4 [30,31,32,32] _ hC.s (by simp at hn;omega) (by omega) hR hgb).mono ?_
     rintro e w2 ⟨y,rfl,hy,hg2⟩
     have hyb:0≤y∧y≤32:=by simp at hy;omega
     obtain ⟨k,rfl⟩:=Int.eq_ofNat_of_zero_le hyb.1
     exact ⟨_,rfl,⟨k,rfl,by omega⟩,⟨hC.trans hg2,hB.keep hg2.g hne⟩,hg2.g⟩
    ·obtain ⟨⟨k,h1,hk⟩,⟨q,h2,hq⟩, -⟩:=hp
     go_simp
     refine (maskOf_any false 0 (1681915904 + k) q wx (by decide) (by omega) (by omega)).mono ?_
     rintro e w2 ⟨rfl,hb⟩
     have hg2:wx.grownBy w2 (some b):=((Gen.start hC.s).below0 hb hC.s.lt).g
     exact ⟨_,rfl,⟨(false,mHi false 0 q,mLo false (1681915904 + k) q,(q:Int)),rfl,okPf_at (by omega) (by omega)⟩,⟨hC.below0 hb hC.s.lt,hB.keep hg2 hne⟩,hg2⟩
    ·obtain ⟨⟨p,h1,hk⟩, -⟩:=hp
     have hpc:(pfC p).toArray=#[.bool p.1, .int .u64 ((p.2.1:Nat):Int), .int .u64 ((p.2.2.1:Nat):Int), .int .i64 p.2.2.2]:=rfl
     rw [hpc] at h1
     go_simp
     exact ⟨⟨wx.heap.size,p,rfl,Blk.new wx _ _,hk,by have:=hC.s.lt;omega⟩,⟨hC.alloc _,hB.alloc _⟩,World.grownBy_alloc _ _ _⟩
   case hend =>
    intro T w4 ⟨n,hn,hC,hB⟩ hR
    have hT0:T 0=u2:=hR 0 (by omega)
    obtain ⟨B,p,hT8,hBl,hok,hBb⟩:=hR 8 (by omega)
    have HO4:=Lib.hid (HO.out.gen hC hblt)
    have HG4:Hid (Gen b w w4 (m + 1 + 2 * (j + 1))):=Lib.hid ((HG.out.trans hC).mono (by omega))
    have HX4:=Lib.hid hB
    have HBl:=Lib.hid hBl
    have HK4:Hid (∀ q ∈ L ++ [p],OkPf q):=Lib.hid (ok_append HK.out fun q hq => by rw [List.mem_singleton.1 hq];exact hok)
    clear hR hB hBl hC hok HO HG HX HK
    simp only [List.drop_succ_cons,List.drop_zero]
    refine wpList_app (c:=1) pfE rfl (.tmp 8) (.tmp 16) rfl ?hs HO4.out ?hx (src_blk layPf p HBl.out rfl) ?c1 ?c2 ?c3 ?c4 ?_
    case hs => exact hT0
    case hx => exact hT8
    case c1 => exact layPf.one p
    case c2 => unfold maxLen;rw [HL.out];omega
    case c3 => rw [HL.out];omega
    case c4 => exact HG4.out.g.size
    intro v' w' hO hG
    have hbl:Below w.heap.size w4 w':=hG.below HG4.out.g.size (own_base HO4.out)
    have HO':Hid (OwnK layPf w' w.heap.size v' (L ++ [p])):=Lib.hid (OwnK.snoc hO)
    have HG':Hid (Gen b w w' (m + 1 + 2 * (j + 1))):=Lib.hid (HG4.out.below hbl (Nat.le_refl _) hblt)
    have HX':Hid (Blk w' bx 23 #[.pointer (some ⟨b,0,none⟩)]):=Lib.hid (HX4.out.below hbl hbx)
    clear hO hG hbl HO4 HG4 HX4 HBl
    go_wp2
    exact ⟨⟨j + 1,L ++ [p],by omega,by go_num,HO',Lib.hid (by rw [List.length_append,HL.out];rfl),HK4,HG',HX'⟩,by simp [intOf];omega⟩
  ·obtain rfl:j=K:=by omega
   have e0:=HX.out.cell 0
   simp at e0
   go_wp2_with fail
   refine (flip_gen b (m + 1 + 2 * j) _ _ HG.out.s (by omega) (by omega)).mono ?_
   rintro e w2 ⟨fl,rfl,hg⟩
   have HO2:=Lib.hid (HO.out.gen hg hblt)
   have HG2:Hid (Gen b w w2 (m + 1 + 2 * j + 1)):=Lib.hid (HG.out.trans hg)
   have HX2:=Lib.hid (HX.out.keep hg.g hne)
   clear hg HO HG HX e0
   have HEND:Hid (∀ (v:Value) (L2:List Pf) (w5:World),OwnK layPf w5 w.heap.size v L2→L2.length≤4→(∀ p ∈ L2,OkPf p)→Gen b w w5 (m + 9)→∃ ad c,v=.slice ad L2.length c∧Calls Tryz.prog 74 #[.slice ad L2.length c] w5 fun e w' => ∃ v L,e=.returned v∧OwnK layPf w' w.heap.size v L∧L.length≤4∧(∀ p ∈ L,OkPf p)∧Gen b w w' (m + 9)):=Lib.hid fun v L2 w5 hO hl hk hg => by
    obtain ⟨ad,c,rfl,_⟩:=hO.form
    refine ⟨ad,c,rfl,(leastOf_any ad L2.length c L2 w5 hO.rd rfl (by omega) hk).mono ?_⟩
    rintro e w6 ⟨v,rfl,hO6,hB6⟩
    refine ⟨_,_,rfl,hO6.weak hg.g.size,by have:=lst_len hk;omega,ok_lst hk,hg.below0 hB6 (Nat.lt_of_lt_of_le hblt hg.g.size)⟩
   cases fl
   ·obtain ⟨ad,c,rfl,hE⟩:=HEND.out _ L w2 HO2.out (by have:=HL.out;omega) HK.out (HG2.out.mono (by omega))
    have HE:=Lib.hid hE
    clear hE HEND HO2 HG2 HX2 HK
    go_wp2_with fail
    refine HE.out.mono ?_
    rintro e w6 ⟨v,L3,rfl,h1,h2,h3,h4⟩
    have HH:=Lib.hid (And.intro h1 (And.intro h2 (And.intro h3 h4)))
    clear h1 h2 h3 h4 HE
    go_wp2_with fail
    go_ret
    exact ⟨_,_,rfl,HH.out⟩
   ·have hbw:=HG2.out.s.lt
    go_upto_region 7 with fail
    refine wp_region_inv 7 1 (rqR b u2) (fun n wx => Gen b w2 wx (m + 1 + 2 * j + 1 + n)∧Blk wx bx 23 #[.pointer (some ⟨b,0,none⟩)]) (fun u v => u.grownBy v (some b)) (fun i => if i=4 then 1 else 0)
     (by kernel_rfl) (by kernel_rfl) (by decide) rqR_keep ⟨(Gen.start HG2.out.s).drew,HX2.out.drewN 1⟩ ?hXz
    case' hXz => (apply Exists.intro;refine ⟨fun T => ?hAz,?hobz,?hendz⟩)
    case hAz =>
     simp only [setAll,List.take_succ_cons,List.take_zero,Act.put,List.setIfInBounds_toArray,List.set_cons_succ,List.set_cons_zero,Nat.reduceAdd]
     exact rfl
    case hobz =>
     clear HO2 HL HK HG2 HX2 HEND
     go_light
     refine ⟨?_,?_,?_,?_,?_,?_,?_,trivial⟩
     all_goals (intro T wx n hC hn hp;obtain ⟨hC,hB⟩:=hC;dsimp only at hn ⊢;unfold Op1)
     ·go_simp
      exact ⟨rfl,World.grownBy.refl _ _⟩
     ·go_simp
      refine (sixAt_any _ _ (by omega)).mono ?_
      rintro e w2 ⟨rfl,o,rfl⟩
      exact ⟨_,rfl,rfl,⟨hC.alloc _,hB.alloc _⟩,World.grownBy_alloc _ _ _⟩
     ·have e0:=hB.cell 0
      simp at e0
      go_simp
      exact ⟨rfl,World.grownBy.refl _ _⟩
     ·go_simp
      exact ⟨⟨wx.heap.size,rfl,by have:=hC.s.lt;omega,rdInts_new wx _ [64,127] _ rfl⟩,⟨hC.alloc _,hB.alloc _⟩,World.grownBy_alloc _ _ _⟩
     ·obtain ⟨h1,⟨g,h2,hgb,hR⟩, -⟩:=hp
      have h1:T 2=.pointer (some ⟨b,0,none⟩):=h1
      go_simp
      refine (pick_gen b (m + 1 + 2 * j + 1 + n) g 0 2 2 [64,127] _ hC.s (by simp at hn;omega) (by omega) hR hgb).mono ?_
      rintro e w2 ⟨y,rfl,hy,hg2⟩
      have hyb:y=64 ∨ y=127:=by simpa using hy
      obtain ⟨k,rfl⟩:=Int.eq_ofNat_of_zero_le (show 0≤y by omega)
      exact ⟨_,rfl,⟨k,rfl,by omega⟩,⟨hC.trans hg2,hB.keep hg2.g hne⟩,hg2.g⟩
     ·obtain ⟨h1,⟨q,h2,hq⟩, -⟩:=hp
      have h1:T 1=.agg #[.bool true, .int .u64 18230571291595767808, .int .u64 0]:=h1
      go_simp
      exact ⟨⟨(true,18230571291595767808,0,(q:Int)),rfl,okPf_six hq⟩,World.grownBy.refl _ _⟩
     ·obtain ⟨⟨p,h1,hk⟩, -⟩:=hp
      have hpc:(pfC p).toArray=#[.bool p.1, .int .u64 ((p.2.1:Nat):Int), .int .u64 ((p.2.2.1:Nat):Int), .int .i64 p.2.2.2]:=rfl
      rw [hpc] at h1
      go_simp
      exact ⟨⟨wx.heap.size,p,rfl,Blk.new wx _ _,hk,by have:=hC.s.lt;omega⟩,⟨hC.alloc _,hB.alloc _⟩,World.grownBy_alloc _ _ _⟩
    case hendz =>
     intro T w4 ⟨n,hn,hC,hB⟩ hR
     have hT0:T 0=u2:=hR 0 (by omega)
     obtain ⟨B,p,hT8,hBl,hok,hBb⟩:=hR 6 (by omega)
     have HO4:=Lib.hid (HO2.out.gen hC hblt)
     have HG4:Hid (Gen b w w4 (m + 9)):=Lib.hid ((HG2.out.trans hC).mono (by omega))
     have HBl:=Lib.hid hBl
     have HK4:Hid (∀ q ∈ L ++ [p],OkPf q):=Lib.hid (ok_append HK.out fun q hq => by rw [List.mem_singleton.1 hq];exact hok)
     clear hR hB hBl hC hok HO2 HG2 HX2 HK
     simp only [List.drop_succ_cons,List.drop_zero]
     refine wpList_app (c:=1) pfE rfl (.tmp 21) (.tmp 27) rfl ?hsz HO4.out ?hxz (src_blk layPf p HBl.out rfl) ?c1z ?c2z ?c3z ?c4z ?_
     case hsz => exact hT0
     case hxz => exact hT8
     case c1z => exact layPf.one p
     case c2z => unfold maxLen;rw [HL.out];omega
     case c3z => rw [HL.out];omega
     case c4z => exact HG4.out.g.size
     intro v' w' hO hG
     have hbl:Below w.heap.size w4 w':=hG.below HG4.out.g.size (own_base HO4.out)
     obtain ⟨ad,c,rfl,hE⟩:=HEND.out _ (L ++ [p]) w' (OwnK.snoc hO) (by rw [List.length_append,HL.out];simp;omega) HK4.out (HG4.out.below hbl (Nat.le_refl _) hblt)
     have HE:=Lib.hid hE
     clear hE HEND hO hG hbl HO4 HG4 HBl HK4
     generalize (L ++ [p]).length=ll at *
     go_wp2_with fail
     refine HE.out.mono ?_
     rintro e w6 ⟨v,L3,rfl,h1,h2,h3,h4⟩
     have HH:=Lib.hid (And.intro h1 (And.intro h2 (And.intro h3 h4)))
     clear h1 h2 h3 h4 HE
     go_wp2_with fail
     go_ret
     exact ⟨_,_,rfl,HH.out⟩
theorem portRange_ok (b m:Nat) (w:World) (h:Strm w b m) (hm:m + 5 < 1099511627776) :
  Calls Tryz.prog 249 #[.pointer (some ⟨b,0,none⟩)] w fun e w' => ∃ f t:Int,e=.returned (.agg #[.int .i64 f, .int .i64 t])∧(0≤f∧f≤t)∧(0≤t∧t≤65535)∧Gen b w w' (m + 3):=by
 have hblt:=h.lt
 have HG0:Hid (Gen b w (w.alloc (.cells #[.int .i64 0, .int .i64 0] 132 (0,0))) m):=Lib.hid ((Gen.start h).alloc _)
 have HA0:Hid (Blk (w.alloc (.cells #[.int .i64 0, .int .i64 0] 132 (0,0))) w.heap.size 132 #[.int .i64 0, .int .i64 0]):=Lib.hid (Blk.new w _ _)
 clear h
 go_enter Tryz.func249,Tryz.ntmps249
 go_wp2_with fail
 refine (next_gen b m _ _ HG0.out.s (by omega) (by omega)).mono ?_
 rintro e w1 ⟨q,rfl,⟨hq0,hq1⟩,hg⟩
 have HG1:=Lib.hid (HG0.out.trans hg)
 have HA1:Hid (Blk w1 w.heap.size 132 #[.int .i64 0, .int .i64 0]):=Lib.hid (Blk.keep HA0.out hg.g (by omega))
 clear hg HG0 HA0
 have a0:=HA1.out.cell 0
 have a1:=HA1.out.cell 1
 have f0:=Blk.free HA1.out
 simp at a0 a1
 obtain rfl | rfl | rfl | rfl | rfl:q=0 ∨ q=1 ∨ q=2 ∨ q=3 ∨ q=4:=by omega
 ·go_wp2_with fail
  refine bodyPost_ret (v:=.agg #[.int .i64 0, .int .i64 65535]) (by simp [results,Tryz.results249,go_sem,a0,a1]) rfl ⟨_,_,rfl,by omega,by omega,?_⟩
  repeat refine Gen.setCell ?_ _ _ (Nat.le_refl _) hblt
  exact HG1.out.mono (by omega)
 ·go_wp2_with fail
  refine bodyPost_ret (v:=.agg #[.int .i64 0, .int .i64 65535]) (by simp [results,Tryz.results249,go_sem,a0,a1]) rfl ⟨_,_,rfl,by omega,by omega,?_⟩
  repeat refine Gen.setCell ?_ _ _ (Nat.le_refl _) hblt
  exact HG1.out.mono (by omega)
 ·go_wp2_with fail
  refine (pick_new b (m + 1) _ _ _ _ [80,90,443] _ HG1.out.s rfl (by omega) rfl (by decide) rfl).mono ?_
  rintro e w2 ⟨x,rfl,hx,hg⟩
  have HG2:=Lib.hid (HG1.out.trans hg)
  have HA2:Hid (Blk w2 w.heap.size 132 #[.int .i64 0, .int .i64 0]):=Lib.hid (Blk.keep HA1.out hg.g (by omega))
  have hxb:80≤x∧x≤65535:=by simp at hx;omega
  clear hg a0 a1 f0 hx HG1 HA1
  have a0:=HA2.out.cell 0
  have a1:=HA2.out.cell 1
  have f0:=Blk.free HA2.out
  simp at a0 a1
  go_wp2_with fail
  refine bodyPost_ret (v:=.agg #[.int .i64 80, .int .i64 x]) (by simp [results,Tryz.results249,go_sem,a0,a1]) rfl ⟨_,_,rfl,by omega,by omega,?_⟩
  repeat refine Gen.setCell ?_ _ _ (Nat.le_refl _) hblt
  exact HG2.out.mono (by omega)
 ·go_wp2_with fail
  refine (pick_new b (m + 1) _ _ _ _ [22,443,65535,0] _ HG1.out.s rfl (by omega) rfl (by decide) rfl).mono ?_
  rintro e w2 ⟨x,rfl,hx,hg⟩
  have HG2:=Lib.hid (HG1.out.trans hg)
  have HA2:Hid (Blk w2 w.heap.size 132 #[.int .i64 0, .int .i64 0]):=Lib.hid (Blk.keep HA1.out hg.g (by omega))
  have hxb:0≤x∧x≤65535:=by simp at hx;omega
  clear hg a0 a1 f0 hx HG1 HA1
  have a0:=HA2.out.cell 0
  have a1:=HA2.out.cell 1
  have f0:=Blk.free HA2.out
  simp at a0 a1
  go_wp2_with fail
  refine bodyPost_ret (v:=.agg #[.int .i64 x, .int .i64 x]) (by simp [results,Tryz.results249,go_sem,a0,a1]) rfl ⟨_,_,rfl,by omega,by omega,?_⟩
  repeat refine Gen.setCell ?_ _ _ (Nat.le_refl _) hblt
  exact HG2.out.mono (by omega)
 ·go_wp2_with fail
  refine (pick_new b (m + 1) _ _ _ _ [0,81,100] _ HG1.out.s rfl (by omega) rfl (by decide) rfl).mono ?_
  rintro e w2 ⟨x,rfl,hx,hg⟩
  have HG2:=Lib.hid (HG1.out.trans hg)
  have HA2:Hid (Blk w2 w.heap.size 132 #[.int .i64 0, .int .i64 0]):=Lib.hid (Blk.keep HA1.out hg.g (by omega))
  have hxb:0≤x∧x≤100:=by simp at hx;omega
  clear hg a0 a1 f0 hx HG1 HA1
  go_wp2_with fail
  refine (range_gen b (m + 1 + 1) _ _ _ HG2.out.s (by omega) (by omega) (by omega)).mono ?_
  rintro e w3 ⟨y,rfl,⟨hy0,hy1⟩,hg⟩
  have HG3:=Lib.hid (HG2.out.trans hg)
  have HA3:Hid (Blk w3 w.heap.size 132 #[.int .i64 0, .int .i64 0]):=Lib.hid (Blk.keep HA2.out hg.g (by omega))
  clear hg HG2 HA2
  have a0:=HA3.out.cell 0
  have a1:=HA3.out.cell 1
  have f0:=Blk.free HA3.out
  simp at a0 a1
  go_wp2_with fail
  refine bodyPost_ret (v:=.agg #[.int .i64 x, .int .i64 y]) (by simp [results,Tryz.results249,go_sem,a0,a1]) rfl ⟨_,_,rfl,by omega,by omega,?_⟩
  repeat refine Gen.setCell ?_ _ _ (Nat.le_refl _) hblt
  exact HG3.out.mono (by omega)
def encP (p:Int × Int):List Value:=[.int .i64 p.1, .int .i64 p.2]
def encPs (L:List (Int × Int)):List Value:=L.flatMap encP
theorem encPs_len:∀ L:List (Int × Int),(encPs L).length=L.length * 2
 | [] => rfl
 | p :: L => by have:=encPs_len L;simp [encPs,encP] at this ⊢;omega
theorem encPs_append (A B:List (Int × Int)):encPs (A ++ B)=encPs A ++ encPs B:=by simp [encPs]
theorem encPs_get:∀ (L:List (Int × Int)) (i:Nat),i < L.length→(encPs L)[i * 2]?=some (.int .i64 (L.getD i (0,0)).1)∧(encPs L)[i * 2 + 1]?=some (.int .i64 (L.getD i (0,0)).2)
 | [],i,h => by simp at h
 | p :: L,0,h => by simp [encPs,encP]
 | p :: L,i + 1,h => by
   have:=encPs_get L i (by simpa using h)
   rw [show (i + 1) * 2=i * 2 + 1 + 1 by omega]
   simpa [encPs,encP] using this
theorem encPs_set1:∀ (L:List (Int × Int)) (i:Nat) (x:Int),i < L.length→(encPs L).set (i * 2 + 1) (.int .i64 x)=encPs (L.set i ((L.getD i (0,0)).1,x))
 | [],i,x,h => by simp at h
 | p :: L,0,x,h => by simp [encPs,encP]
 | p :: L,i + 1,x,h => by
   have:=encPs_set1 L i x (by simpa using h)
   rw [show (i + 1) * 2 + 1=i * 2 + 1 + 1 + 1 by omega]
   simp [encPs,encP] at this ⊢
   exact this
def OwnP (w:World) (base:Nat) (v:Value) (L:List (Int × Int)):Prop:=w.ownsRow base 132 2 v L.length (encPs L)
theorem portE:EI Tryz.prog 127 132 2 16:=EI.mk' (z:=.agg #[.int .i64 0, .int .i64 0]) Tryz.underlying127 (by kernel_rfl) rfl (by decide)
theorem OwnP.nil (w:World) (base:Nat):OwnP w base (.slice none 0 0) []:=World.ownsRow_nil w base _ 2
theorem OwnP.weak {w:World} {base base':Nat} {v:Value} {L:List (Int × Int)} (h:OwnP w base v L) (hb:base'≤base):OwnP w base' v L:=own_weak h hb
theorem OwnP.gen {w w':World} {b B m:Nat} {v:Value} {L:List (Int × Int)} (h:OwnP w B v L) (hg:Gen b w w' m) (hb:b < B):OwnP w' B v L :=
 World.ownsRow.kept h hg.g (by
  cases hv:v.ownBlock with
  | none => exact .inl rfl
  | some k => exact .inr (by have:=own_base h k hv;simp;omega))
theorem OwnP.snoc {w:World} {B:Nat} {v:Value} {L:List (Int × Int)} {p:Int × Int} (h:w.ownsRow B 132 2 v (L.length + 1) (encPs L ++ [.int .i64 p.1, .int .i64 p.2])):OwnP w B v (L ++ [p]):=by
 show w.ownsRow _ _ _ _ _ _
 rw [List.length_append,encPs_append]
 simpa [encPs,encP] using h
theorem OwnP.one {w:World} {B:Nat} {v:Value} {L:List (Int × Int)} (h:OwnP w B v L) (hl:1≤L.length) :
  ∃ g c,v=.slice (some ⟨g,0,none⟩) L.length c∧B≤g∧g < w.heap.size∧L.length≤c∧c≤maxLen:=by
 rcases h.2 with ⟨rfl,h0⟩ | ⟨g,cap,cur,rfl,hb,hg,hc,hm,hs,ht⟩
 ·omega
 ·exact ⟨g,cap,rfl,hb,lt_of_block hg,hc,hm⟩
theorem OwnP.block {w:World} {B g n c:Nat} {L:List (Int × Int)} (h:OwnP w B (.slice (some ⟨g,0,none⟩) n c) L):n=L.length∧B≤g∧n≤c∧c≤maxLen∧∃ cur,w.heap[g]?=some (.cells cur 132 (0,0))∧cur.size=c * 2∧cur.toList.take (L.length * 2)=encPs L:=by
 rcases h.2 with ⟨hv,_⟩ | ⟨g2,c2,cur,hv,hb,hg,hc,hm,hs,ht⟩
 ·cases hv
 ·simp at hv
  obtain ⟨rfl,rfl,rfl⟩:=hv
  exact ⟨rfl,hb,hc,hm,cur,hg,hs,ht⟩
theorem OwnP.frozen {w:World} {B g c n:Nat} {L:List (Int × Int)} (h:OwnP w B (.slice (some ⟨g,0,none⟩) n c) L) (i:Nat):w.frozen? ⟨g,i,none⟩=false:=by
 obtain ⟨_,_,_,_,cur,hg,_⟩:=h.block
 exact frozen_of_row w g i cur _ hg
theorem OwnP.get {w:World} {B g c n:Nat} {L:List (Int × Int)} (h:OwnP w B (.slice (some ⟨g,0,none⟩) n c) L) (i:Nat) (hi:i < L.length) :
  w.cell? ⟨g,i * 2,none⟩=some (.int .i64 (L.getD i (0,0)).1)∧w.cell? ⟨g,i * 2 + 1,none⟩=some (.int .i64 (L.getD i (0,0)).2):=by
 obtain ⟨_,_,_,_,cur,hg,hs,ht⟩:=h.block
 obtain ⟨h0,h1⟩:=encPs_get L i hi
 rw [cell_of_row w g _ _ _ _ hg,cell_of_row w g _ _ _ _ hg]
 rw [← ht,List.getElem?_take,if_pos (by omega),Array.getElem?_toList] at h0 h1
 exact ⟨h0,h1⟩
theorem OwnP.setTo {w:World} {B g c n:Nat} {L:List (Int × Int)} (h:OwnP w B (.slice (some ⟨g,0,none⟩) n c) L) (i:Nat) (hi:i < L.length) (x:Int) :
  OwnP (w.setCell ⟨g,i * 2 + 1,none⟩ (.int .i64 x)) B (.slice (some ⟨g,0,none⟩) n c) (L.set i ((L.getD i (0,0)).1,x)):=by
 obtain ⟨rfl,hb,hc,hm,cur,hg,hs,ht⟩:=h.block
 refine ⟨by rw [encPs_len], .inr ⟨g,c,cur.setIfInBounds (i * 2 + 1) (.int .i64 x),by simp,hb,heap_setCell_same w g _ cur _ _ hg,by simpa using hc,hm,by simpa using hs,?_⟩⟩
 rw [Array.toList_setIfInBounds,List.take_set,List.length_set,ht,encPs_set1 _ _ _ hi]
theorem OwnP.rd {w:World} {B n c:Nat} {ad:Option Addr} {L:List (Int × Int)} (h:OwnP w B (.slice ad n c) L) (hl:L.length≤1000):RdP w ad L:=by
 refine ⟨hl,fun i hi => ?_⟩
 obtain ⟨g,c',hv,_,hg,_⟩:=h.one (by omega)
 simp at hv
 obtain ⟨rfl,rfl,rfl⟩:=hv
 exact ⟨g,0,rfl,hg,by rw [Nat.zero_add];exact (h.get i hi).1,by rw [Nat.zero_add];exact (h.get i hi).2⟩
theorem OwnP.form {w:World} {B:Nat} {v:Value} {L:List (Int × Int)} (h:OwnP w B v L):∃ ad c,v=.slice ad L.length c∧Src w ad L.length 2 (encPs L)∧L.length≤c∧c≤maxLen:=own_form h
theorem src_two_new (w:World) (x y:Value) (t:TypeId):Src (w.alloc (.cells #[x,y] t)) (some ⟨w.heap.size,0,none⟩) 1 2 [x,y] :=
 ⟨rfl,fun j u hu => ⟨_,rfl,by simp,by
  have hadd:(⟨w.heap.size,0,none⟩:Addr).add j=⟨w.heap.size,j,none⟩:=by unfold Addr.add;split <;> simp_all
  rw [hadd,cell_of_row _ w.heap.size j _ _ _ (heap_alloc_new w _)]
  simpa using hu⟩⟩
def offs:List Value→Bool
 | .bool false :: l => offs l
 | [] => true
 | _ => false
theorem offs_get:∀ (l:List Value) (i:Nat),offs l=true→i < l.length→l[i]?=some (.bool false)
 | [],i,_,h => by simp at h
 | v :: l,0,h,_ => by
   cases v with
   | bool b => cases b with
    | false => rfl
    | true => cases h
   | _ => cases h
 | v :: l,i + 1,h,hi => by
   have:offs l=true:=by
    cases v with
    | bool b => cases b with
     | false => exact h
     | true => cases h
    | _ => cases h
   rw [List.getElem?_cons_succ]
   exact offs_get l i this (by simpa using hi)
def PI (M:List (Nat × Nat)):List (Int × Int):=M.map fun p => ((p.1:Int),(p.2:Int))
theorem PI_len (M:List (Nat × Nat)):(PI M).length=M.length:=by simp [PI]
theorem PI_get (M:List (Nat × Nat)) (i:Nat) (h:i < M.length):(PI M).getD i (0,0)=(((M.getD i (0,0)).1:Int),((M.getD i (0,0)).2:Int)):=by simp [PI,List.getD,h]
theorem PI_append (A B:List (Nat × Nat)):PI (A ++ B)=PI A ++ PI B:=by simp [PI]
theorem inRow_succ (M:List (Nat × Nat)) (k:Nat) (h:k < M.length) (i:Nat):inRow (M.take (k + 1)) i=(inRow (M.take k) i || (decide ((M.getD k (0,0)).1≤i) && decide (i≤(M.getD k (0,0)).2))):=by
 unfold inRow
 rw [List.take_succ_eq_append_getElem h,List.any_append]
 simp [List.getD,h]
theorem scan_succ (P:Nat→Bool) (n:Nat):scan P (n + 1)=if P n=false then scan P n else if 0 < n∧P (n - 1)=true then (scan P n).dropLast ++ [(((scan P n).getLastD (0,0)).1,n)] else scan P n ++ [(n,n)]:=rfl
theorem scan_len (P:Nat→Bool):∀ n,(scan P n).length≤n
 | 0 => Nat.le_refl _
 | n + 1 => by
   have:=scan_len P n
   unfold scan
   split
   ·omega
   ·split
    ·simp;omega
    ·simp;omega
structure HasB (w:World) (b:Nat) (f:Nat→Bool):Prop where
 ex:∃ cur,w.heap[b]?=some (.cells cur 307 (0,0))∧cur.size=65537∧∀ i,i < 65537→cur[i]?=some (.bool (f i))
theorem HasB.lt {w:World} {b:Nat} {f:Nat→Bool} (h:HasB w b f):b < w.heap.size:=by
 obtain ⟨cur,hb,_⟩:=h.ex
 exact lt_of_block hb
theorem HasB.get {w:World} {b:Nat} {f:Nat→Bool} (h:HasB w b f) (i:Nat) (hi:i < 65537):w.cell? ⟨b,i,none⟩=some (.bool (f i)):=by
 obtain ⟨cur,hb,_,hc⟩:=h.ex
 rw [cell_of_row w b i _ _ _ hb];exact hc i hi
theorem HasB.frozen {w:World} {b:Nat} {f:Nat→Bool} (h:HasB w b f) (i:Nat):w.frozen? ⟨b,i,none⟩=false:=by
 obtain ⟨cur,hb,_⟩:=h.ex
 exact frozen_of_row w b i cur _ hb
theorem HasB.below {w w':World} {b B:Nat} {f:Nat→Bool} (h:HasB w b f) (hb:Below B w w') (hB:b < B):HasB w' b f:=by
 obtain ⟨cur,hc,r⟩:=h.ex
 exact ⟨cur,(hb.block b hB).trans hc,r⟩
theorem HasB.later {w w':World} {b:Nat} {f:Nat→Bool} (h:HasB w b f) (hb:Below w.heap.size w w'):HasB w' b f:=h.below hb h.lt
theorem HasB.on {w:World} {b:Nat} {f:Nat→Bool} (h:HasB w b f) (i:Nat):HasB (w.setCell ⟨b,i,none⟩ (.bool true)) b (fun j => f j || decide (j=i)):=by
 obtain ⟨cur,hb,hs,hc⟩:=h.ex
 refine ⟨cur.setIfInBounds i (.bool true),heap_setCell_same w b i cur _ _ hb,by simpa using hs,fun j hj => ?_⟩
 by_cases e:j=i
 ·subst e
  rw [Array.getElem?_setIfInBounds_self_of_lt (by omega)]
  simp
 ·rw [Array.getElem?_setIfInBounds_ne (Ne.symm e),hc j hj]
  simp [e]
theorem HasB.eq {w:World} {b:Nat} {f g:Nat→Bool} (h:HasB w b f) (e:∀ i,f i=g i):HasB w b g:=by
 have:f=g:=funext e
 rw [← this];exact h
theorem offs_zero:offs Tryz.zeroCells307.toList=true:=by kernel_rfl
theorem HasB.new (w:World):HasB (w.alloc (.cells Tryz.zeroCells307 307 (0,0))) w.heap.size (fun _ => false):=by
 have h:=offs_zero
 have hs:=Tryz.zeroCells307_size
 generalize Tryz.zeroCells307=Z at *
 refine ⟨Z,heap_alloc_new w _,hs,fun i hi => ?_⟩
 rw [← Array.getElem?_toList]
 exact offs_get _ _ h (by simpa [hs] using hi)
theorem leastPortsOf_any (ad:Option Addr) (n c:Nat) (M:List (Nat × Nat)) (w:World) (h:RdP w ad (PI M)) (hn:M.length=n) (hv:∀ p ∈ M,p.1≤p.2∧p.2 < 65536) :
  Calls Tryz.prog 250 #[.slice ad n c] w fun e w' => ∃ v,e=.returned v∧OwnP w' w.heap.size v (PI (scan (inRow M) 65536))∧Below w.heap.size w w':=by
 have hs:=h.small
 rw [PI_len,hn] at hs
 obtain ⟨N,hN⟩:∃ N:Nat,N=65536:=⟨_,rfl⟩
 rw [show scan (inRow M) 65536=scan (inRow M) N by rw [hN]]
 have HN:=Lib.hid hN
 clear hN
 have H0:=Lib.hid h
 have Hn:=Lib.hid hn
 have Hv:=Lib.hid hv
 clear h hn hv
 have HA:=Lib.hid (HasB.new w)
 have HB0:Hid (Below w.heap.size w (w.alloc (.cells Tryz.zeroCells307 307 (0,0)))):=Lib.hid (below_alloc (Below.refl _ _) _)
 go_enter Tryz.func250,Tryz.ntmps250
 go_upto_region 2 with fail
 generalize w.alloc (.cells Tryz.zeroCells307 307 (0,0))=w0 at *
 have hb0:=HA.out.lt
 generalize hbw:w.heap.size=b at *
 have Hbw:=Lib.hid hbw
 clear hbw
 go_wp2
 go_loopw [5,6,11] (fun bx kv i wr => ∃ (k:Nat),k≤n∧i=.int .i64 k∧Hid (HasB wr b (inRow (M.take k)))∧Hid (Below b w wr)) (fun _ _ i _ => n - (intOf i).toNat)
 case atStart => exact ⟨0,Nat.zero_le _,rfl,Lib.hid HA.out,HB0⟩
 case round =>
  obtain ⟨k,hk,rfl,HX,HB⟩:=hrel
  by_cases hlt:k < n
  ·obtain ⟨g,o,had,hg,c0,c1⟩:=(H0.out.below (w':=wr) (by rw [Hbw.out];exact HB.out)).cell k (by rw [PI_len,Hn.out];exact hlt)
   rw [PI_get M k (by rw [Hn.out];exact hlt)] at c0 c1
   subst had
   obtain ⟨p,hp⟩:∃ p,M.getD k (0,0)=p:=⟨_,rfl⟩
   rw [hp] at c0 c1
   have Hp:=Lib.hid hp
   clear hp
   obtain ⟨f,t⟩:=p
   simp only at c0 c1
   have hv:=Hv.out (f,t) (by rw [← Hp.out,List.getD_eq_getElem?_getD,List.getElem?_eq_getElem (by rw [Hn.out];exact hlt)];exact List.getElem_mem _)
   obtain ⟨hv1,hv2⟩:=hv
   simp only at hv1 hv2
   have hX1:=HX.out.lt
   have HB1:Hid (Below b w (wr.alloc (.cells #[.int .i64 (f:Int), .int .i64 (t:Int)] 132 (0,0)))):=Lib.hid (Below.alloc HB.out (by omega) _)
   have HX1:Hid (HasB (wr.alloc (.cells #[.int .i64 (f:Int), .int .i64 (t:Int)] 132 (0,0))) b (inRow (M.take k))):=Lib.hid (HX.out.later (below_alloc (Below.refl _ _) _))
   have HP1:Hid (Blk (wr.alloc (.cells #[.int .i64 (f:Int), .int .i64 (t:Int)] 132 (0,0))) wr.heap.size 132 #[.int .i64 (f:Int), .int .i64 (t:Int)]):=Lib.hid (Blk.new wr _ _)
   go_upto_region 5 with fail
   generalize wr.alloc (.cells #[.int .i64 (f:Int), .int .i64 (t:Int)] 132 (0,0))=w1 at *
   generalize wr.heap.size=bx at *
   clear HX HB c0 c1 hg
   have c0:=HP1.out.cell 0
   simp at c0
   go_upto_region 6 with fail
   clear c0
   go_wp2
   go_loopw [6] (fun kv wr => ∃ j:Nat,f≤j∧j≤t + 1∧kv=.int .i64 j∧Hid (HasB wr b (fun i => inRow (M.take k) i || (decide (f≤i) && decide (i < j))))∧Hid (Below b w wr)∧Hid (Blk wr bx 132 #[.int .i64 (f:Int), .int .i64 (t:Int)])) (fun kv _ => t + 1 - (intOf kv).toNat)
   case atStart => exact ⟨f,Nat.le_refl _,by omega,rfl,Lib.hid (HX1.out.eq fun i => by simp;intros;omega),HB1,HP1⟩
   case round =>
    obtain ⟨j,hj1,hj2,rfl,HX,HB,HP⟩:=hrel
    have c1:=HP.out.cell 1
    simp at c1
    by_cases hjt:j≤t
    ·have f0:=HX.out.frozen j
     have hc0:=HX.out.get j (by omega)
     go_wp2
     refine ⟨⟨j + 1,by omega,by omega,by go_num,Lib.hid ((HX.out.on j).eq fun i => ?_),Lib.hid (Below.setCell HB.out (Nat.le_refl _) _),Lib.hid (Blk.far HP.out (by omega) j _)⟩,by simp [intOf];omega⟩
     have e:(decide (f≤i) && decide (i < j) || decide (i=j))=(decide (f≤i) && decide (i < j + 1)):=by rw [Bool.eq_iff_iff];simp;omega
     rw [Bool.or_assoc,e]
    ·obtain rfl:j=t + 1:=by omega
     go_wp2
     refine ⟨⟨k + 1,by omega,by go_num,Lib.hid (HX.out.eq fun i => ?_),HB⟩,by simp [intOf];omega⟩
     rw [inRow_succ M k (by rw [Hn.out];exact hlt),Hp.out]
     simp only [Nat.lt_succ_iff]
  ·obtain rfl:k=n:=by omega
   have HX2:Hid (HasB wr b (inRow M)):=Lib.hid (by have:=HX.out;rwa [List.take_of_length_le (by rw [Hn.out];exact Nat.le_refl _)] at this)
   generalize hPM:inRow M=P at *
   have HPM:=Lib.hid hPM
   clear hPM
   clear HX
   have HB2:=HB
   clear HB
   go_wp2
   go_loopw [7,8,26,35,40] (fun s kv i q1 q2 wr => ∃ k:Nat,k≤N∧i=.int .i64 k∧Hid (OwnP wr (b + 1) s (PI (scan P k)))∧Hid (HasB wr b P)∧Hid (Below b w wr)) (fun _ _ i _ _ _ => N - (intOf i).toNat)
   case atStart => exact ⟨0,Nat.zero_le _,rfl,Lib.hid (OwnP.nil _ _),HX2,HB2⟩
   case round =>
    clear HX2 HB2 hlt
    obtain ⟨k,hk,rfl,HO,HX,HB⟩:=hrel
    have HL:Hid ((PI (scan P k)).length≤k):=Lib.hid (by rw [PI_len];exact scan_len P k)
    by_cases hlt:k < N
    ·have hk5:(k:Int) < 65536:=by have:=HN.out;omega
     have ck:=HX.out.get k (by omega)
     cases hP:P k
     ·have Hs:Hid (scan P (k + 1)=scan P k):=Lib.hid (by rw [scan_succ,if_pos hP])
      rw [hP] at ck
      clear hP
      go_wp2
      exact ⟨⟨k + 1,by omega,by go_num,Lib.hid (by rw [Hs.out];exact HO.out),HX,HB⟩,by simp [intOf];omega⟩
     ·rw [hP] at ck
      rcases Nat.eq_zero_or_pos k with hk0 | hk0
      ·subst hk0
       have Hs:Hid (scan P (0 + 1)=scan P 0 ++ [(0,0)]):=Lib.hid (by rw [scan_succ,if_neg (by rw [hP];decide),if_neg (by omega)])
       clear hP
       go_wp2_with (at_builtin;refine wpList_app portE rfl (.tmp 29) (.tmp 33) rfl rfl (World.ownsRow.alloc HO.out _) rfl (src_two_new _ _ _ _) ?c1 ?c2 ?c3 ?c4 ?_)
       case c1 => intro u hu;simp at hu;rcases hu with rfl | rfl <;> rfl
       case c2 => have:=HL.out;unfold maxLen;omega
       case c3 => have:=HL.out;omega
       case c4 => have:=HX.out.lt;simp;omega
       intro v' w' hO hG
       have HO':Hid (OwnP w' (b + 1) v' (PI (scan P (0 + 1)))):=Lib.hid (by
        rw [Hs.out,PI_append]
        exact OwnP.snoc hO)
       have hB2:Below (b + 1) wr w':=(Below.alloc (Below.refl _ _) HX.out.lt _).trans (hG.below (by have:=HX.out.lt;simp;omega) (own_base HO.out))
       have HX':Hid (HasB w' b P):=Lib.hid (HX.out.below hB2 (Nat.lt_succ_self _))
       have HB':Hid (Below b w w'):=Lib.hid (HB.out.trans (hB2.mono (Nat.le_succ _)))
       clear hO hG hB2
       go_wp2
       exact ⟨⟨0 + 1,by omega,by go_num,HO',HX',HB'⟩,by simp [intOf];omega⟩
      ·obtain ⟨j,hj⟩:∃ j,k - 1=j:=⟨_,rfl⟩
       have cj:=HX.out.get j (by omega)
       have hj5:(j:Int) < 65537:=by omega
       have hj6:(k:Int) > 0:=by omega
       have hj7:(k:Int) - 1=j:=by omega
       cases hQ:P j
       ·have Hs:Hid (scan P (k + 1)=scan P k ++ [(k,k)]):=Lib.hid (by rw [scan_succ,if_neg (by rw [hP];decide),if_neg (by rw [hj,hQ];simp)])
        rw [hQ] at cj
        clear hP hQ hj
        go_wp2_with (at_builtin;refine wpList_app portE rfl (.tmp 29) (.tmp 33) rfl rfl (World.ownsRow.alloc HO.out _) rfl (src_two_new _ _ _ _) ?c1 ?c2 ?c3 ?c4 ?_)
        case c1 => intro u hu;simp at hu;rcases hu with rfl | rfl <;> rfl
        case c2 => have:=HL.out;unfold maxLen;omega
        case c3 => have:=HL.out;omega
        case c4 => have:=HX.out.lt;simp;omega
        intro v' w' hO hG
        have HO':Hid (OwnP w' (b + 1) v' (PI (scan P (k + 1)))):=Lib.hid (by
         rw [Hs.out,PI_append]
         exact OwnP.snoc hO)
        have hB2:Below (b + 1) wr w':=(Below.alloc (Below.refl _ _) HX.out.lt _).trans (hG.below (by have:=HX.out.lt;simp;omega) (own_base HO.out))
        have HX':Hid (HasB w' b P):=Lib.hid (HX.out.below hB2 (Nat.lt_succ_self _))
        have HB':Hid (Below b w w'):=Lib.hid (HB.out.trans (hB2.mono (Nat.le_succ _)))
        clear hO hG hB2
        go_wp2
        exact ⟨⟨k + 1,by omega,by go_num,HO',HX',HB'⟩,by simp [intOf];omega⟩
       ·obtain ⟨B,f,hB⟩:=(scan_spec P k).2.2 hk0 (by rw [hj];exact hQ)
        have Hs:Hid (scan P (k + 1)=B ++ [(f,k)]):=Lib.hid (by rw [scan_succ,if_neg (by rw [hP];decide),if_pos ⟨hk0,by rw [hj];exact hQ⟩,hB,List.dropLast_concat,List.getLastD_eq_getLast?,List.getLast?_concat,Option.getD_some])
        rw [hQ] at cj
        have hmk:B.length + 1≤k:=by have:=scan_len P k;rw [hB] at this;simpa using this
        have hO:OwnP wr (b + 1) u7 (PI B ++ [((f:Int),((k - 1:Nat):Int))]):=by have:=HO.out;rw [hB,PI_append] at this;exact this
        obtain ⟨g,c',hv,hg,hgl,hc1,hc2⟩:=hO.one (by simp)
        subst hv
        have hl1:(PI B ++ [((f:Int),((k - 1:Nat):Int))]).length=B.length + 1:=by simp [PI]
        have HO2:=Lib.hid hO
        have f1:=hO.frozen (B.length * 2 + 1)
        obtain ⟨y,hy⟩:∃ y,wr.cell? ⟨g,B.length * 2 + 1,none⟩=some (.int .i64 y):=⟨_,(hO.get B.length (by rw [hl1];omega)).2⟩
        have hset:=hO.setTo B.length (by rw [hl1];omega) (k:Int)
        rw [show (PI B ++ [((f:Int),((k - 1:Nat):Int))]).set B.length (((PI B ++ [((f:Int),((k - 1:Nat):Int))]).getD B.length (0,0)).1,(k:Int))=PI (scan P (k + 1)) by
         rw [Hs.out,PI_append];simp [PI,List.getD]] at hset
        rw [hl1] at hset hc1 ⊢
        have HS:=Lib.hid hset
        clear hP hQ hB HO hO hset hj
        have hlen:((B.length + 1:Nat):Int) - 1=(B.length:Int):=by omega
        clear hl1 HO2
        generalize B.length=m at *
        go_upto_region 13 with fail
        go_upto_region 15 with fail
        go_upto_region 16 with fail
        go_upto_region 17 with fail
        have hm1:(m:Int) < ((m + 1:Nat):Int):=by omega
        have hm2:m < m + 1:=by omega
        generalize m + 1=n1 at *
        clear hc2 Hs
        have hm3:(n1:Int)≤65536:=by omega
        go_wp2_with fail
        exact ⟨⟨k + 1,by omega,by go_num,HS,Lib.hid (HX.out.below (B:=b + 1) (Below.setCell (Below.refl _ _) hg _) (Nat.lt_succ_self _)),Lib.hid (Below.setCell HB.out (by simp only;omega) _)⟩,by simp [intOf];omega⟩
    ·obtain rfl:k=N:=by omega
     have hk5:(k:Int)=65536:=by have:=HN.out;omega
     go_wp2
     go_ret
     refine ⟨_,rfl,?_,by have:=HB.out;rwa [← Hbw.out] at this⟩
     rw [HPM.out]
     exact OwnP.weak (base:=b + 1) (base':=w.heap.size) HO.out (by have:=Hbw.out;omega)
theorem qhasPorts_any (p:Int) (w:World):Calls Tryz.prog 109 #[.int .i64 p] w fun e w' => e=.returned (.bool (decide (p=0) || hasPorts p))∧w=w':=by
 go_enter Tryz.func109,Tryz.ntmps109
 go_wp2
 all_goals (go_ret;exact ⟨by (simp_all [hasPorts];try (rw [Bool.eq_iff_iff];simp_all)),rfl⟩)
theorem guard_ports (x y:Operand) (a b c d:Int) (w:World):(eqGuard .neq 132 x y (.agg #[.int .i64 a, .int .i64 b]) (.agg #[.int .i64 c, .int .i64 d])).run Tryz.prog w=.ok () w :=
 run_eqGuard_agg w _ _ _ _ _ _ (by kernel_rfl)
theorem neq_ports (a b c d:Int) (w:World):(binOp .neq 132 (.agg #[.int .i64 a, .int .i64 b]) (.agg #[.int .i64 c, .int .i64 d])).run Tryz.prog w=.ok (.bool (decide ((a,b) ≠ (c,d)))) w:=by
 have u3:=Tryz.underlying3
 have a3:=Tryz.isAgg3
 have z3:=Tryz.sizeOf3
 have hS:Tryz.prog.underlying 132=some (.struct (Tryz.prog.fieldsOf 132)):=by kernel_rfl
 have hp:Tryz.prog.stoodInHeld 132=false:=by kernel_rfl
 rw [run_neq_struct,show (10000:Nat)=9999 + 1 from rfl,run_equalIn_agg w 9999 132 _ _ hS hp]
 simp only [Program.fieldsOf,Tryz.underlying132]
 go_simp
 by_cases h1:a=c <;> by_cases h2:b=d <;> simp [h1,h2]
theorem equal_ports (a1 a2:Option Addr) (c1 c2:Nat) (xs ys:List (Int × Int)) (w:World) (h1:RdP w a1 xs) (h2:RdP w a2 ys) :
  Calls Tryz.prog 110 #[.slice a1 xs.length c1, .slice a2 ys.length c2] w fun e w' => e=.returned (.bool (decide (xs=ys)))∧∃ n,w'=w.drewN n:=by
 have hs1:=h1.small
 generalize hn:xs.length=n
 rw [hn] at hs1
 have gp:=guard_ports
 have np:=neq_ports
 by_cases hl:xs.length=ys.length
 ·rw [← hl,hn]
  have Hn:=Lib.hid hn
  have Hl:=Lib.hid hl
  clear hn hl
  go_enter Tryz.func110,Tryz.ntmps110
  go_wp2
  go_loopw [13] (fun i wr => ∃ (k q:Nat),k≤n∧i=.int .i64 k∧xs.take k=ys.take k∧wr=w.drewN q) (fun i _ => n - (intOf i).toNat)
  case atStart => exact ⟨0,0,Nat.zero_le _,rfl,rfl,rfl⟩
  case round =>
   obtain ⟨k,q,hk,rfl,heq,rfl⟩:=hrel
   have Heq:=Lib.hid heq
   clear heq
   by_cases hlt:k < n
   ·obtain ⟨g1,o1,e1,hg1,c10,c11⟩:=h1.cell k (by rw [Hn.out];exact hlt)
    obtain ⟨g2,o2,e2,hg2,c20,c21⟩:=h2.cell k (by rw [← Hl.out,Hn.out];exact hlt)
    have hx:xs.take (k + 1)=xs.take k ++ [xs.getD k (0,0)]:=by
     rw [List.take_succ_eq_append_getElem (by rw [Hn.out];exact hlt)]
     simp [List.getD,List.getElem?_eq_getElem (show k < xs.length by rw [Hn.out];exact hlt)]
    have hy:ys.take (k + 1)=ys.take k ++ [ys.getD k (0,0)]:=by
     rw [List.take_succ_eq_append_getElem (by rw [← Hl.out,Hn.out];exact hlt)]
     simp [List.getD,List.getElem?_eq_getElem (show k < ys.length by rw [← Hl.out,Hn.out];exact hlt)]
    have hne:xs=ys→xs.getD k (0,0)=ys.getD k (0,0):=by rintro rfl;rfl
    have Hx:=Lib.hid hx
    have Hy:=Lib.hid hy
    have Hne:=Lib.hid hne
    clear hx hy hne
    subst e1 e2
    generalize xs.getD k (0,0)=x at *
    generalize ys.getD k (0,0)=y at *
    obtain ⟨xa,xb⟩:=x
    obtain ⟨ya,yb⟩:=y
    simp only at c10 c11 c20 c21
    by_cases hxy:(xa,xb)=(ya,yb)
    ·have hd:decide ((xa,xb) ≠ (ya,yb))=false:=by simp [hxy]
     have np':∀ w,(binOp .neq 132 (.agg #[.int .i64 xa, .int .i64 xb]) (.agg #[.int .i64 ya, .int .i64 yb])).run Tryz.prog w=.ok (.bool false) w:=fun w => by rw [np,hd]
     have Hxy:=Lib.hid hxy
     clear np hd hxy
     go_wp2_with fail
     go_quiet (fail)
     go_wp2_with fail
     refine ⟨⟨k + 1,_,by omega,by go_num,?_,rfl⟩,by simp [intOf];omega⟩
     rw [Hx.out,Hy.out,Heq.out,Hxy.out]
    ·have hd:decide ((xa,xb) ≠ (ya,yb))=true:=by simp [hxy]
     have np':∀ w,(binOp .neq 132 (.agg #[.int .i64 xa, .int .i64 xb]) (.agg #[.int .i64 ya, .int .i64 yb])).run Tryz.prog w=.ok (.bool true) w:=fun w => by rw [np,hd]
     have Hxy:Hid (decide (xs=ys)=false):=Lib.hid (decide_eq_false fun e => hxy (Hne.out e))
     clear np hd hxy
     go_wp2_with fail
     go_quiet (fail)
     go_wp2_with fail
     go_ret
     exact ⟨by rw [Hxy.out];rfl,q + nq,by rw [World.drewN_drewN]⟩
   ·obtain rfl:k=n:=by omega
    have hxy:xs=ys:=by
     have:=Heq.out
     rwa [List.take_of_length_le (by rw [Hn.out];exact Nat.le_refl _),List.take_of_length_le (by rw [← Hl.out,Hn.out];exact Nat.le_refl _)] at this
    have Hxy:=Lib.hid hxy
    clear hxy
    go_wp2
    go_ret
    exact ⟨by simp [Hxy.out],_,rfl⟩
 ·have hxy:xs ≠ ys:=fun e => hl (by rw [e])
  have Hxy:=Lib.hid hxy
  have hnb:((n:Int) != (ys.length:Int))=true:=by rw [bne_iff_ne];omega
  have hnb2:n ≠ ys.length:=by omega
  clear hxy hn hl
  go_enter Tryz.func110,Tryz.ntmps110
  go_wp2
  go_ret
  exact ⟨by simp [Hxy.out],0,rfl⟩
theorem checkPortsG (ad:Option Addr) (n c:Nat) (L:List (Int × Int)) (w:World) (h:RdK layPo w ad L) (hn:L.length=n) (hs:n≤1000000):Calls Tryz.prog 182 #[.slice ad n c] w (Ret (.int .i64 (portsG L)) w):=by
 by_cases hb:1000 < n
 ·have e:portsG L=2:=by unfold portsG;rw [hn,if_pos hb]
  rw [e]
  have hb2:(n:Int) > 1000:=by omega
  clear h hn e
  go_enter Tryz.func182,Tryz.ntmps182
  go_wp2_with fail
  go_ret
  exact ⟨rfl,Below.refl _ _⟩
 ·have e:portsG L=portsF L:=by unfold portsG;rw [hn,if_neg hb]
  rw [e]
  exact checkPorts ad n c L w (rdP_of h (by omega)) hn
theorem qPortsG (ad:Option Addr) (n c:Nat) (L:List (Int × Int)) (w:World) (h:RdK layPo w ad L) (hn:L.length=n) (hs:n≤1000000):Calls Tryz.prog 108 #[.slice ad n c] w (Ret (.int .i64 (portsG L)) w):=by
 by_cases hb:1000 < n
 ·have e:portsG L=2:=by unfold portsG;rw [hn,if_pos hb]
  rw [e]
  have hb2:(n:Int) > 1000:=by omega
  clear h hn e
  go_enter Tryz.func108,Tryz.ntmps108
  go_wp2_with fail
  go_ret
  exact ⟨rfl,Below.refl _ _⟩
 ·have e:portsG L=portsF L:=by unfold portsG;rw [hn,if_neg hb]
  rw [e]
  exact qPorts ad n c L w (rdP_of h (by omega)) hn
theorem equal_allG (ad:Option Addr) (n c:Nat) (L:List (Int × Int)) (w:World) (h:RdK layPo w ad L) (hn:L.length=n) (hs:n≤1000000) (gx cx:Nat) (hr:RdP w (some ⟨gx,0,none⟩) [(0,65535)]) :
  Calls Tryz.prog 110 #[.slice ad n c, .slice (some ⟨gx,0,none⟩) (1:Nat) cx] w fun e w' => e=.returned (.bool (decide (L=[(0,65535)])))∧∃ q,w'=w.drewN q:=by
 by_cases hb:1000 < n
 ·have e:decide (L=[((0:Int),(65535:Int))])=false:=by
   rw [decide_eq_false_iff_not]
   rintro rfl
   simp at hn
   omega
  rw [e]
  have hne:¬ (n:Int)=1:=by omega
  clear h hn e hr
  go_enter Tryz.func110,Tryz.ntmps110
  go_wp2_with fail
  go_ret
  exact ⟨rfl,0,rfl⟩
 ·have:=equal_ports ad (some ⟨gx,0,none⟩) c cx L [(0,65535)] w (rdP_of h (by omega)) hr
  rw [hn] at this
  exact this
def be (n:Nat):Nat→List UInt8
 | 0 => []
 | k + 1 => UInt8.ofNat (n / 256 ^ k) :: be n k
end Go.Proofs.YtdhldhkhpndpjaaGreatDoor
