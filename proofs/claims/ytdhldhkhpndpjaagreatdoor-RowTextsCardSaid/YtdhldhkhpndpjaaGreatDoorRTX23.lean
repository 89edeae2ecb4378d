/-
  A line of a row, as the program and the reference read it. Condition: at most two hundred thousand bytes.
  A line of a row, as the reference reads it. Condition: at most two hundred thousand bytes.
  kit.Lines and ReadSet, of the program. Condition: at most a million bytes.
  Rows read: filter.Read, the reference's RowsRead. Condition: the variables that the functions read.
  filter.Text. Condition: at most four rows, each of lists of at most thirty.
  SameRows at two equal lists of rows.
  The law AddrReads: walked. Condition: the variables that the functions read.
  The law RowsDecide: walked.
-/
import Derived.Test.YtdhldhkhpndpjaaGreatDoorRTX22
import Derived.Test.YtdhldhkhpndpjaaGreatDoorRTX21
import Derived.Test.YtdhldhkhpndpjaaGreatDoorRTX15
import Derived.Test.YtdhldhkhpndpjaaGreatDoorRTX18
import Derived.Test.YtdhldhkhpndpjaaGreatDoorRTX6
import Derived.Test.YtdhldhkhpndpjaaGreatDoorRTX19
import Derived.Test.YtdhldhkhpndpjaaGreatDoorRTX9
import Derived.Test.YtdhldhkhpndpjaaGreatDoorRTX20
import Derived.Test.YtdhldhkhpndpjaaGreatDoorRTX13
import Derived.Test.YtdhldhkhpndpjaaGreatDoorRTX3
import Derived.Laws.StructEq
import Derived.Test.YtdhldhkhpndpjaaGreatDoorRTX7
set_option linter.unusedVariables false
set_option maxRecDepth 100000
set_option maxHeartbeats 16000000
namespace Go.Proofs.YtdhldhkhpndpjaaGreatDoor
open Go.RowKit Go Go.Sort
def rowO (p:Option Int) (x y:Option (List Pf)) (z:Option (List (Int × Int))):Option FR:=match p,x,y,z with
 | some p,some x,some y,some z => some ⟨p,x,y,z⟩
 | _,_,_,_ => none
theorem rowO_p (x y:Option (List Pf)) (z:Option (List (Int × Int))):rowO none x y z=none:=rfl
theorem rowO_x (p:Option Int) (y:Option (List Pf)) (z:Option (List (Int × Int))):rowO p none y z=none:=by cases p <;> rfl
theorem rowO_y (p:Option Int) (x:Option (List Pf)) (z:Option (List (Int × Int))):rowO p x none z=none:=by cases p <;> cases x <;> rfl
theorem rowO_z (p:Option Int) (x y:Option (List Pf)):rowO p x y none=none:=by cases p <;> cases x <;> cases y <;> rfl
theorem rowP_blank {s:List UInt8} (h:(spl 32 s).contains []=true):rowP s=none:=by
 unfold rowP
 rw [if_pos h]
theorem rowP_len {s:List UInt8} (h:(spl 32 s).length ≠ 4):rowP s=none:=by
 unfold rowP
 split
 ·rfl
 ·split
  ·rename_i h2
   rw [h2] at h
   exact absurd rfl h
  ·rfl
theorem rowP_four {s a b c d:List UInt8} (h:spl 32 s=[a,b,c,d]) (hc:(spl 32 s).contains []=false):rowP s=rowO (anyP a) (rdW pP (spl 44 b) []) (rdW pP (spl 44 c) []) (rdW poP (spl 44 d) []):=by
 unfold rowP
 rw [if_neg (by rw [hc];decide),h]
 rfl
theorem grown_of_below {w w':World} {b:Option Nat} (h:Below w.heap.size w w'):w.grownBy w' b:=⟨h.os,h.tape,h.output,h.size,fun k hk _ => h.block k hk⟩
theorem grown_set (g o:Nat) (v:Value) (w:World):w.grownBy (w.setCell ⟨g,o,none⟩ v) (some g):=grown_setCells g [v] o w
theorem RdS.grown {w w':World} {g b:Nat} {A:List (List UInt8)} (h:RdS w g A) (k:w.grownBy w' (some b)) (hne:g ≠ b):RdS w' g A :=
 ⟨Nat.lt_of_lt_of_le h.1 k.size,fun i s hs => (World.cell?_of_block (w:=w) (a:=⟨g,i,none⟩) (k.block g h.1 (by intro e;injection e with e;exact hne e))).trans (h.2 i s hs)⟩
theorem OwnK.grown {α:Type} {E:Lay α} {w w':World} {B b:Nat} {v:Value} {L:List α} (h:OwnK E w B v L) (k:w.grownBy w' (some b)) (hb:b < B):OwnK E w' B v L :=
 World.ownsRow.kept h k (by
  cases e:v.ownBlock with
  | none => exact .inl rfl
  | some q => exact .inr (by have:=own_base h q e;intro e2;injection e2 with e2;omega))
def RowA (PP:Option FR) (bx:Nat) (w:World) (e:Ending) (w':World):Prop:=∃ c:FC,e=.returned (.tuple #[.agg (fcC c).toArray, .bool PP.isSome])∧(∀ r,PP=some r→FlcT w' r c∧r.Un)∧Below bx w w'
theorem rRead_any (s:List UInt8) (w:World) (hv:Vr w) (hs:s.length≤200000) :
  Calls Tryz.prog 118 #[.string (strL s)] w (RowA (rowP s) w.heap.size w):=by
 have HP:Hid (Blk (w.alloc (.cells #[.int .i64 0, .slice none 0 0, .slice none 0 0, .slice none 0 0] 129 (0,0))) w.heap.size 129 #[.int .i64 0, .slice none 0 0, .slice none 0 0, .slice none 0 0]):=Lib.hid (Blk.new w _ _)
 have HB:Hid (Below w.heap.size w (w.alloc (.cells #[.int .i64 0, .slice none 0 0, .slice none 0 0, .slice none 0 0] 129 (0,0)))):=Lib.hid (below_alloc (Below.refl _ _) _)
 have HV:=Lib.hid (hv.below (below_alloc (Below.refl _ _) (.cells #[.int .i64 0, .slice none 0 0, .slice none 0 0, .slice none 0 0] 129 (0,0))))
 have HV0:=Lib.hid hv
 have HW:=Lib.hid fun wx (hv:Vr wx) => kWords_any s wx hv (by omega)
 have Hxs:Hid (∀ x ∈ spl 32 s,x.length≤200000):=Lib.hid fun x h => Nat.le_trans (spl_mem 32 s x h).2.2 hs
 have HBl:=Lib.hid (@rowP_blank s)
 have HLe:=Lib.hid (@rowP_len s)
 have HFo:Hid (∀ a b c d,spl 32 s=[a,b,c,d]→(spl 32 s).contains []=false→rowP s=rowO (anyP a) (rdW pP (spl 44 b) []) (rdW pP (spl 44 c) []) (rdW poP (spl 44 d) [])):=Lib.hid fun a b c d => rowP_four
 generalize rowP s=PP at *
 generalize (spl 32 s).contains []=CT at *
 generalize spl 32 s=A at *
 generalize strL s=SS at *
 obtain ⟨n,hn⟩:∃ n,A.length=n:=⟨_,rfl⟩
 have Hn:=Lib.hid hn
 simp only [hn] at HW HLe
 clear hv hs hn
 go_enter Tryz.func118,Tryz.ntmps118
 go_upto_region 1 with fail
 generalize w.alloc (.cells #[.int .i64 0, .slice none 0 0, .slice none 0 0, .slice none 0 0] 129 (0,0))=w1 at *
 obtain ⟨bx,hbx⟩:∃ q,w.heap.size=q:=⟨_,rfl⟩
 have Hbx:=Lib.hid hbx
 rw [hbx] at HP HB ⊢
 clear hbx
 have HRet:Hid (∀ wx (a b c d:Value),Blk wx bx 129 #[.int .i64 0, .slice none 0 0, .slice none 0 0, .slice none 0 0]→Below bx w wx→Below bx w ((((wx.setCell ⟨bx,0,none⟩ a).setCell ⟨bx,1,none⟩ b).setCell ⟨bx,2,none⟩ c).setCell ⟨bx,3,none⟩ d)):=Lib.hid fun wx a b c d hp hb => hb.grown (grown_setCells bx [a,b,c,d] 0 wx) (Nat.le_of_lt hp.lt) (fun k hk => by injection hk with hk;omega)
 have HWx:=Lib.hid (HW.out w1 HV.out)
 clear HW
 go_wp2_with fail
 refine HWx.out.mono ?_
 rintro e w2 ⟨g,rfl,hr,hb⟩
 have hgw:=hr.1
 have HR2:=Lib.hid hr
 have HP2:=Lib.hid (HP.out.below hb HP.out.lt)
 have HB2:=Lib.hid (HB.out.trans (hb.mono (Nat.le_of_lt HP.out.lt)))
 have HV2:=Lib.hid (HV.out.below hb)
 clear hb hr HP HB HV HWx
 cases CT
 case true =>
  have hPP:=HBl.out rfl
  subst hPP
  clear HBl HLe HFo
  have q0:=HP2.out.cell 0
  have q1:=HP2.out.cell 1
  have q2:=HP2.out.cell 2
  have q3:=HP2.out.cell 3
  have qf:=HP2.out.free
  simp at q0 q1 q2 q3
  have c4:=(HP2.out.set4p (x':=.int .i64 0) (y':=.slice none 0 0) (z':=.slice none 0 0) (u':=.slice none 0 0))
  have HBf:=Lib.hid (HRet.out _ (.int .i64 0) (.slice none 0 0) (.slice none 0 0) (.slice none 0 0) HP2.out HB2.out)
  have d0:=c4.cell 0
  have d1:=c4.cell 1
  have d2:=c4.cell 2
  have d3:=c4.cell 3
  simp at d0 d1 d2 d3
  clear c4 HRet
  go_wp2_with fail
  refine bodyPost_ret (v:=.tuple #[.agg #[.int .i64 0, .slice none 0 0, .slice none 0 0, .slice none 0 0], .bool false]) (by simp [results,Tryz.results118,go_sem, *]) rfl (by unfold RowA;exact ⟨(0,(none,0,0),(none,0,0),(none,0,0)),rfl,(fun r h => by cases h),by first | exact HBf.out | (rw [Hbx.out];exact HBf.out)⟩)
 by_cases h4:n=4
 case neg =>
  have hPP:=HLe.out h4
  have hn4:¬ ((n:Int)=4):=by omega
  have hn5:((n:Int) != 4)=true:=by simpa using hn4
  subst hPP
  clear HBl HLe HFo
  have q0:=HP2.out.cell 0
  have q1:=HP2.out.cell 1
  have q2:=HP2.out.cell 2
  have q3:=HP2.out.cell 3
  have qf:=HP2.out.free
  simp at q0 q1 q2 q3
  have c4:=(HP2.out.set4p (x':=.int .i64 0) (y':=.slice none 0 0) (z':=.slice none 0 0) (u':=.slice none 0 0))
  have HBf:=Lib.hid (HRet.out _ (.int .i64 0) (.slice none 0 0) (.slice none 0 0) (.slice none 0 0) HP2.out HB2.out)
  have d0:=c4.cell 0
  have d1:=c4.cell 1
  have d2:=c4.cell 2
  have d3:=c4.cell 3
  simp at d0 d1 d2 d3
  clear c4 HRet
  go_wp2_with fail
  refine bodyPost_ret (v:=.tuple #[.agg #[.int .i64 0, .slice none 0 0, .slice none 0 0, .slice none 0 0], .bool false]) (by simp [results,Tryz.results118,go_sem, *]) rfl (by unfold RowA;exact ⟨(0,(none,0,0),(none,0,0),(none,0,0)),rfl,(fun r h => by cases h),by first | exact HBf.out | (rw [Hbx.out];exact HBf.out)⟩)
 subst h4
 obtain ⟨y0,y1,y2,y3,hA⟩:∃ y0 y1 y2 y3,A=[y0,y1,y2,y3]:=by
  have hh:=Hn.out
  rcases A with _ | ⟨a,_ | ⟨b,_ | ⟨c,_ | ⟨d,_ | ⟨e,A⟩⟩⟩⟩⟩
  all_goals first | exact ⟨_,_,_,_,rfl⟩ | (simp at hh;done) | (simp at hh;omega)
 have HPP:=Lib.hid (HFo.out _ _ _ _ hA rfl)
 subst hA
 have L0:=Lib.hid (Hxs.out y0 (by simp))
 have L1:=Lib.hid (Hxs.out y1 (by simp))
 have L2:=Lib.hid (Hxs.out y2 (by simp))
 have L3:=Lib.hid (Hxs.out y3 (by simp))
 clear HBl HLe HFo Hxs Hn
 have HP3:=Lib.hid (HP2.out.alloc (.cells #[.int .i64 0, .slice none 0 0, .slice none 0 0, .slice none 0 0] 129 (0,0)))
 have HB3:=Lib.hid (HB2.out.alloc (Nat.le_of_lt HP2.out.lt) (.cells #[.int .i64 0, .slice none 0 0, .slice none 0 0, .slice none 0 0] 129 (0,0)))
 have HV3:=Lib.hid (HV2.out.below (below_alloc (Below.refl _ _) (.cells #[.int .i64 0, .slice none 0 0, .slice none 0 0, .slice none 0 0] 129 (0,0))))
 have HR3:=Lib.hid (HR2.out.below (below_alloc (Below.refl _ _) (.cells #[.int .i64 0, .slice none 0 0, .slice none 0 0, .slice none 0 0] 129 (0,0))))
 have HX3:Hid (Blk (w2.alloc (.cells #[.int .i64 0, .slice none 0 0, .slice none 0 0, .slice none 0 0] 129 (0,0))) w2.heap.size 129 #[.int .i64 0, .slice none 0 0, .slice none 0 0, .slice none 0 0]):=Lib.hid (Blk.new w2 _ _)
 have hb2:=HP2.out.lt
 go_upto_region 5 with fail
 generalize w2.alloc (.cells #[.int .i64 0, .slice none 0 0, .slice none 0 0, .slice none 0 0] 129 (0,0))=w3 at *
 obtain ⟨xb,hxb⟩:∃ q,w2.heap.size=q:=⟨_,rfl⟩
 rw [hxb] at HX3 hb2 hgw ⊢
 have HGx:Hid (g ≠ xb∧bx < xb∧xb < w3.heap.size):=Lib.hid ⟨by omega,hb2,HX3.out.lt⟩
 clear hxb HP2 HB2 HV2 HR2 hb2
 have HG3:Hid (w3.grownBy w3 (some xb)):=Lib.hid (World.grownBy.refl _ _)
 have HAny:Hid (∀ P:Option Int,anyP y0=P→PP=rowO P (rdW pP (spl 44 y1) []) (rdW pP (spl 44 y2) []) (rdW poP (spl 44 y3) [])):=Lib.hid fun P h => by rw [← h];exact HPP.out
 clear HPP
 have hw0:=HR3.out.2 0 y0 rfl
 have hse0:=strL_list y0
 obtain ⟨AN,hAN⟩:∃ b,(y0 == [97,110,121])=b:=⟨_,rfl⟩
 have HAN:=Lib.hid hAN
 go_upto_if 32 with fail
 clear hAN
 go_cut [5] (fun s5 wx => ∃ p:Int,Hid (Blk wx xb 129 #[.int .i64 p, .slice none 0 0, .slice none 0 0, .slice none 0 0])∧Hid (w3.grownBy wx (some xb))∧Hid (PP=rowO (some p) (rdW pP (spl 44 y1) []) (rdW pP (spl 44 y2) []) (rdW poP (spl 44 y3) [])))
 case first =>
  rcases AN.eq_false_or_eq_true with hAt | hAt
  ·subst hAt
   have hany:y0=[97,110,121]:=by simpa using HAN.out
   have hp:anyP y0=some 0:=by unfold anyP;rw [if_pos hany]
   have HE:=Lib.hid (HAny.out _ hp)
   obtain ⟨S0,hS0⟩:∃ q,strL y0=q:=⟨_,rfl⟩
   rw [hS0] at hw0 hse0
   clear HAny hp hany hS0
   go_wp2_with fail
   go_meet
   case rel => exact ⟨0,HX3,HG3,HE⟩
  ·subst hAt
   have hany:¬ y0=[97,110,121]:=by simpa using HAN.out
   have hp:anyP y0=if numOk y0 9=true∧0 < numV y0 then some (numV y0) else none:=by unfold anyP;rw [if_neg hany]
   have HAn:=Lib.hid hp
   have HNm:=Lib.hid fun wx => small_any y0 wx (by have:=L0.out;omega)
   obtain ⟨S0,hS0⟩:∃ q,strL y0=q:=⟨_,rfl⟩
   rw [hS0] at HNm hw0 hse0
   generalize numOk y0 9=OK at *
   generalize numV y0=V at *
   clear hp hS0
   obtain ⟨NN,hN⟩:∃ q,(if OK=true then V else 0)=q:=⟨_,rfl⟩
   have HNv:Hid (OK=true→NN=V):=Lib.hid fun h => by rw [← hN,if_pos h]
   rw [hN] at HNm
   clear hN
   have HNx:=Lib.hid (HNm.out w3)
   clear HNm
   go_wp2_with fail
   refine HNx.out.mono ?_
   rintro e w4 ⟨rfl,hb⟩
   have HX4:=Lib.hid (HX3.out.below hb HX3.out.lt)
   have HG4:Hid (w3.grownBy w4 (some xb)):=Lib.hid (grown_of_below hb)
   have HX5:Hid (Blk (w4.setCell ⟨xb,0,none⟩ (.int .i64 NN)) xb 129 #[.int .i64 NN, .slice none 0 0, .slice none 0 0, .slice none 0 0]):=Lib.hid (HX4.out.set 0 _)
   have HG5:Hid (w3.grownBy (w4.setCell ⟨xb,0,none⟩ (.int .i64 NN)) (some xb)):=Lib.hid (HG4.out.trans (grown_set _ _ _ _))
   have x0:=HX4.out.cell 0
   have x1:=HX4.out.cell 1
   have x2:=HX4.out.cell 2
   have x3:=HX4.out.cell 3
   have xf:=HX4.out.free
   simp at x0 x1 x2 x3
   clear hb HNx HX3 HX4 HG3 HG4
   go_upto_region 7 with fail
   clear x0 x1 x2 x3 xf
   generalize w4.setCell ⟨xb,0,none⟩ (.int .i64 NN)=w5 at *
   have HP5:Hid (Blk w5 bx 129 #[.int .i64 0, .slice none 0 0, .slice none 0 0, .slice none 0 0]):=Lib.hid ((HP3.out.keep HG5.out (by have:=HGx.out;omega)))
   have HB5:Hid (Below bx w w5):=Lib.hid (HB3.out.grown HG5.out (by have:=HGx.out;omega) (fun k hk => by injection hk with hk;have:=HGx.out;omega))
   have x0:=HX5.out.cell 0
   have x1:=HX5.out.cell 1
   have x2:=HX5.out.cell 2
   have x3:=HX5.out.cell 3
   have xf:=HX5.out.free
   simp at x0 x1 x2 x3
   cases OK
   ·have hPP:=HAny.out none (HAn.out.trans (if_neg (by simp)))
    rw [rowO_p] at hPP
    subst hPP
    clear HAny HAn HNv
    have q0:=HP5.out.cell 0
    have q1:=HP5.out.cell 1
    have q2:=HP5.out.cell 2
    have q3:=HP5.out.cell 3
    have qf:=HP5.out.free
    simp at q0 q1 q2 q3
    have c4:=(HP5.out.set4p (x':=.int .i64 NN) (y':=.slice none 0 0) (z':=.slice none 0 0) (u':=.slice none 0 0))
    have HBf:=Lib.hid (HRet.out _ (.int .i64 NN) (.slice none 0 0) (.slice none 0 0) (.slice none 0 0) HP5.out HB5.out)
    have d0:=c4.cell 0
    have d1:=c4.cell 1
    have d2:=c4.cell 2
    have d3:=c4.cell 3
    simp at d0 d1 d2 d3
    clear c4 HRet
    go_wp2_with fail
    refine bodyPost_ret (v:=.tuple #[.agg #[.int .i64 NN, .slice none 0 0, .slice none 0 0, .slice none 0 0], .bool false]) (by simp [results,Tryz.results118,go_sem, *]) rfl (by unfold RowA;exact ⟨(NN,(none,0,0),(none,0,0),(none,0,0)),rfl,(fun r h => by cases h),by first | exact HBf.out | (rw [Hbx.out];exact HBf.out)⟩)
   ·obtain rfl:=HNv.out rfl
    by_cases hpos:0 < NN
    ·have HE:=Lib.hid (HAny.out (some NN) (HAn.out.trans (if_pos ⟨rfl,hpos⟩)))
     have hlt1:¬ NN < 1:=by omega
     clear HAny HAn HNv
     go_wp2_with fail
     go_meet
     case rel => exact ⟨NN,HX5,HG5,HE⟩
    ·have hPP:=HAny.out none (HAn.out.trans (if_neg (fun h => hpos h.2)))
     rw [rowO_p] at hPP
     subst hPP
     have hlt1:NN < 1:=by omega
     clear HAny HAn HNv
     have q0:=HP5.out.cell 0
     have q1:=HP5.out.cell 1
     have q2:=HP5.out.cell 2
     have q3:=HP5.out.cell 3
     have qf:=HP5.out.free
     simp at q0 q1 q2 q3
     have c4:=(HP5.out.set4p (x':=.int .i64 NN) (y':=.slice none 0 0) (z':=.slice none 0 0) (u':=.slice none 0 0))
     have HBf:=Lib.hid (HRet.out _ (.int .i64 NN) (.slice none 0 0) (.slice none 0 0) (.slice none 0 0) HP5.out HB5.out)
     have d0:=c4.cell 0
     have d1:=c4.cell 1
     have d2:=c4.cell 2
     have d3:=c4.cell 3
     simp at d0 d1 d2 d3
     clear c4 HRet
     go_wp2_with fail
     refine bodyPost_ret (v:=.tuple #[.agg #[.int .i64 NN, .slice none 0 0, .slice none 0 0, .slice none 0 0], .bool false]) (by simp [results,Tryz.results118,go_sem, *]) rfl (by unfold RowA;exact ⟨(NN,(none,0,0),(none,0,0),(none,0,0)),rfl,(fun r h => by cases h),by first | exact HBf.out | (rw [Hbx.out];exact HBf.out)⟩)
 case rest =>
  clear HX3 HG3 HAny hw0 hse0
  obtain ⟨p,HX4,HG4,HE⟩:=hcut
  obtain ⟨PV,hPV⟩:∃ q,(some p)=q:=⟨_,rfl⟩
  have HPV:=Lib.hid hPV
  rw [hPV] at HE
  clear hPV
  have HBk:Hid (∀ wx,w3.grownBy wx (some xb)→Below bx w wx):=Lib.hid fun wx hg => HB3.out.grown hg (by have:=HGx.out;omega) (fun k hk => by injection hk with hk;have:=HGx.out;omega)
  have HPk:Hid (∀ wx,w3.grownBy wx (some xb)→Blk wx bx 129 #[.int .i64 0, .slice none 0 0, .slice none 0 0, .slice none 0 0]):=Lib.hid fun wx hg => HP3.out.keep hg (by have:=HGx.out;omega)
  have HRk:Hid (∀ wx,w3.grownBy wx (some xb)→RdS wx g [y0,y1,y2,y3]):=Lib.hid fun wx hg => HR3.out.grown hg HGx.out.1
  have HVk:Hid (∀ wx,w3.grownBy wx (some xb)→Vr wx):=Lib.hid fun wx hg => HV0.out.below (by rw [Hbx.out];exact HBk.out wx hg)
  have HKp:Hid (∀ wx (a b c d:Value),Blk wx bx 129 #[.int .i64 0, .slice none 0 0, .slice none 0 0, .slice none 0 0]→KeepT [129] wx ((((wx.setCell ⟨bx,0,none⟩ a).setCell ⟨bx,1,none⟩ b).setCell ⟨bx,2,none⟩ c).setCell ⟨bx,3,none⟩ d)):=Lib.hid fun wx a b c d hp => KeepT.of_grown (grown_setCells bx [a,b,c,d] 0 wx) hp (by simp)
  clear HB3 HP3 HR3 HV3
  have hw1:=(HRk.out _ HG4.out).2 1 y1 rfl
  have hg1:=(HRk.out _ HG4.out).1
  have HS1:=Lib.hid (rReadSet_any y1 _ (HVk.out _ HG4.out) (by have:=L1.out;omega))
  generalize rdW pP (spl 44 y1) []=R1 at *
  generalize strL y1=S1 at *
  go_wp2_with fail
  refine HS1.out.mono ?_
  rintro e w5 ⟨v1,M1,k1,rfl,hk1,hm1,ho1,hu1,hl1,hb⟩
  have hlt4:=HX4.out.lt
  obtain ⟨a1,c1,hv1, -⟩:=ho1.form
  subst hv1
  have HM1:=Lib.hid (And.intro hk1 hm1)
  have HU1:=Lib.hid (And.intro hu1 hl1)
  have HO1:=Lib.hid ho1
  have HX5:=Lib.hid (HX4.out.below hb HX4.out.lt)
  have HG5:Hid (w3.grownBy w5 (some xb)):=Lib.hid (HG4.out.trans (grown_of_below hb))
  have HL4:Hid (xb < wc.heap.size∧xb < w5.heap.size):=Lib.hid ⟨hlt4,Nat.lt_of_lt_of_le hlt4 hb.size⟩
  clear hk1 hm1 ho1 hu1 hl1 hb HS1 HX4 HG4 hw1 hg1 hlt4
  have hw2:=(HRk.out _ HG5.out).2 2 y2 rfl
  have hg2:=(HRk.out _ HG5.out).1
  have HS2:=Lib.hid (rReadSet_any y2 _ (HVk.out _ HG5.out) (by have:=L2.out;omega))
  generalize rdW pP (spl 44 y2) []=R2 at *
  generalize strL y2=S2 at *
  obtain ⟨n1,hn1⟩:∃ q,M1.length=q:=⟨_,rfl⟩
  have Hn1:=Lib.hid hn1
  rw [hn1] at HO1 ⊢
  clear hn1
  go_wp2_with fail
  refine HS2.out.mono ?_
  rintro e w6 ⟨v2,M2,k2,rfl,hk2,hm2,ho2,hu2,hl2,hb⟩
  obtain ⟨a2,c2,hv2, -⟩:=ho2.form
  subst hv2
  have HM2:=Lib.hid (And.intro hk2 hm2)
  have HU2:=Lib.hid (And.intro hu2 hl2)
  have HO2:=Lib.hid ho2
  have HO16:=Lib.hid (HO1.out.later hb)
  have HX6:=Lib.hid (HX5.out.below hb HX5.out.lt)
  have HG6:Hid (w3.grownBy w6 (some xb)):=Lib.hid (HG5.out.trans (grown_of_below hb))
  clear hk2 hm2 ho2 hu2 hl2 hb HS2 HX5 HG5 HO1 hw2 hg2
  obtain ⟨n2,hn2⟩:∃ q,M2.length=q:=⟨_,rfl⟩
  have Hn2:=Lib.hid hn2
  rw [hn2] at HO2 ⊢
  clear hn2
  have HX7:Hid (Blk ((w6.setCell ⟨xb,1,none⟩ (.slice a1 n1 c1)).setCell ⟨xb,2,none⟩ (.slice a2 n2 c2)) xb 129 #[.int .i64 p, .slice a1 n1 c1, .slice a2 n2 c2, .slice none 0 0]):=Lib.hid ((HX6.out.set 1 _).set 2 _)
  have hg7:w6.grownBy ((w6.setCell ⟨xb,1,none⟩ (.slice a1 n1 c1)).setCell ⟨xb,2,none⟩ (.slice a2 n2 c2)) (some xb):=(grown_set _ _ _ _).trans (grown_set _ _ _ _)
  have HG7:Hid (w3.grownBy ((w6.setCell ⟨xb,1,none⟩ (.slice a1 n1 c1)).setCell ⟨xb,2,none⟩ (.slice a2 n2 c2)) (some xb)):=Lib.hid (HG6.out.trans hg7)
  have HO17:=Lib.hid (HO16.out.grown hg7 HL4.out.1)
  have HO27:=Lib.hid (HO2.out.grown hg7 HL4.out.2)
  have x0:=HX6.out.cell 0
  have x1:=HX6.out.cell 1
  have x2:=HX6.out.cell 2
  have x3:=HX6.out.cell 3
  have xf:=HX6.out.free
  simp at x0 x1 x2 x3
  go_upto_region 12 with fail
  clear x0 x1 x2 x3 xf hg7 HX6 HG6 HO16 HO2
  generalize (w6.setCell ⟨xb,1,none⟩ (.slice a1 n1 c1)).setCell ⟨xb,2,none⟩ (.slice a2 n2 c2)=w7 at *
  have hw3:=(HRk.out _ HG7.out).2 3 y3 rfl
  have hg3:=(HRk.out _ HG7.out).1
  have HSp:=Lib.hid (splitN_any y3 44 w7 (HVk.out _ HG7.out) (by have:=L3.out;omega))
  have Hxs:Hid (∀ x ∈ spl 44 y3,x.length≤200000):=Lib.hid fun x h => Nat.le_trans (spl_mem 44 y3 x h).2.2 L3.out
  have HSm:=Lib.hid (spl_sum 44 y3)
  have hnl:(spl 44 y3).length≤1000001:=by
   rw [spl_len]
   have:=List.count_le_length (a:=(44:UInt8)) (l:=y3)
   have:=L3.out
   omega
  have HR3:Hid (rdW poP (spl 44 y3) []=rdW poP ((spl 44 y3).drop 0) []):=Lib.hid rfl
  obtain ⟨R3,hR3⟩:∃ q,rdW poP (spl 44 y3) []=q:=⟨_,rfl⟩
  rw [hR3] at HR3 HE
  clear hR3
  generalize spl 44 y3=A3 at *
  obtain ⟨n3,hn3⟩:∃ n,A3.length=n:=⟨_,rfl⟩
  rw [hn3] at HSp hnl
  have Hn3:=Lib.hid hn3
  generalize strL y3=S3 at *
  clear hn3
  go_wp2_with fail
  refine HSp.out.mono ?_
  rintro e w8 ⟨gs,rfl,hgs,hr,hb⟩
  have hlx7:=HX7.out.lt
  have HR8:=Lib.hid hr
  have HX8:=Lib.hid (HX7.out.below hb HX7.out.lt)
  have HG8:Hid (w3.grownBy w8 (some xb)):=Lib.hid (HG7.out.trans (grown_of_below hb))
  have HO18:=Lib.hid (HO17.out.later hb)
  have HO28:=Lib.hid (HO27.out.later hb)
  have HL8:Hid (xb < w8.heap.size):=Lib.hid HX8.out.lt
  have HGs:Hid (∀ wx,w8.grownBy wx (some xb)→RdS wx gs A3):=Lib.hid fun wx hg => RdS.grown hr hg (by omega)
  clear hr hb HSp hw3 hg3 HX7 HG7 HO17 HO27 hgs hlx7
  go_wp2_with fail
  go_loopw [12,13,14,72] (fun s12 s13 s14 s72 wr => ∃ (k:Nat) (acc:List (Int × Int)) (v3:Value),k≤n3∧s72=.int .i64 (k:Int)∧Hid (Blk wr xb 129 #[.int .i64 p, .slice a1 n1 c1, .slice a2 n2 c2,v3])∧Hid (OwnK layPo wr w8.heap.size v3 acc)∧Hid (acc.length=k)∧Hid (R3=rdW poP (A3.drop k) acc)∧Hid (2 * k + sumL (A3.drop k)≤y3.length + 1)∧Hid (w8.grownBy wr (some xb))) (fun _ _ _ i _ => n3 - (intOf i).toNat)
  case atStart => exact ⟨0, [],_,Nat.zero_le _,rfl,HX8,Lib.hid (OwnK.nil _ _ _),Lib.hid rfl,HR3,Lib.hid (by rw [List.drop_zero,HSm.out];omega),Lib.hid (World.grownBy.refl _ _)⟩
  case round =>
   clear HX8 HR3 HSm
   obtain ⟨k,acc,v3,hkn,rfl,HX,HO,HAl,HA,HS,HG⟩:=hrel
   have HGa:Hid (w3.grownBy wr (some xb)):=Lib.hid (HG8.out.trans HG.out)
   by_cases hlt:k < n3
   ·obtain ⟨x,hx⟩:∃ x,A3[k]?=some x:=⟨_,List.getElem?_eq_getElem (by rw [Hn3.out];exact hlt)⟩
    have Hx:=Lib.hid hx
    have hc:=(HGs.out wr HG.out).2 k x hx
    have hgl:=(HGs.out wr HG.out).1
    have hxl:=Hxs.out x (List.mem_of_getElem? hx)
    have HPs:Hid (∀ p,poP x=some p→1≤x.length):=Lib.hid fun p h => poP_pos h
    have HSd:=Lib.hid (sumL_drop hx)
    have HPx:=Lib.hid (readPorts_any x wr (HVk.out _ HGa.out) (by omega))
    obtain ⟨SX,hSX⟩:∃ q,strL x=q:=⟨_,rfl⟩
    rw [hSX] at hc HPx
    clear hx hSX hxl
    go_wp2_with fail
    refine HPx.out.mono ?_
    rintro e w9 ⟨p1,p2,rfl,hpd,hb⟩
    have HpD:=Lib.hid hpd
    have hlx:=HX.out.lt
    have HX9:=Lib.hid (HX.out.below hb HX.out.lt)
    have HO9:=Lib.hid (HO.out.later hb)
    have HG9:Hid (w8.grownBy w9 (some xb)):=Lib.hid (HG.out.trans (grown_of_below hb))
    clear hb hpd HPx hc hgl HX HO HG HGa hlx
    have HX10:=Lib.hid (HX9.out.alloc (.cells #[.int .i64 p1, .int .i64 p2] 132 (0,0)))
    have HO10:Hid (OwnK layPo (w9.alloc (.cells #[.int .i64 p1, .int .i64 p2] 132 (0,0))) w8.heap.size v3 acc):=Lib.hid (HO9.out.alloc _)
    have HG10:Hid (w8.grownBy (w9.alloc (.cells #[.int .i64 p1, .int .i64 p2] 132 (0,0))) (some xb)):=Lib.hid (HG9.out.trans (World.grownBy_alloc _ _ _))
    have HP10:Hid (Blk (w9.alloc (.cells #[.int .i64 p1, .int .i64 p2] 132 (0,0))) w9.heap.size 132 #[.int .i64 p1, .int .i64 p2]):=Lib.hid (Blk.new w9 _ _)
    clear HX9 HO9 HG9
    go_upto_region 16 with fail
    generalize w9.alloc (.cells #[.int .i64 p1, .int .i64 p2] 132 (0,0))=w5 at *
    generalize w9.heap.size=pb at *
    have HG11:Hid (w3.grownBy w5 (some xb)):=Lib.hid (HG8.out.trans HG10.out)
    have HP5:=Lib.hid (HPk.out _ HG11.out)
    have HB5:=Lib.hid (HBk.out _ HG11.out)
    cases hF:(poP x).isSome
    ·have HpN:Hid (poP x=none):=Lib.hid (by
      cases e:poP x with
      | none => rfl
      | some q => rw [e] at hF;cases hF)
     have hPP:PP=none:=by rw [HE.out,HA.out,rdW_step Hx.out,HpN.out];exact rowO_z _ _ _
     subst hPP
     obtain ⟨a3,c3,hv3, -⟩:=HO10.out.form
     rw [HAl.out] at hv3
     subst hv3
     clear HpN HpD HA HS HSd Hx HPs HE HP10 hF
     have x0:=HX10.out.cell 0
     have x1:=HX10.out.cell 1
     have x2:=HX10.out.cell 2
     have x3:=HX10.out.cell 3
     have xf:=HX10.out.free
     simp at x0 x1 x2 x3
     have q0:=HP5.out.cell 0
     have q1:=HP5.out.cell 1
     have q2:=HP5.out.cell 2
     have q3:=HP5.out.cell 3
     have qf:=HP5.out.free
     simp at q0 q1 q2 q3
     have c4:=(HP5.out.set4p (x':=.int .i64 p) (y':=.slice a1 n1 c1) (z':=.slice a2 n2 c2) (u':=.slice a3 k c3))
     have HBf:=Lib.hid (HRet.out _ (.int .i64 p) (.slice a1 n1 c1) (.slice a2 n2 c2) (.slice a3 k c3) HP5.out HB5.out)
     have d0:=c4.cell 0
     have d1:=c4.cell 1
     have d2:=c4.cell 2
     have d3:=c4.cell 3
     simp at d0 d1 d2 d3
     clear c4 HRet
     go_wp2_with fail
     refine bodyPost_ret (v:=.tuple #[.agg #[.int .i64 p, .slice a1 n1 c1, .slice a2 n2 c2, .slice a3 k c3], .bool false]) (by simp [results,Tryz.results118,go_sem, *]) rfl (by unfold RowA;exact ⟨(p,(a1,n1,c1),(a2,n2,c2),(a3,k,c3)),rfl,(fun r h => by cases h),by first | exact HBf.out | (rw [Hbx.out];exact HBf.out)⟩)
    ·have HpS:Hid (poP x=some (p1,p2)):=Lib.hid (by
      cases e:poP x with
      | none => rw [e] at hF;cases hF
      | some q => rw [HpD.out q e])
     have HA2:Hid (R3=rdW poP (A3.drop (k + 1)) (acc ++ [(p1,p2)])):=Lib.hid (by rw [HA.out,rdW_step Hx.out,HpS.out])
     have HPy:=Lib.hid (HPs.out _ HpS.out)
     have HS2:Hid (2 * (k + 1) + sumL (A3.drop (k + 1))≤y3.length + 1):=Lib.hid (by have h1:=HS.out;have h2:=HSd.out;have h3:=HPy.out;omega)
     clear HpS HpD HA HS HSd Hx HPs HPy hF HP5 HB5 HG11
     have d0:=HP10.out.cell 0
     have d1:=HP10.out.cell 1
     have x3:=HX10.out.cell 3
     simp at d0 d1 x3
     have hAlk:=HAl.out
     have hsz5:w8.heap.size≤w5.heap.size:=HG10.out.size
     go_upto_region 18 with fail
     go_wp2_with (at_builtin;refine wpList_app poE rfl (.tmp 85) (.tmp 87) rfl rfl (World.ownsRow.alloc HO10.out _) rfl (src_new layPo _ (p1,p2) _ _ ?c0) ?c1 ?c2 ?c3 ?c4 ?_)
     case c0 => rfl
     case c1 => exact layPo.one _
     case c2 => unfold maxLen;omega
     case c3 => omega
     case c4 => simp;omega
     intro v' w' hO hGr
     have hb5:=hGr.below (u:=v3) (by simp;omega) (own_base HO10.out)
     have hg5:w8.grownBy w' (some xb):=(HG10.out.trans (World.grownBy_alloc _ _ _)).andThen hGr.g (fun j hj => .inl (own_base HO10.out j hj))
     have HX':Hid (Blk w' xb 129 #[.int .i64 p, .slice a1 n1 c1, .slice a2 n2 c2,v3]):=Lib.hid ((HX10.out.alloc _).below hb5 HL8.out)
     have HO':Hid (OwnK layPo w' w8.heap.size v' (acc ++ [(p1,p2)])):=Lib.hid (OwnK.snoc (by rw [HAl.out];exact hO))
     have HG':=Lib.hid hg5
     clear hO hGr HO10 HG10 HP10 HX10 hb5 hg5 d0 d1 x3 hsz5
     have HAl2:Hid ((acc ++ [(p1,p2)]).length=k + 1):=Lib.hid (by rw [List.length_append,HAl.out];rfl)
     obtain ⟨ao,co,hvo, -⟩:=HO'.out.form
     rw [HAl2.out] at hvo
     subst hvo
     have x3:=HX'.out.cell 3
     simp at x3
     have xf:=HX'.out.free 3
     have HX2:Hid (Blk (w'.setCell ⟨xb,3,none⟩ (.slice ao (k + 1) co)) xb 129 #[.int .i64 p, .slice a1 n1 c1, .slice a2 n2 c2, .slice ao (k + 1) co]):=Lib.hid (HX'.out.set 3 _)
     have HO2x:Hid (OwnK layPo (w'.setCell ⟨xb,3,none⟩ (.slice ao (k + 1) co)) w8.heap.size (.slice ao (k + 1) co) (acc ++ [(p1,p2)])):=Lib.hid (HO'.out.grown (grown_set _ _ _ _) HL8.out)
     have HG2x:Hid (w8.grownBy (w'.setCell ⟨xb,3,none⟩ (.slice ao (k + 1) co)) (some xb)):=Lib.hid (HG'.out.trans (grown_set _ _ _ _))
     clear HX' HO' HG'
     go_wp2_with fail
     exact ⟨⟨k + 1,acc ++ [(p1,p2)],_,by omega,by go_num,HX2,HO2x,HAl2,HA2,HS2,HG2x⟩,by simp [intOf];omega⟩
   ·obtain rfl:k=n3:=by omega
    have HP5:=Lib.hid (HPk.out _ HGa.out)
    have HB5:=Lib.hid (HBk.out _ HGa.out)
    have HR3:Hid (R3=some acc):=Lib.hid (by
     rw [HA.out]
     have:=@rdW_end _ poP A3 acc
     rwa [Hn3.out] at this)
    have Hl3:Hid (acc.length≤100000):=Lib.hid (by have h1:=HS.out;have h2:=HAl.out;have h3:=L3.out;omega)
    have HO1f:=Lib.hid (HO18.out.grown HG.out HL4.out.1)
    have HO2f:=Lib.hid (HO28.out.grown HG.out HL4.out.2)
    obtain ⟨a3,c3,hv3, -⟩:=HO.out.form
    rw [HAl.out] at hv3
    subst hv3
    have HFl:Hid (FlcT wr ⟨p,M1,M2,acc⟩ (p,(a1,n1,c1),(a2,n2,c2),(a3,k,c3))):=Lib.hid ⟨rfl,HO1f.out.rdT,HO2f.out.rdT,HO.out.rdT,Hn1.out,Hn2.out,HAl.out,by have h1:=HU1.out.2;have h2:=Hn1.out;have h3:=L1.out;show n1≤100000;omega,by have h1:=HU2.out.2;have h2:=Hn2.out;have h3:=L2.out;show n2≤100000;omega,by have h1:=Hl3.out;have h2:=HAl.out;show k≤100000;omega⟩
    have HUn:Hid (FR.Un ⟨p,M1,M2,acc⟩):=Lib.hid ⟨HU1.out.1,HU2.out.1,by have h1:=HU1.out.2;have h3:=L1.out;show M1.length≤100000;omega,by have h1:=HU2.out.2;have h3:=L2.out;show M2.length≤100000;omega,Hl3.out⟩
    have HKq:=Lib.hid (HFl.out.keep (HKp.out wr (.int .i64 p) (.slice a1 n1 c1) (.slice a2 n2 c2) (.slice a3 k c3) HP5.out) (by decide) (by decide))
    clear HA HS Hxs HO HO1f HO2f HO18 HO28 HG HFl
    have x0:=HX.out.cell 0
    have x1:=HX.out.cell 1
    have x2:=HX.out.cell 2
    have x3:=HX.out.cell 3
    have xf:=HX.out.free
    simp at x0 x1 x2 x3
    cases k1
    ·have hPP:PP=none:=by
      have h1:=HM1.out.1
      cases e:R1 with
      | none => rw [HE.out,e];exact rowO_x _ _ _
      | some q => rw [e] at h1;cases h1
     subst hPP
     clear HM1 HM2 HE HKq HUn
     have q0:=HP5.out.cell 0
     have q1:=HP5.out.cell 1
     have q2:=HP5.out.cell 2
     have q3:=HP5.out.cell 3
     have qf:=HP5.out.free
     simp at q0 q1 q2 q3
     have c4:=(HP5.out.set4p (x':=.int .i64 p) (y':=.slice a1 n1 c1) (z':=.slice a2 n2 c2) (u':=.slice a3 k c3))
     have HBf:=Lib.hid (HRet.out wr (.int .i64 p) (.slice a1 n1 c1) (.slice a2 n2 c2) (.slice a3 k c3) HP5.out HB5.out)
     have d0:=c4.cell 0
     have d1:=c4.cell 1
     have d2:=c4.cell 2
     have d3:=c4.cell 3
     simp at d0 d1 d2 d3
     clear c4 HRet
     go_wp2_with fail
     refine bodyPost_ret (v:=.tuple #[.agg #[.int .i64 p, .slice a1 n1 c1, .slice a2 n2 c2, .slice a3 k c3], .bool false]) (by simp [results,Tryz.results118,go_sem, *]) rfl (by unfold RowA;exact ⟨(p,(a1,n1,c1),(a2,n2,c2),(a3,k,c3)),rfl,(fun r h => by cases h),by first | exact HBf.out | (rw [Hbx.out];exact HBf.out)⟩)
    cases k2
    ·have hPP:PP=none:=by
      have h1:=HM2.out.1
      cases e:R2 with
      | none => rw [HE.out,e];exact rowO_y _ _ _
      | some q => rw [e] at h1;cases h1
     subst hPP
     clear HM1 HM2 HE HKq HUn
     have q0:=HP5.out.cell 0
     have q1:=HP5.out.cell 1
     have q2:=HP5.out.cell 2
     have q3:=HP5.out.cell 3
     have qf:=HP5.out.free
     simp at q0 q1 q2 q3
     have c4:=(HP5.out.set4p (x':=.int .i64 p) (y':=.slice a1 n1 c1) (z':=.slice a2 n2 c2) (u':=.slice a3 k c3))
     have HBf:=Lib.hid (HRet.out wr (.int .i64 p) (.slice a1 n1 c1) (.slice a2 n2 c2) (.slice a3 k c3) HP5.out HB5.out)
     have d0:=c4.cell 0
     have d1:=c4.cell 1
     have d2:=c4.cell 2
     have d3:=c4.cell 3
     simp at d0 d1 d2 d3
     clear c4 HRet
     go_wp2_with fail
     refine bodyPost_ret (v:=.tuple #[.agg #[.int .i64 p, .slice a1 n1 c1, .slice a2 n2 c2, .slice a3 k c3], .bool false]) (by simp [results,Tryz.results118,go_sem, *]) rfl (by unfold RowA;exact ⟨(p,(a1,n1,c1),(a2,n2,c2),(a3,k,c3)),rfl,(fun r h => by cases h),by first | exact HBf.out | (rw [Hbx.out];exact HBf.out)⟩)
    ·have hPP:PP=some ⟨p,M1,M2,acc⟩:=by
      have h1:=HM1.out
      have h2:=HM2.out
      cases e1:R1 with
      | none => rw [e1] at h1;cases h1.1
      | some q1 =>
        cases e2:R2 with
        | none => rw [e2] at h2;cases h2.1
        | some q2 =>
          rw [HE.out,e1,e2,HR3.out, ← h1.2 q1 e1, ← h2.2 q2 e2, ← HPV.out];rfl
     subst hPP
     clear HM1 HM2 HE
     have q0:=HP5.out.cell 0
     have q1:=HP5.out.cell 1
     have q2:=HP5.out.cell 2
     have q3:=HP5.out.cell 3
     have qf:=HP5.out.free
     simp at q0 q1 q2 q3
     have c4:=(HP5.out.set4p (x':=.int .i64 p) (y':=.slice a1 n1 c1) (z':=.slice a2 n2 c2) (u':=.slice a3 k c3))
     have HBf:=Lib.hid (HRet.out wr (.int .i64 p) (.slice a1 n1 c1) (.slice a2 n2 c2) (.slice a3 k c3) HP5.out HB5.out)
     have d0:=c4.cell 0
     have d1:=c4.cell 1
     have d2:=c4.cell 2
     have d3:=c4.cell 3
     simp at d0 d1 d2 d3
     clear c4 HRet
     go_wp2_with fail
     refine bodyPost_ret (v:=.tuple #[.agg #[.int .i64 p, .slice a1 n1 c1, .slice a2 n2 c2, .slice a3 k c3], .bool true]) (by simp [results,Tryz.results118,go_sem, *]) rfl (by unfold RowA;exact ⟨(p,(a1,n1,c1),(a2,n2,c2),(a3,k,c3)),rfl,(fun r h => by injection h with h;subst h;exact ⟨HKq.out,HUn.out⟩),by first | exact HBf.out | (rw [Hbx.out];exact HBf.out)⟩)
theorem qrowRead_any (s:List UInt8) (w:World) (hv:Vr w) (hs:s.length≤200000) :
  Calls Tryz.prog 121 #[.string (strL s)] w (RowA (rowP s) w.heap.size w):=by
 have HP:Hid (Blk (w.alloc (.cells #[.int .i64 0, .slice none 0 0, .slice none 0 0, .slice none 0 0] 129 (0,0))) w.heap.size 129 #[.int .i64 0, .slice none 0 0, .slice none 0 0, .slice none 0 0]):=Lib.hid (Blk.new w _ _)
 have HB:Hid (Below w.heap.size w (w.alloc (.cells #[.int .i64 0, .slice none 0 0, .slice none 0 0, .slice none 0 0] 129 (0,0)))):=Lib.hid (below_alloc (Below.refl _ _) _)
 have HV:=Lib.hid (hv.below (below_alloc (Below.refl _ _) (.cells #[.int .i64 0, .slice none 0 0, .slice none 0 0, .slice none 0 0] 129 (0,0))))
 have HV0:=Lib.hid hv
 have HW:=Lib.hid fun wx (hv:Vr wx) => qWords_any s wx hv (by omega)
 have Hxs:Hid (∀ x ∈ spl 32 s,x.length≤200000):=Lib.hid fun x h => Nat.le_trans (spl_mem 32 s x h).2.2 hs
 have HBl:=Lib.hid (@rowP_blank s)
 have HLe:=Lib.hid (@rowP_len s)
 have HFo:Hid (∀ a b c d,spl 32 s=[a,b,c,d]→(spl 32 s).contains []=false→rowP s=rowO (anyP a) (rdW pP (spl 44 b) []) (rdW pP (spl 44 c) []) (rdW poP (spl 44 d) [])):=Lib.hid fun a b c d => rowP_four
 generalize rowP s=PP at *
 generalize (spl 32 s).contains []=CT at *
 generalize spl 32 s=A at *
 generalize strL s=SS at *
 obtain ⟨n,hn⟩:∃ n,A.length=n:=⟨_,rfl⟩
 have Hn:=Lib.hid hn
 simp only [hn] at HW HLe
 clear hv hs hn
 go_enter Tryz.func121,Tryz.ntmps121
 go_upto_region 1 with fail
 generalize w.alloc (.cells #[.int .i64 0, .slice none 0 0, .slice none 0 0, .slice none 0 0] 129 (0,0))=w1 at *
 obtain ⟨bx,hbx⟩:∃ q,w.heap.size=q:=⟨_,rfl⟩
 have Hbx:=Lib.hid hbx
 rw [hbx] at HP HB ⊢
 clear hbx
 have HRet:Hid (∀ wx (a b c d:Value),Blk wx bx 129 #[.int .i64 0, .slice none 0 0, .slice none 0 0, .slice none 0 0]→Below bx w wx→Below bx w ((((wx.setCell ⟨bx,0,none⟩ a).setCell ⟨bx,1,none⟩ b).setCell ⟨bx,2,none⟩ c).setCell ⟨bx,3,none⟩ d)):=Lib.hid fun wx a b c d hp hb => hb.grown (grown_setCells bx [a,b,c,d] 0 wx) (Nat.le_of_lt hp.lt) (fun k hk => by injection hk with hk;omega)
 have HWx:=Lib.hid (HW.out w1 HV.out)
 clear HW
 go_wp2_with fail
 refine HWx.out.mono ?_
 rintro e w2 ⟨g,rfl,hr,hb⟩
 have hgw:=hr.1
 have HR2:=Lib.hid hr
 have HP2:=Lib.hid (HP.out.below hb HP.out.lt)
 have HB2:=Lib.hid (HB.out.trans (hb.mono (Nat.le_of_lt HP.out.lt)))
 have HV2:=Lib.hid (HV.out.below hb)
 clear hb hr HP HB HV HWx
 cases CT
 case true =>
  have hPP:=HBl.out rfl
  subst hPP
  clear HBl HLe HFo
  have q0:=HP2.out.cell 0
  have q1:=HP2.out.cell 1
  have q2:=HP2.out.cell 2
  have q3:=HP2.out.cell 3
  have qf:=HP2.out.free
  simp at q0 q1 q2 q3
  have c4:=(HP2.out.set4p (x':=.int .i64 0) (y':=.slice none 0 0) (z':=.slice none 0 0) (u':=.slice none 0 0))
  have HBf:=Lib.hid (HRet.out _ (.int .i64 0) (.slice none 0 0) (.slice none 0 0) (.slice none 0 0) HP2.out HB2.out)
  have d0:=c4.cell 0
  have d1:=c4.cell 1
  have d2:=c4.cell 2
  have d3:=c4.cell 3
  simp at d0 d1 d2 d3
  clear c4 HRet
  go_wp2_with fail
  refine bodyPost_ret (v:=.tuple #[.agg #[.int .i64 0, .slice none 0 0, .slice none 0 0, .slice none 0 0], .bool false]) (by simp [results,Tryz.results121,go_sem, *]) rfl (by unfold RowA;exact ⟨(0,(none,0,0),(none,0,0),(none,0,0)),rfl,(fun r h => by cases h),by first | exact HBf.out | (rw [Hbx.out];exact HBf.out)⟩)
 by_cases h4:n=4
 case neg =>
  have hPP:=HLe.out h4
  have hn4:¬ ((n:Int)=4):=by omega
  have hn5:((n:Int) != 4)=true:=by simpa using hn4
  subst hPP
  clear HBl HLe HFo
  have q0:=HP2.out.cell 0
  have q1:=HP2.out.cell 1
  have q2:=HP2.out.cell 2
  have q3:=HP2.out.cell 3
  have qf:=HP2.out.free
  simp at q0 q1 q2 q3
  have c4:=(HP2.out.set4p (x':=.int .i64 0) (y':=.slice none 0 0) (z':=.slice none 0 0) (u':=.slice none 0 0))
  have HBf:=Lib.hid (HRet.out _ (.int .i64 0) (.slice none 0 0) (.slice none 0 0) (.slice none 0 0) HP2.out HB2.out)
  have d0:=c4.cell 0
  have d1:=c4.cell 1
  have d2:=c4.cell 2
  have d3:=c4.cell 3
  simp at d0 d1 d2 d3
  clear c4 HRet
  go_wp2_with fail
  refine bodyPost_ret (v:=.tuple #[.agg #[.int .i64 0, .slice none 0 0, .slice none 0 0, .slice none 0 0], .bool false]) (by simp [results,Tryz.results121,go_sem, *]) rfl (by unfold RowA;exact ⟨(0,(none,0,0),(none,0,0),(none,0,0)),rfl,(fun r h => by cases h),by first | exact HBf.out | (rw [Hbx.out];exact HBf.out)⟩)
 subst h4
 obtain ⟨y0,y1,y2,y3,hA⟩:∃ y0 y1 y2 y3,A=[y0,y1,y2,y3]:=by
  have hh:=Hn.out
  rcases A with _ | ⟨a,_ | ⟨b,_ | ⟨c,_ | ⟨d,_ | ⟨e,A⟩⟩⟩⟩⟩
  all_goals first | exact ⟨_,_,_,_,rfl⟩ | (simp at hh;done) | (simp at hh;omega)
 have HPP:=Lib.hid (HFo.out _ _ _ _ hA rfl)
 subst hA
 have L0:=Lib.hid (Hxs.out y0 (by simp))
 have L1:=Lib.hid (Hxs.out y1 (by simp))
 have L2:=Lib.hid (Hxs.out y2 (by simp))
 have L3:=Lib.hid (Hxs.out y3 (by simp))
 clear HBl HLe HFo Hxs Hn
 have HP3:=Lib.hid (HP2.out.alloc (.cells #[.int .i64 0, .slice none 0 0, .slice none 0 0, .slice none 0 0] 129 (0,0)))
 have HB3:=Lib.hid (HB2.out.alloc (Nat.le_of_lt HP2.out.lt) (.cells #[.int .i64 0, .slice none 0 0, .slice none 0 0, .slice none 0 0] 129 (0,0)))
 have HV3:=Lib.hid (HV2.out.below (below_alloc (Below.refl _ _) (.cells #[.int .i64 0, .slice none 0 0, .slice none 0 0, .slice none 0 0] 129 (0,0))))
 have HR3:=Lib.hid (HR2.out.below (below_alloc (Below.refl _ _) (.cells #[.int .i64 0, .slice none 0 0, .slice none 0 0, .slice none 0 0] 129 (0,0))))
 have HX3:Hid (Blk (w2.alloc (.cells #[.int .i64 0, .slice none 0 0, .slice none 0 0, .slice none 0 0] 129 (0,0))) w2.heap.size 129 #[.int .i64 0, .slice none 0 0, .slice none 0 0, .slice none 0 0]):=Lib.hid (Blk.new w2 _ _)
 have hb2:=HP2.out.lt
 go_upto_region 6 with fail
 generalize w2.alloc (.cells #[.int .i64 0, .slice none 0 0, .slice none 0 0, .slice none 0 0] 129 (0,0))=w3 at *
 obtain ⟨xb,hxb⟩:∃ q,w2.heap.size=q:=⟨_,rfl⟩
 rw [hxb] at HX3 hb2 hgw ⊢
 have HGx:Hid (g ≠ xb∧bx < xb∧xb < w3.heap.size):=Lib.hid ⟨by omega,hb2,HX3.out.lt⟩
 clear hxb HP2 HB2 HV2 HR2 hb2
 have HG3:Hid (w3.grownBy w3 (some xb)):=Lib.hid (World.grownBy.refl _ _)
 have HAny:Hid (∀ P:Option Int,anyP y0=P→PP=rowO P (rdW pP (spl 44 y1) []) (rdW pP (spl 44 y2) []) (rdW poP (spl 44 y3) [])):=Lib.hid fun P h => by rw [← h];exact HPP.out
 clear HPP
 have hw0:=HR3.out.2 0 y0 rfl
 have hse0:=strL_list y0
 obtain ⟨AN,hAN⟩:∃ b,(y0 == [97,110,121])=b:=⟨_,rfl⟩
 have HAN:=Lib.hid hAN
 go_upto_if 28 with fail
 clear hAN
 go_cut [7] (fun s7 wx => ∃ (p:Int) (ok:Bool),s7=.bool ok∧Hid (Blk wx xb 129 #[.int .i64 p, .slice none 0 0, .slice none 0 0, .slice none 0 0])∧Hid (w3.grownBy wx (some xb))∧Hid (PP=rowO (if ok=true then some p else none) (rdW pP (spl 44 y1) []) (rdW pP (spl 44 y2) []) (rdW poP (spl 44 y3) [])))
 case first =>
  rcases AN.eq_false_or_eq_true with hAt | hAt
  ·subst hAt
   have hany:y0=[97,110,121]:=by simpa using HAN.out
   have hp:anyP y0=some 0:=by unfold anyP;rw [if_pos hany]
   have HE:=Lib.hid (HAny.out _ hp)
   obtain ⟨S0,hS0⟩:∃ q,strL y0=q:=⟨_,rfl⟩
   rw [hS0] at hw0 hse0
   clear HAny hp hany hS0
   go_wp2_with fail
   go_meet
   case rel => exact ⟨0,true,rfl,HX3,HG3,HE⟩
  ·subst hAt
   have hany:¬ y0=[97,110,121]:=by simpa using HAN.out
   have hp:anyP y0=if numOk y0 9=true∧0 < numV y0 then some (numV y0) else none:=by unfold anyP;rw [if_neg hany]
   have HAn:=Lib.hid hp
   have HNm:=Lib.hid fun wx (hv:Vr wx) => qNumber_any y0 9 wx hv (by have:=L0.out;omega) (by decide)
   obtain ⟨S0,hS0⟩:∃ q,strL y0=q:=⟨_,rfl⟩
   rw [hS0] at HNm hw0 hse0
   generalize numOk y0 9=OK at *
   generalize numV y0=V at *
   clear hp hS0
   have HNx:=Lib.hid (HNm.out w3 HV3.out)
   clear HNm
   go_wp2_with fail
   refine HNx.out.mono ?_
   rintro e w4 ⟨NN,rfl,hnv,hb⟩
   have HNv:Hid (OK=true→NN=V):=Lib.hid hnv
   clear hnv
   have HX4:=Lib.hid (HX3.out.below hb HX3.out.lt)
   have HG4:Hid (w3.grownBy w4 (some xb)):=Lib.hid (grown_of_below hb)
   have HX5:Hid (Blk (w4.setCell ⟨xb,0,none⟩ (.int .i64 NN)) xb 129 #[.int .i64 NN, .slice none 0 0, .slice none 0 0, .slice none 0 0]):=Lib.hid (HX4.out.set 0 _)
   have HG5:Hid (w3.grownBy (w4.setCell ⟨xb,0,none⟩ (.int .i64 NN)) (some xb)):=Lib.hid (HG4.out.trans (grown_set _ _ _ _))
   have x0:=HX4.out.cell 0
   have x1:=HX4.out.cell 1
   have x2:=HX4.out.cell 2
   have x3:=HX4.out.cell 3
   have xf:=HX4.out.free
   simp at x0 x1 x2 x3
   clear hb HNx HX3 HX4 HG3 HG4
   go_upto_region 8 with fail
   clear x0 x1 x2 x3 xf
   generalize w4.setCell ⟨xb,0,none⟩ (.int .i64 NN)=w5 at *
   have HP5:Hid (Blk w5 bx 129 #[.int .i64 0, .slice none 0 0, .slice none 0 0, .slice none 0 0]):=Lib.hid ((HP3.out.keep HG5.out (by have:=HGx.out;omega)))
   have HB5:Hid (Below bx w w5):=Lib.hid (HB3.out.grown HG5.out (by have:=HGx.out;omega) (fun k hk => by injection hk with hk;have:=HGx.out;omega))
   have x0:=HX5.out.cell 0
   have x1:=HX5.out.cell 1
   have x2:=HX5.out.cell 2
   have x3:=HX5.out.cell 3
   have xf:=HX5.out.free
   simp at x0 x1 x2 x3
   by_cases hpos:NN≤0
   ·have hPP:=HAny.out none (HAn.out.trans (if_neg (fun h => by have h1:=HNv.out h.1;have h2:=h.2;omega)))
    rw [rowO_p] at hPP
    subst hPP
    clear HAny HAn HNv
    have q0:=HP5.out.cell 0
    have q1:=HP5.out.cell 1
    have q2:=HP5.out.cell 2
    have q3:=HP5.out.cell 3
    have qf:=HP5.out.free
    simp at q0 q1 q2 q3
    have c4:=(HP5.out.set4p (x':=.int .i64 NN) (y':=.slice none 0 0) (z':=.slice none 0 0) (u':=.slice none 0 0))
    have HBf:=Lib.hid (HRet.out _ (.int .i64 NN) (.slice none 0 0) (.slice none 0 0) (.slice none 0 0) HP5.out HB5.out)
    have d0:=c4.cell 0
    have d1:=c4.cell 1
    have d2:=c4.cell 2
    have d3:=c4.cell 3
    simp at d0 d1 d2 d3
    clear c4 HRet
    go_wp2_with fail
    refine bodyPost_ret (v:=.tuple #[.agg #[.int .i64 NN, .slice none 0 0, .slice none 0 0, .slice none 0 0], .bool false]) (by simp [results,Tryz.results121,go_sem, *]) rfl (by unfold RowA;exact ⟨(NN,(none,0,0),(none,0,0),(none,0,0)),rfl,(fun r h => by cases h),by first | exact HBf.out | (rw [Hbx.out];exact HBf.out)⟩)
   ·have HE:Hid (PP=rowO (if OK=true then some NN else none) (rdW pP (spl 44 y1) []) (rdW pP (spl 44 y2) []) (rdW poP (spl 44 y3) [])):=Lib.hid (HAny.out _ (HAn.out.trans (by
     cases OK
     ·rw [if_neg (by simp),if_neg (by decide)]
     ·rw [if_pos rfl,if_pos ⟨rfl,by rw [← HNv.out rfl];omega⟩,HNv.out rfl])))
    clear HAny HAn HNv
    go_wp2_with fail
    go_meet
    case rel => exact ⟨NN,OK,rfl,HX5,HG5,HE⟩
 case rest =>
  clear HX3 HG3 HAny hw0 hse0
  obtain ⟨p,ok,rfl,HX4,HG4,HE⟩:=hcut
  obtain ⟨PV,hPV⟩:∃ q,(if ok=true then some p else none)=q:=⟨_,rfl⟩
  have HPV:=Lib.hid hPV
  rw [hPV] at HE
  clear hPV
  have HBk:Hid (∀ wx,w3.grownBy wx (some xb)→Below bx w wx):=Lib.hid fun wx hg => HB3.out.grown hg (by have:=HGx.out;omega) (fun k hk => by injection hk with hk;have:=HGx.out;omega)
  have HPk:Hid (∀ wx,w3.grownBy wx (some xb)→Blk wx bx 129 #[.int .i64 0, .slice none 0 0, .slice none 0 0, .slice none 0 0]):=Lib.hid fun wx hg => HP3.out.keep hg (by have:=HGx.out;omega)
  have HRk:Hid (∀ wx,w3.grownBy wx (some xb)→RdS wx g [y0,y1,y2,y3]):=Lib.hid fun wx hg => HR3.out.grown hg HGx.out.1
  have HVk:Hid (∀ wx,w3.grownBy wx (some xb)→Vr wx):=Lib.hid fun wx hg => HV0.out.below (by rw [Hbx.out];exact HBk.out wx hg)
  have HKp:Hid (∀ wx (a b c d:Value),Blk wx bx 129 #[.int .i64 0, .slice none 0 0, .slice none 0 0, .slice none 0 0]→KeepT [129] wx ((((wx.setCell ⟨bx,0,none⟩ a).setCell ⟨bx,1,none⟩ b).setCell ⟨bx,2,none⟩ c).setCell ⟨bx,3,none⟩ d)):=Lib.hid fun wx a b c d hp => KeepT.of_grown (grown_setCells bx [a,b,c,d] 0 wx) hp (by simp)
  clear HB3 HP3 HR3 HV3
  have hw1:=(HRk.out _ HG4.out).2 1 y1 rfl
  have hg1:=(HRk.out _ HG4.out).1
  have HS1:=Lib.hid (qreadListPf_any y1 _ (HVk.out _ HG4.out) (by have:=L1.out;omega))
  generalize rdW pP (spl 44 y1) []=R1 at *
  generalize strL y1=S1 at *
  go_wp2_with fail
  refine HS1.out.mono ?_
  rintro e w5 ⟨v1,M1,k1,rfl,hk1,hm1,ho1,hu1,hl1,hb⟩
  have hlt1:=HX4.out.lt
  obtain ⟨a1,c1,hv1, -⟩:=ho1.form
  subst hv1
  have HM1:=Lib.hid (And.intro hk1 hm1)
  have HU1:=Lib.hid (And.intro hu1 hl1)
  obtain ⟨n1,hn1⟩:∃ q,M1.length=q:=⟨_,rfl⟩
  have Hn1:=Lib.hid hn1
  rw [hn1] at ho1 ⊢
  have HXm:=Lib.hid (HX4.out.below hb HX4.out.lt)
  have HGm:Hid (w3.grownBy w5 (some xb)):=Lib.hid (HG4.out.trans (grown_of_below hb))
  have HLw1:Hid (xb < wc.heap.size):=Lib.hid hlt1
  have hgt:w5.grownBy (w5.setCell ⟨xb,1,none⟩ (.slice a1 n1 c1)) (some xb):=grown_set _ _ _ _
  have HO1:=Lib.hid (ho1.grown hgt hlt1)
  have HX6:Hid (Blk (w5.setCell ⟨xb,1,none⟩ (.slice a1 n1 c1)) xb 129 #[.int .i64 p, .slice a1 n1 c1, .slice none 0 0, .slice none 0 0]):=Lib.hid (HXm.out.set 1 _)
  have HG6:Hid (w3.grownBy (w5.setCell ⟨xb,1,none⟩ (.slice a1 n1 c1)) (some xb)):=Lib.hid (HGm.out.trans hgt)
  have x0:=HXm.out.cell 0
  have x1:=HXm.out.cell 1
  have x2:=HXm.out.cell 2
  have x3:=HXm.out.cell 3
  have xf:=HXm.out.free
  simp at x0 x1 x2 x3
  clear hk1 hm1 ho1 hu1 hl1 hb HS1 HX4 HG4 hw1 hg1 hlt1 hn1 hgt HGm HXm
  go_upto_region 13 with fail
  clear x0 x1 x2 x3 xf
  generalize w5.setCell ⟨xb,1,none⟩ (.slice a1 n1 c1)=w6 at *
  have hw2:=(HRk.out _ HG6.out).2 2 y2 rfl
  have hg2:=(HRk.out _ HG6.out).1
  have HS2:=Lib.hid (qreadListPf_any y2 _ (HVk.out _ HG6.out) (by have:=L2.out;omega))
  generalize rdW pP (spl 44 y2) []=R2 at *
  generalize strL y2=S2 at *
  go_wp2_with fail
  refine HS2.out.mono ?_
  rintro e w7 ⟨v2,M2,k2,rfl,hk2,hm2,ho2,hu2,hl2,hb⟩
  have hlt2:=HX6.out.lt
  obtain ⟨a2,c2,hv2, -⟩:=ho2.form
  subst hv2
  have HM2:=Lib.hid (And.intro hk2 hm2)
  have HU2:=Lib.hid (And.intro hu2 hl2)
  obtain ⟨n2,hn2⟩:∃ q,M2.length=q:=⟨_,rfl⟩
  have Hn2:=Lib.hid hn2
  rw [hn2] at ho2 ⊢
  have HXm:=Lib.hid (HX6.out.below hb HX6.out.lt)
  have HGm:Hid (w3.grownBy w7 (some xb)):=Lib.hid (HG6.out.trans (grown_of_below hb))
  have HLw2:Hid (xb < w6.heap.size):=Lib.hid hlt2
  have hgt:w7.grownBy (w7.setCell ⟨xb,2,none⟩ (.slice a2 n2 c2)) (some xb):=grown_set _ _ _ _
  have HO1n:=Lib.hid ((HO1.out.later hb).grown hgt HLw1.out)
  have HO2:=Lib.hid (ho2.grown hgt hlt2)
  have HX8:Hid (Blk (w7.setCell ⟨xb,2,none⟩ (.slice a2 n2 c2)) xb 129 #[.int .i64 p, .slice a1 n1 c1, .slice a2 n2 c2, .slice none 0 0]):=Lib.hid (HXm.out.set 2 _)
  have HG8:Hid (w3.grownBy (w7.setCell ⟨xb,2,none⟩ (.slice a2 n2 c2)) (some xb)):=Lib.hid (HGm.out.trans hgt)
  clear HO1
  have HO1:=HO1n
  clear HO1n
  have x0:=HXm.out.cell 0
  have x1:=HXm.out.cell 1
  have x2:=HXm.out.cell 2
  have x3:=HXm.out.cell 3
  have xf:=HXm.out.free
  simp at x0 x1 x2 x3
  clear hk2 hm2 ho2 hu2 hl2 hb HS2 HX6 HG6 hw2 hg2 hlt2 hn2 hgt HGm HXm
  go_upto_region 14 with fail
  clear x0 x1 x2 x3 xf
  generalize w7.setCell ⟨xb,2,none⟩ (.slice a2 n2 c2)=w8 at *
  have hw3:=(HRk.out _ HG8.out).2 3 y3 rfl
  have hg3:=(HRk.out _ HG8.out).1
  have HS3:=Lib.hid (qreadListPo_any y3 _ (HVk.out _ HG8.out) (by have:=L3.out;omega))
  generalize rdW poP (spl 44 y3) []=R3 at *
  generalize strL y3=S3 at *
  go_wp2_with fail
  refine HS3.out.mono ?_
  rintro e w9 ⟨v3,M3,k3,rfl,hk3,hm3,ho3,hl3,hb⟩
  have hlt3:=HX8.out.lt
  obtain ⟨a3,c3,hv3, -⟩:=ho3.form
  subst hv3
  have HM3:=Lib.hid (And.intro hk3 hm3)
  have HU3:=Lib.hid (hl3)
  obtain ⟨n3,hn3⟩:∃ q,M3.length=q:=⟨_,rfl⟩
  have Hn3:=Lib.hid hn3
  rw [hn3] at ho3 ⊢
  have HXm:=Lib.hid (HX8.out.below hb HX8.out.lt)
  have HGm:Hid (w3.grownBy w9 (some xb)):=Lib.hid (HG8.out.trans (grown_of_below hb))
  have HLw3:Hid (xb < w8.heap.size):=Lib.hid hlt3
  have hgt:w9.grownBy (w9.setCell ⟨xb,3,none⟩ (.slice a3 n3 c3)) (some xb):=grown_set _ _ _ _
  have HO1n:=Lib.hid ((HO1.out.later hb).grown hgt HLw1.out)
  have HO2n:=Lib.hid ((HO2.out.later hb).grown hgt HLw2.out)
  have HO3:=Lib.hid (ho3.grown hgt hlt3)
  have HX10:Hid (Blk (w9.setCell ⟨xb,3,none⟩ (.slice a3 n3 c3)) xb 129 #[.int .i64 p, .slice a1 n1 c1, .slice a2 n2 c2, .slice a3 n3 c3]):=Lib.hid (HXm.out.set 3 _)
  have HG10:Hid (w3.grownBy (w9.setCell ⟨xb,3,none⟩ (.slice a3 n3 c3)) (some xb)):=Lib.hid (HGm.out.trans hgt)
  clear HO1
  have HO1:=HO1n
  clear HO1n
  clear HO2
  have HO2:=HO2n
  clear HO2n
  have x0:=HXm.out.cell 0
  have x1:=HXm.out.cell 1
  have x2:=HXm.out.cell 2
  have x3:=HXm.out.cell 3
  have xf:=HXm.out.free
  simp at x0 x1 x2 x3
  clear hk3 hm3 ho3 hl3 hb HS3 HX8 HG8 hw3 hg3 hlt3 hn3 hgt HGm HXm
  go_upto_region 15 with fail
  clear x0 x1 x2 x3 xf
  generalize w9.setCell ⟨xb,3,none⟩ (.slice a3 n3 c3)=w10 at *
  have HP5:=Lib.hid (HPk.out _ HG10.out)
  have HB5:=Lib.hid (HBk.out _ HG10.out)
  have HFl:Hid (FlcT w10 ⟨p,M1,M2,M3⟩ (p,(a1,n1,c1),(a2,n2,c2),(a3,n3,c3))):=Lib.hid ⟨rfl,HO1.out.rdT,HO2.out.rdT,HO3.out.rdT,Hn1.out,Hn2.out,Hn3.out,by have h1:=HU1.out.2;have h2:=Hn1.out;have h3:=L1.out;show n1≤100000;omega,by have h1:=HU2.out.2;have h2:=Hn2.out;have h3:=L2.out;show n2≤100000;omega,by have h1:=HU3.out;have h2:=Hn3.out;have h3:=L3.out;show n3≤100000;omega⟩
  have HUn:Hid (FR.Un ⟨p,M1,M2,M3⟩):=Lib.hid ⟨HU1.out.1,HU2.out.1,by have h1:=HU1.out.2;have h3:=L1.out;show M1.length≤100000;omega,by have h1:=HU2.out.2;have h3:=L2.out;show M2.length≤100000;omega,by have h1:=HU3.out;have h3:=L3.out;show M3.length≤100000;omega⟩
  have HKq:=Lib.hid (HFl.out.keep (HKp.out w10 (.int .i64 p) (.slice a1 n1 c1) (.slice a2 n2 c2) (.slice a3 n3 c3) HP5.out) (by decide) (by decide))
  clear HO1 HO2 HO3 HFl
  have x0:=HX10.out.cell 0
  have x1:=HX10.out.cell 1
  have x2:=HX10.out.cell 2
  have x3:=HX10.out.cell 3
  have xf:=HX10.out.free
  simp at x0 x1 x2 x3
  cases ok
  ·have hPP:PP=none:=by rw [HE.out, ← HPV.out,if_neg (by decide)];exact rowO_p _ _ _
   subst hPP
   clear HM1 HM2 HM3 HE HKq HUn
   have q0:=HP5.out.cell 0
   have q1:=HP5.out.cell 1
   have q2:=HP5.out.cell 2
   have q3:=HP5.out.cell 3
   have qf:=HP5.out.free
   simp at q0 q1 q2 q3
   have c4:=(HP5.out.set4p (x':=.int .i64 p) (y':=.slice a1 n1 c1) (z':=.slice a2 n2 c2) (u':=.slice a3 n3 c3))
   have HBf:=Lib.hid (HRet.out w10 (.int .i64 p) (.slice a1 n1 c1) (.slice a2 n2 c2) (.slice a3 n3 c3) HP5.out HB5.out)
   have d0:=c4.cell 0
   have d1:=c4.cell 1
   have d2:=c4.cell 2
   have d3:=c4.cell 3
   simp at d0 d1 d2 d3
   clear c4 HRet
   go_wp2_with fail
   refine bodyPost_ret (v:=.tuple #[.agg #[.int .i64 p, .slice a1 n1 c1, .slice a2 n2 c2, .slice a3 n3 c3], .bool false]) (by simp [results,Tryz.results121,go_sem, *]) rfl (by unfold RowA;exact ⟨(p,(a1,n1,c1),(a2,n2,c2),(a3,n3,c3)),rfl,(fun r h => by cases h),by first | exact HBf.out | (rw [Hbx.out];exact HBf.out)⟩)
  cases k1
  ·have hPP:PP=none:=by
    have h1:=HM1.out.1
    cases e:R1 with
    | none => rw [HE.out,e];exact rowO_x _ _ _
    | some q => rw [e] at h1;cases h1
   subst hPP
   clear HM1 HM2 HM3 HE HKq HUn
   have q0:=HP5.out.cell 0
   have q1:=HP5.out.cell 1
   have q2:=HP5.out.cell 2
   have q3:=HP5.out.cell 3
   have qf:=HP5.out.free
   simp at q0 q1 q2 q3
   have c4:=(HP5.out.set4p (x':=.int .i64 p) (y':=.slice a1 n1 c1) (z':=.slice a2 n2 c2) (u':=.slice a3 n3 c3))
   have HBf:=Lib.hid (HRet.out w10 (.int .i64 p) (.slice a1 n1 c1) (.slice a2 n2 c2) (.slice a3 n3 c3) HP5.out HB5.out)
   have d0:=c4.cell 0
   have d1:=c4.cell 1
   have d2:=c4.cell 2
   have d3:=c4.cell 3
   simp at d0 d1 d2 d3
   clear c4 HRet
   go_wp2_with fail
   refine bodyPost_ret (v:=.tuple #[.agg #[.int .i64 p, .slice a1 n1 c1, .slice a2 n2 c2, .slice a3 n3 c3], .bool false]) (by simp [results,Tryz.results121,go_sem, *]) rfl (by unfold RowA;exact ⟨(p,(a1,n1,c1),(a2,n2,c2),(a3,n3,c3)),rfl,(fun r h => by cases h),by first | exact HBf.out | (rw [Hbx.out];exact HBf.out)⟩)
  cases k2
  ·have hPP:PP=none:=by
    have h1:=HM2.out.1
    cases e:R2 with
    | none => rw [HE.out,e];exact rowO_y _ _ _
    | some q => rw [e] at h1;cases h1
   subst hPP
   clear HM1 HM2 HM3 HE HKq HUn
   have q0:=HP5.out.cell 0
   have q1:=HP5.out.cell 1
   have q2:=HP5.out.cell 2
   have q3:=HP5.out.cell 3
   have qf:=HP5.out.free
   simp at q0 q1 q2 q3
   have c4:=(HP5.out.set4p (x':=.int .i64 p) (y':=.slice a1 n1 c1) (z':=.slice a2 n2 c2) (u':=.slice a3 n3 c3))
   have HBf:=Lib.hid (HRet.out w10 (.int .i64 p) (.slice a1 n1 c1) (.slice a2 n2 c2) (.slice a3 n3 c3) HP5.out HB5.out)
   have d0:=c4.cell 0
   have d1:=c4.cell 1
   have d2:=c4.cell 2
   have d3:=c4.cell 3
   simp at d0 d1 d2 d3
   clear c4 HRet
   go_wp2_with fail
   refine bodyPost_ret (v:=.tuple #[.agg #[.int .i64 p, .slice a1 n1 c1, .slice a2 n2 c2, .slice a3 n3 c3], .bool false]) (by simp [results,Tryz.results121,go_sem, *]) rfl (by unfold RowA;exact ⟨(p,(a1,n1,c1),(a2,n2,c2),(a3,n3,c3)),rfl,(fun r h => by cases h),by first | exact HBf.out | (rw [Hbx.out];exact HBf.out)⟩)
  cases k3
  ·have hPP:PP=none:=by
    have h1:=HM3.out.1
    cases e:R3 with
    | none => rw [HE.out,e];exact rowO_z _ _ _
    | some q => rw [e] at h1;cases h1
   subst hPP
   clear HM1 HM2 HM3 HE HKq HUn
   have q0:=HP5.out.cell 0
   have q1:=HP5.out.cell 1
   have q2:=HP5.out.cell 2
   have q3:=HP5.out.cell 3
   have qf:=HP5.out.free
   simp at q0 q1 q2 q3
   have c4:=(HP5.out.set4p (x':=.int .i64 p) (y':=.slice a1 n1 c1) (z':=.slice a2 n2 c2) (u':=.slice a3 n3 c3))
   have HBf:=Lib.hid (HRet.out w10 (.int .i64 p) (.slice a1 n1 c1) (.slice a2 n2 c2) (.slice a3 n3 c3) HP5.out HB5.out)
   have d0:=c4.cell 0
   have d1:=c4.cell 1
   have d2:=c4.cell 2
   have d3:=c4.cell 3
   simp at d0 d1 d2 d3
   clear c4 HRet
   go_wp2_with fail
   refine bodyPost_ret (v:=.tuple #[.agg #[.int .i64 p, .slice a1 n1 c1, .slice a2 n2 c2, .slice a3 n3 c3], .bool false]) (by simp [results,Tryz.results121,go_sem, *]) rfl (by unfold RowA;exact ⟨(p,(a1,n1,c1),(a2,n2,c2),(a3,n3,c3)),rfl,(fun r h => by cases h),by first | exact HBf.out | (rw [Hbx.out];exact HBf.out)⟩)
  ·have hPP:PP=some ⟨p,M1,M2,M3⟩:=by
    have h1:=HM1.out
    have h2:=HM2.out
    have h3:=HM3.out
    cases e1:R1 with
    | none => rw [e1] at h1;cases h1.1
    | some q1 =>
      cases e2:R2 with
      | none => rw [e2] at h2;cases h2.1
      | some q2 =>
        cases e3:R3 with
        | none => rw [e3] at h3;cases h3.1
        | some q3 => rw [HE.out,e1,e2,e3, ← h1.2 q1 e1, ← h2.2 q2 e2, ← h3.2 q3 e3, ← HPV.out,if_pos rfl];rfl
   subst hPP
   clear HM1 HM2 HM3 HE
   have q0:=HP5.out.cell 0
   have q1:=HP5.out.cell 1
   have q2:=HP5.out.cell 2
   have q3:=HP5.out.cell 3
   have qf:=HP5.out.free
   simp at q0 q1 q2 q3
   have c4:=(HP5.out.set4p (x':=.int .i64 p) (y':=.slice a1 n1 c1) (z':=.slice a2 n2 c2) (u':=.slice a3 n3 c3))
   have HBf:=Lib.hid (HRet.out w10 (.int .i64 p) (.slice a1 n1 c1) (.slice a2 n2 c2) (.slice a3 n3 c3) HP5.out HB5.out)
   have d0:=c4.cell 0
   have d1:=c4.cell 1
   have d2:=c4.cell 2
   have d3:=c4.cell 3
   simp at d0 d1 d2 d3
   clear c4 HRet
   go_wp2_with fail
   refine bodyPost_ret (v:=.tuple #[.agg #[.int .i64 p, .slice a1 n1 c1, .slice a2 n2 c2, .slice a3 n3 c3], .bool true]) (by simp [results,Tryz.results121,go_sem, *]) rfl (by unfold RowA;exact ⟨(p,(a1,n1,c1),(a2,n2,c2),(a3,n3,c3)),rfl,(fun r h => by injection h with h;subst h;exact ⟨HKq.out,HUn.out⟩),by first | exact HBf.out | (rw [Hbx.out];exact HBf.out)⟩)
theorem kLines_any (s:List UInt8) (w:World) (hv:Vr w) (hs:s.length≤1000000) :
  Calls Tryz.prog 117 #[.string (strL s)] w fun e w' => ∃ g m l cl M,(spl 10 s).length=m + 1∧(spl 10 s)[m]?=some l∧(cl=true→M=m∧l=[])∧(cl=false→M=m + 1∧l ≠ [])∧e=.returned (.tuple #[.slice (some ⟨g,0,none⟩) M (m + 1), .bool cl])∧RdS w' g (spl 10 s)∧Below w.heap.size w w':=by
 have HSp:=Lib.hid (split_any s 10 w hv hs)
 have hnl:(spl 10 s).length≤1000001:=by
  rw [spl_len]
  have:=List.count_le_length (a:=(10:UInt8)) (l:=s)
  omega
 have hne:=spl_ne 10 s
 generalize spl 10 s=A at *
 obtain ⟨m,hm⟩:∃ m,A.length=m + 1:=⟨A.length - 1,by have:=List.length_pos_iff.2 hne;omega⟩
 obtain ⟨l,hl⟩:∃ l,A[m]?=some l:=⟨_,List.getElem?_eq_getElem (by omega)⟩
 rw [hm] at HSp hnl
 have Hm:=Lib.hid hm
 have Hl:=Lib.hid hl
 generalize strL s=SS at *
 clear hm hl hne hv hs
 go_enter Tryz.func117,Tryz.ntmps117
 go_wp2_with fail
 refine HSp.out.mono ?_
 rintro e w1 ⟨g,rfl,hr,hb⟩
 have HR1:=Lib.hid hr
 have HB1:=Lib.hid hb
 have hc:=hr.2 m l Hl.out
 have hse:=strL_list l
 obtain ⟨SX,hSX⟩:∃ q,strL l=q:=⟨_,rfl⟩
 rw [hSX] at hc hse
 clear hSX hr hb HSp
 have hmi:(m:Int) + 1 - 1=(m:Int):=by omega
 by_cases h0:l=[]
 ·have hem:l.isEmpty=true:=by rw [h0];rfl
  go_wp2_with fail
  go_ret2
  exact ⟨g,m,l,true,m,Hm.out,Hl.out,fun _ => ⟨rfl,h0⟩,fun h => (by cases h),rfl,HR1.out,HB1.out⟩
 ·have hem:l.isEmpty=false:=by cases l with
   | nil => exact absurd rfl h0
   | cons _ _ => rfl
  go_wp2_with fail
  go_ret2
  exact ⟨g,m,l,false,m + 1,Hm.out,Hl.out,fun h => (by cases h),fun _ => ⟨rfl,h0⟩,rfl,HR1.out,HB1.out⟩
def rvG {α:Type} (chk:List α→Int):Sum Nat (List α)→List α × Int × Int
 | .inl i => ([],(i:Int),9)
 | .inr L => if chk L=0 then (L,0,0) else ([],0,chk L)
theorem rsG_eq {α:Type} (f:List UInt8→Option α) (chk:List α→Int) (s:List UInt8):rsG f chk s=if 200000 < s.length then ([],0,2) else rvG chk (rdG f 0 (spl 10 s) []):=by
 unfold rsG
 split
 ·rfl
 ·cases rdG f 0 (spl 10 s) [] <;> rfl
theorem rowP_nil:rowP []=none:=by
 unfold rowP
 have e:spl 32 ([]:List UInt8)=[[]]:=rfl
 rw [e,if_pos (by decide)]
theorem rowP_pos {x:List UInt8} {r:FR} (h:rowP x=some r):1≤x.length:=by
 cases x with
 | nil => rw [rowP_nil] at h;cases h
 | cons a l => simp
theorem fRead_any (s:List UInt8) (w:World) (hv:Vr w) (hs:s.length≤1000000) :
  Calls Tryz.prog 34 #[.string (strL s)] w fun e w' => ∃ v L i f,rsG rowP rowsF s=(L,i,f)∧e=.returned (.tuple #[v, .int .i64 i, .int .i64 f])∧FlO w' w.heap.size v L∧Below w.heap.size w w':=by
 have HLi:=Lib.hid (kLines_any s w hv hs)
 have HV0:=Lib.hid hv
 have hsz:(strL s).size=s.length:=strL_size s
 have hxs:∀ x ∈ spl 10 s,x.length≤s.length:=fun x h => (spl_mem 10 s x h).2.2
 have Hxs:=Lib.hid hxs
 have HSm:=Lib.hid (spl_sum 10 s)
 obtain ⟨sl,hsl⟩:∃ q,s.length=q:=⟨_,rfl⟩
 have HR0:Hid (rsG rowP rowsF s=if 200000 < sl then ([],0,2) else rvG rowsF (rdG rowP 0 (spl 10 s) [])):=Lib.hid (by rw [← hsl];exact rsG_eq _ _ _)
 rw [hsl] at hsz HSm hs Hxs
 generalize rsG rowP rowsF s=RR at *
 generalize spl 10 s=A at *
 obtain ⟨SS,hSS⟩:∃ q,strL s=q:=⟨_,rfl⟩
 rw [hSS] at HLi hsz ⊢
 clear hSS hsl hv hxs
 go_enter Tryz.func34,Tryz.ntmps34
 by_cases hbig:200000 < sl
 ·have hR:=HR0.out
  rw [if_pos hbig] at hR
  subst hR
  clear HR0 HLi HSm
  have hbi:(200000:Int) < (sl:Int):=by omega
  go_wp2_with fail
  go_ret3
  exact ⟨.slice none 0 0, [],0,2,rfl,rfl,FlO.nil _ _,Below.refl _ _⟩
 ·have hR:=HR0.out
  rw [if_neg hbig] at hR
  have HR:=Lib.hid hR
  have hbi:¬ (200000:Int) < (sl:Int):=by omega
  have hbi2:¬ (sl:Int) > 200000:=by omega
  clear HR0 hR
  go_wp2_with fail
  refine HLi.out.mono ?_
  rintro e w1 ⟨g,m,l,cl,M,hm,hl,hct,hcf,rfl,hr,hb⟩
  have HR1:=Lib.hid hr
  have HB1:=Lib.hid hb
  have HV1:=Lib.hid (HV0.out.below hb)
  have Hm:=Lib.hid hm
  have Hl:=Lib.hid hl
  have Hct:=Lib.hid hct
  have Hcf:=Lib.hid hcf
  have hMm:M≤m + 1:=by
   cases cl
   ·have:=(hcf rfl).1;omega
   ·have:=(hct rfl).1;omega
  have hml:m≤1000000:=by
   have h1:=HSm.out
   have key:∀ B:List (List UInt8),B.length≤sumL B:=fun B => by
    induction B with
    | nil => exact Nat.le_refl _
    | cons x B ih => rw [sumL_cons,List.length_cons];omega
   have h2:=key A
   omega
  clear hr hb HLi HV0 hm hl hct hcf hbi hbi2
  go_wp2_with fail
  go_loopw [7,8,9,10,11,23] (fun ov s8 s9 s10 s11 i wr => ∃ (k:Nat) (acc:List FR),k≤M∧k≤m∧i=.int .i64 (k:Int)∧Hid (FlO wr w1.heap.size ov acc)∧Hid (acc.length=k)∧Hid (RR=rvG rowsF (rdG rowP k (A.drop k) acc))∧Hid (∀ r ∈ acc,r.Un)∧Hid (2 * k + sumL (A.drop k)≤sl + 1)∧Hid (Below w1.heap.size w1 wr)) (fun _ _ _ _ _ i _ => M - (intOf i).toNat)
  case atStart => exact ⟨0, [],Nat.zero_le _,Nat.zero_le _,rfl,Lib.hid (FlO.nil _ _),Lib.hid rfl,HR,Lib.hid (fun p hp => by cases hp),Lib.hid (by rw [List.drop_zero,HSm.out];omega),Lib.hid (Below.refl _ _)⟩
  case round =>
   clear HR HSm
   obtain ⟨k,acc,hkM,hkm,rfl,HO,HAl,HA,HU,HS,HB⟩:=hrel
   have HRx:=Lib.hid (HR1.out.below HB.out)
   have HV:=Lib.hid (HV1.out.below HB.out)
   by_cases hlt:k < M
   ·obtain ⟨x,hx⟩:∃ x,A[k]?=some x:=⟨_,List.getElem?_eq_getElem (by rw [Hm.out];omega)⟩
    have Hx:=Lib.hid hx
    have hc:=HRx.out.2 k x hx
    have hgl:=HRx.out.1
    have hxl:x.length≤200000:=by have:=Hxs.out x (List.mem_of_getElem? hx);omega
    have HPa:=Lib.hid fun wx (hv:Vr wx) => rRead_any x wx hv hxl
    unfold RowA at HPa
    have HPs:Hid (∀ p,rowP x=some p→1≤x.length):=Lib.hid fun p h => rowP_pos h
    have HSd:=Lib.hid (sumL_drop hx)
    obtain ⟨SX,hSX⟩:∃ q,strL x=q:=⟨_,rfl⟩
    rw [hSX] at hc HPa
    clear hx hSX
    go_upto_region 8 with fail
    have HPx:=Lib.hid (HPa.out _ HV.out)
    clear HPa hc hgl HRx HV
    go_wp2_with fail
    refine HPx.out.mono ?_
    rintro e w3 ⟨⟨p,⟨a1,n1,c1⟩,⟨a2,n2,c2⟩,⟨a3,n3,c3⟩⟩,rfl,hpr,hb⟩
    have HPr:=Lib.hid hpr
    have HB3:=Lib.hid (HB.out.trans (hb.mono HB.out.size))
    have HO3:=Lib.hid (HO.out.later hb)
    clear hb hpr HB HPx HO
    have HP4:Hid (Blk (w3.alloc (.cells #[.int .i64 p, .slice a1 n1 c1, .slice a2 n2 c2, .slice a3 n3 c3] 129 (0,0))) w3.heap.size 129 #[.int .i64 p, .slice a1 n1 c1, .slice a2 n2 c2, .slice a3 n3 c3]):=Lib.hid (Blk.new w3 _ _)
    have HB4:Hid (Below w1.heap.size w1 (w3.alloc (.cells #[.int .i64 p, .slice a1 n1 c1, .slice a2 n2 c2, .slice a3 n3 c3] 129 (0,0)))):=Lib.hid (Below.alloc HB3.out HB3.out.size _)
    have HO4:Hid (FlO (w3.alloc (.cells #[.int .i64 p, .slice a1 n1 c1, .slice a2 n2 c2, .slice a3 n3 c3] 129 (0,0))) w1.heap.size u7 acc):=Lib.hid (HO3.out.later (below_alloc (Below.refl _ _) _))
    have HPr4:Hid (∀ r,rowP x=some r→FlcT (w3.alloc (.cells #[.int .i64 p, .slice a1 n1 c1, .slice a2 n2 c2, .slice a3 n3 c3] 129 (0,0))) r (p,(a1,n1,c1),(a2,n2,c2),(a3,n3,c3))∧r.Un):=Lib.hid fun r h => ⟨(HPr.out r h).1.keep (S:=[]) (KeepT.of_below (below_alloc (Below.refl _ _) _)) (by simp) (by simp),(HPr.out r h).2⟩
    clear HB3 HO3 HPr
    rw [show (fcC (p,(a1,n1,c1),(a2,n2,c2),(a3,n3,c3))).toArray=#[.int .i64 p, .slice a1 n1 c1, .slice a2 n2 c2, .slice a3 n3 c3] from rfl]
    go_upto_region 9 with fail
    generalize w3.alloc (.cells #[.int .i64 p, .slice a1 n1 c1, .slice a2 n2 c2, .slice a3 n3 c3] 129 (0,0))=w4 at *
    generalize w3.heap.size=bx at *
    cases hPX:rowP x with
    | none =>
      have HpN:Hid (rowP x=none):=Lib.hid hPX
      simp only [Option.isSome_none]
      have HEnd:Hid (RR=([],(k:Int),9)):=Lib.hid (by
       rw [HA.out]
       by_cases hkm2:k < m
       ·rw [rdG_step Hm.out hkm2 Hx.out,HpN.out];rfl
       ·have e:k=m:=by omega
        subst e
        have hcf:cl=false:=by
         cases cl
         ·rfl
         ·have:=(Hct.out rfl).1;omega
        have hl0:=(Hcf.out hcf).2
        rw [rdG_end Hm.out Hl.out,if_neg hl0];rfl)
      have hMc:(cl=true∧M=m) ∨ (cl=false∧M=m + 1):=by
       cases cl
       ·exact .inr ⟨rfl,(Hcf.out rfl).1⟩
       ·exact .inl ⟨rfl,(Hct.out rfl).1⟩
      clear HA HpN HPs HSd HS HU HAl Hct Hcf Hl Hx HO4 HPr4 hPX
      go_wp2_with fail
      go_ret3
      exact ⟨.slice none 0 0, [],(k:Int),9,HEnd.out,rfl,FlO.nil _ _,HB1.out.trans (HB4.out.mono HB1.out.size)⟩
    | some r =>
      have HpS:Hid (rowP x=some r):=Lib.hid hPX
      have HUy:Hid (r.Un):=Lib.hid ((HPr4.out r hPX).2)
      have HFl:Hid (FlcT w4 r (p,(a1,n1,c1),(a2,n2,c2),(a3,n3,c3))):=Lib.hid ((HPr4.out r hPX).1)
      have HPy:=Lib.hid (HPs.out _ hPX)
      simp only [Option.isSome_some]
      clear HPs HPr4 hPX
      have hcase:(cl=false∧k=m) ∨ (k < m):=by
       rcases Nat.lt_or_ge k m with h | h
       ·exact .inr h
       ·left
        refine ⟨?_,by omega⟩
        cases cl
        ·rfl
        ·have:=(Hct.out rfl).1;omega
      have hMc:(cl=true∧M=m) ∨ (cl=false∧M=m + 1):=by
       cases cl
       ·exact .inr ⟨rfl,(Hcf.out rfl).1⟩
       ·exact .inl ⟨rfl,(Hct.out rfl).1⟩
      rcases hcase with ⟨rfl,rfl⟩ | hkm2
      ·have hl0:=(Hcf.out rfl).2
       have hM:=(Hcf.out rfl).1
       have HEnd:Hid (RR=([],(k:Int),9)):=Lib.hid (by rw [HA.out,rdG_end Hm.out Hl.out,if_neg hl0];rfl)
       subst hM
       clear HA HSd HS HU HAl Hct Hcf Hl Hx HO4 HUy HPy hMc HFl
       have hk1:((k:Int)=(k:Int) + 1 - 1)=True:=eq_true (by omega)
       have hk2:(k:Int) + 1 - 1=(k:Int):=by omega
       go_wp2_with fail
       go_ret3
       exact ⟨.slice none 0 0, [],(k:Int),9,HEnd.out,rfl,FlO.nil _ _,HB1.out.trans (HB4.out.mono HB1.out.size)⟩
      ·have HA2:Hid (RR=rvG rowsF (rdG rowP (k + 1) (A.drop (k + 1)) (acc ++ [r]))):=Lib.hid (by rw [HA.out,rdG_step Hm.out hkm2 Hx.out,HpS.out])
       have HU2:Hid (∀ r2 ∈ acc ++ [r],r2.Un):=Lib.hid (fun p hp => (List.mem_append.1 hp).elim (HU.out p) (fun h => by rw [List.mem_singleton.1 h];exact HUy.out))
       have HS2:Hid (2 * (k + 1) + sumL (A.drop (k + 1))≤sl + 1):=Lib.hid (by have h1:=HS.out;have h2:=HSd.out;have h3:=HPy.out;omega)
       clear HA HSd HS HU Hct Hcf Hl Hx HUy HPy
       have hcc:(fcC (p,(a1,n1,c1),(a2,n2,c2),(a3,n3,c3))).toArray=#[.int .i64 p, .slice a1 n1 c1, .slice a2 n2 c2, .slice a3 n3 c3]:=rfl
       clear hcc
       have d0:=HP4.out.cell 0
       have d1:=HP4.out.cell 1
       have d2:=HP4.out.cell 2
       have d3:=HP4.out.cell 3
       simp at d0 d1 d2 d3
       have hk1:¬ ((k:Int)=(M:Int) - 1∧cl=false):=fun h => by
        obtain ⟨h1,rfl⟩:=h
        rcases hMc with ⟨h2, -⟩ | ⟨-,h2⟩
        ·cases h2
        ·omega
       have hAlk:=HAl.out
       have hkM2:k + 1≤M:=hlt
       have hkm3:k + 1≤m:=hkm2
       rcases hMc with ⟨rfl,hM⟩ | ⟨rfl,hM⟩
       ·clear hM hk1 hMm
        go_upto_region 11 with fail
        obtain ⟨D,hD,hDl,hDc⟩:=HO4.out
        have HDl:Hid (D.length=k):=Lib.hid (hDl.trans HAl.out)
        have HDO:=Lib.hid hD
        have HDc:=Lib.hid hDc
        have HDk:=Lib.hid hDl
        clear hD hDl hDc HO4
        go_wp2_with (at_builtin;refine wpList_app flE rfl (.tmp 47) (.tmp 49) rfl rfl (World.ownsRow.alloc HDO.out _) rfl (src_new layFl _ (p,(a1,n1,c1),(a2,n2,c2),(a3,n3,c3)) _ _ ?c0) ?c1 ?c2 ?c3 ?c4 ?_)
        case c0 => rfl
        case c1 => exact layFl.one _
        case c2 => have:=HDl.out;unfold maxLen;omega
        case c3 => have:=HDl.out;omega
        case c4 => have:=HB4.out.size;simp;omega
        all_goals try (exfalso;omega)
        intro v' w' hO hG
        have hka:KeepT [] w4 (w4.alloc (.cells #[.int .i64 p, .slice a1 n1 c1, .slice a2 n2 c2, .slice a3 n3 c3] 129 (0,0))):=KeepT.of_below (below_alloc (Below.refl _ _) _)
        have HO':Hid (FlO w' w1.heap.size v' (acc ++ [r])):=Lib.hid (FlO.snoc (World.ownsRow.alloc HDO.out _) HDk.out (fun i c2 r2 h1 h2 => (HDc.out i c2 r2 h1 h2).keep hka (by simp) (by simp)) (HFl.out.keep hka (by simp) (by simp)) hG (OwnK.snoc hO))
        have HB':Hid (Below w1.heap.size w1 w'):=Lib.hid ((below_alloc HB4.out _).trans (hG.below (by have:=HB4.out.size;simp;omega) (own_base HDO.out)))
        clear hO hG HDO HDl HDc HDk HFl hka HB4
        go_wp2_with fail
        exact ⟨⟨k + 1,acc ++ [r],by omega,by omega,by go_num,HO',Lib.hid (by rw [List.length_append,HAl.out];rfl),HA2,HU2,HS2,HB'⟩,by simp [intOf];omega⟩
       ·have hk2:((k:Int)=(M:Int) - 1)=False:=eq_false (by omega)
        have hk3:((k:Int) == (M:Int) - 1)=false:=beq_eq_false_iff_ne.2 (by omega)
        have hkM4:k + 2≤M:=by omega
        have hkM5:M≤1000001:=by omega
        clear hM hk1 hMm
        go_upto_region 11 with fail
        obtain ⟨D,hD,hDl,hDc⟩:=HO4.out
        have HDl:Hid (D.length=k):=Lib.hid (hDl.trans HAl.out)
        have HDO:=Lib.hid hD
        have HDc:=Lib.hid hDc
        have HDk:=Lib.hid hDl
        clear hD hDl hDc HO4
        go_wp2_with (at_builtin;refine wpList_app flE rfl (.tmp 47) (.tmp 49) rfl rfl (World.ownsRow.alloc HDO.out _) rfl (src_new layFl _ (p,(a1,n1,c1),(a2,n2,c2),(a3,n3,c3)) _ _ ?c0) ?c1 ?c2 ?c3 ?c4 ?_)
        case c0 => rfl
        case c1 => exact layFl.one _
        case c2 => have:=HDl.out;unfold maxLen;omega
        case c3 => have:=HDl.out;omega
        case c4 => have:=HB4.out.size;simp;omega
        all_goals try (exfalso;omega)
        intro v' w' hO hG
        have hka:KeepT [] w4 (w4.alloc (.cells #[.int .i64 p, .slice a1 n1 c1, .slice a2 n2 c2, .slice a3 n3 c3] 129 (0,0))):=KeepT.of_below (below_alloc (Below.refl _ _) _)
        have HO':Hid (FlO w' w1.heap.size v' (acc ++ [r])):=Lib.hid (FlO.snoc (World.ownsRow.alloc HDO.out _) HDk.out (fun i c2 r2 h1 h2 => (HDc.out i c2 r2 h1 h2).keep hka (by simp) (by simp)) (HFl.out.keep hka (by simp) (by simp)) hG (OwnK.snoc hO))
        have HB':Hid (Below w1.heap.size w1 w'):=Lib.hid ((below_alloc HB4.out _).trans (hG.below (by have:=HB4.out.size;simp;omega) (own_base HDO.out)))
        clear hO hG HDO HDl HDc HDk HFl hka HB4
        go_wp2_with fail
        exact ⟨⟨k + 1,acc ++ [r],by omega,by omega,by go_num,HO',Lib.hid (by rw [List.length_append,HAl.out];rfl),HA2,HU2,HS2,HB'⟩,by simp [intOf];omega⟩
   ·obtain rfl:k=M:=by omega
    have hcl:cl=true∧k=m∧l=[]:=by
     cases cl
     ·have:=(Hcf.out rfl).1;omega
     ·exact ⟨rfl,(Hct.out rfl).1,(Hct.out rfl).2⟩
    obtain ⟨rfl,rfl,rfl⟩:=hcl
    have hRF:RR=if rowsF acc=0 then (acc,0,0) else ([],0,rowsF acc):=by rw [HA.out,rdG_end Hm.out Hl.out,if_pos rfl];rfl
    have hk5:k≤100000:=by have:=HS.out;omega
    obtain ⟨ao,co,hvo, -⟩:=HO.out.form
    rw [HAl.out] at hvo
    subst hvo
    have HC:=Lib.hid (fCheck_any ao k co acc wr HO.out.at HAl.out hk5 HU.out)
    generalize rowsF acc=F at *
    have HRF:=Lib.hid hRF
    clear HA HU HS Hct Hcf Hl Hxs hRF
    go_wp2_with fail
    refine HC.out.mono ?_
    rintro e w2 ⟨rfl,hb⟩
    have HO2:=Lib.hid (HO.out.later hb)
    have HB2:=Lib.hid (HB.out.trans (hb.mono HB.out.size))
    clear hb HO HB HC
    by_cases hF:F=0
    ·subst hF
     have hRR:=HRF.out
     rw [if_pos rfl] at hRR
     go_wp2_with fail
     go_ret3
     exact ⟨_,acc,0,0,hRR,rfl,HO2.out.weak HB1.out.size,HB1.out.trans (HB2.out.mono HB1.out.size)⟩
    ·have hRR:=HRF.out
     rw [if_neg hF] at hRR
     have hb1:(F != 0)=true:=by simpa using hF
     go_wp2_with fail
     go_ret3
     exact ⟨.slice none 0 0, [],0,F,hRR,rfl,FlO.nil _ _,HB1.out.trans (HB2.out.mono HB1.out.size)⟩
theorem rrd1_any (bx:Nat) (acc:List FR) (x:List UInt8) (v:Value) (w:World) (hb:Blk w bx 61 #[v]) (hO:FlO w (bx + 1) v acc) (hv:Vr w) (hx:x.length≤200000) (hacc:acc.length≤1000000) :
  Calls Tryz.prog 120 #[.string (strL x), .pointer (some ⟨bx,0,none⟩)] w fun e w' => e=.returned (.bool (rowP x).isSome)∧(∀ r,rowP x=some r→r.Un∧∃ v',Blk w' bx 61 #[v']∧FlO w' (bx + 1) v' (acc ++ [r]))∧Below bx w w'∧bx < w'.heap.size:=by
 have HP:=Lib.hid (qrowRead_any x w hv hx)
 unfold RowA at HP
 obtain ⟨D,hD,hDl,hDc⟩:=hO
 have HD:=Lib.hid hD
 have HDl:=Lib.hid hDl
 have HDc:=Lib.hid hDc
 have HB:=Lib.hid hb
 generalize rowP x=PX at *
 have hDn:D.length≤1000000:=by omega
 clear hb hD hDl hDc hv hx hacc
 generalize strL x=SX at *
 go_enter Tryz.func120,Tryz.ntmps120
 go_wp2_with fail
 refine HP.out.mono ?_
 rintro e w3 ⟨⟨p,⟨a1,n1,c1⟩,⟨a2,n2,c2⟩,⟨a3,n3,c3⟩⟩,rfl,hpr,hb3⟩
 have hbw:bx < w.heap.size:=HB.out.lt
 have HB3:=Lib.hid (HB.out.below hb3 hbw)
 have HD3:=Lib.hid (HD.out.later hb3)
 have HW3:Hid (Below bx w w3):=Lib.hid (hb3.mono (Nat.le_of_lt hbw))
 have hw3:bx < w3.heap.size:=HB3.out.lt
 have hka:KeepT [] w3 (w3.alloc (.cells #[.int .i64 p, .slice a1 n1 c1, .slice a2 n2 c2, .slice a3 n3 c3] 129 (0,0))):=KeepT.of_below (below_alloc (Below.refl _ _) _)
 have hk0:KeepT [] w w3:=KeepT.of_below hb3
 have HB4:Hid (Blk (w3.alloc (.cells #[.int .i64 p, .slice a1 n1 c1, .slice a2 n2 c2, .slice a3 n3 c3] 129 (0,0))) bx 61 #[v]):=Lib.hid (HB3.out.alloc _)
 have HD4:Hid (OwnK layFl (w3.alloc (.cells #[.int .i64 p, .slice a1 n1 c1, .slice a2 n2 c2, .slice a3 n3 c3] 129 (0,0))) (bx + 1) v D):=Lib.hid (HD3.out.alloc _)
 have HW4:Hid (Below bx w (w3.alloc (.cells #[.int .i64 p, .slice a1 n1 c1, .slice a2 n2 c2, .slice a3 n3 c3] 129 (0,0)))):=Lib.hid (Below.alloc HW3.out (Nat.le_of_lt hw3) _)
 have HP4:Hid (Blk (w3.alloc (.cells #[.int .i64 p, .slice a1 n1 c1, .slice a2 n2 c2, .slice a3 n3 c3] 129 (0,0))) w3.heap.size 129 #[.int .i64 p, .slice a1 n1 c1, .slice a2 n2 c2, .slice a3 n3 c3]):=Lib.hid (Blk.new w3 _ _)
 have hw4:bx < (w3.alloc (.cells #[.int .i64 p, .slice a1 n1 c1, .slice a2 n2 c2, .slice a3 n3 c3] 129 (0,0))).heap.size:=by simp;omega
 have HDc4:Hid (∀ (k:Nat) (c:FC) (r:FR),D[k]?=some c→acc[k]?=some r→FlcT (w3.alloc (.cells #[.int .i64 p, .slice a1 n1 c1, .slice a2 n2 c2, .slice a3 n3 c3] 129 (0,0))) r c):=Lib.hid fun k c r h1 h2 => (HDc.out k c r h1 h2).keep (hk0.trans hka) (by simp) (by simp)
 have HPr:Hid (∀ r,PX=some r→FlcT (w3.alloc (.cells #[.int .i64 p, .slice a1 n1 c1, .slice a2 n2 c2, .slice a3 n3 c3] 129 (0,0))) r (p,(a1,n1,c1),(a2,n2,c2),(a3,n3,c3))∧r.Un):=Lib.hid fun r h => ⟨(hpr r h).1.keep hka (by simp) (by simp),(hpr r h).2⟩
 clear hb3 HB HD HP HB3 HD3 HW3 hpr hka hk0 HDc
 rw [show (fcC (p,(a1,n1,c1),(a2,n2,c2),(a3,n3,c3))).toArray=#[.int .i64 p, .slice a1 n1 c1, .slice a2 n2 c2, .slice a3 n3 c3] from rfl]
 go_upto_region 2 with fail
 generalize w3.alloc (.cells #[.int .i64 p, .slice a1 n1 c1, .slice a2 n2 c2, .slice a3 n3 c3] 129 (0,0))=w4 at *
 generalize w3.heap.size=by_ at *
 have c0:=HB4.out.cell 0
 simp at c0
 have d0:=HP4.out.cell 0
 have d1:=HP4.out.cell 1
 have d2:=HP4.out.cell 2
 have d3:=HP4.out.cell 3
 simp at d0 d1 d2 d3
 go_wp2_with (at_builtin;refine wpList_app flE rfl (.tmp 11) (.tmp 13) rfl rfl (World.ownsRow.alloc HD4.out _) rfl (src_new layFl _ (p,(a1,n1,c1),(a2,n2,c2),(a3,n3,c3)) _ _ ?c0) ?c1 ?c2 ?c3 ?c4 ?_)
 case c0 => rfl
 case c1 => exact layFl.one _
 case c2 => unfold maxLen;omega
 case c3 => omega
 case c4 => simp;omega
 intro v' w' hO hG
 have hkb:KeepT [] w4 (w4.alloc (.cells #[.int .i64 p, .slice a1 n1 c1, .slice a2 n2 c2, .slice a3 n3 c3] 129 (0,0))):=KeepT.of_below (below_alloc (Below.refl _ _) _)
 have HF:Hid (∀ r,PX=some r→FlO w' (bx + 1) v' (acc ++ [r])):=Lib.hid fun r h => FlO.snoc (World.ownsRow.alloc HD4.out _) HDl.out (fun i c2 r2 h1 h2 => (HDc4.out i c2 r2 h1 h2).keep hkb (by simp) (by simp)) ((HPr.out r h).1.keep hkb (by simp) (by simp)) hG (OwnK.snoc hO)
 have HU:Hid (∀ r,PX=some r→r.Un):=Lib.hid fun r h => (HPr.out r h).2
 have HO':Hid (OwnK layFl w' (bx + 1) v' (D ++ [(p,(a1,n1,c1),(a2,n2,c2),(a3,n3,c3))])):=Lib.hid (OwnK.snoc hO)
 have hb5:=hG.below (by simp;omega) (own_base HD4.out)
 have HW5:Hid (Below bx w w'):=Lib.hid ((Below.alloc HW4.out (Nat.le_of_lt hw4) _).trans (hb5.mono (Nat.le_succ bx)))
 have HB5:Hid (Blk w' bx 61 #[v]):=Lib.hid ((HB4.out.alloc _).below hb5 (Nat.lt_succ_self bx))
 clear hO hG HD4 HB4 HW4 HP4 hb5 d0 d1 d2 d3 c0 hkb HDc4 HPr
 have c0:=HB5.out.cell 0
 simp at c0
 have hfr:=HB5.out.free 0
 obtain ⟨ao,co,hvo, -⟩:=HO'.out.form
 generalize (D ++ [(p,(a1,n1,c1),(a2,n2,c2),(a3,n3,c3))]).length=nn at hvo
 subst hvo
 have HFs:Hid (∀ r,PX=some r→FlO (w'.setCell ⟨bx,0,none⟩ (.slice ao nn co)) (bx + 1) (.slice ao nn co) (acc ++ [r])):=Lib.hid fun r h => by
  obtain ⟨E,h1,h2,h3⟩:=HF.out r h
  exact ⟨E,ownsRow_setCell_below h1 (Nat.lt_succ_self bx) _,h2,fun i c2 r2 q1 q2 => (h3 i c2 r2 q1 q2).keep (S:=[61]) (KeepT.of_set HB5.out (by simp)) (by decide) (by decide)⟩
 have HBs:Hid (Blk (w'.setCell ⟨bx,0,none⟩ (.slice ao nn co)) bx 61 #[.slice ao nn co]):=Lib.hid (HB5.out.set 0 _)
 have HWs:Hid (Below bx w (w'.setCell ⟨bx,0,none⟩ (.slice ao nn co))):=Lib.hid (Below.setCell (p:=⟨bx,0,none⟩) HW5.out (Nat.le_refl _) _)
 go_wp2_with fail
 go_ret
 exact ⟨rfl,fun r h => ⟨HU.out r h,_,HBs.out,HFs.out r h⟩,HWs.out,HBs.out.lt⟩
theorem rowsRead_any (s:List UInt8) (w:World) (hv:Vr w) (hs:s.length≤1000000) :
  Calls Tryz.prog 35 #[.string (strL s)] w fun e w' => ∃ v L i f,rsG rowP rowsF s=(L,i,f)∧e=.returned (.tuple #[v, .int .i64 i, .int .i64 f])∧FlO w' w.heap.size v L∧Below w.heap.size w w':=by
 have hsz:(strL s).size=s.length:=strL_size s
 obtain ⟨sl,hsl⟩:∃ q,s.length=q:=⟨_,rfl⟩
 have HR0:Hid (rsG rowP rowsF s=if 200000 < sl then ([],0,2) else rvG rowsF (rdG rowP 0 (spl 10 s) [])):=Lib.hid (by rw [← hsl];exact rsG_eq _ _ _)
 have HL:=Lib.hid fun wx hb hlt hI (h:s.length≤200000) => qLinesG rowP 120 w.heap.size (fun wy acc => (∀ r ∈ acc,r.Un)∧∃ v,Blk wy w.heap.size 61 #[v]∧FlO wy (w.heap.size + 1) v acc) s w wx rfl hv hb hlt hI h (fun args w => by first | rfl | kernel_rfl)
  (fun acc u v ⟨hu,vv,h1,h2⟩ hb => ⟨hu,vv,h1.below hb h1.lt,h2.later hb⟩) (fun x p h => rowP_pos h)
  (fun acc x u ha hx hv hlt ⟨hu,vv,h1,h2⟩ => (rrd1_any w.heap.size acc x vv u h1 h2 hv hx ha).mono fun e u' ⟨e1,e2,e3,e4⟩ => ⟨e1,fun p hp => ⟨fun r hr => (List.mem_append.1 hr).elim (hu r) (fun h => by rw [List.mem_singleton.1 h];exact (e2 p hp).1),(e2 p hp).2⟩,e3,e4⟩)
 rw [hsl] at hsz hs HL
 generalize rsG rowP rowsF s=RR at *
 generalize rdG rowP 0 (spl 10 s) []=R at *
 obtain ⟨SS,hSS⟩:∃ q,strL s=q:=⟨_,rfl⟩
 rw [hSS] at hsz HL ⊢
 clear hSS hsl hv
 go_enter Tryz.func35,Tryz.ntmps35
 by_cases hbig:200000 < sl
 ·have hR:=HR0.out
  rw [if_pos hbig] at hR
  subst hR
  clear HR0 HL
  have hbi:(200000:Int) < (sl:Int):=by omega
  go_wp2_with fail
  go_ret3
  exact ⟨.slice none 0 0, [],0,2,rfl,rfl,FlO.nil _ _,Below.refl _ _⟩
 ·have hR:=HR0.out
  rw [if_neg hbig] at hR
  have HR:=Lib.hid hR
  have hbi:¬ (200000:Int) < (sl:Int):=by omega
  have hbi2:¬ (sl:Int) > 200000:=by omega
  clear HR0 hR
  have HL1:=Lib.hid (HL.out _ (below_alloc (Below.refl _ _) _) (Blk.new w 61 #[.slice none 0 0]).lt ⟨(fun r hr => by cases hr),_,Blk.new w 61 #[.slice none 0 0],FlO.nil _ _⟩ (by omega))
  clear HL
  go_upto_region 4 with fail
  generalize w.alloc (.cells #[.slice none 0 0] 61 (0,0))=w1 at *
  obtain ⟨bx,hbx⟩:∃ q,w.heap.size=q:=⟨_,rfl⟩
  rw [hbx] at HL1 ⊢
  have Hbx:=Lib.hid hbx
  clear hbx hbi hbi2
  go_wp2_with fail
  refine HL1.out.mono ?_
  rintro e w3 ⟨i,ok,L,rfl,hb,hlt,hno,hyes⟩
  have HW3:=Lib.hid hb
  have Hno:=Lib.hid hno
  have Hyes:=Lib.hid hyes
  have HLt:=Lib.hid hlt
  clear hb hno hyes HL1 hlt
  cases ok
  ·have HE:Hid (RR=([],(i:Int),9)):=Lib.hid (by rw [HR.out,Hno.out rfl];rfl)
   clear Hno Hyes
   go_wp2_with fail
   go_ret3
   exact ⟨.slice none 0 0, [],(i:Int),9,HE.out,rfl,FlO.nil _ _,by rw [Hbx.out];exact HW3.out⟩
  ·obtain ⟨hy1,⟨hy3,v,hy4,hy5⟩,hy2⟩:=Hyes.out rfl
   have HE:Hid (RR=if rowsF L=0 then (L,0,0) else ([],0,rowsF L)):=Lib.hid (by rw [HR.out,hy1];rfl)
   have HB3:=Lib.hid hy4
   have HO3:=Lib.hid hy5
   obtain ⟨ao,co,hvo, -⟩:=HO3.out.form
   subst hvo
   have HC:=Lib.hid (rowsFault_any ao L.length co L w3 HO3.out.at rfl hy2 hy3)
   obtain ⟨F,hF⟩:∃ q,rowsF L=q:=⟨_,rfl⟩
   rw [hF] at HC HE
   obtain ⟨n,hn⟩:∃ n,L.length=n:=⟨_,rfl⟩
   have Hn:=Lib.hid hn
   rw [hn] at HC HO3 HB3
   clear hy1 hy2 hy3 hy4 hy5 Hno Hyes hF hn
   have c0:=HB3.out.cell 0
   simp at c0
   go_wp2_with fail
   refine HC.out.mono ?_
   rintro e w4 ⟨rfl,hb4⟩
   have hlt:=HB3.out.lt
   have HB4:=Lib.hid (HB3.out.below hb4 hlt)
   have HO4:=Lib.hid (HO3.out.later hb4)
   have HW4:=Lib.hid (HW3.out.trans (hb4.mono (Nat.le_of_lt hlt)))
   clear hb4 HB3 HO3 HW3 HC c0
   have c0:=HB4.out.cell 0
   simp at c0
   by_cases hF:F=0
   ·have hRR:=HE.out
    subst hF
    rw [if_pos rfl] at hRR
    go_wp2_with fail
    go_ret3
    exact ⟨_,L,0,0,hRR,rfl,HO4.out.weak (by rw [Hbx.out];exact Nat.le_succ bx),by rw [Hbx.out];exact HW4.out⟩
   ·have hRR:=HE.out
    rw [if_neg hF] at hRR
    have hb1:(F != 0)=true:=by simpa using hF
    go_wp2_with fail
    go_ret3
    exact ⟨.slice none 0 0, [],0,F,hRR,rfl,FlO.nil _ _,by rw [Hbx.out];exact HW4.out⟩
theorem fText_any (B:Nat) (ad:Option Addr) (n c:Nat) (L:List FR) (w:World) (h:FlO w B (.slice ad n c) L) (hn:L.length=n) (hs:n≤4) (hu:∀ r ∈ L,r.Us) (hk:rowsF L=0→∀ r ∈ L,r.Wr) (ht:Tabs w) :
  Calls Tryz.prog 30 #[.slice ad n c] w (Ret (.tuple #[.string (if rowsF L=0 then strL (rowsT L) else ⟨#[]⟩), .int .i64 (rowsF L)]) w):=by
 have H0:=Lib.hid h
 have Hn:=Lib.hid hn
 have Hk0:=Lib.hid hk
 have HT:=Lib.hid ht
 have HC:=Lib.hid (fCheck_any ad n c L w h.at hn (by omega) (fun r hr => (hu r hr).un))
 have Hu:=Lib.hid hu
 have HE:Hid (rowsT (L.take n)=rowsT L):=Lib.hid (by rw [← hn,List.take_length])
 have HZ:Hid (rowsT (L.take 0)=[]):=Lib.hid rfl
 have HR0:Hid (rowsF L=0→(if rowsF L=0 then strL (rowsT L) else ⟨#[]⟩)=strL (rowsT L)):=Lib.hid fun h => if_pos h
 have HR1:Hid (rowsF L ≠ 0→(if rowsF L=0 then strL (rowsT L) else ⟨#[]⟩)=⟨#[]⟩):=Lib.hid fun h => if_neg h
 clear h hn hk ht hu
 generalize (if rowsF L=0 then strL (rowsT L) else ⟨#[]⟩)=RS at *
 generalize rowsT L=ST at *
 generalize rowsF L=F at *
 go_enter Tryz.func30,Tryz.ntmps30
 go_wp2_with fail
 refine HC.out.mono ?_
 rintro e w1 ⟨rfl,hb⟩
 have HB1:=Lib.hid hb
 clear hb HC
 by_cases hF:F=0
 ·have Hk:=Lib.hid (Hk0.out hF)
  have hRS:=HR0.out hF
  have HRS:=Lib.hid hRS
  subst hF
  clear HR0 HR1 Hk0 hRS
  have HBu:Hid (Lib.IsBuilder 137 5 w1.heap.size w1.heap.size (Lib.byteCells []) (w1.alloc (.cells #[.pointer none, .slice none 0 0] 137 (0,0)))):=Lib.hid (Or.inl ⟨Nat.le_refl _, .slice none 0 0,heap_alloc_new w1 _,World.ownsRow_nil _ _ _ _,by simp [Value.ownBlock]⟩)
  have HB2:Hid (Below w1.heap.size w1 (w1.alloc (.cells #[.pointer none, .slice none 0 0] 137 (0,0)))):=Lib.hid (below_alloc (Below.refl _ _) _)
  have hlt2:w1.heap.size < (w1.alloc (.cells #[.pointer none, .slice none 0 0] 137 (0,0))).heap.size:=by simp
  go_upto_region 5 with fail
  generalize w1.alloc (.cells #[.pointer none, .slice none 0 0] 137 (0,0))=w2 at *
  obtain ⟨bb,hbb⟩:∃ q,w1.heap.size=q:=⟨_,rfl⟩
  have Hbb:=Lib.hid hbb
  rw [hbb] at HBu HB2 hlt2 ⊢
  clear hbb
  go_wp2_with fail
  go_loopw [7,15] (fun s7 i wr => ∃ (k:Nat),k≤n∧i=.int .i64 (k:Int)∧Hid (Lib.IsBuilder 137 5 bb bb (Lib.byteCells (rowsT (L.take k))) wr)∧Hid ((rowsT (L.take k)).length≤49645 * k)∧Hid (Below bb w1 wr)∧Hid (bb < wr.heap.size)) (fun _ i _ => n - (intOf i).toNat)
  case atStart => exact ⟨0,Nat.zero_le _,rfl,by rw [HZ.out];exact HBu,Lib.hid (by rw [HZ.out];show 0≤_;omega),HB2,Lib.hid hlt2⟩
  case round =>
   clear HBu HB2
   obtain ⟨k,hk,rfl,HU,HSz,HB,HLt⟩:=hrel
   have HBw:Hid (Below w.heap.size w wr):=Lib.hid (HB1.out.trans (HB.out.mono (by rw [← Hbb.out];exact HB1.out.size)))
   by_cases hlt:k < n
   ·have hS:k < L.length:=by rw [Hn.out];exact hlt
    obtain ⟨r,hp⟩:∃ r,L[k]?=some r:=⟨_,List.getElem?_eq_getElem hS⟩
    have hw:=Hk.out r (List.mem_of_getElem? hp)
    have hus:=Hu.out r (List.mem_of_getElem? hp)
    have hTk:=rowsT_take hp
    have hsz:=hw.size hus.s1 hus.s2 hus.s3
    have HOr:=H0.out.later HBw.out
    obtain ⟨D,hD,hDl,hDc⟩:=HOr
    have hkD:k < D.length:=by rw [hDl];exact hS
    obtain ⟨⟨p,⟨a1,n1,c1⟩,⟨a2,n2,c2⟩,⟨a3,n3,c3⟩⟩,hDk⟩:∃ x,D[k]?=some x:=⟨_,List.getElem?_eq_getElem hkD⟩
    have hF:=hDc k _ r hDk hp
    obtain ⟨g,o,had,hg,hcell⟩:=hD.rd k _ hDk
    subst had
    have k0:=hcell 0 _ rfl
    have k1:=hcell 1 _ rfl
    have k2:=hcell 2 _ rfl
    have k3:=hcell 3 _ rfl
    simp only [show layFl.K=4 from rfl,Nat.add_zero, ← Nat.add_assoc] at k0 k1 k2 k3
    have HPL:=Lib.hid fun wx (hb:Below wr.heap.size wr wx) (ht:Tabs wx) => rLine_any r _ wx (hF.keep (S:=[]) (KeepT.of_below hb) (by simp) (by simp)) hw ht
    rw [show (fcC (p,(a1,n1,c1),(a2,n2,c2),(a3,n3,c3))).toArray=#[.int .i64 p, .slice a1 n1 c1, .slice a2 n2 c2, .slice a3 n3 c3] from rfl] at HPL
    obtain ⟨TX,hTX⟩:∃ q,rowB r=q:=⟨_,rfl⟩
    rw [hTX] at HPL hTk hsz
    have HTk:=Lib.hid hTk
    clear hp hS hw hus hTX hTk hg hD hDl hDc hkD hDk hF hcell
    have HP1:Hid (Blk (wr.alloc (.cells #[.int .i64 p, .slice a1 n1 c1, .slice a2 n2 c2, .slice a3 n3 c3] 129 (0,0))) wr.heap.size 129 #[.int .i64 p, .slice a1 n1 c1, .slice a2 n2 c2, .slice a3 n3 c3]):=Lib.hid (Blk.new wr _ _)
    have HBr3:Hid (Below wr.heap.size wr (wr.alloc (.cells #[.int .i64 p, .slice a1 n1 c1, .slice a2 n2 c2, .slice a3 n3 c3] 129 (0,0)))):=Lib.hid (below_alloc (Below.refl _ _) _)
    have HB3:Hid (Below bb w1 (wr.alloc (.cells #[.int .i64 p, .slice a1 n1 c1, .slice a2 n2 c2, .slice a3 n3 c3] 129 (0,0)))):=Lib.hid (Below.alloc HB.out (Nat.le_of_lt HLt.out) _)
    have HBw3:Hid (Below w.heap.size w (wr.alloc (.cells #[.int .i64 p, .slice a1 n1 c1, .slice a2 n2 c2, .slice a3 n3 c3] 129 (0,0)))):=Lib.hid (Below.alloc HBw.out HBw.out.size _)
    have HU3:Hid (Lib.IsBuilder 137 5 bb bb (Lib.byteCells (rowsT (L.take k))) (wr.alloc (.cells #[.int .i64 p, .slice a1 n1 c1, .slice a2 n2 c2, .slice a3 n3 c3] 129 (0,0)))):=Lib.hid (bld_later HU.out (below_alloc (Below.refl _ _) _))
    have HLt3:Hid (bb < (wr.alloc (.cells #[.int .i64 p, .slice a1 n1 c1, .slice a2 n2 c2, .slice a3 n3 c3] 129 (0,0))).heap.size):=Lib.hid (by have:=HLt.out;simp;omega)
    have HCat:Hid (Lib.byteCells (rowsT (L.take k)) ++ Lib.strCells (TX ++ ⟨#[10]⟩)=Lib.byteCells (rowsT (L.take (k + 1)))):=Lib.hid (by
     rw [HTk.out]
     unfold Lib.byteCells Lib.strCells
     rw [List.map_append,List.map_append,ByteArray.data_append,Array.toList_append,List.map_append])
    have HSz2:Hid ((rowsT (L.take (k + 1))).length≤49645 * (k + 1)):=Lib.hid (by
     rw [HTk.out,List.length_append,List.length_append]
     have h1:TX.data.toList.length=TX.size:=by rw [Array.length_toList];rfl
     have h2:=HSz.out
     simp only [List.length_cons,List.length_nil]
     omega)
    have HAd1:=Lib.hid fun wx => add_str TX ⟨#[10]⟩ (by omega) (by decide) wx
    have HW:=Lib.hid fun wx (hx:Lib.IsBuilder 137 5 bb bb (Lib.byteCells (rowsT (L.take k))) wx) (hl:bb≤wx.heap.size) => bWrite_any bb bb (Lib.byteCells (rowsT (L.take k))) (TX ++ ⟨#[10]⟩) wx hx (by rw [Lib.byteCells_length,ByteArray.size_append];have h1:(⟨#[10]⟩:ByteArray).size=1:=rfl;have h2:=HSz.out;omega) hl
    rw [HCat.out] at HW
    have HNb1:Hid (¬ 9223372036854775807 < TX.size + 1):=Lib.hid (by omega)
    clear hsz HCat
    generalize Lib.byteCells (rowsT (L.take k))=BC at *
    go_upto_region 8 with fail
    generalize wr.alloc (.cells #[.int .i64 p, .slice a1 n1 c1, .slice a2 n2 c2, .slice a3 n3 c3] 129 (0,0))=w3 at *
    obtain ⟨bx,hbx⟩:∃ q,wr.heap.size=q:=⟨_,rfl⟩
    rw [hbx] at HP1 ⊢
    clear hbx
    clear HB HBw HU HLt k0 k1 k2 k3
    have d0:=HP1.out.cell 0
    have d1:=HP1.out.cell 1
    have d2:=HP1.out.cell 2
    have d3:=HP1.out.cell 3
    simp at d0 d1 d2 d3
    have HPx:=Lib.hid (HPL.out w3 HBr3.out (HT.out.below HBw3.out))
    clear HPL
    go_wp2_with fail
    refine HPx.out.mono ?_
    rintro e w4 ⟨rfl,hb⟩
    have HB4:=Lib.hid (HB3.out.trans (hb.mono (Nat.le_of_lt HLt3.out)))
    have HU4:=Lib.hid (bld_later HU3.out hb)
    have HLt4:Hid (bb < w4.heap.size):=Lib.hid (Nat.lt_of_lt_of_le HLt3.out hb.size)
    clear hb HB3 HBw3 HU3 HLt3 HP1 HPx HBr3 d0 d1 d2 d3
    have nb1:=HNb1.out
    go_wp2_with fail
    refine (HW.out _ HU4.out (Nat.le_of_lt HLt4.out)).mono ?_
    rintro e w5 ⟨rfl,hbu,hb⟩
    have HB5:=Lib.hid (HB4.out.trans hb)
    have HU5:=Lib.hid (Or.inr hbu:Lib.IsBuilder 137 5 bb bb (Lib.byteCells (rowsT (L.take (k + 1)))) w5)
    have HLt5:Hid (bb < w5.heap.size):=Lib.hid (Nat.lt_of_lt_of_le HLt4.out hb.size)
    clear hb hbu HB4 HU4 HLt4 nb1 HAd1 HW
    go_wp2_with fail
    exact ⟨⟨k + 1,by omega,by go_num,HU5,HSz2,HB5,HLt5⟩,by simp [intOf];omega⟩
   ·obtain rfl:k=n:=by omega
    have hz:=HSz.out
    have hbl:=Lib.byteCells_length (rowsT (L.take k))
    have HLn:=Lib.hid (Tryz.Builder_Len bb bb (Lib.byteCells (rowsT (L.take k))) wr HU.out)
    have HSt:=Lib.hid (Tryz.Builder_String_any bb bb (rowsT (L.take k)) wr HU.out (Nat.le_of_lt HLt.out))
    rw [HE.out] at HSt
    rw [hbl] at HLn
    have hq:(rowsT (L.take k)).length≤200000:=by omega
    generalize (rowsT (L.take k)).length=ql at *
    clear hz hbl
    go_wp2_with fail
    refine HLn.out.mono ?_
    rintro e w5 ⟨rfl,rfl⟩
    clear HLn
    go_wp2_with fail
    refine HSt.out.mono ?_
    rintro e w6 ⟨rfl,hb⟩
    have HB6:Hid (Below w.heap.size w w6):=Lib.hid (HB1.out.trans ((HB.out.trans hb).mono (by rw [← Hbb.out];exact HB1.out.size)))
    clear hb
    go_wp2_with fail
    go_ret2
    exact ⟨by rw [HRS.out];rfl,HB6.out⟩
 ·have hRS:=HR1.out hF
  have hb1:(F != 0)=true:=by simpa using hF
  subst hRS
  clear HR0 HR1 Hk0
  go_wp2_with fail
  go_ret2
  exact ⟨rfl,HB1.out⟩
theorem equal_poS (a1 a2:Option Addr) (c1 c2 n:Nat) (L:List (Int × Int)) (w:World) (h1:RdK layPo w a1 L) (h2:RdK layPo w a2 L) (hn:L.length=n) (hl:n≤1000) :
  Calls Tryz.prog 110 #[.slice a1 n c1, .slice a2 n c2] w (Ret (.bool true) w):=by
 subst hn
 refine (equal_ports a1 a2 c1 c2 L L w (rdP_of h1 hl) (rdP_of h2 hl)).mono ?_
 rintro e w' ⟨rfl,q,rfl⟩
 exact ⟨by simp,Go.Proofs.YtdhldhkhpndpjaaGreatDoor.below_drewN (Below.refl _ _) q⟩
theorem equal_pfS (a1 a2:Option Addr) (c1 c2 n:Nat) (L:List Pf) (w:World) (h1:RdK layPf w a1 L) (h2:RdK layPf w a2 L) (hn:L.length=n) (hl:n≤100000) :
  Calls Tryz.prog 15 #[.slice a1 n c1, .slice a2 n c2] w (Ret (.bool true) w):=by
 subst hn
 refine (equal_pf a1 a2 c1 c2 L L w h1 h2 (by omega)).mono ?_
 rintro e w' ⟨rfl,q,rfl⟩
 exact ⟨by simp,Go.Proofs.YtdhldhkhpndpjaaGreatDoor.below_drewN (Below.refl _ _) q⟩
theorem sameRows1_any (r:FR) (x y:FC) (w:World) (h1:FlcT w r x) (h2:FlcT w r y) (hl:r.po.length≤1000) :
  Calls Tryz.prog 123 #[.agg (fcC x).toArray, .agg (fcC y).toArray] w (Ret (.bool true) w):=by
 obtain ⟨p,⟨a1,n1,c1⟩,⟨a2,n2,c2⟩,⟨a3,n3,c3⟩⟩:=x
 obtain ⟨q,⟨b1,m1,d1⟩,⟨b2,m2,d2⟩,⟨b3,m3,d3⟩⟩:=y
 obtain ⟨e,t1,t2,t3,l1,l2,l3,k1,k2,k3⟩:=h1
 obtain ⟨e',t1',t2',t3',l1',l2',l3',k1',k2',k3'⟩:=h2
 simp only at e t1 t2 t3 l1 l2 l3 k1 k2 k3 e' t1' t2' t3' l1' l2' l3' k1' k2' k3'
 have E:p=q:=e.trans e'.symm
 have E1:n1=m1:=l1.symm.trans l1'
 have E2:n2=m2:=l2.symm.trans l2'
 have E3:n3=m3:=l3.symm.trans l3'
 subst E E1 E2 E3
 rw [show (fcC (p,(a1,n1,c1),(a2,n2,c2),(a3,n3,c3))).toArray=#[.int .i64 p, .slice a1 n1 c1, .slice a2 n2 c2, .slice a3 n3 c3] from rfl,show (fcC (p,(b1,n1,d1),(b2,n2,d2),(b3,n3,d3))).toArray=#[.int .i64 p, .slice b1 n1 d1, .slice b2 n2 d2, .slice b3 n3 d3] from rfl]
 have hn3:n3≤1000:=by omega
 have HQ1:=Lib.hid fun wx (hb:Below w.heap.size w wx) => equal_pfS a1 b1 c1 d1 n1 r.src wx (t1.rd.below hb) (t1'.rd.below hb) l1 k1
 have HQ2:=Lib.hid fun wx (hb:Below w.heap.size w wx) => equal_pfS a2 b2 c2 d2 n2 r.dst wx (t2.rd.below hb) (t2'.rd.below hb) l2 k2
 have HQ3:=Lib.hid fun wx (hb:Below w.heap.size w wx) => equal_poS a3 b3 c3 d3 n3 r.po wx (t3.rd.below hb) (t3'.rd.below hb) l3 hn3
 have HX:Hid (Blk ((w.alloc (.cells #[.int .i64 p, .slice a1 n1 c1, .slice a2 n2 c2, .slice a3 n3 c3] 129 (0,0))).alloc (.cells #[.int .i64 p, .slice b1 n1 d1, .slice b2 n2 d2, .slice b3 n3 d3] 129 (0,0))) w.heap.size 129 #[.int .i64 p, .slice a1 n1 c1, .slice a2 n2 c2, .slice a3 n3 c3]):=Lib.hid ((Blk.new w _ _).alloc _)
 have HY:Hid (Blk ((w.alloc (.cells #[.int .i64 p, .slice a1 n1 c1, .slice a2 n2 c2, .slice a3 n3 c3] 129 (0,0))).alloc (.cells #[.int .i64 p, .slice b1 n1 d1, .slice b2 n2 d2, .slice b3 n3 d3] 129 (0,0))) (w.heap.size + 1) 129 #[.int .i64 p, .slice b1 n1 d1, .slice b2 n2 d2, .slice b3 n3 d3]):=Lib.hid (Blk.newAt _ _ _ (by simp))
 have HB:Hid (Below w.heap.size w ((w.alloc (.cells #[.int .i64 p, .slice a1 n1 c1, .slice a2 n2 c2, .slice a3 n3 c3] 129 (0,0))).alloc (.cells #[.int .i64 p, .slice b1 n1 d1, .slice b2 n2 d2, .slice b3 n3 d3] 129 (0,0)))):=Lib.hid (below_alloc (below_alloc (Below.refl _ _) _) _)
 clear e e' t1 t2 t3 l1 l2 l3 k1 k2 k3 t1' t2' t3' l1' l2' l3' k1' k2' k3' hl hn3
 go_enter Tryz.func123,Tryz.ntmps123
 go_upto_region 1 with fail
 generalize (w.alloc (.cells #[.int .i64 p, .slice a1 n1 c1, .slice a2 n2 c2, .slice a3 n3 c3] 129 (0,0))).alloc (.cells #[.int .i64 p, .slice b1 n1 d1, .slice b2 n2 d2, .slice b3 n3 d3] 129 (0,0))=w1 at *
 obtain ⟨bx,hbx⟩:∃ q,w.heap.size=q:=⟨_,rfl⟩
 have Hbx:=Lib.hid hbx
 rw [hbx] at HX HY HB ⊢
 clear hbx
 have x0:=HX.out.cell 0
 have x1:=HX.out.cell 1
 have x2:=HX.out.cell 2
 have x3:=HX.out.cell 3
 have y0:=HY.out.cell 0
 have y1:=HY.out.cell 1
 have y2:=HY.out.cell 2
 have y3:=HY.out.cell 3
 simp at x0 x1 x2 x3 y0 y1 y2 y3
 have HQx:=Lib.hid (HQ1.out w1 (by rw [Hbx.out];exact HB.out))
 clear HQ1
 go_wp2_with fail
 refine HQx.out.mono ?_
 rintro e w2 ⟨rfl,hb⟩
 have HX2:=Lib.hid (HX.out.below hb HX.out.lt)
 have HY2:=Lib.hid (HY.out.below hb HY.out.lt)
 have HB2:=Lib.hid (HB.out.trans (hb.mono (Nat.le_of_lt HX.out.lt)))
 have HQx:=Lib.hid (HQ2.out w2 (by rw [Hbx.out];exact HB2.out))
 clear hb HQ2 HX HY HB x0 x1 x2 x3 y0 y1 y2 y3
 have x2:=HX2.out.cell 2
 have x3:=HX2.out.cell 3
 have y2:=HY2.out.cell 2
 have y3:=HY2.out.cell 3
 simp at x2 x3 y2 y3
 go_wp2_with fail
 refine HQx.out.mono ?_
 rintro e w3 ⟨rfl,hb⟩
 have HX3:=Lib.hid (HX2.out.below hb HX2.out.lt)
 have HY3:=Lib.hid (HY2.out.below hb HY2.out.lt)
 have HB3:=Lib.hid (HB2.out.trans (hb.mono (Nat.le_of_lt HX2.out.lt)))
 have HQx:=Lib.hid (HQ3.out w3 (by rw [Hbx.out];exact HB3.out))
 clear hb HQ3 HX2 HY2 HB2 x2 x3 y2 y3
 have x3:=HX3.out.cell 3
 have y3:=HY3.out.cell 3
 simp at x3 y3
 go_wp2_with fail
 refine HQx.out.mono ?_
 rintro e w4 ⟨rfl,hb⟩
 have HB4:=Lib.hid (HB3.out.trans (hb.mono (Nat.le_of_lt HX3.out.lt)))
 clear hb HX3 HY3 HB3 x3 y3
 go_wp2_with fail
 go_ret
 exact ⟨rfl,by rw [Hbx.out];exact HB4.out⟩
theorem FlO.cells {w:World} {B n c:Nat} {ad:Option Addr} {L:List FR} (h:FlO w B (.slice ad n c) L) {k:Nat} {r:FR} (hr:L[k]?=some r):∃ (g o:Nat) (x:FC),ad=some ⟨g,o,none⟩∧g < w.heap.size∧FlcT w r x∧w.cell? ⟨g,o + k * 4,none⟩=some (.int .i64 x.1)∧w.cell? ⟨g,o + k * 4 + 1,none⟩=some (.slice x.2.1.1 x.2.1.2.1 x.2.1.2.2)∧w.cell? ⟨g,o + k * 4 + 2,none⟩=some (.slice x.2.2.1.1 x.2.2.1.2.1 x.2.2.1.2.2)∧w.cell? ⟨g,o + k * 4 + 3,none⟩=some (.slice x.2.2.2.1 x.2.2.2.2.1 x.2.2.2.2.2):=by
 obtain ⟨D,hD,hDl,hDc⟩:=h
 have hkD:k < D.length:=by rw [hDl];exact (List.getElem?_eq_some_iff.1 hr).1
 obtain ⟨x,hDk⟩:∃ x,D[k]?=some x:=⟨_,List.getElem?_eq_getElem hkD⟩
 obtain ⟨g,o,had,hg,hcell⟩:=hD.rd k x hDk
 have k0:=hcell 0 _ rfl
 have k1:=hcell 1 _ rfl
 have k2:=hcell 2 _ rfl
 have k3:=hcell 3 _ rfl
 simp only [show layFl.K=4 from rfl,Nat.add_zero, ← Nat.add_assoc] at k0 k1 k2 k3
 exact ⟨g,o,x,had,hg,hDc k x r hDk hr,k0,k1,k2,k3⟩
theorem equalFl_any (B1 B2:Nat) (ad1 ad2:Option Addr) (n c1 c2:Nat) (L:List FR) (w:World) (h1:FlO w B1 (.slice ad1 n c1) L) (h2:FlO w B2 (.slice ad2 n c2) L) (hn:L.length=n) (hs:n≤1000000) (hl:∀ r ∈ L,r.po.length≤1000) :
  Calls Tryz.prog 122 #[.slice ad1 n c1, .slice ad2 n c2, .func (.func 123) #[] #[]] w (Ret (.bool true) w):=by
 have H1:=Lib.hid h1
 have H2:=Lib.hid h2
 have Hn:=Lib.hid hn
 have Hl:=Lib.hid hl
 clear h1 h2 hn hl
 go_enter Tryz.func122,Tryz.ntmps122
 go_wp2_with fail
 go_loopw [7,8,9,17] (fun s7 s8 s9 s17 wr => ∃ (k:Nat),k≤n∧s17=.int .i64 (k:Int)∧Hid (Below w.heap.size w wr)) (fun _ _ _ i _ => n - (intOf i).toNat)
 case atStart => exact ⟨0,Nat.zero_le _,rfl,Lib.hid (Below.refl _ _)⟩
 case round =>
  obtain ⟨k,hk,rfl,HB⟩:=hrel
  by_cases hlt:k < n
  ·have hS:k < L.length:=by rw [Hn.out];exact hlt
   obtain ⟨r,hr⟩:∃ r,L[k]?=some r:=⟨_,List.getElem?_eq_getElem hS⟩
   obtain ⟨g1,o1,⟨p,⟨a1,n1,e1⟩,⟨a2,n2,e2⟩,⟨a3,n3,e3⟩⟩,had1,hg1,hF1,x0,x1,x2,x3⟩:=(H1.out.later HB.out).cells hr
   obtain ⟨g2,o2,⟨q,⟨b1,m1,d1⟩,⟨b2,m2,d2⟩,⟨b3,m3,d3⟩⟩,had2,hg2,hF2,y0,y1,y2,y3⟩:=(H2.out.later HB.out).cells hr
   have hrl:=Hl.out r (List.mem_of_getElem? hr)
   subst had1 had2
   simp only at x0 x1 x2 x3 y0 y1 y2 y3
   have HC:=Lib.hid fun wx (hb:Below wr.heap.size wr wx) => sameRows1_any r _ _ wx (hF1.keep (S:=[]) (KeepT.of_below hb) (by simp) (by simp)) (hF2.keep (S:=[]) (KeepT.of_below hb) (by simp) (by simp)) hrl
   rw [show (fcC (p,(a1,n1,e1),(a2,n2,e2),(a3,n3,e3))).toArray=#[.int .i64 p, .slice a1 n1 e1, .slice a2 n2 e2, .slice a3 n3 e3] from rfl,show (fcC (q,(b1,m1,d1),(b2,m2,d2),(b3,m3,d3))).toArray=#[.int .i64 q, .slice b1 m1 d1, .slice b2 m2 d2, .slice b3 m3 d3] from rfl] at HC
   obtain ⟨W1,hW1⟩:∃ W,(wr.alloc (.cells #[.int .i64 p, .slice a1 n1 e1, .slice a2 n2 e2, .slice a3 n3 e3] 129 (0,0))).alloc (.cells #[.int .i64 q, .slice b1 m1 d1, .slice b2 m2 d2, .slice b3 m3 d3] 129 (0,0))=W:=⟨_,rfl⟩
   have HX:Hid (Blk W1 wr.heap.size 129 #[.int .i64 p, .slice a1 n1 e1, .slice a2 n2 e2, .slice a3 n3 e3]):=Lib.hid (by rw [← hW1];exact (Blk.new wr _ _).alloc _)
   have HY:Hid (Blk W1 (wr.heap.size + 1) 129 #[.int .i64 q, .slice b1 m1 d1, .slice b2 m2 d2, .slice b3 m3 d3]):=Lib.hid (by rw [← hW1];exact Blk.newAt _ _ _ (by simp))
   have hbw:Below wr.heap.size wr W1:=by rw [← hW1];exact below_alloc (below_alloc (Below.refl _ _) _) _
   have HCx:=Lib.hid (HC.out W1 hbw)
   have HB1:=Lib.hid (HB.out.trans (hbw.mono HB.out.size))
   have HW:=Lib.hid hW1
   clear hr hS hF1 hF2 hrl HC hbw hW1
   go_upto_region 7 with fail
   rw [HW.out]
   clear x0 x1 x2 x3 y0 y1 y2 y3 HB HW
   generalize wr.heap.size=bx at *
   have x0:=HX.out.cell 0
   have x1:=HX.out.cell 1
   have x2:=HX.out.cell 2
   have x3:=HX.out.cell 3
   have y0:=HY.out.cell 0
   have y1:=HY.out.cell 1
   have y2:=HY.out.cell 2
   have y3:=HY.out.cell 3
   simp at x0 x1 x2 x3 y0 y1 y2 y3
   go_wp2_with fail
   refine HCx.out.mono ?_
   rintro e w3 ⟨rfl,hb⟩
   have HB3:=Lib.hid (HB1.out.trans (hb.mono HB1.out.size))
   clear hb HCx HX HY HB1 x0 x1 x2 x3 y0 y1 y2 y3
   go_wp2_with fail
   exact ⟨⟨k + 1,by omega,by go_num,HB3⟩,by simp [intOf];omega⟩
  ·obtain rfl:k=n:=by omega
   go_wp2_with fail
   go_ret
   exact ⟨rfl,HB.out⟩
theorem sameRows_any (B1 B2:Nat) (ad1 ad2:Option Addr) (n c1 c2:Nat) (L:List FR) (w:World) (h1:FlO w B1 (.slice ad1 n c1) L) (h2:FlO w B2 (.slice ad2 n c2) L) (hn:L.length=n) (hs:n≤1000000) (hl:∀ r ∈ L,r.po.length≤1000) :
  Calls Tryz.prog 36 #[.slice ad1 n c1, .slice ad2 n c2] w (Ret (.bool true) w):=by
 have HC:=Lib.hid (equalFl_any B1 B2 ad1 ad2 n c1 c2 L w h1 h2 hn hs hl)
 clear h1 h2 hn hs hl
 go_enter Tryz.func36,Tryz.ntmps36
 go_wp2_with fail
 refine HC.out.mono ?_
 rintro e w3 ⟨rfl,hb⟩
 have HB3:=Lib.hid hb
 clear hb HC
 go_wp2_with fail
 go_ret
 exact ⟨rfl,HB3.out⟩
theorem Gen.toBelowR {b m:Nat} {w u v:World} (h:Gen b u v m) (hw:Below w.heap.size w u) (hb:w.heap.size≤b):Below w.heap.size w v :=
 ⟨h.g.os.trans hw.os,h.g.tape.trans hw.tape,h.g.output.trans hw.output,Nat.le_trans hw.size h.g.size,fun i hi => (h.g.block i (Nat.lt_of_lt_of_le hi hw.size) (by intro e;injection e;omega)).trans (hw.block i hi)⟩
open Go.RowKit Go
end Go.Proofs.YtdhldhkhpndpjaaGreatDoor
