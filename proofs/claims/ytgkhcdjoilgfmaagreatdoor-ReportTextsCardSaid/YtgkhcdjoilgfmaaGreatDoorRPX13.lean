/-
  The program's Loose = looseF. Condition: at most a million bytes.
  The reference's AddrLoose = looseF. Condition: at most a million bytes.
  Addresses of four numbers as text: AddrText of the reference.
  The eight groups of an address: groupsOf of the program and of the reference.
  The longest row of groups that are zero: zeros of the program; and what the reference looks for is the same.
  An address of eight groups as text: textOf of the program.
  The longest row of zeros, plain: what the reference's search finds is what the program's loop keeps.
  The closure of AddrText; slices.IndexFunc, ContainsFunc at a piece of a row of strings.
-/
import Derived.Test.YtgkhcdjoilgfmaaGreatDoorRPX12
import Derived.OwnWalk
set_option linter.unusedVariables false
set_option maxRecDepth 100000
set_option maxHeartbeats 4000000
namespace Go.Proofs.YtgkhcdjoilgfmaaGreatDoor
open Go.RowKit Go Go.Sort
def lsV:Option (Bool × Nat × Nat)→Value
 | some (s,h,l) => .tuple #[.agg #[.bool s, .int .u64 (h:Int), .int .u64 (l:Int)], .int .i64 0]
 | none => .tuple #[.agg #[.bool false, .int .u64 0, .int .u64 0], .int .i64 9]
theorem cut_nogap {s sep:List UInt8} (h:(Lib.cut s sep).2.2=false):(Lib.cut s sep).2.1=[]:=by
 unfold Lib.cut at h ⊢
 split
 ·rename_i h0
  rw [if_pos h0] at h
  cases h
 ·rfl
theorem cut_le (s sep:List UInt8):(Lib.cut s sep).1.length≤s.length∧(Lib.cut s sep).2.1.length≤s.length:=by
 unfold Lib.cut
 split
 ·exact ⟨by simp;omega,by simp⟩
 ·exact ⟨Nat.le_refl _,by simp⟩
def encU (L:List Nat):List Value:=L.map fun (n:Nat) => .int .u64 (n:Int)
theorem layU_all (L:List Nat):layU.all L=encU L:=by
 induction L with
 | nil => rfl
 | cons x l ih =>
   show [.int .u64 (x:Int)] ++ layU.all l=_
   rw [ih];rfl
theorem encU_one (L:List Nat):∀ v ∈ encU L,v.oneCell'=true:=fun v hv => by
 obtain ⟨x,_,rfl⟩:=List.mem_map.1 hv
 rfl
theorem OwnK.srcU {w:World} {B m c:Nat} {ad:Option Addr} {L:List Nat} (h:OwnK layU w B (.slice ad m c) L):m=L.length∧(0 < L.length→∃ a,ad=some a∧∀ (j:Nat) v,(encU L)[j]?=some v→w.cell? (a.add j)=some v):=by
 obtain ⟨ad2,c2,hv,hs, -⟩:=h.form
 injection hv with e1 e2 e3
 subst e1
 refine ⟨e2,fun hl => ?_⟩
 rw [layU_all] at hs
 obtain ⟨x,hx⟩:∃ x,(encU L)[0]?=some x:=⟨_,List.getElem?_eq_getElem (by simpa [encU] using hl)⟩
 obtain ⟨a,rfl, -, -⟩:=hs.2 0 x hx
 refine ⟨a,rfl,fun j v hj => ?_⟩
 obtain ⟨a2,e, -,hc⟩:=hs.2 j v hj
 injection e with e
 subst e
 exact hc
def llR (g8 ob k:Nat) (WH WL GQ:Nat→Nat):Nat→Value→Nat→World→Prop
 | 0,v,_,_ => v=.pointer (some ⟨ob,1,none⟩)
 | 1,v,_,_ => v=.int .u64 (WH k:Int)
 | 2,v,_,_ => v=.int .u64 ((WH k:Int) * 65536)
 | 3,v,_,_ => v=.int .i64 (k:Int)
 | 4,v,_,_ => v=.pointer (some ⟨g8,k,none⟩)
 | 5,v,_,_ => v=.int .u64 (GQ k:Int)
 | 6,v,_,_ => v=.int .u64 (WH (k + 1):Int)
 | 7,v,_,_ => v=.pointer (some ⟨ob,2,none⟩)
 | 8,v,_,_ => v=.int .u64 (WL k:Int)
 | 9,v,_,_ => v=.int .u64 ((WL k:Int) * 65536)
 | 10,v,_,_ => v=.int .i64 (k:Int)
 | 11,v,_,_ => v=.int .i64 (4 + (k:Int))
 | 12,v,_,_ => v=.pointer (some ⟨g8,4 + k,none⟩)
 | 13,v,_,_ => v=.int .u64 (GQ (4 + k):Int)
 | 14,v,_,_ => v=.int .u64 (WL (k + 1):Int)
 | 15,v,_,_ => v=.pointer (some ⟨ob,1,none⟩)
 | 16,_,n,_ => n=1
 | 17,v,_,_ => v=.pointer (some ⟨ob,2,none⟩)
 | _,_,_,_ => True
theorem llR_keep {g8 ob k:Nat} {WH WL GQ:Nat→Nat} (p:Nat) (v:Value) (n:Nat) (u:World) (m:Nat) (w:World) (h:llR g8 ob k WH WL GQ p v n u) (hb:hqS n u m w):llR g8 ob k WH WL GQ p v m w:=by
 rcases p with _ | _ | _ | _ | _ | _ | _ | _ | _ | _ | _ | _ | _ | _ | _ | _ | _ | _ | p
 all_goals first
  | exact h
  | (have h:n=1:=h
     have h1:=hb.1
     have h2:=hb.2
     show m=1
     omega)
def llC (w:World) (ob g8 bx k:Nat) (WH WL:Nat→Nat) (GA:Array Value) (n:Nat) (v:World):Prop :=
 Blk v ob 28 #[.bool true, .int .u64 (WH (k + n):Int), .int .u64 (WL k:Int)]∧Blk v g8 209 GA∧Blk v bx 28 #[.bool false, .int .u64 0, .int .u64 0]∧Below bx w v
theorem Blk.drew {w:World} {B:Nat} {t:TypeId} {cs:Array Value} (h:Blk w B t cs):Blk w.drew B t cs:=h
theorem RowKit.Below.drewR {B:Nat} {u v:World} (h:Below B u v):Below B u v.drew:=⟨h.os,h.tape,h.output,h.size,h.block⟩
theorem loose_any (s:List UInt8) (w:World) (hv:Vr w) (hs:s.length≤1000000) :
  Calls Tryz.prog 214 #[.string (strL s)] w (Ret (lsV (looseF s)) w):=by
 have HP:Hid (Blk (w.alloc (.cells #[.bool false, .int .u64 0, .int .u64 0] 28 (0,0))) w.heap.size 28 #[.bool false, .int .u64 0, .int .u64 0]):=Lib.hid (Blk.new w _ _)
 have HB:Hid (Below w.heap.size w (w.alloc (.cells #[.bool false, .int .u64 0, .int .u64 0] 28 (0,0)))):=Lib.hid (below_alloc (Below.refl _ _) _)
 have HV:=Lib.hid (hv.below (below_alloc (Below.refl _ _) (.cells #[.bool false, .int .u64 0, .int .u64 0] 28 (0,0))))
 have HCo:=Lib.hid fun wx => contains_any s 58 wx
 have HF:=Lib.hid fun wx (hv:Vr wx) => aFour_any s wx hv hs
 have HCu:=Lib.hid fun wx (hv:Vr wx) => cut_any s [58,58] wx hv hs
 have HLo:Hid (looseF s=if s.contains 58=true then sixF s else (fourF s).map fun n => (false,0,n)):=Lib.hid rfl
 have HSi:Hid (sixF s=mkA (cutC s).2.2 (grpF (cutC s).1 (!(cutC s).2.2)) (grpF (cutC s).2.1 true)):=Lib.hid rfl
 have HGa:=Lib.hid fun wx (hv:Vr wx) (l:Bool) => aGroups_any (cutC s).1 l wx hv (Nat.le_trans (cut_le s [58,58]).1 hs)
 have HGb:=Lib.hid fun wx (hv:Vr wx) => aGroups_any (cutC s).2.1 true wx hv (Nat.le_trans (cut_le s [58,58]).2 hs)
 have HAl:Hid (∀ l G,grpF (cutC s).1 l=some G→∀ g ∈ G,g < 65536):=Lib.hid fun l G h => grpF_lt (Nat.le_trans (cut_le s [58,58]).1 hs) h
 have HBl:Hid (∀ G,grpF (cutC s).2.1 true=some G→∀ g ∈ G,g < 65536):=Lib.hid fun G h => grpF_lt (Nat.le_trans (cut_le s [58,58]).2 hs) h
 have HLa:Hid (∀ l G,grpF (cutC s).1 l=some G→G.length≤1000002):=Lib.hid fun l G h => Nat.le_trans (grpF_len h) (by have:=(cut_le s [58,58]).1;show (Lib.cut s [58,58]).1.length + 2≤_;omega)
 have HLb:Hid (∀ G,grpF (cutC s).2.1 true=some G→G.length≤1000002):=Lib.hid fun G h => Nat.le_trans (grpF_len h) (by have:=(cut_le s [58,58]).2;show (Lib.cut s [58,58]).2.1.length + 2≤_;omega)
 have HNg:Hid ((cutC s).2.2=false→grpF (cutC s).2.1 true=some []):=Lib.hid fun h => by
  have:(cutC s).2.1=[]:=cut_nogap h
  rw [this];rfl
 have e58:strL [58,58]=⟨#[58,58]⟩:=rfl
 rw [e58] at HCu
 obtain ⟨RR,hRR⟩:∃ q,looseF s=q:=⟨_,rfl⟩
 rw [hRR] at HLo ⊢
 generalize sixF s=SF at *
 generalize s.contains 58=C at *
 generalize fourF s=FX at *
 have hcc:Lib.cut s [58,58]=cutC s:=rfl
 rw [hcc] at HCu
 generalize (cutC s).1=lft at *
 generalize (cutC s).2.1=rgt at *
 generalize (cutC s).2.2=gap at *
 generalize strL s=SS at *
 clear hv e58 hRR hcc
 go_enter Tryz.func214,Tryz.ntmps214
 go_upto_region 1 with fail
 generalize w.alloc (.cells #[.bool false, .int .u64 0, .int .u64 0] 28 (0,0))=w1 at *
 obtain ⟨bx,hbx⟩:∃ q,w.heap.size=q:=⟨_,rfl⟩
 have Hbx:=Lib.hid hbx
 rw [hbx] at HP HB ⊢
 clear hbx
 have HRet:Hid (∀ wx (sx:Bool) (h l:Int),Blk wx bx 28 #[.bool false, .int .u64 0, .int .u64 0]→Below bx w wx→Below bx w (((wx.setCell ⟨bx,0,none⟩ (.bool sx)).setCell ⟨bx,1,none⟩ (.int .u64 h)).setCell ⟨bx,2,none⟩ (.int .u64 l))):=Lib.hid fun wx sx h l hp hb => hb.grown (grown_setCells bx [.bool sx, .int .u64 h, .int .u64 l] 0 wx) (Nat.le_of_lt hp.lt) (fun k hk => by injection hk with hk;omega)
 go_wp2_with fail
 refine (HCo.out _).mono ?_
 rintro e w2 ⟨rfl,hb⟩
 have HP2:=Lib.hid (HP.out.below hb HP.out.lt)
 have HB2:=Lib.hid (HB.out.trans (hb.mono (Nat.le_of_lt HP.out.lt)))
 have HV2:=Lib.hid (HV.out.below hb)
 clear hb HP HB HV HCo
 cases C
 ·have hL:=HLo.out
  rw [if_neg (by decide)] at hL
  have HL:=Lib.hid hL
  have HFx:=Lib.hid (HF.out _ HV2.out)
  clear hL HLo HSi HGa HGb HAl HBl HNg HCu HF
  go_wp2_with fail
  refine HFx.out.mono ?_
  rintro e w3 ⟨rfl,hb⟩
  have HP3:=Lib.hid (HP2.out.below hb HP2.out.lt)
  have HB3:=Lib.hid (HB2.out.trans (hb.mono (Nat.le_of_lt HP2.out.lt)))
  clear hb HP2 HB2 HV2 HFx
  have q0:=HP3.out.cell 0
  have q1:=HP3.out.cell 1
  have q2:=HP3.out.cell 2
  have qf:=HP3.out.free
  simp at q0 q1 q2
  have c3:=fun (a:Bool) (b c:Int) => (HP3.out.set3 (x':=.bool a) (y':=.int .u64 b) (z':=.int .u64 c))
  cases FX with
  | none =>
    have hL:=HL.out
    subst hL
    have HBf:=Lib.hid (HRet.out w3 false 0 0 HP3.out HB3.out)
    have d0:=(c3 false 0 0).cell 0
    have d1:=(c3 false 0 0).cell 1
    have d2:=(c3 false 0 0).cell 2
    simp at d0 d1 d2
    clear c3
    go_wp2_with fail
    refine bodyPost_ret (v:=.tuple #[.agg #[.bool false, .int .u64 0, .int .u64 0], .int .i64 9]) (by simp [results,Tryz.results214,go_sem, *]) rfl ⟨rfl,by rw [Hbx.out];exact HBf.out⟩
  | some n =>
    have hL:=HL.out
    subst hL
    have HBf:=Lib.hid (HRet.out w3 false 0 n HP3.out HB3.out)
    have d0:=(c3 false 0 n).cell 0
    have d1:=(c3 false 0 n).cell 1
    have d2:=(c3 false 0 n).cell 2
    simp at d0 d1 d2
    clear c3
    go_wp2_with fail
    refine bodyPost_ret (v:=.tuple #[.agg #[.bool false, .int .u64 0, .int .u64 (n:Int)], .int .i64 0]) (by simp [results,Tryz.results214,go_sem, *]) rfl ⟨rfl,by rw [Hbx.out];exact HBf.out⟩
 ·have hL:=HLo.out
  rw [if_pos rfl] at hL
  have HL:=Lib.hid (hL.trans HSi.out)
  have HCx:=Lib.hid (HCu.out _ HV2.out)
  clear hL HLo HSi HCu HF
  go_wp2_with fail
  refine HCx.out.mono ?_
  rintro e w3 ⟨rfl,hb⟩
  have HP3:=Lib.hid (HP2.out.below hb HP2.out.lt)
  have HB3:=Lib.hid (HB2.out.trans (hb.mono (Nat.le_of_lt HP2.out.lt)))
  have HV3:=Lib.hid (HV2.out.below hb)
  clear hb HP2 HB2 HV2 HCx
  have HGx:=Lib.hid (HGa.out _ HV3.out (!gap))
  have HAl2:=Lib.hid (HAl.out (!gap))
  have HLa2:=Lib.hid (HLa.out (!gap))
  clear HGa HAl HLa
  generalize grpF lft (!gap)=A at *
  generalize grpF rgt true=B at *
  generalize strL lft=SL at *
  generalize strL rgt=SR at *
  go_wp2_with fail
  refine HGx.out.mono ?_
  rintro e w4 ⟨aa,la,ca,rfl,hO,hb⟩
  have hbb:bx≤w3.heap.size:=Nat.le_of_lt HP3.out.lt
  have HO4:=Lib.hid hO
  have HP4:=Lib.hid (HP3.out.below hb HP3.out.lt)
  have HB4:=Lib.hid (HB3.out.trans (hb.mono hbb))
  have HV4:=Lib.hid (HV3.out.below hb)
  have HGy:=Lib.hid (HGb.out _ HV4.out)
  have Hs34:=Lib.hid hb.size
  clear hb hO HP3 HB3 HV3 HGx HGb
  go_wp2_with fail
  refine HGy.out.mono ?_
  rintro e w5 ⟨ab,lb,cb,rfl,hO,hb⟩
  have hbb4:bx≤w4.heap.size:=Nat.le_of_lt HP4.out.lt
  have HA5:Hid (∀ G,A=some G→OwnK layU w5 w3.heap.size (.slice aa la ca) G):=Lib.hid fun G h => (HO4.out G h).later hb
  have HB5r:Hid (∀ G,B=some G→OwnK layU w5 w4.heap.size (.slice ab lb cb) G):=Lib.hid hO
  have HP5:=Lib.hid (HP4.out.below hb HP4.out.lt)
  have HB5:=Lib.hid (HB4.out.trans (hb.mono hbb4))
  have Hs45:=Lib.hid hb.size
  clear hb hO HO4 HP4 HB4 HV4 HGy
  cases A with
  | none =>
    have hL:=HL.out
    have hLn:RR=none:=hL
    subst hLn
    clear HL HA5 HB5r HAl2 HBl HNg
    have q0:=HP5.out.cell 0
    have q1:=HP5.out.cell 1
    have q2:=HP5.out.cell 2
    have qf:=HP5.out.free
    simp at q0 q1 q2
    have c3:=(HP5.out.set3 (x':=.bool false) (y':=.int .u64 0) (z':=.int .u64 0))
    have HBf:=Lib.hid (HRet.out w5 false 0 0 HP5.out HB5.out)
    have d0:=c3.cell 0
    have d1:=c3.cell 1
    have d2:=c3.cell 2
    simp at d0 d1 d2
    clear c3
    go_wp2_with fail
    refine bodyPost_ret (v:=.tuple #[.agg #[.bool false, .int .u64 0, .int .u64 0], .int .i64 9]) (by simp [results,Tryz.results214,go_sem, *]) rfl ⟨rfl,by rw [Hbx.out];exact HBf.out⟩
  | some a =>
    cases B with
    | none =>
      have hL:=HL.out
      have hLn:RR=none:=hL
      subst hLn
      clear HL HA5 HB5r HAl2 HBl HNg
      have q0:=HP5.out.cell 0
      have q1:=HP5.out.cell 1
      have q2:=HP5.out.cell 2
      have qf:=HP5.out.free
      simp at q0 q1 q2
      have c3:=(HP5.out.set3 (x':=.bool false) (y':=.int .u64 0) (z':=.int .u64 0))
      have HBf:=Lib.hid (HRet.out w5 false 0 0 HP5.out HB5.out)
      have d0:=c3.cell 0
      have d1:=c3.cell 1
      have d2:=c3.cell 2
      simp at d0 d1 d2
      clear c3
      go_wp2_with fail
      refine bodyPost_ret (v:=.tuple #[.agg #[.bool false, .int .u64 0, .int .u64 0], .int .i64 9]) (by simp [results,Tryz.results214,go_sem, *]) rfl ⟨rfl,by rw [Hbx.out];exact HBf.out⟩
    | some b =>
      have hL:RR=if ((gap && decide (7 < a.length + b.length)) || (!gap && !decide (a.length=8)))=true then none else some (true,wdg (gq a b) 4,wdg (fun i => gq a b (4 + i)) 4):=HL.out
      have HAr:=Lib.hid (HA5.out a rfl)
      have HBr:=Lib.hid (HB5r.out b rfl)
      have hA0:=HAr.out.srcU
      have hB0:=HBr.out.srcU
      obtain ⟨rfl,hA0⟩:=hA0
      obtain ⟨rfl,hB0⟩:=hB0
      have HA0:=Lib.hid hA0
      have HB0:=Lib.hid hB0
      have hgl:=gq_lt (HAl2.out a rfl) (HBl.out b rfl)
      have HGl:=Lib.hid hgl
      have hng:gap=false→b.length=0:=fun h => by have:=HNg.out h;injection this with this;rw [this];rfl
      have HNb:=Lib.hid hng
      have hlen1:a.length≤1000002:=HLa2.out a rfl
      have hlen2:b.length≤1000002:=HLb.out b rfl
      clear HL HA5 HB5r HAl2 HBl HNg hA0 hB0 hgl hng HLa2 HLb
      by_cases hbad:((gap && decide (7 < a.length + b.length)) || (!gap && !decide (a.length=8)))=true
      ·rw [if_pos hbad] at hL
       subst hL
       have hcase:(gap=true∧7 < a.length + b.length) ∨ (gap=false∧¬ a.length=8):=by
        cases gap
        ·right;simp at hbad;exact ⟨rfl,hbad⟩
        ·left;simp at hbad;exact ⟨rfl,hbad⟩
       clear hbad HAr HBr HA0 HB0 HGl HNb
       rcases hcase with ⟨rfl,hx⟩ | ⟨rfl,hx⟩
       ·have hx':(7:Int) < (a.length:Int) + (b.length:Int):=by omega
        have q0:=HP5.out.cell 0
        have q1:=HP5.out.cell 1
        have q2:=HP5.out.cell 2
        have qf:=HP5.out.free
        simp at q0 q1 q2
        have c3:=(HP5.out.set3 (x':=.bool false) (y':=.int .u64 0) (z':=.int .u64 0))
        have HBf:=Lib.hid (HRet.out w5 false 0 0 HP5.out HB5.out)
        have d0:=c3.cell 0
        have d1:=c3.cell 1
        have d2:=c3.cell 2
        simp at d0 d1 d2
        clear c3
        go_wp2_with fail
        refine bodyPost_ret (v:=.tuple #[.agg #[.bool false, .int .u64 0, .int .u64 0], .int .i64 9]) (by simp [results,Tryz.results214,go_sem, *]) rfl ⟨rfl,by rw [Hbx.out];exact HBf.out⟩
       ·have hx':¬ (a.length:Int)=8:=by omega
        have hxb:((a.length:Int) == 8)=false:=beq_eq_false_iff_ne.2 hx'
        have q0:=HP5.out.cell 0
        have q1:=HP5.out.cell 1
        have q2:=HP5.out.cell 2
        have qf:=HP5.out.free
        simp at q0 q1 q2
        have c3:=(HP5.out.set3 (x':=.bool false) (y':=.int .u64 0) (z':=.int .u64 0))
        have HBf:=Lib.hid (HRet.out w5 false 0 0 HP5.out HB5.out)
        have d0:=c3.cell 0
        have d1:=c3.cell 1
        have d2:=c3.cell 2
        simp at d0 d1 d2
        clear c3
        go_wp2_with fail
        refine bodyPost_ret (v:=.tuple #[.agg #[.bool false, .int .u64 0, .int .u64 0], .int .i64 9]) (by simp [results,Tryz.results214,go_sem, *]) rfl ⟨rfl,by rw [Hbx.out];exact HBf.out⟩
      ·rw [if_neg hbad] at hL
       subst hL
       have hsum:a.length + b.length≤8:=by
        cases gap
        ·have:=HNb.out rfl
         simp at hbad
         omega
        ·simp at hbad
         omega
       have hga:gap=true ∨ a.length=8:=by
        cases gap
        ·right;simp at hbad;exact hbad
        ·exact .inl rfl
       have hgs:gap=true→a.length + b.length≤7:=fun h => by
        subst h;simp at hbad;omega
       have hcond1:gap=true→¬ (7:Int) < (a.length:Int) + (b.length:Int):=fun h => by have:=hgs h;omega
       have hcond2:gap=false→(a.length:Int)=8:=fun h => by
        rcases hga with h2 | h2
        ·rw [h] at h2;cases h2
        ·omega
       clear hbad HA0 HB0 HNb
       go_upto_region 9 with fail
       go_cut [72] (fun v wx => v=.bool false∧OwnK layU wx w3.heap.size (.slice aa a.length ca) a∧OwnK layU wx w4.heap.size (.slice ab b.length cb) b∧Blk wx bx 28 #[.bool false, .int .u64 0, .int .u64 0]∧Below bx w wx)
       case first =>
        cases gap
        ·have hc2:=hcond2 rfl
         have hc3:((a.length:Int) == 8)=true:=beq_iff_eq.2 hc2
         clear hcond1 hcond2 hga hgs
         go_wp2_with fail
         go_meet
         case rel => exact ⟨by first | rfl | simp [hc3],HAr.out,HBr.out,HP5.out,HB5.out⟩
        ·have hc1:=hcond1 rfl
         clear hcond1 hcond2 hga hgs
         go_wp2_with fail
         go_meet
         case rel => exact ⟨by first | rfl | (simp;exact hc1) | simp_all,HAr.out,HBr.out,HP5.out,HB5.out⟩
       case rest =>
        obtain ⟨rfl,hA,hB,hP,hb⟩:=hcut
        have hbx5:bx < wc.heap.size:=hP.lt
        have HG8:Hid (∀ i,i < 8→(gs8 a b)[i]?=some (gq a b i)):=Lib.hid fun i hi => gs8_get (a:=a) (b:=b) hsum hi
        have HQ:Hid (Blk (wc.alloc (.cells #[.int .u64 0, .int .u64 0, .int .u64 0, .int .u64 0, .int .u64 0, .int .u64 0, .int .u64 0, .int .u64 0] 209 (0,0))) wc.heap.size 209 (encU (List.replicate 8 0)).toArray):=Lib.hid (Blk.new wc _ _)
        have HAs:=Lib.hid (hA.alloc (.cells #[.int .u64 0, .int .u64 0, .int .u64 0, .int .u64 0, .int .u64 0, .int .u64 0, .int .u64 0, .int .u64 0] 209 (0,0)))
        have HBs:=Lib.hid (hB.alloc (.cells #[.int .u64 0, .int .u64 0, .int .u64 0, .int .u64 0, .int .u64 0, .int .u64 0, .int .u64 0, .int .u64 0] 209 (0,0)))
        have HP6:=Lib.hid (hP.alloc (.cells #[.int .u64 0, .int .u64 0, .int .u64 0, .int .u64 0, .int .u64 0, .int .u64 0, .int .u64 0, .int .u64 0] 209 (0,0)))
        have HB6:=Lib.hid (hb.alloc (Nat.le_of_lt hbx5) (.cells #[.int .u64 0, .int .u64 0, .int .u64 0, .int .u64 0, .int .u64 0, .int .u64 0, .int .u64 0, .int .u64 0] 209 (0,0)))
        have hal:∀ k,(Value.slice aa a.length ca).ownBlock=some k→k < wc.heap.size:=own_lt hA
        have hbl:∀ k,(Value.slice ab b.length cb).ownBlock=some k→k < wc.heap.size:=own_lt hB
        have HAl:=Lib.hid hal
        have HBl:=Lib.hid hbl
        clear hal hbl hA hB hP hb HAr HBr HP5 HB5 Hs34 Hs45 hcond1 hcond2 hga hgs
        go_upto_region 12 with fail
        generalize wc.alloc (.cells #[.int .u64 0, .int .u64 0, .int .u64 0, .int .u64 0, .int .u64 0, .int .u64 0, .int .u64 0, .int .u64 0] 209 (0,0))=w6 at *
        generalize wc.heap.size=g8 at *
        have hAs:=HAs.out.srcU
        have hcsA:(encU a).length=a.length:=by simp [encU]
        have hcsB:(encU b).length=b.length:=by simp [encU]
        have HcsA:=Lib.hid hcsA
        have HcsB:=Lib.hid hcsB
        obtain ⟨CA,hCA⟩:∃ q,encU a=q:=⟨_,rfl⟩
        obtain ⟨CB,hCB⟩:∃ q,encU b=q:=⟨_,rfl⟩
        have HCA:=Lib.hid hCA
        have HCB:=Lib.hid hCB
        have HSA:Hid (0 < CA.length→∃ ad,aa=some ad∧∀ (j:Nat) v,CA[j]?=some v→w6.cell? (ad.add j)=some v):=Lib.hid fun h => by
         rw [← hCA] at h ⊢
         exact hAs.2 (by rw [← hcsA];exact h)
        have hone:∀ v ∈ CA,v.oneCell'=true:=by rw [← hCA];exact encU_one a
        have honeB:∀ v ∈ CB,v.oneCell'=true:=by rw [← hCB];exact encU_one b
        have Hone:=Lib.hid hone
        have HoneB:=Lib.hid honeB
        obtain ⟨C0,hC0⟩:∃ q,encU (List.replicate 8 0)=q:=⟨_,rfl⟩
        have hC0l:C0.length=8:=by rw [← hC0];rfl
        have HC0:=Lib.hid hC0
        have HC0l:=Lib.hid hC0l
        rw [hC0] at HQ
        rw [hCA] at HcsA
        rw [hCB] at HcsB
        clear hAs hcsA hcsB hCA hCB hone honeB hC0 hC0l
        go_upto_region 13 with (refine wpList_copy_splice rfl (.tmp 74) (.tmp 75) 190 190 rfl 26 Tryz.underlying190 (by kernel_rfl) _ _ _ _ _ _ rfl rfl g8 0 C0 209 HQ.out CA ?ka ?kb ?kc Hone.out g8 w6 (Below.refl _ _) (Nat.le_refl _) ?_)
        case ka => rw [HcsA.out];exact (Nat.min_eq_left (by omega)).symm
        case kb => intro h;first | exact ⟨rfl,HSA.out h⟩ | exact HSA.out h
        case kc => rw [HcsA.out,HC0l.out];omega
        intro w7 hw7 hb7
        have hg8:bx≤g8:=Nat.le_of_lt hbx5
        have HBs7:Hid (OwnK layU w7 w4.heap.size (.slice ab b.length cb) b):=Lib.hid (own_below HBs.out hb7 HBl.out)
        have hBs:=HBs7.out.srcU
        have HSB:Hid (0 < CB.length→∃ ad,ab=some ad∧∀ (j:Nat) v,CB[j]?=some v→w7.cell? (ad.add j)=some v):=Lib.hid fun h => by
         rw [← HCB.out] at h ⊢
         exact hBs.2 (by simpa [encU] using h)
        have HGS:Hid (encU (gs8 a b)=splice (splice C0 0 CA) (8 - b.length) CB):=Lib.hid (by
         rw [← HC0.out, ← HCA.out, ← HCB.out]
         unfold encU gs8
         rw [splice_map,splice_map])
        have hl1:(splice C0 0 CA).length=8:=by rw [length_splice _ _ _ (by rw [HcsA.out,HC0l.out];omega),HC0l.out]
        have Hl1:=Lib.hid hl1
        obtain ⟨C1,hC1⟩:∃ q,splice C0 0 CA=q:=⟨_,rfl⟩
        rw [hC1] at hw7 HGS Hl1
        have Hw7:=hw7
        have Hb7:=Lib.hid hb7
        clear hC1 hl1 hBs hw7 hb7 HSA Hone HCA HC0 HC0l HcsA HAs HBs HQ HBs7 HAl HBl HCB
        go_upto_region 13 with fail
        go_cut [11] (fun _ wx => Hid (wx.heap[g8]?=some (.cells (encU (gs8 a b)).toArray 209 (0,0)))∧Below g8 w6 wx)
        case first =>
         have hb8:b.length=0 ∨ b.length=1 ∨ b.length=2 ∨ b.length=3 ∨ b.length=4 ∨ b.length=5 ∨ b.length=6 ∨ b.length=7 ∨ b.length=8:=by omega
         clear hlen1 hlen2 hsum
         rcases hb8 with hl | hl | hl | hl | hl | hl | hl | hl | hl
         all_goals
          rw [hl] at HcsB HGS ⊢
          go_wp2_with (refine wpList_copy_splice rfl (.tmp 80) (.tmp 81) 190 190 rfl 26 Tryz.underlying190 (by kernel_rfl) _ _ _ _ _ _ rfl rfl g8 (8 - b.length) C1 209 Hw7.out CB ?ka ?kb ?kc HoneB.out g8 w6 Hb7.out (Nat.le_refl _) ?_)
          case ka => rw [HcsB.out];rfl
          case kb => intro h;rw [hl];first | exact ⟨rfl,HSB.out h⟩ | exact HSB.out h | (rw [HcsB.out] at h;omega)
          case kc => rw [HcsB.out,Hl1.out,hl];first | done | omega
          intro w8 hw8 hb8
          have HE8:Hid (w8.heap[g8]?=some (.cells (encU (gs8 a b)).toArray 209 (0,0))):=Lib.hid (by rw [HGS.out];first | exact hw8.out | (have:=hw8.out;rw [hl] at this;exact this))
          go_wp2_with fail
          go_meet
          case rel => exact ⟨HE8,hb8⟩
        case rest =>
         obtain ⟨hw8,hb8⟩:=hcut
         have HQ8:Hid (Blk wc g8 209 (encU (gs8 a b)).toArray):=Lib.hid hw8.out
         have HP8:=Lib.hid (HP6.out.below hb8 hbx5)
         have HB8:=Lib.hid (HB6.out.trans (hb8.mono hg8))
         have hgw:g8 < wc.heap.size:=HQ8.out.lt
         clear hw8 hb8 HP6 HB6 HSB HGS Hw7 Hb7 HcsB HoneB Hl1
         have HGg:Hid (∀ wx,Blk wx g8 209 (encU (gs8 a b)).toArray→∀ i,i < 8→wx.cell? ⟨g8,i,none⟩=some (.int .u64 (gq a b i:Int))):=Lib.hid fun wx h i hi => by
          have:=h.cell i
          rw [this,List.getElem?_toArray]
          unfold encU
          rw [List.getElem?_map,HG8.out i hi]
          rfl
         generalize (encU (gs8 a b)).toArray=GA at *
         have HO8:Hid (Blk (wc.alloc (.cells #[.bool true, .int .u64 0, .int .u64 0] 28 (0,0))) wc.heap.size 28 #[.bool true, .int .u64 ((wdg (gq a b) 0:Nat):Int), .int .u64 ((wdg (fun i => gq a b (4 + i)) 0:Nat):Int)]):=Lib.hid (Blk.new wc _ _)
         have HQ9:=Lib.hid (HQ8.out.alloc (.cells #[.bool true, .int .u64 0, .int .u64 0] 28 (0,0)))
         have HP9:=Lib.hid (HP8.out.alloc (.cells #[.bool true, .int .u64 0, .int .u64 0] 28 (0,0)))
         have hbc:bx < wc.heap.size:=HP8.out.lt
         have HB9:=Lib.hid (HB8.out.alloc (Nat.le_of_lt hbc) (.cells #[.bool true, .int .u64 0, .int .u64 0] 28 (0,0)))
         clear HQ8 HP8 HB8 HG8
         go_upto_region 15 with fail
         generalize wc.alloc (.cells #[.bool true, .int .u64 0, .int .u64 0] 28 (0,0))=w9 at *
         generalize wc.heap.size=ob at *
         have HW1:Hid (∀ k,k < 4→bits .or .u64 ((wdg (gq a b) k:Int) * 65536) (gq a b k:Int)=((wdg (gq a b) (k + 1):Nat):Int)):=Lib.hid fun k hk => wdg_or HGl.out hk
         have HW2:Hid (∀ k,k < 4→bits .or .u64 ((wdg (fun i => gq a b (4 + i)) k:Int) * 65536) (gq a b (4 + k):Int)=((wdg (fun i => gq a b (4 + i)) (k + 1):Nat):Int)):=Lib.hid fun k hk => wdg_or (g:=fun i => gq a b (4 + i)) (fun i => HGl.out (4 + i)) hk
         have HWl:Hid (∀ k,k < 4→wdg (gq a b) k < 281474976710656∧wdg (fun i => gq a b (4 + i)) k < 281474976710656):=Lib.hid fun k hk => by
          have h3:65536 ^ k≤65536 ^ 3:=Nat.pow_le_pow_right (by decide) (by omega)
          exact ⟨Nat.lt_of_lt_of_le (wdg_lt HGl.out k) (Nat.le_trans h3 (by decide)),Nat.lt_of_lt_of_le (wdg_lt (g:=fun i => gq a b (4 + i)) (fun i => HGl.out (4 + i)) k) (Nat.le_trans h3 (by decide))⟩
         obtain ⟨WH,hWH⟩:∃ q,wdg (gq a b)=q:=⟨_,rfl⟩
         obtain ⟨WL,hWL⟩:∃ q,wdg (fun i => gq a b (4 + i))=q:=⟨_,rfl⟩
         obtain ⟨GQ,hGQ⟩:∃ q,gq a b=q:=⟨_,rfl⟩
         have HWe:Hid (lsV (some (true,wdg (gq a b) 4,wdg (fun i => gq a b (4 + i)) 4))=.tuple #[.agg #[.bool true, .int .u64 (WH 4:Int), .int .u64 (WL 4:Int)], .int .i64 0]):=Lib.hid (by rw [← hWH, ← hWL];rfl)
         rw [hWH] at HO8 HW1 HWl
         rw [hWL] at HO8 HW2 HWl
         rw [hGQ] at HW1 HW2 HGg
         clear hWH hWL hGQ
         go_wp2_with fail
         go_loopw [84] (fun i wr => ∃ k:Nat,k≤4∧i=.int .i64 (k:Int)∧Hid (Blk wr ob 28 #[.bool true, .int .u64 (WH k:Int), .int .u64 (WL k:Int)])∧Hid (Blk wr g8 209 GA)∧Hid (Blk wr bx 28 #[.bool false, .int .u64 0, .int .u64 0])∧Hid (Below bx w wr)) (fun i _ => 4 - (intOf i).toNat)
         case atStart => exact ⟨0,by omega,rfl,HO8,HQ9,HP9,HB9⟩
         case round =>
          clear HO8 HQ9 HP9 HB9
          obtain ⟨k,hk,rfl,HO,HQ,HP,HB⟩:=hrel
          by_cases hlt:k < 4
          ·have hgo:g8 ≠ ob:=by have:=HQ.out.lt;omega
           have hbo:bx ≠ ob:=by omega
           go_upto_region 18 with fail
           refine Lm.wp_region_lim 18 1 (llR g8 ob k WH WL GQ) (llC w ob g8 bx k WH WL GA) hqS (fun i => if i=16 then 1 else 0) (fun i => if i=0 ∨ i=1 ∨ i=2 ∨ i=3 ∨ i=4 ∨ i=5 ∨ i=6 ∨ i=15 ∨ i=16 then 0 else 1)
            (by kernel_rfl) (by kernel_rfl) (by decide) (by kernel_rfl) llR_keep ⟨HO.out.drew,HQ.out.drew,HP.out.drew,RowKit.Below.drewR HB.out⟩ ?hX
           case' hX => (apply Exists.intro;refine ⟨fun T => ?hA,?hob,?hend⟩)
           case hA =>
            simp only [setAll,List.take_succ_cons,List.take_zero,Act.put,List.setIfInBounds_toArray,List.set_cons_succ,List.set_cons_zero,Nat.reduceAdd]
            exact rfl
           case hob =>
            go_light
            refine ⟨?_,?_,?_,?_,?_,?_,?_,?_,?_,?_,?_,?_,?_,?_,?_,?_,?_,?_,trivial⟩
            all_goals (intro TT wx n0 hC hn hp;dsimp only at hn ⊢;unfold Op1)
            ·have hn1:n0≤1:=by simp at hn;omega
             go_simp
             first | exact ⟨rfl,hC,Nat.le_refl _,by omega⟩ | exact ⟨rfl,Nat.le_refl _,by omega⟩ | exact ⟨hC,Nat.le_refl _,by omega⟩ | exact ⟨Nat.le_refl _,by omega⟩
            ·obtain ⟨g0, -⟩:=hp
             have g0:TT 0=.pointer (some ⟨ob,1,none⟩):=g0
             have hn0:n0=0:=by simpa using hn
             subst hn0
             have hn1:0≤1:=by omega
             have c1:=hC.1.cell 1
             simp at c1
             go_simp
             first | exact ⟨rfl,hC,Nat.le_refl _,by omega⟩ | exact ⟨rfl,Nat.le_refl _,by omega⟩ | exact ⟨hC,Nat.le_refl _,by omega⟩ | exact ⟨Nat.le_refl _,by omega⟩
            ·obtain ⟨g0, -⟩:=hp
             have g0:TT 1=.int .u64 (WH k:Int):=g0
             have hn1:n0≤1:=by simp at hn;omega
             have hw:=(HWl.out k hlt).1
             have hwr:IntKind.u64.wrap ((WH k:Int) * 65536)=(WH k:Int) * 65536:=by rw [IntKind.wrap_u64];omega
             go_simp
             first | exact ⟨rfl,hC,Nat.le_refl _,by omega⟩ | exact ⟨rfl,Nat.le_refl _,by omega⟩ | exact ⟨hC,Nat.le_refl _,by omega⟩ | exact ⟨Nat.le_refl _,by omega⟩
            ·have hn1:n0≤1:=by simp at hn;omega
             go_simp
             first | exact ⟨rfl,hC,Nat.le_refl _,by omega⟩ | exact ⟨rfl,Nat.le_refl _,by omega⟩ | exact ⟨hC,Nat.le_refl _,by omega⟩ | exact ⟨Nat.le_refl _,by omega⟩
            ·obtain ⟨g0, -⟩:=hp
             have g0:TT 3=.int .i64 (k:Int):=g0
             have hn1:n0≤1:=by simp at hn;omega
             have hk8:(k:Int) < 8:=by omega
             go_simp
             first | exact ⟨rfl,hC,Nat.le_refl _,by omega⟩ | exact ⟨rfl,Nat.le_refl _,by omega⟩ | exact ⟨hC,Nat.le_refl _,by omega⟩ | exact ⟨Nat.le_refl _,by omega⟩
            ·obtain ⟨g0, -⟩:=hp
             have g0:TT 4=.pointer (some ⟨g8,k,none⟩):=g0
             have hn1:n0≤1:=by simp at hn;omega
             have cg:=HGg.out wx hC.2.1 k (by omega)
             go_simp
             first | exact ⟨rfl,hC,Nat.le_refl _,by omega⟩ | exact ⟨rfl,Nat.le_refl _,by omega⟩ | exact ⟨hC,Nat.le_refl _,by omega⟩ | exact ⟨Nat.le_refl _,by omega⟩
            ·obtain ⟨g0,g1, -⟩:=hp
             have g0:TT 2=.int .u64 ((WH k:Int) * 65536):=g0
             have g1:TT 5=.int .u64 (GQ k:Int):=g1
             have hn1:n0≤1:=by simp at hn;omega
             have hw:=HW1.out k hlt
             go_simp
             first | exact ⟨rfl,hC,Nat.le_refl _,by omega⟩ | exact ⟨rfl,Nat.le_refl _,by omega⟩ | exact ⟨hC,Nat.le_refl _,by omega⟩ | exact ⟨Nat.le_refl _,by omega⟩
            ·have hn1:n0≤1:=by simp at hn;omega
             go_simp
             first | exact ⟨rfl,hC,Nat.le_refl _,by omega⟩ | exact ⟨rfl,Nat.le_refl _,by omega⟩ | exact ⟨hC,Nat.le_refl _,by omega⟩ | exact ⟨Nat.le_refl _,by omega⟩
            ·obtain ⟨g0, -⟩:=hp
             have g0:TT 7=.pointer (some ⟨ob,2,none⟩):=g0
             have hn1:n0≤1:=by simp at hn;omega
             have c2:=hC.1.cell 2
             simp at c2
             go_simp
             first | exact ⟨rfl,hC,Nat.le_refl _,by omega⟩ | exact ⟨rfl,Nat.le_refl _,by omega⟩ | exact ⟨hC,Nat.le_refl _,by omega⟩ | exact ⟨Nat.le_refl _,by omega⟩
            ·obtain ⟨g0, -⟩:=hp
             have g0:TT 8=.int .u64 (WL k:Int):=g0
             have hn1:n0≤1:=by simp at hn;omega
             have hw:=(HWl.out k hlt).2
             have hwr:IntKind.u64.wrap ((WL k:Int) * 65536)=(WL k:Int) * 65536:=by rw [IntKind.wrap_u64];omega
             go_simp
             first | exact ⟨rfl,hC,Nat.le_refl _,by omega⟩ | exact ⟨rfl,Nat.le_refl _,by omega⟩ | exact ⟨hC,Nat.le_refl _,by omega⟩ | exact ⟨Nat.le_refl _,by omega⟩
            ·have hn1:n0≤1:=by simp at hn;omega
             go_simp
             first | exact ⟨rfl,hC,Nat.le_refl _,by omega⟩ | exact ⟨rfl,Nat.le_refl _,by omega⟩ | exact ⟨hC,Nat.le_refl _,by omega⟩ | exact ⟨Nat.le_refl _,by omega⟩
            ·obtain ⟨g0, -⟩:=hp
             have g0:TT 10=.int .i64 (k:Int):=g0
             have hn1:n0≤1:=by simp at hn;omega
             have hwr:IntKind.i64.wrap (4 + (k:Int))=4 + (k:Int):=by rw [IntKind.wrap_i64];omega
             go_simp
             first | exact ⟨rfl,hC,Nat.le_refl _,by omega⟩ | exact ⟨rfl,Nat.le_refl _,by omega⟩ | exact ⟨hC,Nat.le_refl _,by omega⟩ | exact ⟨Nat.le_refl _,by omega⟩
            ·obtain ⟨g0, -⟩:=hp
             have g0:TT 11=.int .i64 (4 + (k:Int)):=g0
             have hn1:n0≤1:=by simp at hn;omega
             have h8:(0:Int)≤4 + (k:Int):=by omega
             have h9:4 + (k:Int) < 8:=by omega
             have ht:(4 + (k:Int)).toNat=4 + k:=by omega
             go_simp
             first | exact ⟨rfl,hC,Nat.le_refl _,by omega⟩ | exact ⟨rfl,Nat.le_refl _,by omega⟩ | exact ⟨hC,Nat.le_refl _,by omega⟩ | exact ⟨Nat.le_refl _,by omega⟩
            ·obtain ⟨g0, -⟩:=hp
             have g0:TT 12=.pointer (some ⟨g8,4 + k,none⟩):=g0
             have hn1:n0≤1:=by simp at hn;omega
             have cg:=HGg.out wx hC.2.1 (4 + k) (by omega)
             go_simp
             first | exact ⟨rfl,hC,Nat.le_refl _,by omega⟩ | exact ⟨rfl,Nat.le_refl _,by omega⟩ | exact ⟨hC,Nat.le_refl _,by omega⟩ | exact ⟨Nat.le_refl _,by omega⟩
            ·obtain ⟨g0,g1, -⟩:=hp
             have g0:TT 9=.int .u64 ((WL k:Int) * 65536):=g0
             have g1:TT 13=.int .u64 (GQ (4 + k):Int):=g1
             have hn1:n0≤1:=by simp at hn;omega
             have hw:=HW2.out k hlt
             go_simp
             first | exact ⟨rfl,hC,Nat.le_refl _,by omega⟩ | exact ⟨rfl,Nat.le_refl _,by omega⟩ | exact ⟨hC,Nat.le_refl _,by omega⟩ | exact ⟨Nat.le_refl _,by omega⟩
            ·have hn1:n0≤1:=by simp at hn;omega
             go_simp
             first | exact ⟨rfl,hC,Nat.le_refl _,by omega⟩ | exact ⟨rfl,Nat.le_refl _,by omega⟩ | exact ⟨hC,Nat.le_refl _,by omega⟩ | exact ⟨Nat.le_refl _,by omega⟩
            ·obtain ⟨g0,g1, -⟩:=hp
             have g0:TT 15=.pointer (some ⟨ob,1,none⟩):=g0
             have g1:TT 6=.int .u64 (WH (k + 1):Int):=g1
             have hn0:n0=0:=by simpa using hn
             subst hn0
             have c1:=hC.1.cell 1
             have cf:=hC.1.free
             simp at c1
             have HN:=Lib.hid (hC.1.set 1 (.int .u64 (WH (k + 1):Int)))
             have HN2:=Lib.hid (Blk.far hC.2.1 hgo 1 (.int .u64 (WH (k + 1):Int)))
             have HN3:=Lib.hid (Blk.far hC.2.2.1 hbo 1 (.int .u64 (WH (k + 1):Int)))
             have HN4:=Lib.hid (hC.2.2.2.grown (grown_setCells ob [.int .u64 (WH (k + 1):Int)] 1 wx) (Nat.le_of_lt hC.2.2.1.lt) (fun q hq => by injection hq with hq;omega))
             go_simp
             exact ⟨rfl,⟨HN.out,HN2.out,HN3.out,HN4.out⟩,by omega,by omega⟩
            ·have hn1:n0≤1:=by simp at hn;omega
             go_simp
             first | exact ⟨rfl,hC,Nat.le_refl _,by omega⟩ | exact ⟨rfl,Nat.le_refl _,by omega⟩ | exact ⟨hC,Nat.le_refl _,by omega⟩ | exact ⟨Nat.le_refl _,by omega⟩
           case hend =>
            intro TT w2 ⟨n0,hn0,hC,hR⟩
            have e16:n0=1:=hR 16 (by omega)
            have e17:TT 17=.pointer (some ⟨ob,2,none⟩):=hR 17 (by omega)
            have e14:TT 14=.int .u64 (WL (k + 1):Int):=hR 14 (by omega)
            subst e16
            obtain ⟨hO,hQ,hP,hb⟩:=hC
            have c2:=hO.cell 2
            have cf:=hO.free
            simp at c2
            have HN:=Lib.hid (hO.set 2 (.int .u64 (WL (k + 1):Int)))
            have HN2:=Lib.hid (Blk.far hQ hgo 2 (.int .u64 (WL (k + 1):Int)))
            have HN3:=Lib.hid (Blk.far hP hbo 2 (.int .u64 (WL (k + 1):Int)))
            have HN4:=Lib.hid (hb.grown (grown_setCells ob [.int .u64 (WL (k + 1):Int)] 2 w2) (Nat.le_of_lt hP.lt) (fun q hq => by injection hq with hq;omega))
            clear hO hQ hP hb hR HO HQ HP HB
            simp only [List.drop_succ_cons,List.drop_zero]
            go_wp2_with fail
            exact ⟨⟨k + 1,by omega,by go_num,HN,HN2,HN3,HN4⟩,by simp [intOf];omega⟩
          ·obtain rfl:k=4:=by omega
           have q0:=HP.out.cell 0
           have q1:=HP.out.cell 1
           have q2:=HP.out.cell 2
           have qf:=HP.out.free
           simp at q0 q1 q2
           have o0:=HO.out.cell 0
           have o1:=HO.out.cell 1
           have o2:=HO.out.cell 2
           simp at o0 o1 o2
           have c3:=(HP.out.set3 (x':=.bool true) (y':=.int .u64 (WH 4:Int)) (z':=.int .u64 (WL 4:Int)))
           have HBf:=Lib.hid (HRet.out wr true (WH 4:Int) (WL 4:Int) HP.out HB.out)
           have d0:=c3.cell 0
           have d1:=c3.cell 1
           have d2:=c3.cell 2
           simp at d0 d1 d2
           clear c3
           go_wp2_with fail
           refine bodyPost_ret (v:=.tuple #[.agg #[.bool true, .int .u64 (WH 4:Int), .int .u64 (WL 4:Int)], .int .i64 0]) (by simp [results,Tryz.results214,go_sem, *]) rfl ⟨by rw [HWe.out],by rw [Hbx.out];exact HBf.out⟩
theorem OwnK.getU {w:World} {B m c k:Nat} {ad:Option Addr} {L:List Nat} (h:OwnK layU w B (.slice ad m c) L) (hk:k < L.length):∃ g,ad=some ⟨g,0,none⟩∧w.cell? ⟨g,k,none⟩=some (.int .u64 ((L.getD k 0:Nat):Int)):=by
 obtain ⟨g,c2,hv, -⟩:=h.one (by omega)
 injection hv with e1 e2 e3
 subst e1
 refine ⟨g,rfl,?_⟩
 have:=h.get (i:=k) (j:=0) (List.getElem?_eq_getElem hk) rfl
 have e:k * layU.K + 0=k:=by show k * 1 + 0=k;omega
 rw [e] at this
 rw [this,List.getD_eq_getElem?_getD,List.getElem?_eq_getElem hk]
 rfl
theorem loose_same2 (s:List UInt8):looseF s=match fourF s with
  | some n => some (false,0,n)
  | none => sixF s:=by
 rw [loose_same]
 cases fourF s with
 | some n => rfl
 | none =>
   by_cases h:s=[]
   ·subst h;rfl
   ·show (if s=[] then none else sixF s)=sixF s
    rw [if_neg h]
theorem addrLoose_any (s:List UInt8) (w:World) (hv:Vr w) (hs:s.length≤1000000) :
  Calls Tryz.prog 170 #[.string (strL s)] w (Ret (lsV (looseF s)) w):=by
 have HP:Hid (Blk (w.alloc (.cells #[.bool false, .int .u64 0, .int .u64 0] 28 (0,0))) w.heap.size 28 #[.bool false, .int .u64 0, .int .u64 0]):=Lib.hid (Blk.new w _ _)
 have HB:Hid (Below w.heap.size w (w.alloc (.cells #[.bool false, .int .u64 0, .int .u64 0] 28 (0,0)))):=Lib.hid (below_alloc (Below.refl _ _) _)
 have HV:=Lib.hid (hv.below (below_alloc (Below.refl _ _) (.cells #[.bool false, .int .u64 0, .int .u64 0] 28 (0,0))))
 have HF:=Lib.hid fun wx (hv:Vr wx) => qFour_any s wx hv hs
 have HCu:=Lib.hid fun wx (hv:Vr wx) => cut_any s [58,58] wx hv hs
 have HLo:Hid (looseF s=match fourF s with | some n => some (false,0,n) | none => sixF s):=Lib.hid (loose_same2 s)
 have hse:=strL_list s
 have HNe:Hid (∀ l G,grpF (cutC s).1 l=some G→G.length=8→s ≠ []):=Lib.hid fun l G h h8 e => by
  subst e
  have:(some []:Option (List Nat))=some G:=h
  injection this with this
  subst this
  cases h8
 have HSi:Hid (sixF s=mkA (cutC s).2.2 (grpF (cutC s).1 (!(cutC s).2.2)) (grpF (cutC s).2.1 true)):=Lib.hid rfl
 have HGa:=Lib.hid fun wx (hv:Vr wx) (l:Bool) => qGroups_any (cutC s).1 l wx hv (Nat.le_trans (cut_le s [58,58]).1 hs)
 have HGb:=Lib.hid fun wx (hv:Vr wx) => qGroups_any (cutC s).2.1 true wx hv (Nat.le_trans (cut_le s [58,58]).2 hs)
 have HAl:Hid (∀ l G,grpF (cutC s).1 l=some G→∀ g ∈ G,g < 65536):=Lib.hid fun l G h => grpF_lt (Nat.le_trans (cut_le s [58,58]).1 hs) h
 have HBl:Hid (∀ G,grpF (cutC s).2.1 true=some G→∀ g ∈ G,g < 65536):=Lib.hid fun G h => grpF_lt (Nat.le_trans (cut_le s [58,58]).2 hs) h
 have HLa:Hid (∀ l G,grpF (cutC s).1 l=some G→G.length≤1000002):=Lib.hid fun l G h => Nat.le_trans (grpF_len h) (by have:=(cut_le s [58,58]).1;show (Lib.cut s [58,58]).1.length + 2≤_;omega)
 have HLb:Hid (∀ G,grpF (cutC s).2.1 true=some G→G.length≤1000002):=Lib.hid fun G h => Nat.le_trans (grpF_len h) (by have:=(cut_le s [58,58]).2;show (Lib.cut s [58,58]).2.1.length + 2≤_;omega)
 have HNg:Hid ((cutC s).2.2=false→grpF (cutC s).2.1 true=some []):=Lib.hid fun h => by
  have:(cutC s).2.1=[]:=cut_nogap h
  rw [this];rfl
 have e58:strL [58,58]=⟨#[58,58]⟩:=rfl
 rw [e58] at HCu
 obtain ⟨RR,hRR⟩:∃ q,looseF s=q:=⟨_,rfl⟩
 rw [hRR] at HLo ⊢
 generalize fourF s=FX at *
 have hcc:Lib.cut s [58,58]=cutC s:=rfl
 rw [hcc] at HCu
 generalize (cutC s).1=lft at *
 generalize (cutC s).2.1=rgt at *
 generalize (cutC s).2.2=gap at *
 obtain ⟨SS,hSS⟩:∃ q,strL s=q:=⟨_,rfl⟩
 rw [hSS] at hse HF HCu ⊢
 clear hSS
 clear hv e58 hRR hcc
 go_enter Tryz.func170,Tryz.ntmps170
 go_upto_region 1 with fail
 generalize w.alloc (.cells #[.bool false, .int .u64 0, .int .u64 0] 28 (0,0))=w1 at *
 obtain ⟨bx,hbx⟩:∃ q,w.heap.size=q:=⟨_,rfl⟩
 have Hbx:=Lib.hid hbx
 rw [hbx] at HP HB ⊢
 clear hbx
 have HRet:Hid (∀ wx (sx:Bool) (h l:Int),Blk wx bx 28 #[.bool false, .int .u64 0, .int .u64 0]→Below bx w wx→Below bx w (((wx.setCell ⟨bx,0,none⟩ (.bool sx)).setCell ⟨bx,1,none⟩ (.int .u64 h)).setCell ⟨bx,2,none⟩ (.int .u64 l))):=Lib.hid fun wx sx h l hp hb => hb.grown (grown_setCells bx [.bool sx, .int .u64 h, .int .u64 l] 0 wx) (Nat.le_of_lt hp.lt) (fun k hk => by injection hk with hk;omega)
 have HFx:=Lib.hid (HF.out _ HV.out)
 clear HF
 go_wp2_with fail
 refine HFx.out.mono ?_
 rintro e w2 ⟨rfl,hb⟩
 have HP2:=Lib.hid (HP.out.below hb HP.out.lt)
 have HB2:=Lib.hid (HB.out.trans (hb.mono (Nat.le_of_lt HP.out.lt)))
 have HV2:=Lib.hid (HV.out.below hb)
 clear hb HP HB HV HFx
 cases FX with
 | some n =>
   have hL:RR=some (false,0,n):=HLo.out
   subst hL
   clear HLo HSi HGa HGb HAl HBl HNg HCu HLa HLb HNe
   have q0:=HP2.out.cell 0
   have q1:=HP2.out.cell 1
   have q2:=HP2.out.cell 2
   have qf:=HP2.out.free
   simp at q0 q1 q2
   have c3:=(HP2.out.set3 (x':=.bool false) (y':=.int .u64 0) (z':=.int .u64 (n:Int)))
   have HBf:=Lib.hid (HRet.out w2 false 0 n HP2.out HB2.out)
   have d0:=c3.cell 0
   have d1:=c3.cell 1
   have d2:=c3.cell 2
   simp at d0 d1 d2
   clear c3
   go_wp2_with fail
   refine bodyPost_ret (v:=.tuple #[.agg #[.bool false, .int .u64 0, .int .u64 (n:Int)], .int .i64 0]) (by simp [results,Tryz.results170,go_sem, *]) rfl ⟨rfl,by rw [Hbx.out];exact HBf.out⟩
 | none =>
   have hL:RR=sixF s:=HLo.out
   have HL:=Lib.hid (hL.trans HSi.out)
   have HCx:=Lib.hid (HCu.out _ HV2.out)
   clear hL HLo HSi HCu
   go_wp2_with fail
   refine HCx.out.mono ?_
   rintro e w3 ⟨rfl,hb⟩
   have HP3:=Lib.hid (HP2.out.below hb HP2.out.lt)
   have HB3:=Lib.hid (HB2.out.trans (hb.mono (Nat.le_of_lt HP2.out.lt)))
   have HV3:=Lib.hid (HV2.out.below hb)
   clear hb HP2 HB2 HV2 HCx
   have HGx:=Lib.hid (HGa.out _ HV3.out (!gap))
   have HAl2:=Lib.hid (HAl.out (!gap))
   have HLa2:=Lib.hid (HLa.out (!gap))
   have HNe2:=Lib.hid (HNe.out (!gap))
   clear HGa HAl HLa HNe
   generalize grpF lft (!gap)=A at *
   generalize grpF rgt true=B at *
   generalize strL lft=SL at *
   generalize strL rgt=SR at *
   go_wp2_with fail
   refine HGx.out.mono ?_
   rintro e w4 ⟨aa,la,ca,rfl,hO,hb⟩
   have hbb:bx≤w3.heap.size:=Nat.le_of_lt HP3.out.lt
   have HO4:=Lib.hid hO
   have HP4:=Lib.hid (HP3.out.below hb HP3.out.lt)
   have HB4:=Lib.hid (HB3.out.trans (hb.mono hbb))
   have HV4:=Lib.hid (HV3.out.below hb)
   have HGy:=Lib.hid (HGb.out _ HV4.out)
   have Hs34:=Lib.hid hb.size
   clear hb hO HP3 HB3 HV3 HGx HGb
   go_wp2_with fail
   refine HGy.out.mono ?_
   rintro e w5 ⟨ab,lb,cb,rfl,hO,hb⟩
   have hbb4:bx≤w4.heap.size:=Nat.le_of_lt HP4.out.lt
   have HA5:Hid (∀ G,A=some G→OwnK layU w5 w3.heap.size (.slice aa la ca) G):=Lib.hid fun G h => (HO4.out G h).later hb
   have HB5r:Hid (∀ G,B=some G→OwnK layU w5 w4.heap.size (.slice ab lb cb) G):=Lib.hid hO
   have HP5:=Lib.hid (HP4.out.below hb HP4.out.lt)
   have HB5:=Lib.hid (HB4.out.trans (hb.mono hbb4))
   have Hs45:=Lib.hid hb.size
   clear hb hO HO4 HP4 HB4 HV4 HGy
   cases A with
   | none =>
     have hL:=HL.out
     have hLn:RR=none:=hL
     subst hLn
     clear HL HA5 HB5r HAl2 HBl HNg HNe2
     have q0:=HP5.out.cell 0
     have q1:=HP5.out.cell 1
     have q2:=HP5.out.cell 2
     have qf:=HP5.out.free
     simp at q0 q1 q2
     have c3:=(HP5.out.set3 (x':=.bool false) (y':=.int .u64 0) (z':=.int .u64 0))
     have HBf:=Lib.hid (HRet.out w5 false 0 0 HP5.out HB5.out)
     have d0:=c3.cell 0
     have d1:=c3.cell 1
     have d2:=c3.cell 2
     simp at d0 d1 d2
     clear c3
     go_wp2_with fail
     refine bodyPost_ret (v:=.tuple #[.agg #[.bool false, .int .u64 0, .int .u64 0], .int .i64 9]) (by simp [results,Tryz.results170,go_sem, *]) rfl ⟨rfl,by rw [Hbx.out];exact HBf.out⟩
   | some a =>
     cases B with
     | none =>
       have hL:=HL.out
       have hLn:RR=none:=hL
       subst hLn
       clear HL HA5 HB5r HAl2 HBl HNg HNe2
       have q0:=HP5.out.cell 0
       have q1:=HP5.out.cell 1
       have q2:=HP5.out.cell 2
       have qf:=HP5.out.free
       simp at q0 q1 q2
       have c3:=(HP5.out.set3 (x':=.bool false) (y':=.int .u64 0) (z':=.int .u64 0))
       have HBf:=Lib.hid (HRet.out w5 false 0 0 HP5.out HB5.out)
       have d0:=c3.cell 0
       have d1:=c3.cell 1
       have d2:=c3.cell 2
       simp at d0 d1 d2
       clear c3
       go_wp2_with fail
       refine bodyPost_ret (v:=.tuple #[.agg #[.bool false, .int .u64 0, .int .u64 0], .int .i64 9]) (by simp [results,Tryz.results170,go_sem, *]) rfl ⟨rfl,by rw [Hbx.out];exact HBf.out⟩
     | some b =>
       have hL:RR=if ((gap && decide (7 < a.length + b.length)) || (!gap && !decide (a.length=8)))=true then none else some (true,wdg (gq a b) 4,wdg (fun i => gq a b (4 + i)) 4):=HL.out
       have HAr:=Lib.hid (HA5.out a rfl)
       have HBr:=Lib.hid (HB5r.out b rfl)
       have hA0:=HAr.out.srcU
       have hB0:=HBr.out.srcU
       obtain ⟨rfl,hA0⟩:=hA0
       obtain ⟨rfl,hB0⟩:=hB0
       have HA0:=Lib.hid hA0
       have HB0:=Lib.hid hB0
       have hgl:=gq_lt (HAl2.out a rfl) (HBl.out b rfl)
       have HGl:=Lib.hid hgl
       have hng:gap=false→b.length=0:=fun h => by have:=HNg.out h;injection this with this;rw [this];rfl
       have HNb:=Lib.hid hng
       have hlen1:a.length≤1000002:=HLa2.out a rfl
       have hlen2:b.length≤1000002:=HLb.out b rfl
       clear HL HA5 HB5r HAl2 HBl HNg hA0 hB0 hgl hng HLa2 HLb
       by_cases hbad:((gap && decide (7 < a.length + b.length)) || (!gap && !decide (a.length=8)))=true
       ·rw [if_pos hbad] at hL
        subst hL
        have hcase:(gap=true∧7 < a.length + b.length) ∨ (gap=false∧¬ a.length=8):=by
         cases gap
         ·right;simp at hbad;exact ⟨rfl,hbad⟩
         ·left;simp at hbad;exact ⟨rfl,hbad⟩
        clear hbad HAr HBr HA0 HB0 HGl HNb
        rcases hcase with ⟨rfl,hx⟩ | ⟨rfl,hx⟩
        ·have hx':(7:Int) < (a.length:Int) + (b.length:Int):=by omega
         have q0:=HP5.out.cell 0
         have q1:=HP5.out.cell 1
         have q2:=HP5.out.cell 2
         have qf:=HP5.out.free
         simp at q0 q1 q2
         have c3:=(HP5.out.set3 (x':=.bool false) (y':=.int .u64 0) (z':=.int .u64 0))
         have HBf:=Lib.hid (HRet.out w5 false 0 0 HP5.out HB5.out)
         have d0:=c3.cell 0
         have d1:=c3.cell 1
         have d2:=c3.cell 2
         simp at d0 d1 d2
         clear c3
         go_wp2_with fail
         refine bodyPost_ret (v:=.tuple #[.agg #[.bool false, .int .u64 0, .int .u64 0], .int .i64 9]) (by simp [results,Tryz.results170,go_sem, *]) rfl ⟨rfl,by rw [Hbx.out];exact HBf.out⟩
        ·have hx':¬ (a.length:Int)=8:=by omega
         have hxb:((a.length:Int) == 8)=false:=beq_eq_false_iff_ne.2 hx'
         have q0:=HP5.out.cell 0
         have q1:=HP5.out.cell 1
         have q2:=HP5.out.cell 2
         have qf:=HP5.out.free
         simp at q0 q1 q2
         have c3:=(HP5.out.set3 (x':=.bool false) (y':=.int .u64 0) (z':=.int .u64 0))
         have HBf:=Lib.hid (HRet.out w5 false 0 0 HP5.out HB5.out)
         have d0:=c3.cell 0
         have d1:=c3.cell 1
         have d2:=c3.cell 2
         simp at d0 d1 d2
         clear c3
         go_wp2_with fail
         refine bodyPost_ret (v:=.tuple #[.agg #[.bool false, .int .u64 0, .int .u64 0], .int .i64 9]) (by simp [results,Tryz.results170,go_sem, *]) rfl ⟨rfl,by rw [Hbx.out];exact HBf.out⟩
       ·rw [if_neg hbad] at hL
        subst hL
        have hsum:a.length + b.length≤8:=by
         cases gap
         ·have:=HNb.out rfl
          simp at hbad
          omega
         ·simp at hbad
          omega
        have hga:gap=true ∨ a.length=8:=by
         cases gap
         ·right;simp at hbad;exact hbad
         ·exact .inl rfl
        have hgs:gap=true→a.length + b.length≤7:=fun h => by
         subst h;simp at hbad;omega
        have hcond1:gap=true→¬ (7:Int) < (a.length:Int) + (b.length:Int):=fun h => by have:=hgs h;omega
        have hcond2:gap=false→(a.length:Int)=8:=fun h => by
         rcases hga with h2 | h2
         ·rw [h] at h2;cases h2
         ·omega
        clear hbad HA0 HB0
        go_upto_region 7 with fail
        go_cut [72] (fun v wx => v=.bool false∧OwnK layU wx w3.heap.size (.slice aa a.length ca) a∧OwnK layU wx w4.heap.size (.slice ab b.length cb) b∧Blk wx bx 28 #[.bool false, .int .u64 0, .int .u64 0]∧Below bx w wx)
        case first =>
         cases gap
         ·have hc2:=hcond2 rfl
          have hsn:¬ s=[]:=HNe2.out a rfl (by omega)
          have hsi:s.isEmpty=false:=by cases s with
           | nil => exact absurd rfl hsn
           | cons _ _ => rfl
          have hc3:((a.length:Int) == 8)=true:=beq_iff_eq.2 hc2
          clear hcond1 hcond2 hga hgs
          go_wp2_with fail
          go_meet
          case rel => exact ⟨by first | rfl | simp [hc3],HAr.out,HBr.out,HP5.out,HB5.out⟩
         ·have hc1:=hcond1 rfl
          clear hcond1 hcond2 hga hgs
          go_wp2_with fail
          go_meet
          case rel => exact ⟨by first | rfl | (simp;exact hc1) | simp_all,HAr.out,HBr.out,HP5.out,HB5.out⟩
        case rest =>
         obtain ⟨rfl,hA,hB,hP,hb⟩:=hcut
         have hbx5:bx < wc.heap.size:=hP.lt
         have HO8:Hid (Blk (wc.alloc (.cells #[.bool true, .int .u64 0, .int .u64 0] 28 (0,0))) wc.heap.size 28 #[.bool true, .int .u64 ((wdg (gq a b) 0:Nat):Int), .int .u64 ((wdg (fun i => gq a b (4 + i)) 0:Nat):Int)]):=Lib.hid (Blk.new wc _ _)
         have HAs:=Lib.hid (hA.alloc (.cells #[.bool true, .int .u64 0, .int .u64 0] 28 (0,0)))
         have HBs:=Lib.hid (hB.alloc (.cells #[.bool true, .int .u64 0, .int .u64 0] 28 (0,0)))
         have HP9:=Lib.hid (hP.alloc (.cells #[.bool true, .int .u64 0, .int .u64 0] 28 (0,0)))
         have HB9:=Lib.hid (hb.alloc (Nat.le_of_lt hbx5) (.cells #[.bool true, .int .u64 0, .int .u64 0] 28 (0,0)))
         have hal:∀ k,(Value.slice aa a.length ca).ownBlock=some k→k < wc.heap.size:=own_lt hA
         have hbl:∀ k,(Value.slice ab b.length cb).ownBlock=some k→k < wc.heap.size:=own_lt hB
         have HAl:=Lib.hid hal
         have HBl:=Lib.hid hbl
         have Hga:=Lib.hid hga
         have Hgs:=Lib.hid hgs
         clear hal hbl hA hB hP hb HAr HBr HP5 HB5 Hs34 Hs45 hcond1 hcond2 hga hgs
         go_upto_region 10 with fail
         generalize wc.alloc (.cells #[.bool true, .int .u64 0, .int .u64 0] 28 (0,0))=w9 at *
         generalize wc.heap.size=ob at *
         have HW1:Hid (∀ k,k < 4→bits .or .u64 ((wdg (gq a b) k:Int) * 65536) (gq a b k:Int)=((wdg (gq a b) (k + 1):Nat):Int)):=Lib.hid fun k hk => wdg_or HGl.out hk
         have HW2:Hid (∀ k,k < 4→bits .or .u64 ((wdg (fun i => gq a b (4 + i)) k:Int) * 65536) (gq a b (4 + k):Int)=((wdg (fun i => gq a b (4 + i)) (k + 1):Nat):Int)):=Lib.hid fun k hk => wdg_or (g:=fun i => gq a b (4 + i)) (fun i => HGl.out (4 + i)) hk
         have HWl:Hid (∀ k,k < 4→wdg (gq a b) k < 281474976710656∧wdg (fun i => gq a b (4 + i)) k < 281474976710656):=Lib.hid fun k hk => by
          have h3:65536 ^ k≤65536 ^ 3:=Nat.pow_le_pow_right (by decide) (by omega)
          exact ⟨Nat.lt_of_lt_of_le (wdg_lt HGl.out k) (Nat.le_trans h3 (by decide)),Nat.lt_of_lt_of_le (wdg_lt (g:=fun i => gq a b (4 + i)) (fun i => HGl.out (4 + i)) k) (Nat.le_trans h3 (by decide))⟩
         have HGq:Hid (∀ i,gq a b i=if 8 - b.length≤i then b.getD (i - (8 - b.length)) 0 else a.getD i 0):=Lib.hid fun i => rfl
         obtain ⟨WH,hWH⟩:∃ q,wdg (gq a b)=q:=⟨_,rfl⟩
         obtain ⟨WL,hWL⟩:∃ q,wdg (fun i => gq a b (4 + i))=q:=⟨_,rfl⟩
         obtain ⟨GQ,hGQ⟩:∃ q,gq a b=q:=⟨_,rfl⟩
         have HWe:Hid (lsV (some (true,wdg (gq a b) 4,wdg (fun i => gq a b (4 + i)) 4))=.tuple #[.agg #[.bool true, .int .u64 (WH 4:Int), .int .u64 (WL 4:Int)], .int .i64 0]):=Lib.hid (by rw [← hWH, ← hWL];rfl)
         rw [hWH] at HO8 HW1 HWl
         rw [hWL] at HO8 HW2 HWl
         rw [hGQ] at HW1 HW2 HGq HGl
         clear hWH hWL hGQ
         go_wp2_with fail
         go_loopw [75] (fun i wr => ∃ k:Nat,k≤8∧i=.int .i64 (k:Int)∧Hid (Blk wr ob 28 #[.bool true, .int .u64 (WH (min k 4):Int), .int .u64 (WL (k - 4):Int)])∧Hid (Blk wr bx 28 #[.bool false, .int .u64 0, .int .u64 0])∧Hid (Below bx w wr)∧Hid (Below ob w9 wr)) (fun i _ => 8 - (intOf i).toNat)
         case atStart => exact ⟨0,by omega,rfl,HO8,HP9,HB9,Lib.hid (Below.refl _ _)⟩
         case round =>
          clear HO8 HP9 HB9
          obtain ⟨k,hk,rfl,HO,HP,HB,HB2⟩:=hrel
          by_cases hlt:k < 8
          ·have HAw:Hid (OwnK layU wr w3.heap.size (.slice aa a.length ca) a):=Lib.hid (own_below HAs.out HB2.out HAl.out)
           have HBw:Hid (OwnK layU wr w4.heap.size (.slice ab b.length cb) b):=Lib.hid (own_below HBs.out HB2.out HBl.out)
           have hbo:bx ≠ ob:=by omega
           have hgk:=HGq.out k
           by_cases hb8:8 - b.length≤k
           ·rw [if_pos hb8] at hgk
            have hlb:1≤b.length:=by omega
            have hgp:gap=true:=by
             cases gap
             ·have:=HNb.out rfl
              omega
             ·rfl
            have hg7:=Hgs.out hgp
            obtain ⟨j,hj⟩:∃ j,j=k - (8 - b.length):=⟨_,rfl⟩
            have hjb:j < b.length:=by omega
            obtain ⟨gb,hab,hcb⟩:=HBw.out.getU hjb
            rw [← hj] at hgk
            rw [← hgk] at hcb
            subst hab
            subst hgp
            have hjk:(k:Int) - (8 - (b.length:Int))=(j:Int):=by omega
            have hw1:IntKind.i64.wrap (8 - (b.length:Int))=8 - (b.length:Int):=by rw [IntKind.wrap_i64];omega
            have hw2:IntKind.i64.wrap (j:Int)=(j:Int):=by rw [IntKind.wrap_i64];omega
            have hka:¬ (k:Int) < (a.length:Int):=by omega
            have hj0:(0:Int)≤(j:Int):=by omega
            have hj1:(j:Int) < (b.length:Int):=by omega
            clear hgk hj
            by_cases h4:k < 4
            ·have hw:=(HWl.out k h4).1
             have hwr:IntKind.u64.wrap ((WH k:Int) * 65536)=(WH k:Int) * 65536:=by rw [IntKind.wrap_u64];omega
             have hor:=HW1.out k h4
             have hk4:(k:Int) < 4:=by omega
             have hmin:min k 4=k:=by omega
             have hsub:k - 4=0:=by omega
             rw [hmin,hsub] at HO
             have o1:=HO.out.cell 1
             have of:=HO.out.free
             simp at o1
             have HE1:Hid (Blk (wr.setCell ⟨ob,1,none⟩ (.int .u64 (WH (k + 1):Int))) ob 28 #[.bool true, .int .u64 (WH (min (k + 1) 4):Int), .int .u64 (WL (k + 1 - 4):Int)]):=Lib.hid (by
              rw [show min (k + 1) 4=k + 1 by omega,show k + 1 - 4=0 by omega]
              exact HO.out.set 1 _)
             have HE2:=Lib.hid (Blk.far HP.out hbo 1 (.int .u64 (WH (k + 1):Int)))
             have HE3:=Lib.hid (HB.out.grown (grown_setCells ob [.int .u64 (WH (k + 1):Int)] 1 wr) (Nat.le_of_lt HP.out.lt) (fun q hq => by injection hq with hq;omega))
             have HE4:=Lib.hid (HB2.out.grown (grown_setCells ob [.int .u64 (WH (k + 1):Int)] 1 wr) (Nat.le_of_lt HO.out.lt) (fun q hq => by injection hq with hq;omega))
             clear HO HP HB HB2 HAw HBw hmin hsub
             go_wp2_with fail
             exact ⟨⟨k + 1,by omega,by go_num,HE1,HE2,HE3,HE4⟩,by simp [intOf];omega⟩
            ·obtain ⟨q,hq⟩:∃ q,k=4 + q:=⟨k - 4,by omega⟩
             have hq4:q < 4:=by omega
             have hw:=(HWl.out q hq4).2
             have hwr:IntKind.u64.wrap ((WL q:Int) * 65536)=(WL q:Int) * 65536:=by rw [IntKind.wrap_u64];omega
             have hor:=HW2.out q hq4
             rw [← hq] at hor
             have hk4:¬ (k:Int) < 4:=by omega
             have hmin:min k 4=4:=by omega
             have hsub:k - 4=q:=by omega
             rw [hmin,hsub] at HO
             have o2:=HO.out.cell 2
             have of:=HO.out.free
             simp at o2
             have HE1:Hid (Blk (wr.setCell ⟨ob,2,none⟩ (.int .u64 (WL (q + 1):Int))) ob 28 #[.bool true, .int .u64 (WH (min (k + 1) 4):Int), .int .u64 (WL (k + 1 - 4):Int)]):=Lib.hid (by
              rw [show min (k + 1) 4=4 by omega,show k + 1 - 4=q + 1 by omega]
              exact HO.out.set 2 _)
             have HE2:=Lib.hid (Blk.far HP.out hbo 2 (.int .u64 (WL (q + 1):Int)))
             have HE3:=Lib.hid (HB.out.grown (grown_setCells ob [.int .u64 (WL (q + 1):Int)] 2 wr) (Nat.le_of_lt HP.out.lt) (fun q hq => by injection hq with hq;omega))
             have HE4:=Lib.hid (HB2.out.grown (grown_setCells ob [.int .u64 (WL (q + 1):Int)] 2 wr) (Nat.le_of_lt HO.out.lt) (fun q hq => by injection hq with hq;omega))
             clear HO HP HB HB2 HAw HBw hmin hsub hq
             go_wp2_with fail
             exact ⟨⟨k + 1,by omega,by go_num,HE1,HE2,HE3,HE4⟩,by simp [intOf];omega⟩
           ·rw [if_neg hb8] at hgk
            have hjk:(k:Int) - (8 - (b.length:Int)) < 0:=by omega
            have hw1:IntKind.i64.wrap (8 - (b.length:Int))=8 - (b.length:Int):=by rw [IntKind.wrap_i64];omega
            have hw2:IntKind.i64.wrap ((k:Int) - (8 - (b.length:Int)))=(k:Int) - (8 - (b.length:Int)):=by rw [IntKind.wrap_i64];omega
            have hj0:¬ (8 - (b.length:Int))≤(k:Int):=by omega
            by_cases hka0:k < a.length
            ·have hka:(k:Int) < (a.length:Int):=by omega
             obtain ⟨ga,haa,hca⟩:=HAw.out.getU hka0
             rw [← hgk] at hca
             subst haa
             clear hgk
             by_cases h4:k < 4
             ·have hw:=(HWl.out k h4).1
              have hwr:IntKind.u64.wrap ((WH k:Int) * 65536)=(WH k:Int) * 65536:=by rw [IntKind.wrap_u64];omega
              have hor:=HW1.out k h4
              have hk4:(k:Int) < 4:=by omega
              have hmin:min k 4=k:=by omega
              have hsub:k - 4=0:=by omega
              rw [hmin,hsub] at HO
              have o1:=HO.out.cell 1
              have of:=HO.out.free
              simp at o1
              have HE1:Hid (Blk (wr.setCell ⟨ob,1,none⟩ (.int .u64 (WH (k + 1):Int))) ob 28 #[.bool true, .int .u64 (WH (min (k + 1) 4):Int), .int .u64 (WL (k + 1 - 4):Int)]):=Lib.hid (by
               rw [show min (k + 1) 4=k + 1 by omega,show k + 1 - 4=0 by omega]
               exact HO.out.set 1 _)
              have HE2:=Lib.hid (Blk.far HP.out hbo 1 (.int .u64 (WH (k + 1):Int)))
              have HE3:=Lib.hid (HB.out.grown (grown_setCells ob [.int .u64 (WH (k + 1):Int)] 1 wr) (Nat.le_of_lt HP.out.lt) (fun q hq => by injection hq with hq;omega))
              have HE4:=Lib.hid (HB2.out.grown (grown_setCells ob [.int .u64 (WH (k + 1):Int)] 1 wr) (Nat.le_of_lt HO.out.lt) (fun q hq => by injection hq with hq;omega))
              clear HO HP HB HB2 HAw HBw hmin hsub
              go_wp2_with fail
              exact ⟨⟨k + 1,by omega,by go_num,HE1,HE2,HE3,HE4⟩,by simp [intOf];omega⟩
             ·obtain ⟨q,hq⟩:∃ q,k=4 + q:=⟨k - 4,by omega⟩
              have hq4:q < 4:=by omega
              have hw:=(HWl.out q hq4).2
              have hwr:IntKind.u64.wrap ((WL q:Int) * 65536)=(WL q:Int) * 65536:=by rw [IntKind.wrap_u64];omega
              have hor:=HW2.out q hq4
              rw [← hq] at hor
              have hk4:¬ (k:Int) < 4:=by omega
              have hmin:min k 4=4:=by omega
              have hsub:k - 4=q:=by omega
              rw [hmin,hsub] at HO
              have o2:=HO.out.cell 2
              have of:=HO.out.free
              simp at o2
              have HE1:Hid (Blk (wr.setCell ⟨ob,2,none⟩ (.int .u64 (WL (q + 1):Int))) ob 28 #[.bool true, .int .u64 (WH (min (k + 1) 4):Int), .int .u64 (WL (k + 1 - 4):Int)]):=Lib.hid (by
               rw [show min (k + 1) 4=4 by omega,show k + 1 - 4=q + 1 by omega]
               exact HO.out.set 2 _)
              have HE2:=Lib.hid (Blk.far HP.out hbo 2 (.int .u64 (WL (q + 1):Int)))
              have HE3:=Lib.hid (HB.out.grown (grown_setCells ob [.int .u64 (WL (q + 1):Int)] 2 wr) (Nat.le_of_lt HP.out.lt) (fun q hq => by injection hq with hq;omega))
              have HE4:=Lib.hid (HB2.out.grown (grown_setCells ob [.int .u64 (WL (q + 1):Int)] 2 wr) (Nat.le_of_lt HO.out.lt) (fun q hq => by injection hq with hq;omega))
              clear HO HP HB HB2 HAw HBw hmin hsub hq
              go_wp2_with fail
              exact ⟨⟨k + 1,by omega,by go_num,HE1,HE2,HE3,HE4⟩,by simp [intOf];omega⟩
            ·have hka:¬ (k:Int) < (a.length:Int):=by omega
             have hg0:GQ k=0:=by rw [hgk,List.getD_eq_getElem?_getD,List.getElem?_eq_none (by omega)];rfl
             rw [hg0] at hgk
             clear hgk
             by_cases h4:k < 4
             ·have hw:=(HWl.out k h4).1
              have hwr:IntKind.u64.wrap ((WH k:Int) * 65536)=(WH k:Int) * 65536:=by rw [IntKind.wrap_u64];omega
              have hor:=HW1.out k h4
              rw [hg0,show ((0:Nat):Int)=0 from rfl] at hor
              have hk4:(k:Int) < 4:=by omega
              have hmin:min k 4=k:=by omega
              have hsub:k - 4=0:=by omega
              rw [hmin,hsub] at HO
              have o1:=HO.out.cell 1
              have of:=HO.out.free
              simp at o1
              have HE1:Hid (Blk (wr.setCell ⟨ob,1,none⟩ (.int .u64 (WH (k + 1):Int))) ob 28 #[.bool true, .int .u64 (WH (min (k + 1) 4):Int), .int .u64 (WL (k + 1 - 4):Int)]):=Lib.hid (by
               rw [show min (k + 1) 4=k + 1 by omega,show k + 1 - 4=0 by omega]
               exact HO.out.set 1 _)
              have HE2:=Lib.hid (Blk.far HP.out hbo 1 (.int .u64 (WH (k + 1):Int)))
              have HE3:=Lib.hid (HB.out.grown (grown_setCells ob [.int .u64 (WH (k + 1):Int)] 1 wr) (Nat.le_of_lt HP.out.lt) (fun q hq => by injection hq with hq;omega))
              have HE4:=Lib.hid (HB2.out.grown (grown_setCells ob [.int .u64 (WH (k + 1):Int)] 1 wr) (Nat.le_of_lt HO.out.lt) (fun q hq => by injection hq with hq;omega))
              clear HO HP HB HB2 HAw HBw hmin hsub
              go_wp2_with fail
              exact ⟨⟨k + 1,by omega,by go_num,HE1,HE2,HE3,HE4⟩,by simp [intOf];omega⟩
             ·obtain ⟨q,hq⟩:∃ q,k=4 + q:=⟨k - 4,by omega⟩
              have hq4:q < 4:=by omega
              have hw:=(HWl.out q hq4).2
              have hwr:IntKind.u64.wrap ((WL q:Int) * 65536)=(WL q:Int) * 65536:=by rw [IntKind.wrap_u64];omega
              have hor:=HW2.out q hq4
              rw [← hq,hg0,show ((0:Nat):Int)=0 from rfl] at hor
              have hk4:¬ (k:Int) < 4:=by omega
              have hmin:min k 4=4:=by omega
              have hsub:k - 4=q:=by omega
              rw [hmin,hsub] at HO
              have o2:=HO.out.cell 2
              have of:=HO.out.free
              simp at o2
              have HE1:Hid (Blk (wr.setCell ⟨ob,2,none⟩ (.int .u64 (WL (q + 1):Int))) ob 28 #[.bool true, .int .u64 (WH (min (k + 1) 4):Int), .int .u64 (WL (k + 1 - 4):Int)]):=Lib.hid (by
               rw [show min (k + 1) 4=4 by omega,show k + 1 - 4=q + 1 by omega]
               exact HO.out.set 2 _)
              have HE2:=Lib.hid (Blk.far HP.out hbo 2 (.int .u64 (WL (q + 1):Int)))
              have HE3:=Lib.hid (HB.out.grown (grown_setCells ob [.int .u64 (WL (q + 1):Int)] 2 wr) (Nat.le_of_lt HP.out.lt) (fun q hq => by injection hq with hq;omega))
              have HE4:=Lib.hid (HB2.out.grown (grown_setCells ob [.int .u64 (WL (q + 1):Int)] 2 wr) (Nat.le_of_lt HO.out.lt) (fun q hq => by injection hq with hq;omega))
              clear HO HP HB HB2 HAw HBw hmin hsub hq
              go_wp2_with fail
              exact ⟨⟨k + 1,by omega,by go_num,HE1,HE2,HE3,HE4⟩,by simp [intOf];omega⟩
          ·obtain rfl:k=8:=by omega
           have q0:=HP.out.cell 0
           have q1:=HP.out.cell 1
           have q2:=HP.out.cell 2
           have qf:=HP.out.free
           simp at q0 q1 q2
           have o0:=HO.out.cell 0
           have o1:=HO.out.cell 1
           have o2:=HO.out.cell 2
           simp at o0 o1 o2
           have c3:=(HP.out.set3 (x':=.bool true) (y':=.int .u64 (WH 4:Int)) (z':=.int .u64 (WL 4:Int)))
           have HBf:=Lib.hid (HRet.out wr true (WH 4:Int) (WL 4:Int) HP.out HB.out)
           have d0:=c3.cell 0
           have d1:=c3.cell 1
           have d2:=c3.cell 2
           simp at d0 d1 d2
           clear c3
           go_wp2_with fail
           refine bodyPost_ret (v:=.tuple #[.agg #[.bool true, .int .u64 (WH 4:Int), .int .u64 (WL 4:Int)], .int .i64 0]) (by simp [results,Tryz.results170,go_sem, *]) rfl ⟨by rw [HWe.out],by rw [Hbx.out];exact HBf.out⟩
open Go.RowKit Go
theorem addrTextFour_any (hi lo:Nat) (w:World) (hhi:hi < 18446744073709551616) (hlo:lo < 18446744073709551616) (ht:Tabs w):Calls Tryz.prog 103 #[.agg #[.bool false, .int .u64 (hi:Int), .int .u64 (lo:Int)]] w (Ret (.string (joinS (fourL lo) ⟨#[46]⟩)) w):=by
 obtain ⟨n0,hn0⟩:∃ n,(lo / 16777216 % 256)=n:=⟨_,rfl⟩
 have c0:n0 < 1000:=by omega
 obtain ⟨n1,hn1⟩:∃ n,(lo / 65536 % 256)=n:=⟨_,rfl⟩
 have c1:n1 < 1000:=by omega
 obtain ⟨n2,hn2⟩:∃ n,(lo / 256 % 256)=n:=⟨_,rfl⟩
 have c2:n2 < 1000:=by omega
 obtain ⟨n3,hn3⟩:∃ n,(lo % 256)=n:=⟨_,rfl⟩
 have c3:n3 < 1000:=by omega
 have y1e:dg hi lo 1=lo / 65536 % 65536:=rfl
 have y0e:dg hi lo 0=lo % 65536:=rfl
 have q1:=wv_get false (dg hi lo) 1 (by decide)
 have q0:=wv_get false (dg hi lo) 0 (by decide)
 obtain ⟨y1,hy1⟩:∃ y,dg hi lo 1=y:=⟨_,rfl⟩
 obtain ⟨y0,hy0⟩:∃ y,dg hi lo 0=y:=⟨_,rfl⟩
 rw [hy1] at y1e q1
 rw [hy0] at y0e q0
 have b0:(y1:Int) / 256=(n0:Int):=by omega
 have b1:Go.bits .and .i64 (y1:Int) 255=(n1:Int):=by rw [and255i];omega
 have b2:(y0:Int) / 256=(n2:Int):=by omega
 have b3:Go.bits .and .i64 (y0:Int) 255=(n3:Int):=by rw [and255i];omega
 have HOf:=Lib.hid fun wx => of_any false hi lo wx hhi (by omega)
 rw [wCells_wv] at HOf
 unfold vA at HOf
 have hyb1:y1 < 65536:=by omega
 have hyb0:y0 < 65536:=by omega
 have hL:fourL lo=[decB n0,decB n1,decB n2,decB n3]:=by unfold fourL;rw [hn0,hn1,hn2,hn3]
 have hLs:=fourL_short lo
 rw [hL] at hLs ⊢
 clear hL hn0 hn1 hn2 hn3 y1e y0e hy1 hy0
 have H0:=Lib.hid fun wx (ht:Tabs wx) => itoa_any n0 c0 wx ht.1
 rw [show (⟨(Lib.decDigits n0).toArray⟩:ByteArray)=decB n0 from rfl] at H0
 generalize decB n0=d0 at *
 have H1:=Lib.hid fun wx (ht:Tabs wx) => itoa_any n1 c1 wx ht.1
 rw [show (⟨(Lib.decDigits n1).toArray⟩:ByteArray)=decB n1 from rfl] at H1
 generalize decB n1=d1 at *
 have H2:=Lib.hid fun wx (ht:Tabs wx) => itoa_any n2 c2 wx ht.1
 rw [show (⟨(Lib.decDigits n2).toArray⟩:ByteArray)=decB n2 from rfl] at H2
 generalize decB n2=d2 at *
 have H3:=Lib.hid fun wx (ht:Tabs wx) => itoa_any n3 c3 wx ht.1
 rw [show (⟨(Lib.decDigits n3).toArray⟩:ByteArray)=decB n3 from rfl] at H3
 generalize decB n3=d3 at *
 have HJ:=Lib.hid fun g c wx h1 h2 h3 => joinAt_any g 0 c ([d0,d1,d2,d3]:List ByteArray) 46 wx hLs h1 h2 h3
 clear hLs
 generalize joinS ([d0,d1,d2,d3]:List ByteArray) ⟨#[46]⟩=J at *
 have Q1:=Lib.hid q1
 have Q0:=Lib.hid q0
 clear q1 q0
 have HP:Hid (Blk (w.alloc (.cells #[.bool false, .int .u64 (hi:Int), .int .u64 (lo:Int)] 28 (0,0))) w.heap.size 28 #[.bool false, .int .u64 (hi:Int), .int .u64 (lo:Int)]):=Lib.hid (Blk.new w _ _)
 have HB:Hid (Below w.heap.size w (w.alloc (.cells #[.bool false, .int .u64 (hi:Int), .int .u64 (lo:Int)] 28 (0,0)))):=Lib.hid (below_alloc (Below.refl _ _) _)
 have HT:=Lib.hid (ht.below HB.out)
 clear ht
 go_enter Tryz.func103,Tryz.ntmps103
 go_upto_region 1 with fail
 generalize w.alloc (.cells #[.bool false, .int .u64 (hi:Int), .int .u64 (lo:Int)] 28 (0,0))=w0 at *
 have p0:=HP.out.cell 0
 have p1:=HP.out.cell 1
 have p2:=HP.out.cell 2
 simp at p0 p1 p2
 go_wp2_with fail
 refine (HOf.out _).mono ?_
 rintro e w1 ⟨rfl,hb⟩
 have hw1:w.heap.size≤w1.heap.size:=Nat.le_trans HB.out.size hb.size
 have HB1:Hid (Below w.heap.size w (w1.alloc (.cells #[.int .i64 0, .int .i64 0, .int .i64 0, .int .i64 0, .int .i64 0, .int .i64 0, .int .i64 0, .int .i64 0, .int .i64 0] 113 (0,0)))):=Lib.hid (below_alloc (HB.out.trans (hb.mono HB.out.size)) _)
 have HB2:=Lib.hid (belowRow HB1.out hw1 (wv false (dg hi lo)))
 have HT2:=Lib.hid ((HT.out.below hb).below (belowRow (below_alloc (Below.refl _ _) (.cells #[.int .i64 0, .int .i64 0, .int .i64 0, .int .i64 0, .int .i64 0, .int .i64 0, .int .i64 0, .int .i64 0, .int .i64 0] 113 (0,0))) (Nat.le_refl _) (wv false (dg hi lo))))
 have HZ:Hid (Blk (w1.alloc (.cells #[.int .i64 0, .int .i64 0, .int .i64 0, .int .i64 0, .int .i64 0, .int .i64 0, .int .i64 0, .int .i64 0, .int .i64 0] 113 (0,0))) w1.heap.size 113 #[.int .i64 0, .int .i64 0, .int .i64 0, .int .i64 0, .int .i64 0, .int .i64 0, .int .i64 0, .int .i64 0, .int .i64 0]):=Lib.hid (Blk.new w1 _ _)
 have HW2:Hid (Blk ((w1.alloc (.cells #[.int .i64 0, .int .i64 0, .int .i64 0, .int .i64 0, .int .i64 0, .int .i64 0, .int .i64 0, .int .i64 0, .int .i64 0] 113 (0,0))).setRow w1.heap.size (wv false (dg hi lo))) w1.heap.size 113 (wv false (dg hi lo))):=Lib.hid (HZ.out.row _)
 clear hb HB HT HP p0 p1 p2 HOf HB1
 go_upto_region 3 with (refine wpList_store_row rfl 113 (.tmp 3) (.tmp 16) rfl w1.heap.size (wv false (dg hi lo)) rfl rfl 113 #[.int .i64 0, .int .i64 0, .int .i64 0, .int .i64 0, .int .i64 0, .int .i64 0, .int .i64 0, .int .i64 0, .int .i64 0] HZ.out (by kernel_rfl) rfl (wv_one _ _) ?_)
 clear HZ
 generalize (w1.alloc (.cells #[.int .i64 0, .int .i64 0, .int .i64 0, .int .i64 0, .int .i64 0, .int .i64 0, .int .i64 0, .int .i64 0, .int .i64 0] 113 (0,0))).setRow w1.heap.size (wv false (dg hi lo))=w2 at *
 generalize w1.heap.size=V at *
 have c1:=HW2.out.cell 1
 have c0:=HW2.out.cell 0
 rw [Q1.out] at c1
 rw [Q0.out] at c0
 go_wp2_with fail
 have HR:Hid (Blk (w2.alloc (.cells #[.int .i64 (n0:Int), .int .i64 (n1:Int), .int .i64 (n2:Int), .int .i64 (n3:Int)] 3 (0,0))) w2.heap.size 3 #[.int .i64 (n0:Int), .int .i64 (n1:Int), .int .i64 (n2:Int), .int .i64 (n3:Int)]):=Lib.hid (Blk.new w2 _ _)
 have HB3:=Lib.hid (below_alloc HB2.out (.cells #[.int .i64 (n0:Int), .int .i64 (n1:Int), .int .i64 (n2:Int), .int .i64 (n3:Int)] 3 (0,0)))
 have HT3:=Lib.hid (HT2.out.below (below_alloc (Below.refl _ _) (.cells #[.int .i64 (n0:Int), .int .i64 (n1:Int), .int .i64 (n2:Int), .int .i64 (n3:Int)] 3 (0,0))))
 clear c1 c0 HB2 HT2 HW2 Q1 Q0
 generalize w2.alloc (.cells #[.int .i64 (n0:Int), .int .i64 (n1:Int), .int .i64 (n2:Int), .int .i64 (n3:Int)] 3 (0,0))=w3 at *
 generalize w2.heap.size=R at *
 go_loopw [4,6,31] (fun v iv i wr => ∃ k:Nat,k≤4∧i=.int .i64 k∧Hid (OwnS wr w3.heap.size v (([d0,d1,d2,d3]:List ByteArray).take k))∧Hid (Below w3.heap.size w3 wr)) (fun _ _ i _ => 4 - (intOf i).toNat)
 case atStart => exact ⟨0,Nat.zero_le _,rfl,Lib.hid (OwnS.nil _ _),Lib.hid (Below.refl _ _)⟩
 case round =>
  obtain ⟨k,hk,rfl,HO,HBr⟩:=hrel
  by_cases hlt:k < 4
  ·have hk4:k=0 ∨ k=1 ∨ k=2 ∨ k=3:=by omega
   have HTr:=Lib.hid (HT3.out.below HBr.out)
   have HRr:=Lib.hid (HR.out.below HBr.out HR.out.lt)
   rcases hk4 with rfl | rfl | rfl | rfl
   ·have p:=HRr.out.cell 0
    simp at p
    go_wp2_with fail
    refine (H0.out _ HTr.out).mono ?_
    rintro e w' ⟨rfl,hb⟩
    have HO1:=Lib.hid (HO.out.later hb)
    have HBr1:=Lib.hid (HBr.out.trans (hb.mono HBr.out.size))
    clear hb HO HBr HTr HRr p
    go_wp2_with (at_builtin;refine wpList_app strE rfl (.tmp 35) (.tmp 38) rfl rfl (World.ownsRow.alloc HO1.out _) rfl (src_one_new _ _ _) ?c1 ?c2 ?c3 ?c4 ?_)
    case c1 => first | rfl | (intro u hu;simp at hu;subst hu;rfl)
    case c2 => unfold maxLen;simp
    case c3 => simp
    case c4 => have:=HBr1.out.size;simp;omega
    intro v' w4 hO hG
    have HO':=Lib.hid (OwnS.snoc hO)
    have HB':Hid (Below w3.heap.size w3 w4):=Lib.hid ((Below.alloc HBr1.out HBr1.out.size _).trans (hG.below (by have:=HBr1.out.size;simp;omega) (own_base HO1.out)))
    clear hO hG
    go_wp2
    exact ⟨⟨1,by decide,rfl,HO',HB'⟩,by simp [intOf]⟩
   ·have p:=HRr.out.cell 1
    simp at p
    go_wp2_with fail
    refine (H1.out _ HTr.out).mono ?_
    rintro e w' ⟨rfl,hb⟩
    have HO1:=Lib.hid (HO.out.later hb)
    have HBr1:=Lib.hid (HBr.out.trans (hb.mono HBr.out.size))
    clear hb HO HBr HTr HRr p
    go_wp2_with (at_builtin;refine wpList_app strE rfl (.tmp 35) (.tmp 38) rfl rfl (World.ownsRow.alloc HO1.out _) rfl (src_one_new _ _ _) ?c1 ?c2 ?c3 ?c4 ?_)
    case c1 => first | rfl | (intro u hu;simp at hu;subst hu;rfl)
    case c2 => unfold maxLen;simp
    case c3 => simp
    case c4 => have:=HBr1.out.size;simp;omega
    intro v' w4 hO hG
    have HO':=Lib.hid (OwnS.snoc hO)
    have HB':Hid (Below w3.heap.size w3 w4):=Lib.hid ((Below.alloc HBr1.out HBr1.out.size _).trans (hG.below (by have:=HBr1.out.size;simp;omega) (own_base HO1.out)))
    clear hO hG
    go_wp2
    exact ⟨⟨2,by decide,rfl,HO',HB'⟩,by simp [intOf]⟩
   ·have p:=HRr.out.cell 2
    simp at p
    go_wp2_with fail
    refine (H2.out _ HTr.out).mono ?_
    rintro e w' ⟨rfl,hb⟩
    have HO1:=Lib.hid (HO.out.later hb)
    have HBr1:=Lib.hid (HBr.out.trans (hb.mono HBr.out.size))
    clear hb HO HBr HTr HRr p
    go_wp2_with (at_builtin;refine wpList_app strE rfl (.tmp 35) (.tmp 38) rfl rfl (World.ownsRow.alloc HO1.out _) rfl (src_one_new _ _ _) ?c1 ?c2 ?c3 ?c4 ?_)
    case c1 => first | rfl | (intro u hu;simp at hu;subst hu;rfl)
    case c2 => unfold maxLen;simp
    case c3 => simp
    case c4 => have:=HBr1.out.size;simp;omega
    intro v' w4 hO hG
    have HO':=Lib.hid (OwnS.snoc hO)
    have HB':Hid (Below w3.heap.size w3 w4):=Lib.hid ((Below.alloc HBr1.out HBr1.out.size _).trans (hG.below (by have:=HBr1.out.size;simp;omega) (own_base HO1.out)))
    clear hO hG
    go_wp2
    exact ⟨⟨3,by decide,rfl,HO',HB'⟩,by simp [intOf]⟩
   ·have p:=HRr.out.cell 3
    simp at p
    go_wp2_with fail
    refine (H3.out _ HTr.out).mono ?_
    rintro e w' ⟨rfl,hb⟩
    have HO1:=Lib.hid (HO.out.later hb)
    have HBr1:=Lib.hid (HBr.out.trans (hb.mono HBr.out.size))
    clear hb HO HBr HTr HRr p
    go_wp2_with (at_builtin;refine wpList_app strE rfl (.tmp 35) (.tmp 38) rfl rfl (World.ownsRow.alloc HO1.out _) rfl (src_one_new _ _ _) ?c1 ?c2 ?c3 ?c4 ?_)
    case c1 => first | rfl | (intro u hu;simp at hu;subst hu;rfl)
    case c2 => unfold maxLen;simp
    case c3 => simp
    case c4 => have:=HBr1.out.size;simp;omega
    intro v' w4 hO hG
    have HO':=Lib.hid (OwnS.snoc hO)
    have HB':Hid (Below w3.heap.size w3 w4):=Lib.hid ((Below.alloc HBr1.out HBr1.out.size _).trans (hG.below (by have:=HBr1.out.size;simp;omega) (own_base HO1.out)))
    clear hO hG
    go_wp2
    exact ⟨⟨4,by decide,rfl,HO',HB'⟩,by simp [intOf]⟩
  ·obtain rfl:k=4:=by omega
   obtain ⟨g,c,hv,_,hg,hc,_,hcell⟩:=HO.out.one (by simp)
   have hv':u4=.slice (some ⟨g,0,none⟩) 4 c:=hv
   have hc':4≤c:=hc
   have HJ2:=Lib.hid (HJ.out g c wr hg hc' (fun j x hx => by rw [Nat.zero_add];exact hcell j x hx))
   clear hv hc hcell HJ
   subst hv'
   go_wp2_with fail
   refine HJ2.out.mono ?_
   rintro e w' ⟨rfl,hb⟩
   go_wp2_with fail
   go_ret
   exact ⟨rfl,HB3.out.trans ((HBr.out.trans (hb.mono HBr.out.size)).mono HB3.out.size)⟩
def G8 (g:Nat→Nat):Array Value:=#[.int .u64 ((g 7:Nat):Int), .int .u64 ((g 6:Nat):Int), .int .u64 ((g 5:Nat):Int), .int .u64 ((g 4:Nat):Int), .int .u64 ((g 3:Nat):Int), .int .u64 ((g 2:Nat):Int), .int .u64 ((g 1:Nat):Int), .int .u64 ((g 0:Nat):Int)]
def I8 (g:Nat→Nat):List Int:=[((g 7:Nat):Int),((g 6:Nat):Int),((g 5:Nat):Int),((g 4:Nat):Int),((g 3:Nat):Int),((g 2:Nat):Int),((g 1:Nat):Int),((g 0:Nat):Int)]
theorem groupsA_any (hi lo:Nat) (w:World) (h1:hi < 18446744073709551616) (h2:lo < 18446744073709551616):Calls Tryz.prog 196 #[.agg #[.bool true, .int .u64 (hi:Int), .int .u64 (lo:Int)]] w (Ret (.agg (G8 (dg hi lo))) w):=by
 have h0:Go.bits .and .u64 ((hi:Int) / 281474976710656) 65535=((dg hi lo 7:Nat):Int):=by rw [show (hi:Int) / 281474976710656=((hi / 281474976710656:Nat):Int) by omega,u64_and65535];rfl
 have h1:Go.bits .and .u64 ((hi:Int) / 4294967296) 65535=((dg hi lo 6:Nat):Int):=by rw [show (hi:Int) / 4294967296=((hi / 4294967296:Nat):Int) by omega,u64_and65535];rfl
 have h2:Go.bits .and .u64 ((hi:Int) / 65536) 65535=((dg hi lo 5:Nat):Int):=by rw [show (hi:Int) / 65536=((hi / 65536:Nat):Int) by omega,u64_and65535];rfl
 have h3:Go.bits .and .u64 (hi:Int) 65535=((dg hi lo 4:Nat):Int):=by rw [u64_and65535];rfl
 have l0:Go.bits .and .u64 ((lo:Int) / 281474976710656) 65535=((dg hi lo 3:Nat):Int):=by rw [show (lo:Int) / 281474976710656=((lo / 281474976710656:Nat):Int) by omega,u64_and65535];rfl
 have l1:Go.bits .and .u64 ((lo:Int) / 4294967296) 65535=((dg hi lo 2:Nat):Int):=by rw [show (lo:Int) / 4294967296=((lo / 4294967296:Nat):Int) by omega,u64_and65535];rfl
 have l2:Go.bits .and .u64 ((lo:Int) / 65536) 65535=((dg hi lo 1:Nat):Int):=by rw [show (lo:Int) / 65536=((lo / 65536:Nat):Int) by omega,u64_and65535];rfl
 have l3:Go.bits .and .u64 (lo:Int) 65535=((dg hi lo 0:Nat):Int):=by rw [u64_and65535];rfl
 have hG:G8 (dg hi lo)=#[.int .u64 ((dg hi lo 7:Nat):Int), .int .u64 ((dg hi lo 6:Nat):Int), .int .u64 ((dg hi lo 5:Nat):Int), .int .u64 ((dg hi lo 4:Nat):Int), .int .u64 ((dg hi lo 3:Nat):Int), .int .u64 ((dg hi lo 2:Nat):Int), .int .u64 ((dg hi lo 1:Nat):Int), .int .u64 ((dg hi lo 0:Nat):Int)]:=rfl
 rw [hG]
 clear hG
 generalize dg hi lo 0=g0 at *
 generalize dg hi lo 1=g1 at *
 generalize dg hi lo 2=g2 at *
 generalize dg hi lo 3=g3 at *
 generalize dg hi lo 4=g4 at *
 generalize dg hi lo 5=g5 at *
 generalize dg hi lo 6=g6 at *
 generalize dg hi lo 7=g7 at *
 go_enter Tryz.func196,Tryz.ntmps196
 go_wp2_with fail
 refine wp_loop_rounds 5 ?_
 rw [rounds_succ]
 go_wp2_with (rw [rounds_succ])
 refine bodyPost_ret (v:=.agg #[.int .u64 (g7:Int), .int .u64 (g6:Int), .int .u64 (g5:Int), .int .u64 (g4:Int), .int .u64 (g3:Int), .int .u64 (g2:Int), .int .u64 (g1:Int), .int .u64 (g0:Int)]) (by simp [results,Tryz.results196,go_sem]) rfl ⟨rfl,below_alloc (below_alloc (below_alloc (Below.refl _ _) _) _) _⟩
def OwnN (w:World) (base:Nat) (v:Value) (L:List Int):Prop:=w.ownsRow base 3 1 v L.length (L.map (Value.int .i64))
theorem intE:EI Tryz.prog 22 3 1 8:=EI.mk' (z:=.int .i64 0) Tryz.underlying22 (by kernel_rfl) rfl (by decide)
theorem OwnN.nil (w:World) (base:Nat):OwnN w base (.slice none 0 0) []:=World.ownsRow_nil w base _ 1
theorem OwnN.one {w:World} {B:Nat} {v:Value} {L:List Int} (h:OwnN w B v L) (hl:1≤L.length) :
  ∃ g c,v=.slice (some ⟨g,0,none⟩) L.length c∧B≤g∧g < w.heap.size∧L.length≤c∧c≤maxLen∧∀ (j:Nat) x,L[j]?=some x→w.cell? ⟨g,j,none⟩=some (.int .i64 x):=by
 rcases h.2 with ⟨rfl,h0⟩ | ⟨g,cap,cur,rfl,hb,hg,hc,hm,hs,ht⟩
 ·omega
 ·refine ⟨g,cap,rfl,hb,lt_of_block hg,hc,hm,fun j x hx => ?_⟩
  have hj:j < L.length:=by
   rcases Nat.lt_or_ge j L.length with h | h
   ·exact h
   ·rw [List.getElem?_eq_none h] at hx;cases hx
  rw [cell_of_row w g _ _ _ _ hg]
  have h2:(L.map (Value.int .i64))[j]?=some (.int .i64 x):=by simp [hx]
  rw [← ht,List.getElem?_take,if_pos (by omega),Array.getElem?_toList] at h2
  exact h2
theorem groupsQ_any (hi lo:Nat) (w:World) (h1:hi < 18446744073709551616) (h2:lo < 18446744073709551616):Calls Tryz.prog 158 #[.agg #[.bool true, .int .u64 (hi:Int), .int .u64 (lo:Int)]] w fun e w' => ∃ g c,e=.returned (.slice (some ⟨g,0,none⟩) 8 c)∧g < w'.heap.size∧(∀ (j:Nat) x,(I8 (dg hi lo))[j]?=some x→w'.cell? ⟨g,j,none⟩=some (.int .i64 x))∧Below w.heap.size w w':=by
 have HOf:=Lib.hid fun wx => of_any true hi lo wx h1 h2
 rw [wCells_wv] at HOf
 unfold vA at HOf
 have hI:I8 (dg hi lo)=[((dg hi lo 7:Nat):Int),((dg hi lo 6:Nat):Int),((dg hi lo 5:Nat):Int),((dg hi lo 4:Nat):Int),((dg hi lo 3:Nat):Int),((dg hi lo 2:Nat):Int),((dg hi lo 1:Nat):Int),((dg hi lo 0:Nat):Int)]:=rfl
 rw [hI]
 clear hI
 have q0:=wv_get true (dg hi lo) 0 (by decide)
 have Q0:=Lib.hid q0
 clear q0
 generalize dg hi lo 0=g0 at *
 have q1:=wv_get true (dg hi lo) 1 (by decide)
 have Q1:=Lib.hid q1
 clear q1
 generalize dg hi lo 1=g1 at *
 have q2:=wv_get true (dg hi lo) 2 (by decide)
 have Q2:=Lib.hid q2
 clear q2
 generalize dg hi lo 2=g2 at *
 have q3:=wv_get true (dg hi lo) 3 (by decide)
 have Q3:=Lib.hid q3
 clear q3
 generalize dg hi lo 3=g3 at *
 have q4:=wv_get true (dg hi lo) 4 (by decide)
 have Q4:=Lib.hid q4
 clear q4
 generalize dg hi lo 4=g4 at *
 have q5:=wv_get true (dg hi lo) 5 (by decide)
 have Q5:=Lib.hid q5
 clear q5
 generalize dg hi lo 5=g5 at *
 have q6:=wv_get true (dg hi lo) 6 (by decide)
 have Q6:=Lib.hid q6
 clear q6
 generalize dg hi lo 6=g6 at *
 have q7:=wv_get true (dg hi lo) 7 (by decide)
 have Q7:=Lib.hid q7
 clear q7
 generalize dg hi lo 7=g7 at *
 have HP:Hid (Blk (w.alloc (.cells #[.bool true, .int .u64 (hi:Int), .int .u64 (lo:Int)] 28 (0,0))) w.heap.size 28 #[.bool true, .int .u64 (hi:Int), .int .u64 (lo:Int)]):=Lib.hid (Blk.new w _ _)
 have HB:Hid (Below w.heap.size w (w.alloc (.cells #[.bool true, .int .u64 (hi:Int), .int .u64 (lo:Int)] 28 (0,0)))):=Lib.hid (below_alloc (Below.refl _ _) _)
 go_enter Tryz.func158,Tryz.ntmps158
 go_upto_region 1 with fail
 generalize w.alloc (.cells #[.bool true, .int .u64 (hi:Int), .int .u64 (lo:Int)] 28 (0,0))=w0 at *
 have p0:=HP.out.cell 0
 have p1:=HP.out.cell 1
 have p2:=HP.out.cell 2
 simp at p0 p1 p2
 go_wp2_with fail
 refine (HOf.out _).mono ?_
 rintro e w1 ⟨rfl,hb⟩
 have hw1:w.heap.size≤w1.heap.size:=Nat.le_trans HB.out.size hb.size
 have HB1:Hid (Below w.heap.size w (w1.alloc (.cells #[.int .i64 0, .int .i64 0, .int .i64 0, .int .i64 0, .int .i64 0, .int .i64 0, .int .i64 0, .int .i64 0, .int .i64 0] 113 (0,0)))):=Lib.hid (below_alloc (HB.out.trans (hb.mono HB.out.size)) _)
 have HB2:=Lib.hid (belowRow HB1.out hw1 (wv true (dg hi lo)))
 have HZ:Hid (Blk (w1.alloc (.cells #[.int .i64 0, .int .i64 0, .int .i64 0, .int .i64 0, .int .i64 0, .int .i64 0, .int .i64 0, .int .i64 0, .int .i64 0] 113 (0,0))) w1.heap.size 113 #[.int .i64 0, .int .i64 0, .int .i64 0, .int .i64 0, .int .i64 0, .int .i64 0, .int .i64 0, .int .i64 0, .int .i64 0]):=Lib.hid (Blk.new w1 _ _)
 have HW2:Hid (Blk ((w1.alloc (.cells #[.int .i64 0, .int .i64 0, .int .i64 0, .int .i64 0, .int .i64 0, .int .i64 0, .int .i64 0, .int .i64 0, .int .i64 0] 113 (0,0))).setRow w1.heap.size (wv true (dg hi lo))) w1.heap.size 113 (wv true (dg hi lo))):=Lib.hid (HZ.out.row _)
 clear hb HB HP p0 p1 p2 HOf HB1
 go_upto_region 2 with (refine wpList_store_row rfl 113 (.tmp 3) (.tmp 7) rfl w1.heap.size (wv true (dg hi lo)) rfl rfl 113 #[.int .i64 0, .int .i64 0, .int .i64 0, .int .i64 0, .int .i64 0, .int .i64 0, .int .i64 0, .int .i64 0, .int .i64 0] HZ.out (by kernel_rfl) rfl (wv_one _ _) ?_)
 clear HZ
 generalize (w1.alloc (.cells #[.int .i64 0, .int .i64 0, .int .i64 0, .int .i64 0, .int .i64 0, .int .i64 0, .int .i64 0, .int .i64 0, .int .i64 0] 113 (0,0))).setRow w1.heap.size (wv true (dg hi lo))=w2 at *
 generalize w1.heap.size=V at *
 go_wp2
 go_loopw [4,5] (fun v i wr => ∃ k:Nat,k≤8∧i=.int .i64 ((7:Int) - k)∧Hid (OwnN wr w2.heap.size v (([(g7:Int),(g6:Int),(g5:Int),(g4:Int),(g3:Int),(g2:Int),(g1:Int),(g0:Int)]:List Int).take k))∧Hid (Below w2.heap.size w2 wr)) (fun _ i _ => (intOf i + 1).toNat)
 case atStart => exact ⟨0,Nat.zero_le _,rfl,Lib.hid (OwnN.nil _ _),Lib.hid (Below.refl _ _)⟩
 case round =>
  obtain ⟨k,hk,rfl,HO,HBr⟩:=hrel
  by_cases hlt:k < 8
  ·have hk8:k=0 ∨ k=1 ∨ k=2 ∨ k=3 ∨ k=4 ∨ k=5 ∨ k=6 ∨ k=7:=by omega
   have HWr:=Lib.hid (HW2.out.below HBr.out HW2.out.lt)
   rcases hk8 with rfl | rfl | rfl | rfl | rfl | rfl | rfl | rfl
   ·have ek:((7:Int) - (0:Nat))=7:=by decide
    rw [ek]
    have p:=HWr.out.cell 7
    rw [Q7.out] at p
    go_wp2_with (at_builtin;refine wpList_app intE rfl (.tmp 12) (.tmp 16) rfl rfl (World.ownsRow.alloc HO.out _) rfl (src_one_new _ _ _) ?c1 ?c2 ?c3 ?c4 ?_)
    case c1 => first | rfl | (intro u hu;simp at hu;subst hu;rfl)
    case c2 => unfold maxLen;simp
    case c3 => simp
    case c4 => have:=HBr.out.size;simp;omega
    intro v' w4 hO hG
    have HO':=Lib.hid (show OwnN w4 w2.heap.size v' (([(g7:Int),(g6:Int),(g5:Int),(g4:Int),(g3:Int),(g2:Int),(g1:Int),(g0:Int)]:List Int).take 1) from hO)
    have HB':Hid (Below w2.heap.size w2 w4):=Lib.hid ((Below.alloc HBr.out HBr.out.size _).trans (hG.below (by have:=HBr.out.size;simp;omega) (own_base HO.out)))
    clear hO hG p HBr HO HWr
    go_wp2
    exact ⟨⟨1,by decide,rfl,HO',HB'⟩,by simp [intOf]⟩
   ·have ek:((7:Int) - (1:Nat))=6:=by decide
    rw [ek]
    have p:=HWr.out.cell 6
    rw [Q6.out] at p
    go_wp2_with (at_builtin;refine wpList_app intE rfl (.tmp 12) (.tmp 16) rfl rfl (World.ownsRow.alloc HO.out _) rfl (src_one_new _ _ _) ?c1 ?c2 ?c3 ?c4 ?_)
    case c1 => first | rfl | (intro u hu;simp at hu;subst hu;rfl)
    case c2 => unfold maxLen;simp
    case c3 => simp
    case c4 => have:=HBr.out.size;simp;omega
    intro v' w4 hO hG
    have HO':=Lib.hid (show OwnN w4 w2.heap.size v' (([(g7:Int),(g6:Int),(g5:Int),(g4:Int),(g3:Int),(g2:Int),(g1:Int),(g0:Int)]:List Int).take 2) from hO)
    have HB':Hid (Below w2.heap.size w2 w4):=Lib.hid ((Below.alloc HBr.out HBr.out.size _).trans (hG.below (by have:=HBr.out.size;simp;omega) (own_base HO.out)))
    clear hO hG p HBr HO HWr
    go_wp2
    exact ⟨⟨2,by decide,rfl,HO',HB'⟩,by simp [intOf]⟩
   ·have ek:((7:Int) - (2:Nat))=5:=by decide
    rw [ek]
    have p:=HWr.out.cell 5
    rw [Q5.out] at p
    go_wp2_with (at_builtin;refine wpList_app intE rfl (.tmp 12) (.tmp 16) rfl rfl (World.ownsRow.alloc HO.out _) rfl (src_one_new _ _ _) ?c1 ?c2 ?c3 ?c4 ?_)
    case c1 => first | rfl | (intro u hu;simp at hu;subst hu;rfl)
    case c2 => unfold maxLen;simp
    case c3 => simp
    case c4 => have:=HBr.out.size;simp;omega
    intro v' w4 hO hG
    have HO':=Lib.hid (show OwnN w4 w2.heap.size v' (([(g7:Int),(g6:Int),(g5:Int),(g4:Int),(g3:Int),(g2:Int),(g1:Int),(g0:Int)]:List Int).take 3) from hO)
    have HB':Hid (Below w2.heap.size w2 w4):=Lib.hid ((Below.alloc HBr.out HBr.out.size _).trans (hG.below (by have:=HBr.out.size;simp;omega) (own_base HO.out)))
    clear hO hG p HBr HO HWr
    go_wp2
    exact ⟨⟨3,by decide,rfl,HO',HB'⟩,by simp [intOf]⟩
   ·have ek:((7:Int) - (3:Nat))=4:=by decide
    rw [ek]
    have p:=HWr.out.cell 4
    rw [Q4.out] at p
    go_wp2_with (at_builtin;refine wpList_app intE rfl (.tmp 12) (.tmp 16) rfl rfl (World.ownsRow.alloc HO.out _) rfl (src_one_new _ _ _) ?c1 ?c2 ?c3 ?c4 ?_)
    case c1 => first | rfl | (intro u hu;simp at hu;subst hu;rfl)
    case c2 => unfold maxLen;simp
    case c3 => simp
    case c4 => have:=HBr.out.size;simp;omega
    intro v' w4 hO hG
    have HO':=Lib.hid (show OwnN w4 w2.heap.size v' (([(g7:Int),(g6:Int),(g5:Int),(g4:Int),(g3:Int),(g2:Int),(g1:Int),(g0:Int)]:List Int).take 4) from hO)
    have HB':Hid (Below w2.heap.size w2 w4):=Lib.hid ((Below.alloc HBr.out HBr.out.size _).trans (hG.below (by have:=HBr.out.size;simp;omega) (own_base HO.out)))
    clear hO hG p HBr HO HWr
    go_wp2
    exact ⟨⟨4,by decide,rfl,HO',HB'⟩,by simp [intOf]⟩
   ·have ek:((7:Int) - (4:Nat))=3:=by decide
    rw [ek]
    have p:=HWr.out.cell 3
    rw [Q3.out] at p
    go_wp2_with (at_builtin;refine wpList_app intE rfl (.tmp 12) (.tmp 16) rfl rfl (World.ownsRow.alloc HO.out _) rfl (src_one_new _ _ _) ?c1 ?c2 ?c3 ?c4 ?_)
    case c1 => first | rfl | (intro u hu;simp at hu;subst hu;rfl)
    case c2 => unfold maxLen;simp
    case c3 => simp
    case c4 => have:=HBr.out.size;simp;omega
    intro v' w4 hO hG
    have HO':=Lib.hid (show OwnN w4 w2.heap.size v' (([(g7:Int),(g6:Int),(g5:Int),(g4:Int),(g3:Int),(g2:Int),(g1:Int),(g0:Int)]:List Int).take 5) from hO)
    have HB':Hid (Below w2.heap.size w2 w4):=Lib.hid ((Below.alloc HBr.out HBr.out.size _).trans (hG.below (by have:=HBr.out.size;simp;omega) (own_base HO.out)))
    clear hO hG p HBr HO HWr
    go_wp2
    exact ⟨⟨5,by decide,rfl,HO',HB'⟩,by simp [intOf]⟩
   ·have ek:((7:Int) - (5:Nat))=2:=by decide
    rw [ek]
    have p:=HWr.out.cell 2
    rw [Q2.out] at p
    go_wp2_with (at_builtin;refine wpList_app intE rfl (.tmp 12) (.tmp 16) rfl rfl (World.ownsRow.alloc HO.out _) rfl (src_one_new _ _ _) ?c1 ?c2 ?c3 ?c4 ?_)
    case c1 => first | rfl | (intro u hu;simp at hu;subst hu;rfl)
    case c2 => unfold maxLen;simp
    case c3 => simp
    case c4 => have:=HBr.out.size;simp;omega
    intro v' w4 hO hG
    have HO':=Lib.hid (show OwnN w4 w2.heap.size v' (([(g7:Int),(g6:Int),(g5:Int),(g4:Int),(g3:Int),(g2:Int),(g1:Int),(g0:Int)]:List Int).take 6) from hO)
    have HB':Hid (Below w2.heap.size w2 w4):=Lib.hid ((Below.alloc HBr.out HBr.out.size _).trans (hG.below (by have:=HBr.out.size;simp;omega) (own_base HO.out)))
    clear hO hG p HBr HO HWr
    go_wp2
    exact ⟨⟨6,by decide,rfl,HO',HB'⟩,by simp [intOf]⟩
   ·have ek:((7:Int) - (6:Nat))=1:=by decide
    rw [ek]
    have p:=HWr.out.cell 1
    rw [Q1.out] at p
    go_wp2_with (at_builtin;refine wpList_app intE rfl (.tmp 12) (.tmp 16) rfl rfl (World.ownsRow.alloc HO.out _) rfl (src_one_new _ _ _) ?c1 ?c2 ?c3 ?c4 ?_)
    case c1 => first | rfl | (intro u hu;simp at hu;subst hu;rfl)
    case c2 => unfold maxLen;simp
    case c3 => simp
    case c4 => have:=HBr.out.size;simp;omega
    intro v' w4 hO hG
    have HO':=Lib.hid (show OwnN w4 w2.heap.size v' (([(g7:Int),(g6:Int),(g5:Int),(g4:Int),(g3:Int),(g2:Int),(g1:Int),(g0:Int)]:List Int).take 7) from hO)
    have HB':Hid (Below w2.heap.size w2 w4):=Lib.hid ((Below.alloc HBr.out HBr.out.size _).trans (hG.below (by have:=HBr.out.size;simp;omega) (own_base HO.out)))
    clear hO hG p HBr HO HWr
    go_wp2
    exact ⟨⟨7,by decide,rfl,HO',HB'⟩,by simp [intOf]⟩
   ·have ek:((7:Int) - (7:Nat))=0:=by decide
    rw [ek]
    have p:=HWr.out.cell 0
    rw [Q0.out] at p
    go_wp2_with (at_builtin;refine wpList_app intE rfl (.tmp 12) (.tmp 16) rfl rfl (World.ownsRow.alloc HO.out _) rfl (src_one_new _ _ _) ?c1 ?c2 ?c3 ?c4 ?_)
    case c1 => first | rfl | (intro u hu;simp at hu;subst hu;rfl)
    case c2 => unfold maxLen;simp
    case c3 => simp
    case c4 => have:=HBr.out.size;simp;omega
    intro v' w4 hO hG
    have HO':=Lib.hid (show OwnN w4 w2.heap.size v' (([(g7:Int),(g6:Int),(g5:Int),(g4:Int),(g3:Int),(g2:Int),(g1:Int),(g0:Int)]:List Int).take 8) from hO)
    have HB':Hid (Below w2.heap.size w2 w4):=Lib.hid ((Below.alloc HBr.out HBr.out.size _).trans (hG.below (by have:=HBr.out.size;simp;omega) (own_base HO.out)))
    clear hO hG p HBr HO HWr
    go_wp2
    exact ⟨⟨8,by decide,rfl,HO',HB'⟩,by simp [intOf]⟩
  ·obtain rfl:k=8:=by omega
   have ek:((7:Int) - (8:Nat))=-1:=by decide
   rw [ek]
   obtain ⟨g,c,hv,_,hg,hc,_,hcell⟩:=HO.out.one (by simp)
   have hv':u4=.slice (some ⟨g,0,none⟩) 8 c:=hv
   have HC:=Lib.hid hcell
   clear hv hcell hc
   subst hv'
   go_wp2_with fail
   go_ret
   exact ⟨g,c,rfl,hg,HC.out,HB2.out.trans (HBr.out.mono HB2.out.size)⟩
def run0 (z:Nat→Bool):Nat→Nat→Nat
 | 0,_ => 0
 | k + 1,i => if i < 8∧z i=true then run0 z k (i + 1) + 1 else 0
theorem run0_le (z:Nat→Bool):∀ k i,run0 z k i≤k
 | 0,_ => Nat.le_refl _
 | k + 1,i => by
   have:=run0_le z k (i + 1)
   unfold run0
   split <;> omega
theorem run0_stop {z:Nat→Bool} {i:Nat} (h:¬ (i < 8∧z i=true)):∀ k,run0 z k i=0
 | 0 => rfl
 | k + 1 => by unfold run0;rw [if_neg h]
def zF (z:Nat→Bool):Nat→Nat→Nat→Nat→Nat × Nat
 | 0,_,f,m => (f,m)
 | k + 1,i,f,m => if i < 8 then zF z k (i + run0 z 8 i + 1) (if m < run0 z 8 i then i else f) (if m < run0 z 8 i then run0 z 8 i else m) else (f,m)
theorem zF_stop {z:Nat→Bool} {i f m:Nat} (h:¬ i < 8):∀ k,zF z k i f m=(f,m)
 | 0 => rfl
 | k + 1 => by unfold zF;rw [if_neg h]
theorem G8_get (g:Nat→Nat) (j:Nat) (h:j < 8):(G8 g)[j]?=some (.int .u64 ((g (7 - j):Nat):Int)):=by
 have:j=0 ∨ j=1 ∨ j=2 ∨ j=3 ∨ j=4 ∨ j=5 ∨ j=6 ∨ j=7:=by omega
 rcases this with rfl | rfl | rfl | rfl | rfl | rfl | rfl | rfl <;> rfl
theorem G8_size (g:Nat→Nat):(G8 g).size=8:=rfl
def zB (g:Nat→Nat) (j:Nat):Bool:=g (7 - j) == 0
theorem zeros_any (g:Nat→Nat) (w:World):Calls Tryz.prog 197 #[.agg (G8 g)] w (Ret (.tuple #[.int .i64 ((zF (zB g) 8 0 0 0).1:Int), .int .i64 ((zF (zB g) 8 0 0 0).2:Int)]) w):=by
 have hGs:=G8_size g
 have Hg:=Lib.hid (G8_get g)
 obtain ⟨Z,hZ⟩:∃ Z,zF (zB g) 8 0 0 0=Z:=⟨_,rfl⟩
 rw [hZ]
 have HZ:=Lib.hid hZ
 clear hZ
 have HP:Hid (Blk (w.alloc (.cells (G8 g) 209 (0,0))) w.heap.size 209 (G8 g)):=Lib.hid (Blk.new w _ _)
 have HB:Hid (Below w.heap.size w (w.alloc (.cells (G8 g) 209 (0,0)))):=Lib.hid (below_alloc (Below.refl _ _) _)
 have hsz:=Tryz.sizeOf209
 go_enter Tryz.func197,Tryz.ntmps197
 go_upto_region 1 with fail
 generalize w.alloc (.cells (G8 g) 209 (0,0))=w1 at *
 go_wp2_with fail
 go_loopw [2,3,4,5] (fun a b c d wr => ∃ k i f m:Nat,8 - i≤k∧i≤17∧f≤17∧m≤8∧a=.int .i64 (f:Int)∧b=.int .i64 (m:Int)∧c=.int .i64 (i:Int)∧Hid (zF (zB g) k i f m=Z)∧wr=w1) (fun _ _ c _ _ => 20 - (intOf c).toNat)
 case atStart => exact ⟨8,0,0,0,by omega,by omega,by omega,by omega,rfl,rfl,rfl,HZ,rfl⟩
 case round =>
  obtain ⟨k,i,f,m,hk,hi,hf,hm,rfl,rfl,rfl,HZk,rfl⟩:=hrel
  by_cases hlt:i < 8
  ·obtain ⟨k,rfl⟩:∃ k',k=k' + 1:=⟨k - 1,by omega⟩
   have hz:=HZk.out
   unfold zF at hz
   rw [if_pos hlt] at hz
   obtain ⟨N,hN⟩:∃ N,run0 (zB g) 8 i=N:=⟨_,rfl⟩
   have hN8:=run0_le (zB g) 8 i
   rw [hN] at hz hN8
   have HN:=Lib.hid hN
   have HZ2:=Lib.hid hz
   clear hz hN HZk HZ
   have hlt2:(i:Int) < 8:=by omega
   go_wp2_with fail
   go_loopw [5] (fun d wx => ∃ q n:Nat,8 - (i + n)≤q∧n≤8∧d=.int .i64 (n:Int)∧Hid (n + run0 (zB g) q (i + n)=N)∧wx=wr) (fun d _ => 8 - (intOf d).toNat)
   case atStart => exact ⟨8,0,by omega,by omega,rfl,Lib.hid (by rw [Nat.zero_add];exact HN.out),rfl⟩
   case round =>
    obtain ⟨q,n,hq,hn,rfl,HR,rfl⟩:=hrel
    by_cases hc:i + n < 8
    ·have hj8:(i:Int) + (n:Int) < 8:=by omega
     have p:=HP.out.cell (i + n)
     rw [Hg.out (i + n) hc] at p
     have e1:(i:Int) + (n:Int)=((i + n:Nat):Int):=by omega
     have hzb:zB g (i + n)=(g (7 - (i + n)) == 0):=rfl
     by_cases hx:g (7 - (i + n))=0
     ·rw [hx] at p hzb
      obtain ⟨q,rfl⟩:∃ q',q=q' + 1:=⟨q - 1,by omega⟩
      have hr:=HR.out
      unfold run0 at hr
      rw [if_pos ⟨hc,by rw [hzb];rfl⟩] at hr
      have HR2:Hid ((n + 1) + run0 (zB g) q (i + (n + 1))=N):=Lib.hid (by rw [← hr];rw [Nat.add_assoc i n 1];omega)
      obtain ⟨j,hj⟩:∃ j,i + n=j:=⟨_,rfl⟩
      rw [hj] at p e1
      have hj8n:j < 8:=by omega
      have z0:((0:Nat):Int)=0:=rfl
      rw [z0] at p
      clear hr HR hzb hx hj z0
      go_wp2_with fail
      exact ⟨⟨q,n + 1,by omega,by omega,by go_num,HR2,by first | rfl | trivial⟩,by simp [intOf];omega⟩
     ·obtain ⟨x,hx2⟩:∃ x,g (7 - (i + n))=x:=⟨_,rfl⟩
      rw [hx2] at p hx hzb
      have hx3:((x:Int) == 0)=false:=by simpa using hx
      have hx4:¬ (x:Int)=0:=by omega
      have hNn:n=N:=by have h:=HR.out;rw [run0_stop (by rw [hzb];simp [hx])] at h;omega
      obtain ⟨j,hj⟩:∃ j,i + n=j:=⟨_,rfl⟩
      rw [hj] at p e1
      have hj8n:j < 8:=by omega
      clear hzb hx hx2
      subst hNn
      have hz2:=HZ2.out
      clear HZ2 HR HN
      by_cases hm2:m < n
      ·rw [if_pos hm2,if_pos hm2] at hz2
       have HZ3:=Lib.hid hz2
       clear hz2
       have hm3:(n:Int) > (m:Int):=by omega
       go_wp2_with fail
       exact ⟨⟨k,i + n + 1,i,n,by omega,by omega,by omega,by omega,rfl,rfl,congrArg _ (by omega),HZ3,by first | rfl | trivial⟩,by simp [intOf];omega⟩
      ·rw [if_neg hm2,if_neg hm2] at hz2
       have HZ3:=Lib.hid hz2
       clear hz2
       have hm3:¬ (n:Int) > (m:Int):=by omega
       go_wp2_with fail
       exact ⟨⟨k,i + n + 1,f,m,by omega,by omega,by omega,by omega,rfl,rfl,congrArg _ (by omega),HZ3,by first | rfl | trivial⟩,by simp [intOf];omega⟩
    ·have hj8:¬ (i:Int) + (n:Int) < 8:=by omega
     have hNn:n=N:=by have h:=HR.out;rw [run0_stop (fun h => hc h.1)] at h;omega
     subst hNn
     have hz2:=HZ2.out
     clear HZ2 HR HN
     by_cases hm2:m < n
     ·rw [if_pos hm2,if_pos hm2] at hz2
      have HZ3:=Lib.hid hz2
      clear hz2
      have hm3:(n:Int) > (m:Int):=by omega
      go_wp2_with fail
      exact ⟨⟨k,i + n + 1,i,n,by omega,by omega,by omega,by omega,rfl,rfl,congrArg _ (by omega),HZ3,by first | rfl | trivial⟩,by simp [intOf];omega⟩
     ·rw [if_neg hm2,if_neg hm2] at hz2
      have HZ3:=Lib.hid hz2
      clear hz2
      have hm3:¬ (n:Int) > (m:Int):=by omega
      go_wp2_with fail
      exact ⟨⟨k,i + n + 1,f,m,by omega,by omega,by omega,by omega,rfl,rfl,congrArg _ (by omega),HZ3,by first | rfl | trivial⟩,by simp [intOf];omega⟩
  ·have hz:=HZk.out
   rw [zF_stop hlt] at hz
   have hlt2:¬ (i:Int) < 8:=by omega
   subst hz
   clear HZ HZk
   go_wp2_with fail
   go_ret2
   exact ⟨rfl,HB.out⟩
theorem run0_le2 (z:Nat→Bool):∀ k i,i≤8→i + run0 z k i≤8
 | 0,i,h => by show i + 0≤8;omega
 | k + 1,i,h => by
   unfold run0
   by_cases hc:i < 8∧z i=true
   ·rw [if_pos hc]
    have:=run0_le2 z k (i + 1) (by omega)
    omega
   ·rw [if_neg hc];omega
theorem zF_bd (z:Nat→Bool):∀ k i f m,f + m≤8→(zF z k i f m).1 + (zF z k i f m).2≤8
 | 0,i,f,m,h => h
 | k + 1,i,f,m,h => by
   unfold zF
   by_cases hc:i < 8
   ·rw [if_pos hc]
    apply zF_bd
    have:=run0_le2 z 8 i (by omega)
    split <;> omega
   ·rw [if_neg hc];exact h
theorem hexS_short (n:Nat):(hexS n).data.toList.length≤30:=by
 unfold hexS hexL
 split
 ·simp
 ·split
  ·simp
  ·split <;> simp
def sixL (g:Nat→Nat):List ByteArray:=[hexS (g 7),hexS (g 6),hexS (g 5),hexS (g 4),hexS (g 3),hexS (g 2),hexS (g 1),hexS (g 0)]
theorem sixL_short (g:Nat→Nat):Short (sixL g):=by
 refine ⟨by simp [sixL],fun x hx => ?_⟩
 simp [sixL] at hx
 rcases hx with rfl | rfl | rfl | rfl | rfl | rfl | rfl | rfl <;> exact hexS_short _
theorem Short.take {L:List ByteArray} (h:Short L) (n:Nat):Short (L.take n):=⟨by have:=h.1;simp;omega,fun x hx => h.2 x (List.mem_of_mem_take hx)⟩
theorem Short.drop {L:List ByteArray} (h:Short L) (n:Nat):Short (L.drop n):=⟨by have:=h.1;simp;omega,fun x hx => h.2 x (List.mem_of_mem_drop hx)⟩
theorem joinS_size {L:List ByteArray} (hs:Short L) (b:UInt8):(joinS L ⟨#[b]⟩).size≤248:=by
 have hl:=interc_len ((⟨#[b]⟩:ByteArray).data.toList) 30 (L.map (·.data.toList)) (fun x hx => by
  obtain ⟨y,hy,rfl⟩:=List.mem_map.1 hx
  exact hs.2 y hy)
 rw [List.length_map] at hl
 have h1:=hs.1
 have hsep:((⟨#[b]⟩:ByteArray).data.toList).length=1:=rfl
 rw [hsep] at hl
 show (Lib.join _ _).toArray.size≤248
 rw [List.size_toArray]
 omega
theorem add_str (a b:ByteArray) (ha:a.size≤1000000) (hb:b.size≤1000000) (w:World):(binOp .add 9 (.string a) (.string b)).run Tryz.prog w=.ok (.string (a ++ b)) w:=by
 have ha':(a.size:Int)≤8388608:=by omega
 have hb':(b.size:Int)≤8388608:=by omega
 simp [binOp,run_string_add, *]
def gapS (L:List ByteArray) (f m:Nat):ByteArray:=joinS (L.take f) ⟨#[58]⟩ ++ ⟨#[58,58]⟩ ++ joinS (L.drop (f + m)) ⟨#[58]⟩
def sixT (g:Nat→Nat):ByteArray:=if (zF (zB g) 8 0 0 0).2 < 2 then joinS (sixL g) ⟨#[58]⟩ else gapS (sixL g) (zF (zB g) 8 0 0 0).1 (zF (zB g) 8 0 0 0).2
theorem idx8_0 (a0 a1 a2 a3 a4 a5 a6 a7:Int) (w:World):(Instr.index 209 (.agg #[.int .u64 a0, .int .u64 a1, .int .u64 a2, .int .u64 a3, .int .u64 a4, .int .u64 a5, .int .u64 a6, .int .u64 a7]) (.int .i64 0)).run Tryz.prog w=.ok (.int .u64 a0) w:=by
 have hu:Tryz.prog.underlying 209=some (.array 8 26):=by kernel_rfl
 have hu2:Tryz.prog.underlying 26=some (.int .u64):=by kernel_rfl
 have hc:Tryz.prog.cellsOf 26=1:=by kernel_rfl
 simp [Instr.index,run_underlying hu,asIntOf,part,go_sem]
theorem idx8_1 (a0 a1 a2 a3 a4 a5 a6 a7:Int) (w:World):(Instr.index 209 (.agg #[.int .u64 a0, .int .u64 a1, .int .u64 a2, .int .u64 a3, .int .u64 a4, .int .u64 a5, .int .u64 a6, .int .u64 a7]) (.int .i64 1)).run Tryz.prog w=.ok (.int .u64 a1) w:=by
 have hu:Tryz.prog.underlying 209=some (.array 8 26):=by kernel_rfl
 have hu2:Tryz.prog.underlying 26=some (.int .u64):=by kernel_rfl
 have hc:Tryz.prog.cellsOf 26=1:=by kernel_rfl
 simp [Instr.index,run_underlying hu,asIntOf,part,go_sem]
theorem idx8_2 (a0 a1 a2 a3 a4 a5 a6 a7:Int) (w:World):(Instr.index 209 (.agg #[.int .u64 a0, .int .u64 a1, .int .u64 a2, .int .u64 a3, .int .u64 a4, .int .u64 a5, .int .u64 a6, .int .u64 a7]) (.int .i64 2)).run Tryz.prog w=.ok (.int .u64 a2) w:=by
 have hu:Tryz.prog.underlying 209=some (.array 8 26):=by kernel_rfl
 have hu2:Tryz.prog.underlying 26=some (.int .u64):=by kernel_rfl
 have hc:Tryz.prog.cellsOf 26=1:=by kernel_rfl
 simp [Instr.index,run_underlying hu,asIntOf,part,go_sem]
theorem idx8_3 (a0 a1 a2 a3 a4 a5 a6 a7:Int) (w:World):(Instr.index 209 (.agg #[.int .u64 a0, .int .u64 a1, .int .u64 a2, .int .u64 a3, .int .u64 a4, .int .u64 a5, .int .u64 a6, .int .u64 a7]) (.int .i64 3)).run Tryz.prog w=.ok (.int .u64 a3) w:=by
 have hu:Tryz.prog.underlying 209=some (.array 8 26):=by kernel_rfl
 have hu2:Tryz.prog.underlying 26=some (.int .u64):=by kernel_rfl
 have hc:Tryz.prog.cellsOf 26=1:=by kernel_rfl
 simp [Instr.index,run_underlying hu,asIntOf,part,go_sem]
theorem idx8_4 (a0 a1 a2 a3 a4 a5 a6 a7:Int) (w:World):(Instr.index 209 (.agg #[.int .u64 a0, .int .u64 a1, .int .u64 a2, .int .u64 a3, .int .u64 a4, .int .u64 a5, .int .u64 a6, .int .u64 a7]) (.int .i64 4)).run Tryz.prog w=.ok (.int .u64 a4) w:=by
 have hu:Tryz.prog.underlying 209=some (.array 8 26):=by kernel_rfl
 have hu2:Tryz.prog.underlying 26=some (.int .u64):=by kernel_rfl
 have hc:Tryz.prog.cellsOf 26=1:=by kernel_rfl
 simp [Instr.index,run_underlying hu,asIntOf,part,go_sem]
theorem idx8_5 (a0 a1 a2 a3 a4 a5 a6 a7:Int) (w:World):(Instr.index 209 (.agg #[.int .u64 a0, .int .u64 a1, .int .u64 a2, .int .u64 a3, .int .u64 a4, .int .u64 a5, .int .u64 a6, .int .u64 a7]) (.int .i64 5)).run Tryz.prog w=.ok (.int .u64 a5) w:=by
 have hu:Tryz.prog.underlying 209=some (.array 8 26):=by kernel_rfl
 have hu2:Tryz.prog.underlying 26=some (.int .u64):=by kernel_rfl
 have hc:Tryz.prog.cellsOf 26=1:=by kernel_rfl
 simp [Instr.index,run_underlying hu,asIntOf,part,go_sem]
theorem idx8_6 (a0 a1 a2 a3 a4 a5 a6 a7:Int) (w:World):(Instr.index 209 (.agg #[.int .u64 a0, .int .u64 a1, .int .u64 a2, .int .u64 a3, .int .u64 a4, .int .u64 a5, .int .u64 a6, .int .u64 a7]) (.int .i64 6)).run Tryz.prog w=.ok (.int .u64 a6) w:=by
 have hu:Tryz.prog.underlying 209=some (.array 8 26):=by kernel_rfl
 have hu2:Tryz.prog.underlying 26=some (.int .u64):=by kernel_rfl
 have hc:Tryz.prog.cellsOf 26=1:=by kernel_rfl
 simp [Instr.index,run_underlying hu,asIntOf,part,go_sem]
theorem idx8_7 (a0 a1 a2 a3 a4 a5 a6 a7:Int) (w:World):(Instr.index 209 (.agg #[.int .u64 a0, .int .u64 a1, .int .u64 a2, .int .u64 a3, .int .u64 a4, .int .u64 a5, .int .u64 a6, .int .u64 a7]) (.int .i64 7)).run Tryz.prog w=.ok (.int .u64 a7) w:=by
 have hu:Tryz.prog.underlying 209=some (.array 8 26):=by kernel_rfl
 have hu2:Tryz.prog.underlying 26=some (.int .u64):=by kernel_rfl
 have hc:Tryz.prog.cellsOf 26=1:=by kernel_rfl
 simp [Instr.index,run_underlying hu,asIntOf,part,go_sem]
theorem slice_from (g c D:Nat) (W:World) (hD:D≤8) (hc:8≤c):(Instr.slice 119 (.slice (some ⟨g,0,none⟩) 8 c) (some (.int .i64 (D:Int))) none none).run Tryz.prog W=.ok (.slice (some ⟨g,if c=D then 0 else D,none⟩) (8 - D) (c - D)) W:=by
 have ht:Tryz.prog.underlying 119=some (.slice (Tryz.prog.elem 119)):=by kernel_rfl
 have he:Tryz.prog.elem 119=9:=by kernel_rfl
 rw [run_slice_l W 119 (some ⟨g,0,none⟩) 8 c ht .i64 (D:Int) (by omega) (by omega),he,Tryz.sizeOf9]
 by_cases h:c=D
 ·simp [Result.andThen,sliced,h]
 ·by_cases h0:D=0
  ·subst h0
   simp [Result.andThen,sliced,Addr.add,h]
  ·simp [Result.andThen,sliced,Addr.add,h,h0]
theorem textSix_any (hi lo:Nat) (w:World) (h1:hi < 18446744073709551616) (h2:lo < 18446744073709551616) (ht:Tabs w):Calls Tryz.prog 144 #[.agg #[.bool true, .int .u64 (hi:Int), .int .u64 (lo:Int)]] w (Ret (.string (sixT (dg hi lo))) w):=by
 have HGr:=Lib.hid fun wx => groupsA_any hi lo wx h1 h2
 have HZs:=Lib.hid fun wx => zeros_any (dg hi lo) wx
 have hbd:=zF_bd (zB (dg hi lo)) 8 0 0 0 (by decide)
 have hls:=sixL_short (dg hi lo)
 have HR:Hid (sixT (dg hi lo)=if (zF (zB (dg hi lo)) 8 0 0 0).2 < 2 then joinS (sixL (dg hi lo)) ⟨#[58]⟩ else gapS (sixL (dg hi lo)) (zF (zB (dg hi lo)) 8 0 0 0).1 (zF (zB (dg hi lo)) 8 0 0 0).2):=Lib.hid rfl
 generalize sixT (dg hi lo)=R at *
 generalize (zF (zB (dg hi lo)) 8 0 0 0).1=F at *
 generalize (zF (zB (dg hi lo)) 8 0 0 0).2=M at *
 unfold G8 at HGr HZs
 unfold sixL at hls HR
 have hd0:=dg_lt hi lo 0
 generalize dg hi lo 0=g0 at *
 have H0:=Lib.hid fun wx (ht:Tabs wx) => fmtU16_any g0 wx hd0 ht.2
 generalize hexS g0=d0 at *
 have hd1:=dg_lt hi lo 1
 generalize dg hi lo 1=g1 at *
 have H1:=Lib.hid fun wx (ht:Tabs wx) => fmtU16_any g1 wx hd1 ht.2
 generalize hexS g1=d1 at *
 have hd2:=dg_lt hi lo 2
 generalize dg hi lo 2=g2 at *
 have H2:=Lib.hid fun wx (ht:Tabs wx) => fmtU16_any g2 wx hd2 ht.2
 generalize hexS g2=d2 at *
 have hd3:=dg_lt hi lo 3
 generalize dg hi lo 3=g3 at *
 have H3:=Lib.hid fun wx (ht:Tabs wx) => fmtU16_any g3 wx hd3 ht.2
 generalize hexS g3=d3 at *
 have hd4:=dg_lt hi lo 4
 generalize dg hi lo 4=g4 at *
 have H4:=Lib.hid fun wx (ht:Tabs wx) => fmtU16_any g4 wx hd4 ht.2
 generalize hexS g4=d4 at *
 have hd5:=dg_lt hi lo 5
 generalize dg hi lo 5=g5 at *
 have H5:=Lib.hid fun wx (ht:Tabs wx) => fmtU16_any g5 wx hd5 ht.2
 generalize hexS g5=d5 at *
 have hd6:=dg_lt hi lo 6
 generalize dg hi lo 6=g6 at *
 have H6:=Lib.hid fun wx (ht:Tabs wx) => fmtU16_any g6 wx hd6 ht.2
 generalize hexS g6=d6 at *
 have hd7:=dg_lt hi lo 7
 generalize dg hi lo 7=g7 at *
 have H7:=Lib.hid fun wx (ht:Tabs wx) => fmtU16_any g7 wx hd7 ht.2
 generalize hexS g7=d7 at *
 have HP:Hid (Blk (w.alloc (.cells #[.bool true, .int .u64 (hi:Int), .int .u64 (lo:Int)] 28 (0,0))) w.heap.size 28 #[.bool true, .int .u64 (hi:Int), .int .u64 (lo:Int)]):=Lib.hid (Blk.new w _ _)
 have HB:Hid (Below w.heap.size w (w.alloc (.cells #[.bool true, .int .u64 (hi:Int), .int .u64 (lo:Int)] 28 (0,0)))):=Lib.hid (below_alloc (Below.refl _ _) _)
 have HT:=Lib.hid (ht.below HB.out)
 have HLs:=Lib.hid hls
 clear ht hls
 have i0:=fun wx => idx8_0 (g7:Int) (g6:Int) (g5:Int) (g4:Int) (g3:Int) (g2:Int) (g1:Int) (g0:Int) wx
 have i1:=fun wx => idx8_1 (g7:Int) (g6:Int) (g5:Int) (g4:Int) (g3:Int) (g2:Int) (g1:Int) (g0:Int) wx
 have i2:=fun wx => idx8_2 (g7:Int) (g6:Int) (g5:Int) (g4:Int) (g3:Int) (g2:Int) (g1:Int) (g0:Int) wx
 have i3:=fun wx => idx8_3 (g7:Int) (g6:Int) (g5:Int) (g4:Int) (g3:Int) (g2:Int) (g1:Int) (g0:Int) wx
 have i4:=fun wx => idx8_4 (g7:Int) (g6:Int) (g5:Int) (g4:Int) (g3:Int) (g2:Int) (g1:Int) (g0:Int) wx
 have i5:=fun wx => idx8_5 (g7:Int) (g6:Int) (g5:Int) (g4:Int) (g3:Int) (g2:Int) (g1:Int) (g0:Int) wx
 have i6:=fun wx => idx8_6 (g7:Int) (g6:Int) (g5:Int) (g4:Int) (g3:Int) (g2:Int) (g1:Int) (g0:Int) wx
 have i7:=fun wx => idx8_7 (g7:Int) (g6:Int) (g5:Int) (g4:Int) (g3:Int) (g2:Int) (g1:Int) (g0:Int) wx
 go_enter Tryz.func144,Tryz.ntmps144
 go_upto_region 1 with fail
 generalize w.alloc (.cells #[.bool true, .int .u64 (hi:Int), .int .u64 (lo:Int)] 28 (0,0))=w0 at *
 have p0:=HP.out.cell 0
 have p1:=HP.out.cell 1
 have p2:=HP.out.cell 2
 simp at p0 p1 p2
 go_wp2_with fail
 refine (HGr.out _).mono ?_
 rintro e w1 ⟨rfl,hb⟩
 have HB2:Hid (Below w.heap.size w (w1.alloc (.cells #[.int .u64 (g7:Int), .int .u64 (g6:Int), .int .u64 (g5:Int), .int .u64 (g4:Int), .int .u64 (g3:Int), .int .u64 (g2:Int), .int .u64 (g1:Int), .int .u64 (g0:Int)] 209 (0,0)))):=Lib.hid (below_alloc (HB.out.trans (hb.mono HB.out.size)) _)
 have HT2:=Lib.hid ((HT.out.below hb).below (below_alloc (Below.refl _ _) (.cells #[.int .u64 (g7:Int), .int .u64 (g6:Int), .int .u64 (g5:Int), .int .u64 (g4:Int), .int .u64 (g3:Int), .int .u64 (g2:Int), .int .u64 (g1:Int), .int .u64 (g0:Int)] 209 (0,0))))
 have HG2:Hid (Blk (w1.alloc (.cells #[.int .u64 (g7:Int), .int .u64 (g6:Int), .int .u64 (g5:Int), .int .u64 (g4:Int), .int .u64 (g3:Int), .int .u64 (g2:Int), .int .u64 (g1:Int), .int .u64 (g0:Int)] 209 (0,0))) w1.heap.size 209 #[.int .u64 (g7:Int), .int .u64 (g6:Int), .int .u64 (g5:Int), .int .u64 (g4:Int), .int .u64 (g3:Int), .int .u64 (g2:Int), .int .u64 (g1:Int), .int .u64 (g0:Int)]):=Lib.hid (Blk.new w1 _ _)
 clear hb HB HT HP p0 p1 p2 HGr
 go_upto_region 10 with fail
 generalize w1.alloc (.cells #[.int .u64 (g7:Int), .int .u64 (g6:Int), .int .u64 (g5:Int), .int .u64 (g4:Int), .int .u64 (g3:Int), .int .u64 (g2:Int), .int .u64 (g1:Int), .int .u64 (g0:Int)] 209 (0,0))=w2 at *
 generalize w1.heap.size=V at *
 have q0:=HG2.out.cell 0
 have q1:=HG2.out.cell 1
 have q2:=HG2.out.cell 2
 have q3:=HG2.out.cell 3
 have q4:=HG2.out.cell 4
 have q5:=HG2.out.cell 5
 have q6:=HG2.out.cell 6
 have q7:=HG2.out.cell 7
 simp at q0 q1 q2 q3 q4 q5 q6 q7
 go_wp2_with fail
 go_loopw [6,8,34] (fun v iv i wr => ∃ k:Nat,k≤8∧i=.int .i64 k∧Hid (OwnS wr w2.heap.size v (([d7,d6,d5,d4,d3,d2,d1,d0]:List ByteArray).take k))∧Hid (Below w2.heap.size w2 wr)) (fun _ _ i _ => 8 - (intOf i).toNat)
 case atStart => exact ⟨0,Nat.zero_le _,rfl,Lib.hid (OwnS.nil _ _),Lib.hid (Below.refl _ _)⟩
 case round =>
  clear q0 q1 q2 q3 q4 q5 q6 q7
  obtain ⟨k,hk,rfl,HO,HBr⟩:=hrel
  by_cases hlt:k < 8
  ·have hk8:k=0 ∨ k=1 ∨ k=2 ∨ k=3 ∨ k=4 ∨ k=5 ∨ k=6 ∨ k=7:=by omega
   have HTr:=Lib.hid (HT2.out.below HBr.out)
   rcases hk8 with rfl | rfl | rfl | rfl | rfl | rfl | rfl | rfl
   ·go_wp2_with fail
    refine (H7.out _ HTr.out).mono ?_
    rintro e w' ⟨rfl,hb⟩
    have HO1:=Lib.hid (HO.out.later hb)
    have HBr1:=Lib.hid (HBr.out.trans (hb.mono HBr.out.size))
    clear hb HO HBr HTr
    go_wp2_with (at_builtin;refine wpList_app strE rfl (.tmp 37) (.tmp 40) rfl rfl (World.ownsRow.alloc HO1.out _) rfl (src_one_new _ _ _) ?c1 ?c2 ?c3 ?c4 ?_)
    case c1 => first | rfl | (intro u hu;simp at hu;subst hu;rfl)
    case c2 => unfold maxLen;simp
    case c3 => simp
    case c4 => have:=HBr1.out.size;simp;omega
    intro v' w4 hO hG
    have HO':=Lib.hid (show OwnS w4 w2.heap.size v' (([d7,d6,d5,d4,d3,d2,d1,d0]:List ByteArray).take 1) from hO)
    have HB':Hid (Below w2.heap.size w2 w4):=Lib.hid ((Below.alloc HBr1.out HBr1.out.size _).trans (hG.below (by have:=HBr1.out.size;simp;omega) (own_base HO1.out)))
    clear hO hG
    go_wp2
    exact ⟨⟨1,by decide,rfl,HO',HB'⟩,by simp [intOf]⟩
   ·go_wp2_with fail
    refine (H6.out _ HTr.out).mono ?_
    rintro e w' ⟨rfl,hb⟩
    have HO1:=Lib.hid (HO.out.later hb)
    have HBr1:=Lib.hid (HBr.out.trans (hb.mono HBr.out.size))
    clear hb HO HBr HTr
    go_wp2_with (at_builtin;refine wpList_app strE rfl (.tmp 37) (.tmp 40) rfl rfl (World.ownsRow.alloc HO1.out _) rfl (src_one_new _ _ _) ?c1 ?c2 ?c3 ?c4 ?_)
    case c1 => first | rfl | (intro u hu;simp at hu;subst hu;rfl)
    case c2 => unfold maxLen;simp
    case c3 => simp
    case c4 => have:=HBr1.out.size;simp;omega
    intro v' w4 hO hG
    have HO':=Lib.hid (show OwnS w4 w2.heap.size v' (([d7,d6,d5,d4,d3,d2,d1,d0]:List ByteArray).take 2) from hO)
    have HB':Hid (Below w2.heap.size w2 w4):=Lib.hid ((Below.alloc HBr1.out HBr1.out.size _).trans (hG.below (by have:=HBr1.out.size;simp;omega) (own_base HO1.out)))
    clear hO hG
    go_wp2
    exact ⟨⟨2,by decide,rfl,HO',HB'⟩,by simp [intOf]⟩
   ·go_wp2_with fail
    refine (H5.out _ HTr.out).mono ?_
    rintro e w' ⟨rfl,hb⟩
    have HO1:=Lib.hid (HO.out.later hb)
    have HBr1:=Lib.hid (HBr.out.trans (hb.mono HBr.out.size))
    clear hb HO HBr HTr
    go_wp2_with (at_builtin;refine wpList_app strE rfl (.tmp 37) (.tmp 40) rfl rfl (World.ownsRow.alloc HO1.out _) rfl (src_one_new _ _ _) ?c1 ?c2 ?c3 ?c4 ?_)
    case c1 => first | rfl | (intro u hu;simp at hu;subst hu;rfl)
    case c2 => unfold maxLen;simp
    case c3 => simp
    case c4 => have:=HBr1.out.size;simp;omega
    intro v' w4 hO hG
    have HO':=Lib.hid (show OwnS w4 w2.heap.size v' (([d7,d6,d5,d4,d3,d2,d1,d0]:List ByteArray).take 3) from hO)
    have HB':Hid (Below w2.heap.size w2 w4):=Lib.hid ((Below.alloc HBr1.out HBr1.out.size _).trans (hG.below (by have:=HBr1.out.size;simp;omega) (own_base HO1.out)))
    clear hO hG
    go_wp2
    exact ⟨⟨3,by decide,rfl,HO',HB'⟩,by simp [intOf]⟩
   ·go_wp2_with fail
    refine (H4.out _ HTr.out).mono ?_
    rintro e w' ⟨rfl,hb⟩
    have HO1:=Lib.hid (HO.out.later hb)
    have HBr1:=Lib.hid (HBr.out.trans (hb.mono HBr.out.size))
    clear hb HO HBr HTr
    go_wp2_with (at_builtin;refine wpList_app strE rfl (.tmp 37) (.tmp 40) rfl rfl (World.ownsRow.alloc HO1.out _) rfl (src_one_new _ _ _) ?c1 ?c2 ?c3 ?c4 ?_)
    case c1 => first | rfl | (intro u hu;simp at hu;subst hu;rfl)
    case c2 => unfold maxLen;simp
    case c3 => simp
    case c4 => have:=HBr1.out.size;simp;omega
    intro v' w4 hO hG
    have HO':=Lib.hid (show OwnS w4 w2.heap.size v' (([d7,d6,d5,d4,d3,d2,d1,d0]:List ByteArray).take 4) from hO)
    have HB':Hid (Below w2.heap.size w2 w4):=Lib.hid ((Below.alloc HBr1.out HBr1.out.size _).trans (hG.below (by have:=HBr1.out.size;simp;omega) (own_base HO1.out)))
    clear hO hG
    go_wp2
    exact ⟨⟨4,by decide,rfl,HO',HB'⟩,by simp [intOf]⟩
   ·go_wp2_with fail
    refine (H3.out _ HTr.out).mono ?_
    rintro e w' ⟨rfl,hb⟩
    have HO1:=Lib.hid (HO.out.later hb)
    have HBr1:=Lib.hid (HBr.out.trans (hb.mono HBr.out.size))
    clear hb HO HBr HTr
    go_wp2_with (at_builtin;refine wpList_app strE rfl (.tmp 37) (.tmp 40) rfl rfl (World.ownsRow.alloc HO1.out _) rfl (src_one_new _ _ _) ?c1 ?c2 ?c3 ?c4 ?_)
    case c1 => first | rfl | (intro u hu;simp at hu;subst hu;rfl)
    case c2 => unfold maxLen;simp
    case c3 => simp
    case c4 => have:=HBr1.out.size;simp;omega
    intro v' w4 hO hG
    have HO':=Lib.hid (show OwnS w4 w2.heap.size v' (([d7,d6,d5,d4,d3,d2,d1,d0]:List ByteArray).take 5) from hO)
    have HB':Hid (Below w2.heap.size w2 w4):=Lib.hid ((Below.alloc HBr1.out HBr1.out.size _).trans (hG.below (by have:=HBr1.out.size;simp;omega) (own_base HO1.out)))
    clear hO hG
    go_wp2
    exact ⟨⟨5,by decide,rfl,HO',HB'⟩,by simp [intOf]⟩
   ·go_wp2_with fail
    refine (H2.out _ HTr.out).mono ?_
    rintro e w' ⟨rfl,hb⟩
    have HO1:=Lib.hid (HO.out.later hb)
    have HBr1:=Lib.hid (HBr.out.trans (hb.mono HBr.out.size))
    clear hb HO HBr HTr
    go_wp2_with (at_builtin;refine wpList_app strE rfl (.tmp 37) (.tmp 40) rfl rfl (World.ownsRow.alloc HO1.out _) rfl (src_one_new _ _ _) ?c1 ?c2 ?c3 ?c4 ?_)
    case c1 => first | rfl | (intro u hu;simp at hu;subst hu;rfl)
    case c2 => unfold maxLen;simp
    case c3 => simp
    case c4 => have:=HBr1.out.size;simp;omega
    intro v' w4 hO hG
    have HO':=Lib.hid (show OwnS w4 w2.heap.size v' (([d7,d6,d5,d4,d3,d2,d1,d0]:List ByteArray).take 6) from hO)
    have HB':Hid (Below w2.heap.size w2 w4):=Lib.hid ((Below.alloc HBr1.out HBr1.out.size _).trans (hG.below (by have:=HBr1.out.size;simp;omega) (own_base HO1.out)))
    clear hO hG
    go_wp2
    exact ⟨⟨6,by decide,rfl,HO',HB'⟩,by simp [intOf]⟩
   ·go_wp2_with fail
    refine (H1.out _ HTr.out).mono ?_
    rintro e w' ⟨rfl,hb⟩
    have HO1:=Lib.hid (HO.out.later hb)
    have HBr1:=Lib.hid (HBr.out.trans (hb.mono HBr.out.size))
    clear hb HO HBr HTr
    go_wp2_with (at_builtin;refine wpList_app strE rfl (.tmp 37) (.tmp 40) rfl rfl (World.ownsRow.alloc HO1.out _) rfl (src_one_new _ _ _) ?c1 ?c2 ?c3 ?c4 ?_)
    case c1 => first | rfl | (intro u hu;simp at hu;subst hu;rfl)
    case c2 => unfold maxLen;simp
    case c3 => simp
    case c4 => have:=HBr1.out.size;simp;omega
    intro v' w4 hO hG
    have HO':=Lib.hid (show OwnS w4 w2.heap.size v' (([d7,d6,d5,d4,d3,d2,d1,d0]:List ByteArray).take 7) from hO)
    have HB':Hid (Below w2.heap.size w2 w4):=Lib.hid ((Below.alloc HBr1.out HBr1.out.size _).trans (hG.below (by have:=HBr1.out.size;simp;omega) (own_base HO1.out)))
    clear hO hG
    go_wp2
    exact ⟨⟨7,by decide,rfl,HO',HB'⟩,by simp [intOf]⟩
   ·go_wp2_with fail
    refine (H0.out _ HTr.out).mono ?_
    rintro e w' ⟨rfl,hb⟩
    have HO1:=Lib.hid (HO.out.later hb)
    have HBr1:=Lib.hid (HBr.out.trans (hb.mono HBr.out.size))
    clear hb HO HBr HTr
    go_wp2_with (at_builtin;refine wpList_app strE rfl (.tmp 37) (.tmp 40) rfl rfl (World.ownsRow.alloc HO1.out _) rfl (src_one_new _ _ _) ?c1 ?c2 ?c3 ?c4 ?_)
    case c1 => first | rfl | (intro u hu;simp at hu;subst hu;rfl)
    case c2 => unfold maxLen;simp
    case c3 => simp
    case c4 => have:=HBr1.out.size;simp;omega
    intro v' w4 hO hG
    have HO':=Lib.hid (show OwnS w4 w2.heap.size v' (([d7,d6,d5,d4,d3,d2,d1,d0]:List ByteArray).take 8) from hO)
    have HB':Hid (Below w2.heap.size w2 w4):=Lib.hid ((Below.alloc HBr1.out HBr1.out.size _).trans (hG.below (by have:=HBr1.out.size;simp;omega) (own_base HO1.out)))
    clear hO hG
    go_wp2
    exact ⟨⟨8,by decide,rfl,HO',HB'⟩,by simp [intOf]⟩
  ·obtain rfl:k=8:=by omega
   obtain ⟨g,c,hv,_,hg,hc,hcm,hcell⟩:=HO.out.one (by simp)
   have hv':u6=.slice (some ⟨g,0,none⟩) 8 c:=hv
   have hc':8≤c:=hc
   rw [show ([d7,d6,d5,d4,d3,d2,d1,d0]:List ByteArray).take 8=([d7,d6,d5,d4,d3,d2,d1,d0]:List ByteArray) from rfl] at hcell
   have hLn:([d7,d6,d5,d4,d3,d2,d1,d0]:List ByteArray).length=8:=rfl
   generalize ([d7,d6,d5,d4,d3,d2,d1,d0]:List ByteArray)=L at *
   have HG3:=Lib.hid (HG2.out.below HBr.out HG2.out.lt)
   have q0:=HG3.out.cell 0
   have q1:=HG3.out.cell 1
   have q2:=HG3.out.cell 2
   have q3:=HG3.out.cell 3
   have q4:=HG3.out.cell 4
   have q5:=HG3.out.cell 5
   have q6:=HG3.out.cell 6
   have q7:=HG3.out.cell 7
   simp at q0 q1 q2 q3 q4 q5 q6 q7
   have HCell:=Lib.hid hcell
   have HLn:=Lib.hid hLn
   clear hv hc hcell hLn HO
   subst hv'
   go_wp2_with fail
   refine (HZs.out _).mono ?_
   rintro e w5 ⟨rfl,hb⟩
   have hg5:g < w5.heap.size:=Nat.lt_of_lt_of_le hg hb.size
   have HCell5:Hid (∀ (j:Nat) x,L[j]?=some x→w5.cell? ⟨g,j,none⟩=some (.string x)):=Lib.hid fun j x hx => Later.cell_of (HCell.out j x hx) ⟨w5,hb⟩
   have HB5:=Lib.hid (HB2.out.trans ((HBr.out.trans (hb.mono HBr.out.size)).mono HB2.out.size))
   clear hb HBr HCell HG3 q0 q1 q2 q3 q4 q5 q6 q7 HZs
   by_cases hM:M < 2
   ·have hR:=HR.out
    rw [if_pos hM] at hR
    have HJ:=Lib.hid (joinAt_any g 0 c L 58 w5 HLs.out hg5 (by rw [HLn.out];exact hc') (fun j x hx => by rw [Nat.zero_add];exact HCell5.out j x hx))
    rw [HLn.out, ← hR] at HJ
    have hM2:(M:Int) < 2:=by omega
    clear hR HR
    go_wp2_with fail
    refine HJ.out.mono ?_
    rintro e w' ⟨rfl,hb⟩
    go_wp2_with fail
    go_ret
    exact ⟨rfl,HB5.out.trans (hb.mono HB5.out.size)⟩
   ·have hR:=HR.out
    rw [if_neg hM] at hR
    have hM2:¬ (M:Int) < 2:=by omega
    have HJ1:=Lib.hid fun wx (hb:Below w5.heap.size w5 wx) => joinAt_any g 0 c (L.take F) 58 wx (HLs.out.take F) (Nat.lt_of_lt_of_le hg5 hb.size) (by simp;omega) (fun j x hx => by
     rw [Nat.zero_add]
     rw [List.getElem?_take] at hx
     split at hx
     ·exact Later.cell_of (HCell5.out j x hx) ⟨wx,hb⟩
     ·cases hx)
    have HJ2:=Lib.hid fun wx (hb:Below w5.heap.size w5 wx) => joinAt_any g (if c=F + M then 0 else F + M) (c - (F + M)) (L.drop (F + M)) 58 wx (HLs.out.drop (F + M)) (Nat.lt_of_lt_of_le hg5 hb.size) (by rw [List.length_drop,HLn.out];omega) (fun j x hx => by
     rw [List.getElem?_drop] at hx
     have hlt:F + M + j < L.length:=(List.getElem?_eq_some_iff.1 hx).1
     rw [HLn.out] at hlt
     rw [if_neg (by omega)]
     exact Later.cell_of (HCell5.out _ x hx) ⟨wx,hb⟩)
    rw [show (L.take F).length=F by rw [List.length_take,HLn.out];omega] at HJ1
    rw [show (L.drop (F + M)).length=8 - (F + M) by rw [List.length_drop,HLn.out]] at HJ2
    have z1:=joinS_size (HLs.out.take F) 58
    have z2:=joinS_size (HLs.out.drop (F + M)) 58
    unfold gapS at hR
    generalize joinS (L.take F) ⟨#[58]⟩=J1 at *
    generalize joinS (L.drop (F + M)) ⟨#[58]⟩=J2 at *
    subst hR
    clear HR
    have hA1:=add_str J1 ⟨#[58,58]⟩ (by omega) (by decide)
    have hA2:=add_str (J1 ++ ⟨#[58,58]⟩) J2 (by rw [ByteArray.size_append];have:(⟨#[58,58]⟩:ByteArray).size=2:=rfl;omega) (by omega)
    have hJ1:=fun m:Later w5 => Calls.later m (HJ1.out m.1 m.2)
    have hJ2:=fun m:Later w5 => Calls.later m (HJ2.out m.1 m.2)
    have f1:(0:Int)≤(F:Int):=by omega
    have f2:(F:Int)≤(c:Int):=by omega
    have f3:(F:Int) + (M:Int)=((F + M:Nat):Int):=by omega
    have f4:F + M≤8:=hbd
    obtain ⟨D,hD⟩:∃ D,F + M=D:=⟨_,rfl⟩
    rw [hD] at hJ2 f3 f4
    have hs2:=fun W => slice_from g c D W f4 hc'
    obtain ⟨O,hO⟩:∃ O,(if c=D then 0 else D)=O:=⟨_,rfl⟩
    rw [hO] at hJ2 hs2
    clear hO hD
    have f5:(0:Int)≤(D:Int):=by omega
    have f6:(D:Int)≤8:=by omega
    go_upto_region 19 with fail
    refine wp_region_later (by kernel_rfl) (by kernel_rfl) ?_
    iterate 3 (go_big_quiet_step (fail))
    go_big_quiet_step ((go_at_call 99;exact hJ1 _))
    repeat (go_big_quiet_step (fail))
    go_big_quiet_step ((go_at_call 99;exact hJ2 _))
    repeat (go_big_quiet_step (fail))
    refine wpQuiet_nil ?_
    rintro w6 ⟨n6,hn6⟩
    have hb6:Below w5.heap.size w5 w6:=by rw [hn6];exact n6.2
    clear hn6 n6
    have HB6:=Lib.hid (HB5.out.trans (hb6.mono HB5.out.size))
    clear hb6
    go_wp2_with fail
    go_ret
    exact ⟨rfl,HB6.out⟩
open Go
def hit (z:Nat→Bool) (i n:Nat):Bool:=(List.range n).all fun j => z (i + j)
def rIn (z:Nat→Bool) (n:Nat):Nat→Nat→Option (Nat × Nat)
 | 0,_ => none
 | k + 1,i => if i + n≤8 then (if hit z i n=true then some (i,n) else rIn z n k (i + 1)) else none
def rOut (z:Nat→Bool):Nat→Option (Nat × Nat)
 | 0 => none
 | k + 1 => match rIn z (k + 2) 9 0 with
  | some x => some x
  | none => rOut z k
def tab8 (b0 b1 b2 b3 b4 b5 b6 b7:Bool) (j:Nat):Bool:=[b0,b1,b2,b3,b4,b5,b6,b7].getD j false
theorem run0_congr {z z':Nat→Bool} (h:∀ j,j < 8→z j=z' j):∀ k i,run0 z k i=run0 z' k i
 | 0,_ => rfl
 | k + 1,i => by
   unfold run0
   by_cases hi:i < 8
   ·rw [h i hi,run0_congr h k (i + 1)]
   ·rw [if_neg (fun e => hi e.1),if_neg (fun e => hi e.1)]
theorem zF_congr {z z':Nat→Bool} (h:∀ j,j < 8→z j=z' j):∀ k i f m,zF z k i f m=zF z' k i f m
 | 0,_,_,_ => rfl
 | k + 1,i,f,m => by
   unfold zF
   rw [run0_congr h 8 i]
   by_cases hi:i < 8
   ·rw [if_pos hi,if_pos hi,zF_congr h k]
   ·rw [if_neg hi,if_neg hi]
theorem hit_congr {z z':Nat→Bool} (h:∀ j,j < 8→z j=z' j) {i n:Nat} (hn:i + n≤8):hit z i n=hit z' i n:=by
 unfold hit
 rw [Bool.eq_iff_iff,List.all_eq_true,List.all_eq_true]
 constructor <;> intro h1 j hj <;> have h2:=h1 j hj <;> have h3:j < n:=List.mem_range.1 hj
 ·rw [← h (i + j) (by omega)];exact h2
 ·rw [h (i + j) (by omega)];exact h2
theorem rIn_congr {z z':Nat→Bool} (h:∀ j,j < 8→z j=z' j) (n:Nat):∀ k i,rIn z n k i=rIn z' n k i
 | 0,_ => rfl
 | k + 1,i => by
   unfold rIn
   by_cases hi:i + n≤8
   ·rw [if_pos hi,if_pos hi,hit_congr h hi,rIn_congr h n k (i + 1)]
   ·rw [if_neg hi,if_neg hi]
theorem rOut_congr {z z':Nat→Bool} (h:∀ j,j < 8→z j=z' j):∀ k,rOut z k=rOut z' k
 | 0 => rfl
 | k + 1 => by unfold rOut;rw [rIn_congr h,rOut_congr h k]
theorem search_tab:∀ b0 b1 b2 b3 b4 b5 b6 b7:Bool,rOut (tab8 b0 b1 b2 b3 b4 b5 b6 b7) 7=if (zF (tab8 b0 b1 b2 b3 b4 b5 b6 b7) 8 0 0 0).2 < 2 then none else some (zF (tab8 b0 b1 b2 b3 b4 b5 b6 b7) 8 0 0 0):=by decide +kernel
theorem search_eq (z:Nat→Bool):rOut z 7=if (zF z 8 0 0 0).2 < 2 then none else some (zF z 8 0 0 0):=by
 have h:∀ j,j < 8→z j=tab8 (z 0) (z 1) (z 2) (z 3) (z 4) (z 5) (z 6) (z 7) j:=fun j hj => by
  have:j=0 ∨ j=1 ∨ j=2 ∨ j=3 ∨ j=4 ∨ j=5 ∨ j=6 ∨ j=7:=by omega
  rcases this with rfl | rfl | rfl | rfl | rfl | rfl | rfl | rfl <;> rfl
 rw [rOut_congr h,zF_congr h]
 exact search_tab _ _ _ _ _ _ _ _
theorem sixT_search (g:Nat→Nat):sixT g=match rOut (zB g) 7 with
  | none => joinS (sixL g) ⟨#[58]⟩
  | some x => gapS (sixL g) x.1 x.2:=by
 rw [search_eq]
 unfold sixT
 split <;> rfl
theorem hexS_zero (n:Nat) (h:n < 65536):(hexS n=⟨#[48]⟩) ↔ n=0:=by
 constructor
 ·intro e
  unfold hexS hexL at e
  by_cases h1:n < 16
  ·rw [if_pos h1] at e
   have:∀ k,k < 16→(⟨[dH k].toArray⟩:ByteArray)=⟨#[48]⟩→k=0:=by decide +kernel
   exact this n h1 e
  ·rw [if_neg h1] at e
   have hl:=congrArg (fun b:ByteArray => b.data.size) e
   split at hl
   ·simp at hl
   ·split at hl <;> simp at hl
 ·rintro rfl
  decide +kernel
theorem notZero_any (s:ByteArray) (w:World):Calls Tryz.prog 161 #[.string s] w fun e w' => e=.returned (.bool (decide (s ≠ ⟨#[48]⟩)))∧w'=w:=by
 by_cases h:s=⟨#[48]⟩
 ·have e:decide (s ≠ ⟨#[48]⟩)=false:=decide_eq_false (fun h2 => h2 h)
  rw [e]
  subst h
  go_enter Tryz.func161,Tryz.ntmps161
  go_wp2
  go_ret
  exact ⟨rfl,rfl⟩
 ·have e:decide (s ≠ ⟨#[48]⟩)=true:=decide_eq_true h
  have h3:¬ s.toList=[48]:=fun h2 => h (by
   rw [Lib.toList_data] at h2
   apply ByteArray.ext
   apply Array.toList_inj.1
   rw [h2])
  rw [e]
  go_enter Tryz.func161,Tryz.ntmps161
  go_wp2
  go_ret
  exact ⟨by first | rfl | simp [h3] | simp [h],rfl⟩
theorem indexFunc_any (g o c:Nat) (L:List ByteArray) (w:World) (hn:L.length≤8) (hcells:∀ (j:Nat) x,L[j]?=some x→w.cell? ⟨g,o + j,none⟩=some (.string x)) :
  Calls Tryz.prog 212 #[.slice (some ⟨g,o,none⟩) L.length c, .func (.func 161) #[] #[]] w fun e w' => ∃ k:Int,e=.returned (.int .i64 k)∧(0≤k ↔ ∃ x ∈ L,x ≠ ⟨#[48]⟩)∧w'=w:=by
 have HC:=Lib.hid hcells
 have HN:=Lib.hid fun s wx => notZero_any s wx
 obtain ⟨n,hnn⟩:∃ n,L.length=n:=⟨_,rfl⟩
 have HL:=Lib.hid hnn
 rw [hnn] at hn ⊢
 clear hcells hnn
 go_enter Tryz.func212,Tryz.ntmps212
 go_wp2_with fail
 go_loopw [5,8] (fun s i wr => ∃ k:Nat,k≤n∧i=.int .i64 (k:Int)∧Hid (∀ j x,j < k→L[j]?=some x→x=⟨#[48]⟩)∧wr=w) (fun _ i _ => n - (intOf i).toNat)
 case atStart => exact ⟨0,Nat.zero_le _,rfl,Lib.hid fun j x h => absurd h (Nat.not_lt_zero _),rfl⟩
 case round =>
  obtain ⟨k,hk,rfl,HZ,rfl⟩:=hrel
  by_cases hlt:k < n
  ·obtain ⟨x,hx⟩:∃ x,L[k]?=some x:=⟨L[k]'(by rw [HL.out];exact hlt),List.getElem?_eq_getElem _⟩
   have p:=HC.out k x hx
   have HX:=Lib.hid hx
   clear hx
   go_wp2_with fail
   refine (HN.out x _).mono ?_
   rintro e w' ⟨rfl,rfl⟩
   by_cases hxz:x=⟨#[48]⟩
   ·have e:decide (x ≠ ⟨#[48]⟩)=false:=decide_eq_false (fun h2 => h2 hxz)
    have HZ2:Hid (∀ j y,j < k + 1→L[j]?=some y→y=⟨#[48]⟩):=Lib.hid fun j y hj hy => by
     rcases Nat.lt_or_ge j k with h | h
     ·exact HZ.out j y h hy
     ·obtain rfl:j=k:=by omega
      have h2:=HX.out.symm.trans hy
      injection h2 with h2
      rw [← h2];exact hxz
    rw [e]
    clear hxz e HX p
    go_wp2_with fail
    exact ⟨⟨k + 1,by omega,by go_num,HZ2,by first | rfl | trivial⟩,by simp [intOf];omega⟩
   ·have e:decide (x ≠ ⟨#[48]⟩)=true:=decide_eq_true hxz
    rw [e]
    have HM:Hid (∃ y ∈ L,y ≠ ⟨#[48]⟩):=Lib.hid ⟨x,List.mem_of_getElem? HX.out,hxz⟩
    clear hxz e HX p
    go_wp2_with fail
    go_ret
    exact ⟨(k:Int),rfl,⟨fun _ => HM.out,fun _ => by omega⟩,rfl⟩
  ·obtain rfl:k=n:=by omega
   have HM:Hid (¬ ∃ y ∈ L,y ≠ ⟨#[48]⟩):=Lib.hid fun ⟨y,hy,hne⟩ => by
    obtain ⟨j,hj,hjy⟩:=List.getElem_of_mem hy
    exact hne (HZ.out j y (by rw [← HL.out];exact hj) (by rw [List.getElem?_eq_getElem hj,hjy]))
   go_wp2_with fail
   go_ret
   exact ⟨-1,rfl,⟨fun h => absurd h (by decide),fun h => absurd h HM.out⟩,rfl⟩
theorem containsFunc_any (g o n c:Nat) (L:List ByteArray) (z:Bool) (w:World) (hL:L.length=n) (hn:n≤8) (hcells:∀ (j:Nat) x,L[j]?=some x→w.cell? ⟨g,o + j,none⟩=some (.string x)) (hz:z=true ↔ ∀ x ∈ L,x=⟨#[48]⟩) :
  Calls Tryz.prog 160 #[.slice (some ⟨g,o,none⟩) n c, .func (.func 161) #[] #[]] w fun e w' => e=.returned (.bool (!z))∧w'=w:=by
 have H:=Lib.hid (indexFunc_any g o c L w (by omega) hcells)
 rw [hL] at H
 have Hz:=Lib.hid hz
 clear hz hcells hL
 go_enter Tryz.func160,Tryz.ntmps160
 go_wp2_with fail
 refine H.out.mono ?_
 rintro e w' ⟨k,rfl,hk,rfl⟩
 have hkz:z=true ↔ ¬ 0≤k:=by
  rw [Hz.out,hk]
  constructor
  ·rintro h ⟨x,hx,hne⟩;exact hne (h x hx)
  ·intro h x hx
   by_cases e:x=⟨#[48]⟩
   ·exact e
   ·exact absurd ⟨x,hx,e⟩ h
 clear hk Hz H
 cases z
 ·have h0:0≤k:=by
   rcases Int.lt_or_le k 0 with h | h
   ·exact absurd (hkz.2 (by omega)) (by decide)
   ·exact h
  clear hkz
  go_wp2_with fail
  go_ret
  exact ⟨rfl,rfl⟩
 ·have h0:¬ 0≤k:=hkz.1 rfl
  clear hkz
  go_wp2_with fail
  go_ret
  have e:decide (0≤k)=false:=decide_eq_false (by omega)
  exact ⟨by rw [e];rfl,rfl⟩
end Go.Proofs.YtgkhcdjoilgfmaaGreatDoor
