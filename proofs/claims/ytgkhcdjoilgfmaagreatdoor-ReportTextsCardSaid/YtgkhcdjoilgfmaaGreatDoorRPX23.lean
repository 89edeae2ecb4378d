/-
  Lines of the reference, with any taker of lines that keeps what it reads behind a pointer.
  A line of a row, as the program and the reference read it. Condition: at most two hundred thousand bytes.
  A line of a row, as the reference reads it. Condition: at most two hundred thousand bytes.
  kit.Lines and ReadSet, of the program. Condition: at most a million bytes.
  Rows read: filter.Read, the reference's RowsRead. Condition: the variables that the functions read.
  flow.Read. Condition: at most a million bytes.
  The fault of a list of reports: the reference.
  laneref2.ReportsRead. Condition: at most a million bytes.
-/
import Derived.Test.YtgkhcdjoilgfmaaGreatDoorRPX12
import Derived.Test.YtgkhcdjoilgfmaaGreatDoorRPX19
import Derived.Test.YtgkhcdjoilgfmaaGreatDoorRPX11
import Derived.Test.YtgkhcdjoilgfmaaGreatDoorRPX7
import Derived.Test.YtgkhcdjoilgfmaaGreatDoorRPX21
import Derived.Test.YtgkhcdjoilgfmaaGreatDoorRPX22
import Derived.Test.YtgkhcdjoilgfmaaGreatDoorRPX17
import Derived.Test.YtgkhcdjoilgfmaaGreatDoorRPX16
set_option linter.unusedVariables false
set_option maxRecDepth 100000
set_option maxHeartbeats 8000000
namespace Go.Proofs.YtgkhcdjoilgfmaaGreatDoor
open Go.RowKit Go Go.Sort
theorem qLinesG {α:Type} (f:List UInt8→Option α) (g bx:Nat) (I:World→List α→Prop) (s:List UInt8) (w0 w:World) (hbx:w0.heap.size=bx) (hv:Vr w0) (hb:Below bx w0 w) (hlt:bx < w.heap.size) (hI:I w []) (hs:s.length≤200000)
  (eg:∀ args w,(callFunc g args).run Tryz.prog w=.ok (.enter g args) w)
  (hK:∀ acc u v,I u acc→Below u.heap.size u v→I v acc) (hp:∀ x p,f x=some p→1≤x.length)
  (hC:∀ acc x u,acc.length≤1000000→x.length≤200000→Vr u→bx < u.heap.size→I u acc→Calls Tryz.prog g #[.string (strL x), .pointer (some ⟨bx,0,none⟩)] u fun e u' => e=.returned (.bool (f x).isSome)∧(∀ p,f x=some p→I u' (acc ++ [p]))∧Below bx u u'∧bx < u'.heap.size) :
  Calls Tryz.prog 107 #[.string (strL s), .func (.func g) #[] #[.pointer (some ⟨bx,0,none⟩)]] w fun e w' => ∃ (i:Nat) (ok:Bool) (L:List α),e=.returned (.tuple #[.int .i64 (i:Int), .bool ok])∧Below bx w0 w'∧bx < w'.heap.size∧(ok=false→rdG f 0 (spl 10 s) []=.inl i)∧(ok=true→rdG f 0 (spl 10 s) []=.inr L∧I w' L∧L.length≤100000):=by
 have HV0:=Lib.hid hv
 have HW0:=Lib.hid hb
 have HI0:=Lib.hid hI
 have HL0:=Lib.hid hlt
 have Hbx:=Lib.hid hbx
 have HK:=Lib.hid hK
 have HPp:=Lib.hid hp
 have HCl:=Lib.hid hC
 obtain ⟨R,hR⟩:∃ q,rdG f 0 (spl 10 s) []=q:=⟨_,rfl⟩
 have HR:=Lib.hid hR
 rw [hR]
 obtain ⟨SS,hSS⟩:∃ q,strL s=q:=⟨_,rfl⟩
 have HSS:=Lib.hid hSS
 rw [hSS]
 clear hv hb hI hbx hR hSS hK hp hC hlt
 go_enter Tryz.func107,Tryz.ntmps107
 go_wp2_with fail
 go_loopw [0,6,7,8,9] (fun sr i s7 s8 s9 wr => ∃ (k:Nat) (r:List UInt8) (acc:List α),i=.int .i64 (k:Int)∧sr=.string (strL r)∧r.length + 2 * k≤s.length∧Hid (rdG f k (spl 10 r) acc=R)∧Hid (acc.length=k)∧Hid (I wr acc)∧Hid (Below bx w0 wr)∧Hid (bx < wr.heap.size)) (fun _ i _ _ _ _ => s.length - (intOf i).toNat)
 case atStart => exact ⟨0,s, [],rfl,by rw [HSS.out],Nat.le_refl _,HR,Lib.hid rfl,HI0,HW0,HL0⟩
 case round =>
  clear HW0 HI0 HR HL0
  obtain ⟨k,r,acc,rfl,rfl,hlen,HA,HAl,HO,HW,HLt⟩:=hrel
  have HV:Hid (Vr wr):=Lib.hid (HV0.out.below (by rw [Hbx.out];exact HW.out))
  have hse:=strL_list r
  have hrl:r.length≤1000000:=by omega
  have HC:Hid (∀ wx,Vr wx→Calls Tryz.prog 166 #[.string (strL r), .string ⟨#[10]⟩] wx (Ret (.tuple #[.string (strL (Lib.cut r [10]).1), .string (strL (Lib.cut r [10]).2.1), .bool (Lib.cut r [10]).2.2]) wx)):=Lib.hid fun wx hv => cut_any r [10] wx hv hrl
  have hcs:=cut_spl r 10
  by_cases h0:r=[]
  ·have hem:r.isEmpty=true:=by rw [h0];rfl
   have HE:Hid (R=.inr acc):=Lib.hid (by rw [← HA.out,h0];exact rdG_last _ _ _)
   clear hcs HC
   obtain ⟨SR,hSR⟩:∃ q,strL r=q:=⟨_,rfl⟩
   rw [hSR] at hse ⊢
   clear hSR
   go_wp2_with fail
   go_ret2
   exact ⟨0,true,acc,rfl,HW.out,HLt.out,fun h => (by cases h),fun _ => ⟨HE.out,HO.out,by rw [HAl.out];omega⟩⟩
  ·have hem:r.isEmpty=false:=by cases r with
    | nil => exact absurd rfl h0
    | cons _ _ => rfl
   rcases hcs with ⟨-,hcut,hspl⟩ | ⟨l,r2,hr,hcut,hspl⟩
   ·rw [hcut] at HC
    have HE:Hid (R=.inl k):=Lib.hid (by rw [← HA.out,hspl];exact rdG_open h0)
    have HCx:=Lib.hid (HC.out _ HV.out)
    simp only at HCx
    clear hcut hspl HC
    obtain ⟨SR,hSR⟩:∃ q,strL r=q:=⟨_,rfl⟩
    rw [hSR] at hse HCx ⊢
    clear hSR
    obtain ⟨SE,hSE⟩:∃ q,strL []=q:=⟨_,rfl⟩
    rw [hSE] at HCx
    clear hSE
    go_wp2_with fail
    refine HCx.out.mono ?_
    rintro e w3 ⟨rfl,hb⟩
    have HW3:=Lib.hid (HW.out.trans (hb.mono (Nat.le_of_lt HLt.out)))
    have HLt3:Hid (bx < w3.heap.size):=Lib.hid (Nat.lt_of_lt_of_le HLt.out hb.size)
    clear hb HCx
    go_wp2_with fail
    go_ret2
    exact ⟨k,false,acc,rfl,HW3.out,HLt3.out,fun _ => HE.out,fun h => (by cases h)⟩
   ·rw [hcut] at HC
    have HCx:=Lib.hid (HC.out _ HV.out)
    simp only at HCx
    have hll:l.length + r2.length + 1=r.length:=by rw [hr,List.length_append,List.length_cons];omega
    have hkl:acc.length≤1000000:=by rw [HAl.out];omega
    have HSr:=Lib.hid fun wx (h1:I wx acc) (h2:bx < wx.heap.size) (h3:Vr wx) => HCl.out acc l wx hkl (by omega) h3 h2 h1
    have HN:Hid (f l=none→R=.inl k):=Lib.hid fun h => by rw [← HA.out,hspl];exact rdG_bad (spl_ne _ _) h
    have HY:Hid (∀ p,f l=some p→rdG f (k + 1) (spl 10 r2) (acc ++ [p])=R):=Lib.hid fun p h => by rw [← HA.out,hspl];exact (rdG_good (spl_ne _ _) h).symm
    have HPs:Hid (∀ p,f l=some p→1≤l.length):=Lib.hid fun p h => HPp.out l p h
    clear hcut hspl HC HA hr hkl
    obtain ⟨SR,hSR⟩:∃ q,strL r=q:=⟨_,rfl⟩
    rw [hSR] at hse HCx ⊢
    clear hSR
    obtain ⟨SLl,hSL⟩:∃ q,strL l=q:=⟨_,rfl⟩
    rw [hSL] at HCx HSr
    clear hSL
    go_wp2_with fail
    refine HCx.out.mono ?_
    rintro e w3 ⟨rfl,hb⟩
    have HO3:=Lib.hid (HK.out acc _ _ HO.out hb)
    have HW3:=Lib.hid (HW.out.trans (hb.mono (Nat.le_of_lt HLt.out)))
    have HLt3:Hid (bx < w3.heap.size):=Lib.hid (Nat.lt_of_lt_of_le HLt.out hb.size)
    have HV3:Hid (Vr w3):=Lib.hid (HV0.out.below (by rw [Hbx.out];exact HW3.out))
    have HSx:=Lib.hid (HSr.out w3 HO3.out HLt3.out HV3.out)
    clear hb HCx HO HW HV HSr HV3 HLt
    go_wp2_with fail
    refine HSx.out.mono ?_
    rintro e w4 ⟨rfl,hI4,hb4,hlt4⟩
    have HI4:=Lib.hid hI4
    have HW4:=Lib.hid (HW3.out.trans hb4)
    have HLt4:=Lib.hid hlt4
    clear hI4 hb4 hlt4 HSx HO3 HW3 HLt3
    cases hp:f l with
    | none =>
      have HE:=Lib.hid (HN.out hp)
      clear HN HY HPs HI4 hp
      simp only [Option.isSome_none]
      go_wp2_with fail
      go_ret2
      exact ⟨k,false,acc,rfl,HW4.out,HLt4.out,fun _ => HE.out,fun h => (by cases h)⟩
    | some p =>
      have HI5:=Lib.hid (HI4.out p hp)
      have HE:=Lib.hid (HY.out _ hp)
      have hl1:=HPs.out _ hp
      clear HN HY HPs HI4 hp
      simp only [Option.isSome_some]
      go_wp2_with fail
      exact ⟨⟨k + 1,r2,acc ++ [p],by go_num,rfl,by omega,HE,Lib.hid (by rw [List.length_append,HAl.out];rfl),HI5,HW4,HLt4⟩,by simp [intOf];omega⟩
theorem kLines_any (s:List UInt8) (w:World) (hv:Vr w) (hs:s.length≤1000000) :
  Calls Tryz.prog 105 #[.string (strL s)] w fun e w' => ∃ g m l cl M,(spl 10 s).length=m + 1∧(spl 10 s)[m]?=some l∧(cl=true→M=m∧l=[])∧(cl=false→M=m + 1∧l ≠ [])∧e=.returned (.tuple #[.slice (some ⟨g,0,none⟩) M (m + 1), .bool cl])∧RdS w' g (spl 10 s)∧Below w.heap.size w w':=by
 have HSp:=Lib.hid (split_any s 10 w hv hs)
 have hnl:(spl 10 s).length≤1000001:=by
  rw [spl_len]
  have:=List.count_le_length (a:=(10:UInt8)) (l:=s)
  omega
 have hne:=spl_ne 10 s
 generalize spl 10 s=A at *
 obtain ⟨m,hm⟩:∃ m,A.length=m + 1:=⟨A.length - 1,by have:=List.length_pos_iff.2 hne;omega⟩
 obtain ⟨l,hl⟩:∃ l,A[m]?=some l:=⟨_,List.getElem?_eq_getElem (by omega)⟩
 rw [hm] at HSp hnl
 have Hm:=Lib.hid hm
 have Hl:=Lib.hid hl
 generalize strL s=SS at *
 clear hm hl hne hv hs
 go_enter Tryz.func105,Tryz.ntmps105
 go_wp2_with fail
 refine HSp.out.mono ?_
 rintro e w1 ⟨g,rfl,hr,hb⟩
 have HR1:=Lib.hid hr
 have HB1:=Lib.hid hb
 have hc:=hr.2 m l Hl.out
 have hse:=strL_list l
 obtain ⟨SX,hSX⟩:∃ q,strL l=q:=⟨_,rfl⟩
 rw [hSX] at hc hse
 clear hSX hr hb HSp
 have hmi:(m:Int) + 1 - 1=(m:Int):=by omega
 by_cases h0:l=[]
 ·have hem:l.isEmpty=true:=by rw [h0];rfl
  go_wp2_with fail
  go_ret2
  exact ⟨g,m,l,true,m,Hm.out,Hl.out,fun _ => ⟨rfl,h0⟩,fun h => (by cases h),rfl,HR1.out,HB1.out⟩
 ·have hem:l.isEmpty=false:=by cases l with
   | nil => exact absurd rfl h0
   | cons _ _ => rfl
  go_wp2_with fail
  go_ret2
  exact ⟨g,m,l,false,m + 1,Hm.out,Hl.out,fun h => (by cases h),fun _ => ⟨rfl,h0⟩,rfl,HR1.out,HB1.out⟩
def rvG {α:Type} (chk:List α→Int):Sum Nat (List α)→List α × Int × Int
 | .inl i => ([],(i:Int),9)
 | .inr L => if chk L=0 then (L,0,0) else ([],0,chk L)
theorem rsG_eq {α:Type} (f:List UInt8→Option α) (chk:List α→Int) (s:List UInt8):rsG f chk s=if 200000 < s.length then ([],0,2) else rvG chk (rdG f 0 (spl 10 s) []):=by
 unfold rsG
 split
 ·rfl
 ·cases rdG f 0 (spl 10 s) [] <;> rfl
theorem wRead_any (s:List UInt8) (w:World) (hv:Vr w) (hs:s.length≤1000000) :
  Calls Tryz.prog 34 #[.string (strL s)] w fun e w' => ∃ v L i f,rsG repP repF s=(L,i,f)∧e=.returned (.tuple #[v, .int .i64 i, .int .i64 f])∧OwnK layRb w' w.heap.size v L∧Below w.heap.size w w':=by
 have HLi:=Lib.hid (kLines_any s w hv hs)
 have HV0:=Lib.hid hv
 have hsz:(strL s).size=s.length:=strL_size s
 have hxs:∀ x ∈ spl 10 s,x.length≤s.length:=fun x h => (spl_mem 10 s x h).2.2
 have Hxs:=Lib.hid hxs
 have HSm:=Lib.hid (spl_sum 10 s)
 obtain ⟨sl,hsl⟩:∃ q,s.length=q:=⟨_,rfl⟩
 have HR0:Hid (rsG repP repF s=if 200000 < sl then ([],0,2) else rvG repF (rdG repP 0 (spl 10 s) [])):=Lib.hid (by rw [← hsl];exact rsG_eq _ _ _)
 rw [hsl] at hsz HSm hs Hxs
 generalize rsG repP repF s=RR at *
 generalize spl 10 s=A at *
 obtain ⟨SS,hSS⟩:∃ q,strL s=q:=⟨_,rfl⟩
 rw [hSS] at HLi hsz ⊢
 clear hSS hsl hv hxs
 go_enter Tryz.func34,Tryz.ntmps34
 by_cases hbig:200000 < sl
 ·have hR:=HR0.out
  rw [if_pos hbig] at hR
  subst hR
  clear HR0 HLi HSm
  have hbi:(200000:Int) < (sl:Int):=by omega
  go_wp2_with fail
  go_ret3
  exact ⟨.slice none 0 0, [],0,2,rfl,rfl,(World.ownsRow_nil _ _ _ _),Below.refl _ _⟩
 ·have hR:=HR0.out
  rw [if_neg hbig] at hR
  have HR:=Lib.hid hR
  have hbi:¬ (200000:Int) < (sl:Int):=by omega
  have hbi2:¬ (sl:Int) > 200000:=by omega
  clear HR0 hR
  go_wp2_with fail
  refine HLi.out.mono ?_
  rintro e w1 ⟨g,m,l,cl,M,hm,hl,hct,hcf,rfl,hr,hb⟩
  have HR1:=Lib.hid hr
  have HB1:=Lib.hid hb
  have HV1:=Lib.hid (HV0.out.below hb)
  have Hm:=Lib.hid hm
  have Hl:=Lib.hid hl
  have Hct:=Lib.hid hct
  have Hcf:=Lib.hid hcf
  have hMm:M≤m + 1:=by
   cases cl
   ·have:=(hcf rfl).1;omega
   ·have:=(hct rfl).1;omega
  have hml:m≤1000000:=by
   have h1:=HSm.out
   have key:∀ B:List (List UInt8),B.length≤sumL B:=fun B => by
    induction B with
    | nil => exact Nat.le_refl _
    | cons x B ih => rw [sumL_cons,List.length_cons];omega
   have h2:=key A
   omega
  clear hr hb HLi HV0 hm hl hct hcf hbi hbi2
  go_wp2_with fail
  go_loopw [7,8,9,10,11,23] (fun ov s8 s9 s10 s11 i wr => ∃ (k:Nat) (acc:List RB),k≤M∧k≤m∧i=.int .i64 (k:Int)∧Hid (OwnK layRb wr w1.heap.size ov acc)∧Hid (acc.length=k)∧Hid (RR=rvG repF (rdG repP k (A.drop k) acc))∧Hid (∀ r ∈ acc,True)∧Hid (2 * k + sumL (A.drop k)≤sl + 1)∧Hid (Below w1.heap.size w1 wr)) (fun _ _ _ _ _ i _ => M - (intOf i).toNat)
  case atStart => exact ⟨0, [],Nat.zero_le _,Nat.zero_le _,rfl,Lib.hid ((World.ownsRow_nil _ _ _ _)),Lib.hid rfl,HR,Lib.hid (fun p hp => by cases hp),Lib.hid (by rw [List.drop_zero,HSm.out];omega),Lib.hid (Below.refl _ _)⟩
  case round =>
   clear HR HSm
   obtain ⟨k,acc,hkM,hkm,rfl,HO,HAl,HA,HU,HS,HB⟩:=hrel
   have HRx:=Lib.hid (HR1.out.below HB.out)
   have HV:=Lib.hid (HV1.out.below HB.out)
   by_cases hlt:k < M
   ·obtain ⟨x,hx⟩:∃ x,A[k]?=some x:=⟨_,List.getElem?_eq_getElem (by rw [Hm.out];omega)⟩
    have Hx:=Lib.hid hx
    have hc:=HRx.out.2 k x hx
    have hgl:=HRx.out.1
    have hxl:x.length≤200000:=by have:=Hxs.out x (List.mem_of_getElem? hx);omega
    have HPa:=Lib.hid fun wx (hv:Vr wx) => readRb_any x wx hv hxl
    have HPs:Hid (∀ p,repP x=some p→1≤x.length):=Lib.hid fun p h => repP_pos h
    have HSd:=Lib.hid (sumL_drop hx)
    obtain ⟨SX,hSX⟩:∃ q,strL x=q:=⟨_,rfl⟩
    rw [hSX] at hc HPa
    clear hx hSX
    go_upto_region 8 with fail
    have HPx:=Lib.hid (HPa.out _ HV.out)
    clear HPa hc hgl HRx HV
    go_wp2_with fail
    refine HPx.out.mono ?_
    rintro e w3 ⟨⟨nd,hr,ou,⟨p,s1,h1,l1,s2,h2,l2,fp,tp⟩,pk,sz⟩,rfl,hpr,hb⟩
    have HPr:=Lib.hid hpr
    have HB3:=Lib.hid (HB.out.trans (hb.mono HB.out.size))
    have HO3:=Lib.hid (HO.out.later hb)
    clear hb hpr HB HPx HO
    have HP4:Hid (Blk (w3.alloc (.cells #[.string nd, .int .i64 hr, .bool ou, .int .i64 p, .bool s1, .int .u64 h1, .int .u64 l1, .bool s2, .int .u64 h2, .int .u64 l2, .int .i64 fp, .int .i64 tp, .int .i64 pk, .int .i64 sz] 74 (0,0))) w3.heap.size 74 #[.string nd, .int .i64 hr, .bool ou, .int .i64 p, .bool s1, .int .u64 h1, .int .u64 l1, .bool s2, .int .u64 h2, .int .u64 l2, .int .i64 fp, .int .i64 tp, .int .i64 pk, .int .i64 sz]):=Lib.hid (Blk.new w3 _ _)
    have HB4:Hid (Below w1.heap.size w1 (w3.alloc (.cells #[.string nd, .int .i64 hr, .bool ou, .int .i64 p, .bool s1, .int .u64 h1, .int .u64 l1, .bool s2, .int .u64 h2, .int .u64 l2, .int .i64 fp, .int .i64 tp, .int .i64 pk, .int .i64 sz] 74 (0,0)))):=Lib.hid (Below.alloc HB3.out HB3.out.size _)
    have HO4:Hid (OwnK layRb (w3.alloc (.cells #[.string nd, .int .i64 hr, .bool ou, .int .i64 p, .bool s1, .int .u64 h1, .int .u64 l1, .bool s2, .int .u64 h2, .int .u64 l2, .int .i64 fp, .int .i64 tp, .int .i64 pk, .int .i64 sz] 74 (0,0))) w1.heap.size u7 acc):=Lib.hid (HO3.out.later (below_alloc (Below.refl _ _) _))
    have HPr4:Hid (∀ y:RB,repP x=some y→(y.1=⟨nd,hr,ou,⟨p,s1,h1,l1,s2,h2,l2,fp,tp⟩,pk,sz⟩)∧True):=Lib.hid fun y h => ⟨(HPr.out y h).symm,trivial⟩
    clear HB3 HO3 HPr
    rw [show (rpC ⟨nd,hr,ou,⟨p,s1,h1,l1,s2,h2,l2,fp,tp⟩,pk,sz⟩).toArray=#[.string nd, .int .i64 hr, .bool ou, .int .i64 p, .bool s1, .int .u64 h1, .int .u64 l1, .bool s2, .int .u64 h2, .int .u64 l2, .int .i64 fp, .int .i64 tp, .int .i64 pk, .int .i64 sz] from rfl]
    go_upto_region 9 with fail
    generalize w3.alloc (.cells #[.string nd, .int .i64 hr, .bool ou, .int .i64 p, .bool s1, .int .u64 h1, .int .u64 l1, .bool s2, .int .u64 h2, .int .u64 l2, .int .i64 fp, .int .i64 tp, .int .i64 pk, .int .i64 sz] 74 (0,0))=w4 at *
    generalize w3.heap.size=bx at *
    cases hPX:repP x with
    | none =>
      have HpN:Hid (repP x=none):=Lib.hid hPX
      simp only [Option.isSome_none]
      have HEnd:Hid (RR=([],(k:Int),9)):=Lib.hid (by
       rw [HA.out]
       by_cases hkm2:k < m
       ·rw [rdG_step Hm.out hkm2 Hx.out,HpN.out];rfl
       ·have e:k=m:=by omega
        subst e
        have hcf:cl=false:=by
         cases cl
         ·rfl
         ·have:=(Hct.out rfl).1;omega
        have hl0:=(Hcf.out hcf).2
        rw [rdG_end Hm.out Hl.out,if_neg hl0];rfl)
      have hMc:(cl=true∧M=m) ∨ (cl=false∧M=m + 1):=by
       cases cl
       ·exact .inr ⟨rfl,(Hcf.out rfl).1⟩
       ·exact .inl ⟨rfl,(Hct.out rfl).1⟩
      clear HA HpN HPs HSd HS HU HAl Hct Hcf Hl Hx HO4 HPr4 hPX
      go_wp2_with fail
      go_ret3
      exact ⟨.slice none 0 0, [],(k:Int),9,HEnd.out,rfl,(World.ownsRow_nil _ _ _ _),HB1.out.trans (HB4.out.mono HB1.out.size)⟩
    | some r =>
      have HpS:Hid (repP x=some r):=Lib.hid hPX
      have HUy:Hid True:=Lib.hid ((HPr4.out r hPX).2)
      have HFl:Hid (layRb.enc r=#[.string nd, .int .i64 hr, .bool ou, .int .i64 p, .bool s1, .int .u64 h1, .int .u64 l1, .bool s2, .int .u64 h2, .int .u64 l2, .int .i64 fp, .int .i64 tp, .int .i64 pk, .int .i64 sz].toList):=Lib.hid (by have h:=(HPr4.out r hPX).1;show rpC r.1=_;rw [h];rfl)
      have HPy:=Lib.hid (HPs.out _ hPX)
      simp only [Option.isSome_some]
      clear HPs HPr4 hPX
      have hcase:(cl=false∧k=m) ∨ (k < m):=by
       rcases Nat.lt_or_ge k m with h | h
       ·exact .inr h
       ·left
        refine ⟨?_,by omega⟩
        cases cl
        ·rfl
        ·have:=(Hct.out rfl).1;omega
      have hMc:(cl=true∧M=m) ∨ (cl=false∧M=m + 1):=by
       cases cl
       ·exact .inr ⟨rfl,(Hcf.out rfl).1⟩
       ·exact .inl ⟨rfl,(Hct.out rfl).1⟩
      rcases hcase with ⟨rfl,rfl⟩ | hkm2
      ·have hl0:=(Hcf.out rfl).2
       have hM:=(Hcf.out rfl).1
       have HEnd:Hid (RR=([],(k:Int),9)):=Lib.hid (by rw [HA.out,rdG_end Hm.out Hl.out,if_neg hl0];rfl)
       subst hM
       clear HA HSd HS HU HAl Hct Hcf Hl Hx HO4 HUy HPy hMc HFl
       have hk1:((k:Int)=(k:Int) + 1 - 1)=True:=eq_true (by omega)
       have hk2:(k:Int) + 1 - 1=(k:Int):=by omega
       go_wp2_with fail
       go_ret3
       exact ⟨.slice none 0 0, [],(k:Int),9,HEnd.out,rfl,(World.ownsRow_nil _ _ _ _),HB1.out.trans (HB4.out.mono HB1.out.size)⟩
      ·have HA2:Hid (RR=rvG repF (rdG repP (k + 1) (A.drop (k + 1)) (acc ++ [r]))):=Lib.hid (by rw [HA.out,rdG_step Hm.out hkm2 Hx.out,HpS.out])
       have HU2:Hid (∀ r2 ∈ acc ++ [r],True):=Lib.hid (fun _ _ => trivial)
       have HS2:Hid (2 * (k + 1) + sumL (A.drop (k + 1))≤sl + 1):=Lib.hid (by have h1:=HS.out;have h2:=HSd.out;have h3:=HPy.out;omega)
       clear HA HSd HS HU Hct Hcf Hl Hx HUy HPy
       have d0:=HP4.out.cell 0
       have d1:=HP4.out.cell 1
       have d2:=HP4.out.cell 2
       have d3:=HP4.out.cell 3
       have d4:=HP4.out.cell 4
       have d5:=HP4.out.cell 5
       have d6:=HP4.out.cell 6
       have d7:=HP4.out.cell 7
       have d8:=HP4.out.cell 8
       have d9:=HP4.out.cell 9
       have d10:=HP4.out.cell 10
       have d11:=HP4.out.cell 11
       have d12:=HP4.out.cell 12
       have d13:=HP4.out.cell 13
       simp at d0 d1 d2 d3 d4 d5 d6 d7 d8 d9 d10 d11 d12 d13
       have hk1:¬ ((k:Int)=(M:Int) - 1∧cl=false):=fun h => by
        obtain ⟨h1,rfl⟩:=h
        rcases hMc with ⟨h2, -⟩ | ⟨-,h2⟩
        ·cases h2
        ·omega
       have hAlk:=HAl.out
       have hkM2:k + 1≤M:=hlt
       have hkm3:k + 1≤m:=hkm2
       rcases hMc with ⟨rfl,hM⟩ | ⟨rfl,hM⟩
       ·clear hM hk1 hMm
        go_upto_region 11 with fail
        have HDl:=Lib.hid HAl.out
        have HDO:=HO4
        clear HO4
        go_wp2_with (at_builtin;refine wpList_app rbE rfl (.tmp 47) (.tmp 49) rfl rfl (World.ownsRow.alloc HDO.out _) rfl (src_new layRb _ r _ _ ?c0) ?c1 ?c2 ?c3 ?c4 ?_)
        case c0 => rw [HFl.out]
        case c1 => exact layRb.one _
        case c2 => have:=HDl.out;unfold maxLen;omega
        case c3 => have:=HDl.out;omega
        case c4 => have:=HB4.out.size;simp;omega
        all_goals try (exfalso;omega)
        intro v' w' hO hG
        have HO':Hid (OwnK layRb w' w1.heap.size v' (acc ++ [r])):=Lib.hid (OwnK.snoc (by rw [HAl.out];exact hO))
        have HB':Hid (Below w1.heap.size w1 w'):=Lib.hid ((below_alloc HB4.out _).trans (hG.below (by have:=HB4.out.size;simp;omega) (own_base HDO.out)))
        clear hO hG HDO HDl HFl HB4
        go_wp2_with fail
        exact ⟨⟨k + 1,acc ++ [r],by omega,by omega,by go_num,HO',Lib.hid (by rw [List.length_append,HAl.out];rfl),HA2,HU2,HS2,HB'⟩,by simp [intOf];omega⟩
       ·have hk2:((k:Int)=(M:Int) - 1)=False:=eq_false (by omega)
        have hk3:((k:Int) == (M:Int) - 1)=false:=beq_eq_false_iff_ne.2 (by omega)
        have hkM4:k + 2≤M:=by omega
        have hkM5:M≤1000001:=by omega
        clear hM hk1 hMm
        go_upto_region 11 with fail
        have HDl:=Lib.hid HAl.out
        have HDO:=HO4
        clear HO4
        go_wp2_with (at_builtin;refine wpList_app rbE rfl (.tmp 47) (.tmp 49) rfl rfl (World.ownsRow.alloc HDO.out _) rfl (src_new layRb _ r _ _ ?c0) ?c1 ?c2 ?c3 ?c4 ?_)
        case c0 => rw [HFl.out]
        case c1 => exact layRb.one _
        case c2 => have:=HDl.out;unfold maxLen;omega
        case c3 => have:=HDl.out;omega
        case c4 => have:=HB4.out.size;simp;omega
        all_goals try (exfalso;omega)
        intro v' w' hO hG
        have HO':Hid (OwnK layRb w' w1.heap.size v' (acc ++ [r])):=Lib.hid (OwnK.snoc (by rw [HAl.out];exact hO))
        have HB':Hid (Below w1.heap.size w1 w'):=Lib.hid ((below_alloc HB4.out _).trans (hG.below (by have:=HB4.out.size;simp;omega) (own_base HDO.out)))
        clear hO hG HDO HDl HFl HB4
        go_wp2_with fail
        exact ⟨⟨k + 1,acc ++ [r],by omega,by omega,by go_num,HO',Lib.hid (by rw [List.length_append,HAl.out];rfl),HA2,HU2,HS2,HB'⟩,by simp [intOf];omega⟩
   ·obtain rfl:k=M:=by omega
    have hcl:cl=true∧k=m∧l=[]:=by
     cases cl
     ·have:=(Hcf.out rfl).1;omega
     ·exact ⟨rfl,(Hct.out rfl).1,(Hct.out rfl).2⟩
    obtain ⟨rfl,rfl,rfl⟩:=hcl
    have hRF:RR=if repF acc=0 then (acc,0,0) else ([],0,repF acc):=by rw [HA.out,rdG_end Hm.out Hl.out,if_pos rfl];rfl
    have hk5:k≤100000:=by have:=HS.out;omega
    obtain ⟨ao,co,hvo, -⟩:=HO.out.form
    rw [HAl.out] at hvo
    subst hvo
    have HC:=Lib.hid (flCheckR_any ao k co acc wr HO.out.rd HAl.out (by omega))
    generalize repF acc=F at *
    have HRF:=Lib.hid hRF
    clear HA HU HS Hct Hcf Hl Hxs hRF
    go_wp2_with fail
    refine HC.out.mono ?_
    rintro e w2 ⟨rfl,hb⟩
    have HO2:=Lib.hid (HO.out.later hb)
    have HB2:=Lib.hid (HB.out.trans (hb.mono HB.out.size))
    clear hb HO HB HC
    by_cases hF:F=0
    ·subst hF
     have hRR:=HRF.out
     rw [if_pos rfl] at hRR
     go_wp2_with fail
     go_ret3
     exact ⟨_,acc,0,0,hRR,rfl,HO2.out.weak HB1.out.size,HB1.out.trans (HB2.out.mono HB1.out.size)⟩
    ·have hRR:=HRF.out
     rw [if_neg hF] at hRR
     have hb1:(F != 0)=true:=by simpa using hF
     go_wp2_with fail
     go_ret3
     exact ⟨.slice none 0 0, [],0,F,hRR,rfl,(World.ownsRow_nil _ _ _ _),HB1.out.trans (HB2.out.mono HB1.out.size)⟩
open Go.RowKit Go
theorem reportsFault_any (ad:Option Addr) (n c:Nat) (L:List RB) (w:World) (h:RdK layRb w ad L) (hn:L.length=n) (hs:n≤1000000) :
  Calls Tryz.prog 31 #[.slice ad n c] w (Ret (.int .i64 (repF L)) w):=by
 by_cases hbig:3000 < n
 ·have e:repF L=2:=by unfold repF;rw [hn,if_pos hbig]
  rw [e]
  have b:(3000:Int) < (n:Int):=by omega
  clear e h hn
  go_enter Tryz.func31,Tryz.ntmps31
  go_wp2_with fail
  go_ret
  exact ⟨rfl,Below.refl _ _⟩
 ·have hb0:¬ (3000:Int) < (n:Int):=by omega
  rw [repF_scan (by rw [hn];exact hbig)]
  obtain ⟨R,hR⟩:∃ R,scanRF (prevR L 0) (L.drop 0)=R:=⟨_,rfl⟩
  have HR0:=Lib.hid hR
  rw [hR]
  have H0:=Lib.hid h
  have Hn:=Lib.hid hn
  clear hR h hn
  go_enter Tryz.func31,Tryz.ntmps31
  go_wp2_with fail
  go_loopw [11] (fun i wr => ∃ k:Nat,k≤n∧i=.int .i64 (k:Int)∧Hid (scanRF (prevR L k) (L.drop k)=R)∧Hid (Below w.heap.size w wr)) (fun i _ => n - (intOf i).toNat)
  case atStart => exact ⟨0,Nat.zero_le _,rfl,HR0,Lib.hid (Below.refl _ _)⟩
  case round =>
   clear HR0
   obtain ⟨k,hk,rfl,HS,HB⟩:=hrel
   by_cases hlt:k < n
   ·obtain ⟨x,hx⟩:∃ x,L[k]?=some x:=⟨_,List.getElem?_eq_getElem (by rw [Hn.out];exact hlt)⟩
    obtain ⟨g,o,had,hg,hc⟩:=(H0.out.below HB.out) k x hx
    have HRx:Hid (wr.rangeAt g (o + k * 14) (layRb.enc x)):=Lib.hid fun j v hv => by
     have:=hc j v hv
     rwa [← Nat.add_assoc] at this
    have HRp:Hid (∀ wx,Below wr.heap.size wr wx→∀ (m:Nat) (y:RB),k=m + 1→L[m]?=some y→wx.rangeAt g (o + m * 14) ((layRb.enc y).toArray).toList):=Lib.hid fun wx hb m y hm hy => by
     obtain ⟨g',o',had',hg',hc'⟩:=((H0.out.below HB.out).below hb) m y hy
     rw [had] at had'
     injection had' with had'
     injection had' with q1 q2 q3
     subst q1 q2
     intro j v hv
     have:=hc' j v hv
     rwa [← Nat.add_assoc] at this
    have HSt:=HS.out
    rw [scanRF_step hx,afterRF_eq] at HSt
    have HKy:=Lib.hid fun wx => qKey_any x.1.node.data.toList wx (by have:=x.2.2.2.2;rw [← strL_size,strL_of];omega)
    rw [strL_of] at HKy
    have HHr:=Lib.hid fun wx => in_any x.1.hour 0 96023 wx
    rw [inB_out] at HHr
    have HFl:=Lib.hid fun wx => qFlowFault_any x.1.f wx x.2.1
    have HPk:=Lib.hid fun wx => in_any x.1.pk 1 1000000000000 wx
    rw [inB_out] at HPk
    have HSz:=Lib.hid fun wx => in_any x.1.sz 0 1000000000000 wx
    rw [inB_out] at HSz
    have HCm:=Lib.hid fun y wx => reportOrder_any y x wx
    have HX1:Hid ((layRb.enc x).toArray.size=14):=Lib.hid (by rw [List.size_toArray,layRb.len];rfl)
    have HX2:Hid ((layRb.enc x).toArray.all (·.oneCell')=true):=Lib.hid (all_oneCell_toArray (layRb.one x))
    have hcells:∀ w2 b,Blk w2 b 74 (layRb.enc x).toArray→w2.cell? ⟨b,0,none⟩=some (.string x.1.node)∧w2.cell? ⟨b,1,none⟩=some (.int .i64 x.1.hour)∧w2.cell? ⟨b,12,none⟩=some (.int .i64 x.1.pk)∧w2.cell? ⟨b,13,none⟩=some (.int .i64 x.1.sz)∧w2.rangeAt b 3 x.1.f.cells.toList:=fun w2 b hb => ⟨hb.cell 0,hb.cell 1,hb.cell 12,hb.cell 13,rbFlow (x:=x.1) hb⟩
    have S9:Hid (x.1.f.cells.toList.length=9):=Lib.hid rfl
    have HX:=Lib.hid hcells
    have Hpx:=Lib.hid (prevR_succ hx)
    have HP0:Hid (∀ m,k=m + 1→prevR L k=L[m]?):=Lib.hid fun m hm => by subst hm;unfold prevR;rw [if_neg (by omega)];rfl
    have HPz:Hid (k=0→prevR L k=none):=Lib.hid fun hm => by subst hm;rfl
    have HSn:Hid (scanRF (prevR L (k + 1)) (L.drop (k + 1))=R→True):=Lib.hid fun _ => trivial
    obtain ⟨XC,hXC⟩:∃ X,(layRb.enc x).toArray=X:=⟨_,rfl⟩
    have hXL:layRb.enc x=XC.toList:=by rw [← hXC]
    rw [hXL] at HRx
    rw [hXC] at HX1 HX2 HX
    simp only [hXC] at HCm
    generalize keyB x.1.node.data.toList=K1 at *
    generalize outB x.1.hour 0 96023=O1 at *
    generalize flowFault x.1.f=FF at *
    generalize outB x.1.pk 1 1000000000000=O2 at *
    generalize outB x.1.sz 0 1000000000000=O3 at *
    generalize x.1.f.cells=FC at *
    generalize x.1.node=ND at *
    generalize x.1.hour=HR at *
    generalize x.1.pk=PK at *
    generalize x.1.sz=SZ at *
    have HST:=Lib.hid HSt
    have Hx:=Lib.hid hx
    clear HSt hXC hXL hcells hc hx
    subst had
    have HP:Hid (Blk (wr.alloc (.cells XC 74 (0,0))) wr.heap.size 74 XC):=Lib.hid (Blk.new wr _ _)
    have hbr:Below wr.heap.size wr (wr.alloc (.cells XC 74 (0,0))):=below_alloc (Below.refl _ _) _
    have HBr:=Lib.hid hbr
    clear hbr
    go_upto_region 6 with (first | (refine wpList_loadn rfl 74 _ rfl g (o + k * 14) rfl _ _ HRx.out under_rb rfl 14 size_rb (by simpa using HX1.out) ?_;go_simp) | (refine wpList_var3R XC 74 Tryz.zeroValue74 rfl rfl rfl _ rfl rfl _ _ rfl _ rfl _ rfl ?_ ?_ 14 size_rb HX1.out ?_ HX2.out ?_;all_goals (try rfl);try go_simp))
    generalize wr.alloc (.cells XC 74 (0,0))=w2 at *
    generalize wr.heap.size=bx at HP ⊢
    obtain ⟨a0,a1,a12,a13, -⟩:=HX.out _ _ HP.out
    go_wp2_with fail
    refine (HKy.out _).mono ?_
    rintro e w3 ⟨rfl,hb3⟩
    have HP3:=Lib.hid (HP.out.below hb3 HP.out.lt)
    have HB3:Hid (Below wr.heap.size wr w3):=Lib.hid (HBr.out.trans (hb3.mono HBr.out.size))
    clear hb3 HBr HP HKy a0 a1 a12 a13
    obtain ⟨a0,a1,a12,a13,hfr⟩:=HX.out _ _ HP3.out
    have HFr:=Lib.hid hfr
    clear hfr
    cases K1
    ·have hR:R=5:=HST.out.symm
     subst hR
     clear HST
     go_wp2_with fail
     go_ret
     exact ⟨rfl,HB.out.trans (HB3.out.mono HB.out.size)⟩
    ·go_wp2_with fail
     refine (HHr.out _).mono ?_
     rintro e w4 ⟨rfl,rfl⟩
     clear HHr
     cases O1
     ·go_wp2_with (refine wpList_loadn rfl 72 _ rfl bx 3 rfl FC.toList _ HFr.out under_flow rfl 9 size_flow S9.out ?_;go_simp)
      refine (HFl.out _).mono ?_
      rintro e w5 ⟨rfl,hb5⟩
      have HP5:=Lib.hid (HP3.out.below hb5 HP3.out.lt)
      have HB5:Hid (Below wr.heap.size wr w5):=Lib.hid (HB3.out.trans (hb5.mono HB3.out.size))
      clear hb5 HB3 HP3 HFl HFr a0 a1 a12 a13
      obtain ⟨-, -,a12,a13, -⟩:=HX.out _ _ HP5.out
      by_cases hFF:FF=0
      ·subst hFF
       go_wp2_with fail
       refine (HPk.out _).mono ?_
       rintro e w6 ⟨rfl,rfl⟩
       cases O2
       ·go_wp2_with fail
        refine (HSz.out _).mono ?_
        rintro e w6 ⟨rfl,rfl⟩
        cases O3
        ·have hST:(if ordF (prevR L k) x ≠ 0 then ordF (prevR L k) x else scanRF (prevR L (k + 1)) (L.drop (k + 1)))=R:=by
          have:=HST.out
          simpa using this
         have HST2:=Lib.hid hST
         clear hST HST HPk HSz a12 a13
         rcases Nat.eq_zero_or_pos k with h0 | h0
         ·subst h0
          have hN:scanRF (prevR L (0 + 1)) (L.drop (0 + 1))=R:=by
           have:=HST2.out
           rw [HPz.out rfl] at this
           exact this
          have HN:=Lib.hid hN
          clear hN HST2 HPz HP0 HRp HCm
          go_upto_region 15 with fail
          refine wp_region_later (by kernel_rfl) (by kernel_rfl) ?_
          repeat (go_big_quiet_step (fail))
          refine wpQuiet_nil ?_
          rintro w7 ⟨m7,hm7⟩
          have hb:Below w5.heap.size w5 w7:=by rw [hm7];exact m7.2
          have HB7:Hid (Below w.heap.size w w7):=Lib.hid (HB.out.trans ((HB5.out.trans (hb.mono HB5.out.size)).mono HB.out.size))
          clear hm7 m7 hb
          go_wp2_with fail
          exact ⟨⟨1,by omega,rfl,HN,HB7⟩,by simp [intOf];omega⟩
         ·obtain ⟨m,rfl⟩:∃ m,k=m + 1:=⟨k - 1,by omega⟩
          obtain ⟨y,hy⟩:∃ y,L[m]?=some y:=⟨_,List.getElem?_eq_getElem (by rw [Hn.out];omega)⟩
          have hp0:prevR L (m + 1)=some y:=(HP0.out m rfl).trans hy
          have HYr:Hid (∀ wx,(∃ q:Later w5,wx=q.1)→wx.rangeAt g (o + m * 14) ((layRb.enc y).toArray).toList):=Lib.hid fun wx ⟨q,hq⟩ => by
           subst hq
           exact HRp.out _ (HB5.out.trans (q.2.mono HB5.out.size)) m y rfl hy
          have HXr:Hid (∀ wx,(∃ q:Later w5,wx=q.1)→wx.rangeAt bx 0 XC.toList):=Lib.hid fun wx ⟨q,hq⟩ => by
           subst hq
           exact (HP5.out.below q.2 HP5.out.lt).range
          have Ys:((layRb.enc y).toArray).size=14:=by rw [List.size_toArray,layRb.len];rfl
          have hst:=HST2.out
          rw [hp0] at hst
          have hst2:(if (if 0≤cR y x then (7:Int) else 0) ≠ 0 then (if 0≤cR y x then (7:Int) else 0) else scanRF (prevR L (m + 1 + 1)) (L.drop (m + 1 + 1)))=R:=hst
          have hQ:=fun q:Later w5 => Calls.later q ((HCm.out y q.1).mono fun _ _ => RetD.ret)
          generalize cR y x=C at *
          obtain ⟨YC,hYC⟩:∃ X,(layRb.enc y).toArray=X:=⟨_,rfl⟩
          rw [hYC] at HYr Ys hQ
          have HS1:Hid (0≤C→R=7):=Lib.hid fun h => by rw [if_pos h] at hst2;exact hst2.symm
          have HS2:Hid (¬ 0≤C→scanRF (prevR L (m + 1 + 1)) (L.drop (m + 1 + 1))=R):=Lib.hid fun h => by rw [if_neg h] at hst2;exact hst2
          have Xs:=HX1.out
          clear hst hst2 HST2 hYC hp0 hy HRp HCm HP0 HPz
          have e1:(((m + 1:Nat):Int) - 1)=(m:Int):=by omega
          have e2:IntKind.i64.wrap (m:Int)=(m:Int):=by rw [IntKind.wrap_i64];omega
          have e3:wrap64 (((m + 1:Nat):Int) - 1)=(m:Int):=by unfold wrap64;omega
          have b1:(0:Int)≤(m:Int):=by omega
          have b2:(m:Int) < (n:Int):=by omega
          have b3:(0:Int) < ((m + 1:Nat):Int):=by omega
          go_upto_region 15 with fail
          refine wp_region_later (by kernel_rfl) (by kernel_rfl) ?_
          repeat (first | (refine wpQuiet_loadn rfl 74 _ rfl _ rfl g (o + m * 14) rfl YC HYr.out _ under_rb rfl 14 size_rb Ys ?_;go_simp) | (refine wpQuiet_loadn rfl 74 _ rfl _ rfl bx 0 rfl XC HXr.out _ under_rb rfl 14 size_rb Xs ?_;go_simp) | go_big_quiet_step ((go_at_call 91;exact hQ _)))
          refine wpQuiet_nil ?_
          rintro ⟨w7,hb⟩
          dsimp only
          have HB7:Hid (Below w.heap.size w w7):=Lib.hid (HB.out.trans ((HB5.out.trans (hb.mono HB5.out.size)).mono HB.out.size))
          clear hb hQ HYr HXr
          by_cases hC:0≤C
          ·have hR:=HS1.out hC
           subst hR
           clear HS1 HS2
           go_wp2_with fail
           go_ret
           exact ⟨rfl,HB7.out⟩
          ·have HN:=Lib.hid (HS2.out (by omega))
           have hC2:(0≤C)=False:=eq_false hC
           clear HS1 HS2
           go_wp2_with fail
           exact ⟨⟨m + 1 + 1,by omega,by go_num,HN,HB7⟩,by simp [intOf];omega⟩
        ·have hR:R=1:=by
          have:=HST.out
          simpa using this.symm
         subst hR
         clear HST
         go_wp2_with fail
         go_ret
         exact ⟨rfl,HB.out.trans (HB5.out.mono HB.out.size)⟩
       ·have hR:R=1:=by
         have:=HST.out
         simpa using this.symm
        subst hR
        clear HST
        go_wp2_with fail
        go_ret
        exact ⟨rfl,HB.out.trans (HB5.out.mono HB.out.size)⟩
      ·have hR:R=FF:=by
        have:=HST.out
        simpa [hFF] using this.symm
       subst hR
       have hne:(R != 0)=true:=by simpa using hFF
       clear HST
       go_wp2_with fail
       go_ret
       exact ⟨rfl,HB.out.trans (HB5.out.mono HB.out.size)⟩
     ·have hR:R=1:=by
       have:=HST.out
       simpa using this.symm
      subst hR
      clear HST
      go_wp2_with fail
      go_ret
      exact ⟨rfl,HB.out.trans (HB3.out.mono HB.out.size)⟩
   ·obtain rfl:k=n:=by omega
    have hS:=HS.out
    rw [List.drop_of_length_le (by rw [Hn.out];exact Nat.le_refl _)] at hS
    have hR:R=0:=hS.symm
    subst hR
    clear hS
    go_wp2_with fail
    go_ret
    exact ⟨rfl,HB.out⟩
theorem reportsRead_any (s:List UInt8) (w:World) (hv:Vr w) (hs:s.length≤1000000) :
  Calls Tryz.prog 35 #[.string (strL s)] w fun e w' => ∃ v L i f,rsG repP repF s=(L,i,f)∧e=.returned (.tuple #[v, .int .i64 i, .int .i64 f])∧OwnK layRb w' w.heap.size v L∧Below w.heap.size w w':=by
 have hsz:(strL s).size=s.length:=strL_size s
 obtain ⟨sl,hsl⟩:∃ q,s.length=q:=⟨_,rfl⟩
 have HR0:Hid (rsG repP repF s=if 200000 < sl then ([],0,2) else rvG repF (rdG repP 0 (spl 10 s) [])):=Lib.hid (by rw [← hsl];exact rsG_eq _ _ _)
 have HL:=Lib.hid fun wx hb hlt hI (h:s.length≤200000) => qLinesG repP 108 w.heap.size (fun wy acc => ∃ v,Blk wy w.heap.size 61 #[v]∧OwnK layRb wy (w.heap.size + 1) v acc) s w wx rfl hv hb hlt hI h (fun args w => by first | rfl | kernel_rfl)
  (fun acc u v ⟨vv,h1,h2⟩ hb => ⟨vv,h1.below hb h1.lt,h2.later hb⟩) (fun x p h => repP_pos h)
  (fun acc x u ha hx hv hlt ⟨vv,h1,h2⟩ => (rpdR_any w.heap.size acc x vv u h1 h2 hv hx ha).mono fun e u' ⟨e1,e2,e3,e4⟩ => ⟨e1,fun p hp => e2 p hp,e3,e4⟩)
 rw [hsl] at hsz hs HL
 generalize rsG repP repF s=RR at *
 generalize rdG repP 0 (spl 10 s) []=R at *
 obtain ⟨SS,hSS⟩:∃ q,strL s=q:=⟨_,rfl⟩
 rw [hSS] at hsz HL ⊢
 clear hSS hsl hv
 go_enter Tryz.func35,Tryz.ntmps35
 by_cases hbig:200000 < sl
 ·have hR:=HR0.out
  rw [if_pos hbig] at hR
  subst hR
  clear HR0 HL
  have hbi:(200000:Int) < (sl:Int):=by omega
  go_wp2_with fail
  go_ret3
  exact ⟨.slice none 0 0, [],0,2,rfl,rfl,(World.ownsRow_nil _ _ _ _),Below.refl _ _⟩
 ·have hR:=HR0.out
  rw [if_neg hbig] at hR
  have HR:=Lib.hid hR
  have hbi:¬ (200000:Int) < (sl:Int):=by omega
  have hbi2:¬ (sl:Int) > 200000:=by omega
  clear HR0 hR
  have HL1:=Lib.hid (HL.out _ (below_alloc (Below.refl _ _) _) (Blk.new w 61 #[.slice none 0 0]).lt ⟨_,Blk.new w 61 #[.slice none 0 0],(World.ownsRow_nil _ _ _ _)⟩ (by omega))
  clear HL
  go_upto_region 4 with fail
  generalize w.alloc (.cells #[.slice none 0 0] 61 (0,0))=w1 at *
  obtain ⟨bx,hbx⟩:∃ q,w.heap.size=q:=⟨_,rfl⟩
  rw [hbx] at HL1 ⊢
  have Hbx:=Lib.hid hbx
  clear hbx hbi hbi2
  go_wp2_with fail
  refine HL1.out.mono ?_
  rintro e w3 ⟨i,ok,L,rfl,hb,hlt,hno,hyes⟩
  have HW3:=Lib.hid hb
  have Hno:=Lib.hid hno
  have Hyes:=Lib.hid hyes
  have HLt:=Lib.hid hlt
  clear hb hno hyes HL1 hlt
  cases ok
  ·have HE:Hid (RR=([],(i:Int),9)):=Lib.hid (by rw [HR.out,Hno.out rfl];rfl)
   clear Hno Hyes
   go_wp2_with fail
   go_ret3
   exact ⟨.slice none 0 0, [],(i:Int),9,HE.out,rfl,(World.ownsRow_nil _ _ _ _),by rw [Hbx.out];exact HW3.out⟩
  ·obtain ⟨hy1,⟨v,hy4,hy5⟩,hy2⟩:=Hyes.out rfl
   have HE:Hid (RR=if repF L=0 then (L,0,0) else ([],0,repF L)):=Lib.hid (by rw [HR.out,hy1];rfl)
   have HB3:=Lib.hid hy4
   have HO3:=Lib.hid hy5
   obtain ⟨ao,co,hvo, -⟩:=HO3.out.form
   subst hvo
   have HC:=Lib.hid (reportsFault_any ao L.length co L w3 HO3.out.rd rfl (by omega))
   obtain ⟨F,hF⟩:∃ q,repF L=q:=⟨_,rfl⟩
   rw [hF] at HC HE
   obtain ⟨n,hn⟩:∃ n,L.length=n:=⟨_,rfl⟩
   have Hn:=Lib.hid hn
   rw [hn] at HC HO3 HB3
   clear hy1 hy2 hy4 hy5 Hno Hyes hF hn
   have c0:=HB3.out.cell 0
   simp at c0
   go_wp2_with fail
   refine HC.out.mono ?_
   rintro e w4 ⟨rfl,hb4⟩
   have hlt:=HB3.out.lt
   have HB4:=Lib.hid (HB3.out.below hb4 hlt)
   have HO4:=Lib.hid (HO3.out.later hb4)
   have HW4:=Lib.hid (HW3.out.trans (hb4.mono (Nat.le_of_lt hlt)))
   clear hb4 HB3 HO3 HW3 HC c0
   have c0:=HB4.out.cell 0
   simp at c0
   by_cases hF:F=0
   ·have hRR:=HE.out
    subst hF
    rw [if_pos rfl] at hRR
    go_wp2_with fail
    go_ret3
    exact ⟨_,L,0,0,hRR,rfl,HO4.out.weak (by rw [Hbx.out];exact Nat.le_succ bx),by rw [Hbx.out];exact HW4.out⟩
   ·have hRR:=HE.out
    rw [if_neg hF] at hRR
    have hb1:(F != 0)=true:=by simpa using hF
    go_wp2_with fail
    go_ret3
    exact ⟨.slice none 0 0, [],0,F,hRR,rfl,(World.ownsRow_nil _ _ _ _),by rw [Hbx.out];exact HW4.out⟩
end Go.Proofs.YtgkhcdjoilgfmaaGreatDoor
