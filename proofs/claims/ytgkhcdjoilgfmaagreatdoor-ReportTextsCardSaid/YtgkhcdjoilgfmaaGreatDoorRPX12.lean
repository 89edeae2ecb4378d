/-
  Groups of an address, read by the reference. Condition: at most a million bytes.
  An address read in a looser way, in plain words: the program's way and the reference's.
  Plain law: a text read line by line, by whatever reader of lines.
  Addresses of four numbers as text: textOf of the program, AddrText of the reference.
  A number, written: plain, and the walk of strconv.Itoa; strings.Join of an own row of strings.
  A region that draws its order, by an invariant with a phase, where each operation knows that what depends on it has not run: a bound on the phase.
  Phases of a region: from none to one.
  Rows of structs whose cells are set many at once.
-/
import Derived.Test.YtgkhcdjoilgfmaaGreatDoorRPX11
import Derived.Laws.CopyOwn
import Derived.Test.YtgkhcdjoilgfmaaGreatDoorRPX1
import Derived.Test.YtgkhcdjoilgfmaaGreatDoorRPX5
import Derived.Test.YtgkhcdjoilgfmaaGreatDoorRPX3
import Derived.Lib.ItoaLen
import Derived.Test.YtgkhcdjoilgfmaaGreatDoorRPX7
import Derived.Deep.MidRow
set_option linter.unusedVariables false
set_option maxRecDepth 100000
set_option maxHeartbeats 4000000
namespace Go.Proofs.YtgkhcdjoilgfmaaGreatDoor
open Go.RowKit Go Go.Sort
theorem qGroups_any (s:List UInt8) (last:Bool) (w:World) (hv:Vr w) (hs:s.length≤1000000) :
  Calls Tryz.prog 221 #[.string (strL s), .bool last] w (GrpPost w (grpF s last)):=by
 have HSp:=Lib.hid (split_any s 58 w hv hs)
 have HV0:=Lib.hid hv
 have hxs:∀ x ∈ spl 58 s,x.length≤1000000:=fun x h => Nat.le_trans (spl_mem 58 s x h).2.2 hs
 have Hxs:=Lib.hid hxs
 have hnl:(spl 58 s).length≤1000001:=by
  rw [spl_len]
  have:=List.count_le_length (a:=(58:UInt8)) (l:=s)
  omega
 have HF:Hid (grpF s last=if s=[] then some [] else grpL last (spl 58 s) []):=Lib.hid rfl
 have hse:=strL_list s
 obtain ⟨R,hR⟩:∃ q,grpF s last=q:=⟨_,rfl⟩
 rw [hR] at HF ⊢
 clear hR hv hxs
 generalize spl 58 s=L at *
 obtain ⟨n,hn⟩:∃ q,L.length=q:=⟨_,rfl⟩
 have Hn:=Lib.hid hn
 rw [hn] at HSp hnl
 clear hn
 obtain ⟨SS,hSS⟩:∃ q,strL s=q:=⟨_,rfl⟩
 rw [hSS] at HSp hse ⊢
 clear hSS
 go_enter Tryz.func221,Tryz.ntmps221
 by_cases h0:s=[]
 ·subst h0
  have hF:=HF.out
  rw [if_pos rfl] at hF
  subst hF
  clear HF HSp
  go_wp2_with fail
  go_ret2
  exact ⟨none,0,0,rfl,fun G hG => (by injection hG with hG;subst hG;exact OwnK.nil _ _ _),Below.refl _ _⟩
 ·have hF:=HF.out
  rw [if_neg h0] at hF
  have HF2:=Lib.hid hF.symm
  have hem:s.isEmpty=false:=by cases s with
   | nil => exact absurd rfl h0
   | cons _ _ => rfl
  clear HF hF
  go_wp2_with fail
  refine HSp.out.mono ?_
  rintro e w1 ⟨g,rfl,hr,hb⟩
  have HR1:=Lib.hid hr
  have HB1:=Lib.hid hb
  have HV1:=Lib.hid (HV0.out.below hb)
  clear hr hb HSp HV0 hse
  go_wp2_with fail
  go_loopw [7,20] (fun u i wr => ∃ (k:Nat) (G:List Nat),k≤n∧i=.int .i64 (k:Int)∧Hid (OwnK layU wr w1.heap.size u G)∧Hid (G.length≤k + 1∧(k < n→G.length≤k))∧Hid (grpL last (L.drop k) G=R)∧Hid (Below w1.heap.size w1 wr)) (fun _ i _ => n - (intOf i).toNat)
  case atStart => exact ⟨0, [],Nat.zero_le _,rfl,Lib.hid (OwnK.nil _ _ _),Lib.hid ⟨by simp,fun _ => Nat.le_refl _⟩,HF2,Lib.hid (Below.refl _ _)⟩
  case round =>
   clear HF2
   obtain ⟨k,G,hk,rfl,HO,HL,HA,HB⟩:=hrel
   have HR:=Lib.hid (HR1.out.below HB.out)
   have HV:=Lib.hid (HV1.out.below HB.out)
   obtain ⟨ao,co,hvo, -⟩:=HO.out.form
   subst hvo
   obtain ⟨d,hd⟩:∃ q,G.length=q:=⟨_,rfl⟩
   have Hd:=Lib.hid hd
   rw [hd] at HO HL ⊢
   have hdk1:=HL.out.1
   clear hd
   by_cases hlt:k < n
   ·have hdk:=HL.out.2 hlt
    obtain ⟨x,hx⟩:∃ x,L[k]?=some x:=⟨_,List.getElem?_eq_getElem (by rw [Hn.out];exact hlt)⟩
    have HSt:=Lib.hid (grpL_stepQ (last:=last) (G:=G) hx Hn.out)
    have hc:=HR.out.2 k x hx
    have hgl:=HR.out.1
    have hxl:=Hxs.out x (List.mem_of_getElem? hx)
    have HFx:=Lib.hid (qFour_any x wr HV.out hxl)
    have HTr:=Lib.hid fun wx => only_any x hexSet wx hxl (by decide) hexSet_ascii
    rw [hexSet_all x] at HTr
    have HPu:=Lib.hid fun wx (h1:x.all isHx=true) (h2:1≤x.length) (h3:x.length≤4) => pu16_any x 32 wx (.inr rfl) h1 h2 h3
    have HFl:Hid (∀ m,fourF x=some m→m < 4294967296):=Lib.hid fun m h => fourF_lt h
    have HHx:Hid (hexOk x=(!x.isEmpty && decide (x.length≤4) && x.all isHx)):=Lib.hid rfl
    have hsz:(strL x).size=x.length:=strL_size x
    have hls:(strL x).toList=x:=strL_list x
    have e46:strL hexSet=⟨#[48,49,50,51,52,53,54,55,56,57,97,98,99,100,101,102,65,66,67,68,69,70]⟩:=rfl
    have hHv:x.all isHx=true→x.length≤4→hxV x < 65536:=fun h1 h2 => hxV_lt h1 h2
    have HHv:=Lib.hid hHv
    rw [e46] at HTr
    obtain ⟨SX,hSX⟩:∃ q,strL x=q:=⟨_,rfl⟩
    rw [hSX] at hc hsz hls HFx HTr HPu
    clear hx e46 hSX hHv
    generalize fourF x=FX at *
    generalize hxV x=XV at *
    generalize x.all isHx=AH at *
    generalize hexOk x=HK at *
    obtain ⟨q,hq⟩:∃ q,(FX.isSome && last && decide (k + 1=n))=q:=⟨_,rfl⟩
    rw [hq] at HSt
    have Hq:=Lib.hid hq
    clear hq
    obtain ⟨m,hm⟩:∃ q:Nat,FX.getD 0=q:=⟨_,rfl⟩
    have hm4:m < 4294967296:=by
     cases FX with
     | none =>
       have:0=m:=hm
       omega
     | some u =>
       have:u=m:=hm
       subst this;exact HFl.out u rfl
    rw [hm] at HSt HFx
    obtain ⟨FB,hFB⟩:∃ q,FX.isSome=q:=⟨_,rfl⟩
    rw [hFB] at HFx Hq
    clear hm hFB HFl
    go_wp2_with fail
    refine HFx.out.mono ?_
    rintro e w2 ⟨rfl,hb⟩
    have HO2:=Lib.hid (HO.out.later hb)
    have HB2:=Lib.hid (HB.out.trans (hb.mono HB.out.size))
    clear hb HO HB HR HV HFx hc hgl
    go_upto_region 9 with fail
    go_cut [40] (fun v wx => v=.bool q∧OwnK layU wx w1.heap.size (.slice ao d co) G∧Below w1.heap.size w1 wx)
    case first =>
     have hqq:=Hq.out
     clear HSt HA HTr HPu HHx HHv
     cases FB
     ·have hq0:q=false:=by rw [← hqq];rfl
      subst hq0
      go_wp2_with fail
      go_meet
      case rel => exact ⟨rfl,HO2.out,HB2.out⟩
     ·cases last
      ·have hq0:q=false:=by rw [← hqq];rfl
       subst hq0
       go_wp2_with fail
       go_meet
       case rel => exact ⟨rfl,HO2.out,HB2.out⟩
      ·by_cases hkn:k + 1=n
       ·have hq0:q=true:=by rw [← hqq,decide_eq_true hkn];rfl
        subst hq0
        have hkn':((k:Int)=(n:Int) - 1)=True:=eq_true (by omega)
        have hkn2:((k:Int) == (n:Int) - 1)=true:=beq_iff_eq.2 (by omega)
        go_wp2_with fail
        all_goals first
         | (go_meet
            case rel => exact ⟨by first | rfl | (congr 1;exact hkn2),HO2.out,HB2.out⟩)
         | (exfalso;omega)
       ·have hq0:q=false:=by rw [← hqq,decide_eq_false hkn];rfl
        subst hq0
        have hkn':((k:Int)=(n:Int) - 1)=False:=eq_false (by omega)
        have hkn2:((k:Int) == (n:Int) - 1)=false:=beq_eq_false_iff_ne.2 (by omega)
        go_wp2_with fail
        all_goals first
         | (go_meet
            case rel => exact ⟨by first | rfl | (congr 1;exact hkn2),HO2.out,HB2.out⟩)
         | (exfalso;omega)
    case rest =>
     clear HO2 HB2
     obtain ⟨rfl,hO,hb⟩:=hcut
     have HO:=Lib.hid hO
     have HB:=Lib.hid hb
     clear hO hb
     cases q
     ·have hS:=HSt.out
      rw [if_neg (by decide)] at hS
      have HS:=Lib.hid hS
      clear hS HSt Hq
      by_cases hK:HK=true
      ·have hh:=HHx.out
       rw [hK] at hh
       have hh1:x.isEmpty=false∧x.length≤4∧AH=true:=by
        have:=hh.symm
        simp at this
        refine ⟨?_,this.1.2,this.2⟩
        cases x with
        | nil => simp at this
        | cons _ _ => rfl
       obtain ⟨hxe,hx4,hA⟩:=hh1
       have hx1:1≤x.length:=by cases x with
        | nil => simp at hxe
        | cons _ _ => simp
       have HS2:Hid (grpL last (L.drop (k + 1)) (G ++ [XV])=R):=Lib.hid (by rw [← HA.out,HS.out,if_pos hK])
       have HPx:=Lib.hid fun wx => HPu.out wx hA hx1 hx4
       have hXV:=HHv.out hA hx4
       have hib:inB (x.length:Int) 1 4=true:=by unfold inB;simp;omega
       subst hA
       clear HS HPu HHx hh HHv HA
       go_wp2_with fail
       refine (in_any _ _ _ _).mono ?_
       rintro e w3 ⟨rfl,rfl⟩
       rw [hib]
       go_wp2_with fail
       refine (HTr.out _).mono ?_
       rintro e w2 ⟨rfl,hb⟩
       have HO2:=Lib.hid (HO.out.later hb)
       have HB2:=Lib.hid (HB.out.trans (hb.mono HB.out.size))
       clear hb HO HB HTr
       go_wp2_with fail
       refine (HPx.out _).mono ?_
       rintro e w3 ⟨rfl,hb⟩
       have HO3:=Lib.hid (HO2.out.later hb)
       have HB3:=Lib.hid (HB2.out.trans (hb.mono HB2.out.size))
       clear hb HO2 HB2 HPx
       have HOr:Hid (w3.ownsRow w1.heap.size 26 1 (.slice ao d co) d (layU.all G)):=Lib.hid (by
        have this:w3.ownsRow w1.heap.size 26 1 (.slice ao d co) G.length (layU.all G):=HO3.out
        rw [Hd.out] at this
        exact this)
       go_wp2_with (at_builtin;refine wpList_app uE rfl (.tmp 64) (.tmp 66) rfl rfl (World.ownsRow.alloc HOr.out _) rfl (src_one_new _ _ _) ?c1 ?c2 ?c3 ?c4 ?_)
       case c1 => (intro u hu;have:u=.int .u64 (XV:Int):=(by simpa using hu);subst this;rfl)
       case c2 => unfold maxLen;omega
       case c3 => omega
       case c4 => have:=HB3.out.size;simp;omega
       intro v5 w5 hO5 hG5
       have hbz:w1.heap.size≤(w3.alloc (.cells #[.int .u64 (XV:Int)] 26 (0,0))).heap.size:=by have:=HB3.out.size;simp;omega
       have HE1:Hid (OwnK layU w5 w1.heap.size v5 (G ++ [XV])):=Lib.hid (OwnK.snoc (by rw [Hd.out];exact hO5))
       have HE2:Hid (Below w1.heap.size w1 w5):=Lib.hid ((Below.alloc HB3.out HB3.out.size _).trans (hG5.below hbz (own_base HOr.out)))
       have HE3:Hid ((G ++ [XV]).length≤k + 1 + 1∧(k + 1 < n→(G ++ [XV]).length≤k + 1)):=Lib.hid (by rw [List.length_append,Hd.out];simp;omega)
       clear hO5 hG5 hbz HOr
       go_wp2_with fail
       exact ⟨⟨k + 1,G ++ [XV],by omega,by go_num,HE1,HE3,HS2,HE2⟩,by simp [intOf];omega⟩
      ·have hK0:HK=false:=eq_false_of_ne_true hK
       have hRn:R=none:=by rw [← HA.out,HS.out,if_neg hK]
       subst hRn
       have hh:=HHx.out
       rw [hK0] at hh
       clear HS HPu HHx HHv HA hK
       by_cases hxi:1≤x.length∧x.length≤4
       ·have hib:inB (x.length:Int) 1 4=true:=by unfold inB;simp;omega
        have hA:AH=false:=by
         have hxe:x.isEmpty=false:=by cases x with
          | nil => simp at hxi
          | cons _ _ => rfl
         rw [hxe,decide_eq_true hxi.2] at hh
         simpa using hh.symm
        subst hA
        clear hh
        go_wp2_with fail
        refine (in_any _ _ _ _).mono ?_
        rintro e w3 ⟨rfl,rfl⟩
        rw [hib]
        go_wp2_with fail
        refine (HTr.out _).mono ?_
        rintro e w2 ⟨rfl,hb⟩
        have HB2:=Lib.hid (HB.out.trans (hb.mono HB.out.size))
        clear hb HTr
        go_wp2_with fail
        go_ret2
        exact ⟨none,0,0,rfl,fun G' hG => (by cases hG),HB1.out.trans (HB2.out.mono HB1.out.size)⟩
       ·have hib:inB (x.length:Int) 1 4=false:=by unfold inB;simp;omega
        clear hh
        go_wp2_with fail
        refine (in_any _ _ _ _).mono ?_
        rintro e w3 ⟨rfl,rfl⟩
        rw [hib]
        go_wp2_with fail
        go_ret2
        exact ⟨none,0,0,rfl,fun G' hG => (by cases hG),HB1.out.trans (HB.out.mono HB1.out.size)⟩
     ·have hS:=HSt.out
      rw [if_pos rfl] at hS
      have HS:Hid (R=some (G ++ [m / 65536,m % 65536])):=Lib.hid (by rw [← HA.out];exact hS)
      have hkn:k + 1=n:=by
       have:=Hq.out
       simp at this
       exact this.2
      clear hS HSt HPu HHx HHv HTr Hq HA
      have hms:=grp_mask m (by omega)
      have HOr:Hid (wc.ownsRow w1.heap.size 26 1 (.slice ao d co) d (layU.all G)):=Lib.hid (by
       have this:wc.ownsRow w1.heap.size 26 1 (.slice ao d co) G.length (layU.all G):=HO.out
       rw [Hd.out] at this
       exact this)
      go_wp2_with (at_builtin;refine wpList_app uE rfl (.tmp 41) (.tmp 46) rfl rfl (World.ownsRow.alloc HOr.out _) rfl (src_two _ _ _ _) ?d1 ?d2 ?d3 ?d4 ?_)
      case d1 => intro u hu;simp at hu;rcases hu with rfl | rfl <;> rfl
      case d2 => unfold maxLen;omega
      case d3 => omega
      case d4 => have:=HB.out.size;simp;omega
      intro v5 w5 hO5 hG5
      have hbz:w1.heap.size≤(wc.alloc (.cells #[.int .u64 ((m:Int) / 65536), .int .u64 ((m:Int) % 65536)] 26 (0,0))).heap.size:=by have:=HB.out.size;simp;omega
      have HE1:Hid (OwnK layU w5 w1.heap.size v5 (G ++ [m / 65536,m % 65536])):=Lib.hid (OwnK.snoc2 (by
       rw [Hd.out,show ((m / 65536:Nat):Int)=(m:Int) / 65536 by omega,show ((m % 65536:Nat):Int)=(m:Int) % 65536 by omega]
       exact hO5))
      have HE2:Hid (Below w1.heap.size w1 w5):=Lib.hid ((Below.alloc HB.out HB.out.size _).trans (hG5.below hbz (own_base HOr.out)))
      have HE3:Hid ((G ++ [m / 65536,m % 65536]).length≤k + 1 + 1∧(k + 1 < n→(G ++ [m / 65536,m % 65536]).length≤k + 1)):=Lib.hid (by rw [List.length_append,Hd.out];simp;omega)
      have HE4:Hid (grpL last (L.drop (k + 1)) (G ++ [m / 65536,m % 65536])=R):=Lib.hid (by
       rw [List.drop_of_length_le (by rw [Hn.out];omega),HS.out]
       rfl)
      clear hO5 hG5 hbz HOr hms
      go_wp2_with fail
      exact ⟨⟨k + 1,G ++ [m / 65536,m % 65536],by omega,by go_num,HE1,HE3,HE4,HE2⟩,by simp [intOf];omega⟩
   ·obtain rfl:k=n:=by omega
    have hR:R=some G:=by
     rw [← HA.out,List.drop_of_length_le (by rw [Hn.out];exact Nat.le_refl _)]
     rfl
    subst hR
    go_wp2_with fail
    go_ret2
    exact ⟨ao,d,co,rfl,fun G' hG => (by injection hG with hG;subst hG;exact HO.out.weak HB1.out.size),HB1.out.trans (HB.out.mono HB1.out.size)⟩
def gq (a b:List Nat) (i:Nat):Nat:=if 8 - b.length≤i then b.getD (i - (8 - b.length)) 0 else a.getD i 0
def wdg (g:Nat→Nat):Nat→Nat
 | 0 => 0
 | k + 1 => wdg g k * 65536 + g k
theorem wdg_lt {g:Nat→Nat} (h:∀ i,g i < 65536):∀ k,wdg g k < 65536 ^ k
 | 0 => by show 0 < 1;decide
 | k + 1 => by
   have h1:=wdg_lt h k
   have h2:=h k
   show wdg g k * 65536 + g k < _
   rw [Nat.pow_succ]
   generalize 65536 ^ k=P at *
   omega
def mkA (gap:Bool) (A B:Option (List Nat)):Option (Bool × Nat × Nat):=match A,B with
 | some a,some b => if ((gap && decide (7 < a.length + b.length)) || (!gap && !decide (a.length=8)))=true then none else some (true,wdg (gq a b) 4,wdg (fun i => gq a b (4 + i)) 4)
 | _,_ => none
def cutC (s:List UInt8):List UInt8 × List UInt8 × Bool:=Lib.cut s [58,58]
def sixF (s:List UInt8):Option (Bool × Nat × Nat):=mkA (cutC s).2.2 (grpF (cutC s).1 (!(cutC s).2.2)) (grpF (cutC s).2.1 true)
def looseF (s:List UInt8):Option (Bool × Nat × Nat):=if s.contains 58=true then sixF s else (fourF s).map fun n => (false,0,n)
theorem grpL_lt {last:Bool}:∀ (L:List (List UInt8)) (out G:List Nat),(∀ g ∈ out,g < 65536)→(∀ x ∈ L,x.length≤1000000)→grpL last L out=some G→∀ g ∈ G,g < 65536
 | [],out,G,h,_,hG => by
   have:out=G:=by simpa [grpL] using hG
   rw [← this];exact h
 | x :: xs,out,G,h,hx,hG => by
   unfold grpL at hG
   by_cases hc:(last && xs.isEmpty && x.contains 46)=true
   ·rw [if_pos hc] at hG
    cases hf:fourF x with
    | none => rw [hf] at hG;cases hG
    | some n =>
      rw [hf] at hG
      injection hG with hG
      subst hG
      have:=fourF_lt hf
      intro g hg
      rcases List.mem_append.1 hg with hg | hg
      ·exact h g hg
      ·simp at hg
       rcases hg with rfl | rfl <;> omega
   ·rw [if_neg hc] at hG
    by_cases hk:hexOk x=true
    ·rw [if_pos hk] at hG
     refine grpL_lt xs _ G (fun g hg => ?_) (fun y hy => hx y (List.mem_cons_of_mem _ hy)) hG
     rcases List.mem_append.1 hg with hg | hg
     ·exact h g hg
     ·have:g=hxV x:=by simpa using hg
      subst this
      unfold hexOk at hk
      simp at hk
      exact hxV_lt (by rw [List.all_eq_true];exact hk.2) hk.1.2
    ·rw [if_neg hk] at hG;cases hG
theorem grpF_lt {s:List UInt8} {last:Bool} {G:List Nat} (hs:s.length≤1000000) (h:grpF s last=some G):∀ g ∈ G,g < 65536:=by
 unfold grpF at h
 by_cases h0:s=[]
 ·rw [if_pos h0] at h
  injection h with h
  subst h
  simp
 ·rw [if_neg h0] at h
  exact grpL_lt _ [] G (by simp) (fun x hx => Nat.le_trans (spl_mem 58 s x hx).2.2 hs) h
theorem grpL_len {last:Bool}:∀ (L:List (List UInt8)) (out G:List Nat),grpL last L out=some G→G.length≤out.length + L.length + 1
 | [],out,G,hG => by
   have:out=G:=by simpa [grpL] using hG
   rw [← this];simp <;> omega
 | x :: xs,out,G,hG => by
   unfold grpL at hG
   by_cases hc:(last && xs.isEmpty && x.contains 46)=true
   ·rw [if_pos hc] at hG
    cases hf:fourF x with
    | none => rw [hf] at hG;cases hG
    | some n =>
      rw [hf] at hG
      injection hG with hG
      subst hG
      simp <;> omega
   ·rw [if_neg hc] at hG
    by_cases hk:hexOk x=true
    ·rw [if_pos hk] at hG
     have:=grpL_len xs _ G hG
     simp at this ⊢
     omega
    ·rw [if_neg hk] at hG;cases hG
theorem grpF_len {s:List UInt8} {last:Bool} {G:List Nat} (h:grpF s last=some G):G.length≤s.length + 2:=by
 unfold grpF at h
 by_cases h0:s=[]
 ·rw [if_pos h0] at h
  injection h with h
  subst h
  simp
 ·rw [if_neg h0] at h
  have h1:=grpL_len _ [] G h
  rw [spl_len] at h1
  have:=List.count_le_length (a:=(58:UInt8)) (l:=s)
  simp at h1
  omega
theorem getD_lt {L:List Nat} (h:∀ g ∈ L,g < 65536) (i:Nat):L.getD i 0 < 65536:=by
 rw [List.getD_eq_getElem?_getD]
 cases e:L[i]? with
 | none => simp
 | some x => exact h x (List.mem_of_getElem? e)
theorem gq_lt {a b:List Nat} (ha:∀ g ∈ a,g < 65536) (hb:∀ g ∈ b,g < 65536) (i:Nat):gq a b i < 65536:=by
 unfold gq
 split
 ·exact getD_lt hb _
 ·exact getD_lt ha _
theorem fouL_all:∀ (L:List (List UInt8)) (acc n:Nat),fouL L acc=some n→∀ x ∈ L, ∃ m,d255 x=some m
 | [],_,_,_,x,hx => by simp at hx
 | y :: ys,acc,n,h,x,hx => by
   unfold fouL at h
   cases hd:d255 y with
   | none => rw [hd] at h;cases h
   | some m =>
     rw [hd] at h
     rcases List.mem_cons.1 hx with rfl | hx
     ·exact ⟨m,hd⟩
     ·exact fouL_all ys _ n h x hx
theorem four_colon {s:List UInt8} {n:Nat} (h:fourF s=some n):s.contains 58=false:=by
 rw [← Bool.not_eq_true]
 intro hc
 have hm:(58:UInt8) ∈ s:=by simpa using hc
 unfold fourF at h
 by_cases h4:(spl 46 s).length=4
 ·rw [if_pos h4] at h
  rcases mem_spl 46 s 58 hm with e | ⟨p,hp,hb⟩
  ·revert e;decide
  ·obtain ⟨m,hd⟩:=fouL_all _ _ _ h p hp
   unfold d255 at hd
   by_cases hn:numL p=true∧decV p≤255
   ·have:=hn.1
    unfold numL at this
    rw [Bool.and_eq_true,Bool.and_eq_true] at this
    have:=List.all_eq_true.1 this.1.2 _ hb
    revert this
    decide
   ·rw [if_neg hn] at hd;cases hd
 ·rw [if_neg h4] at h;cases h
theorem index_none {s sub:List UInt8} (h:s.contains 58=false) (hs:sub=[58,58]):Lib.cut s sub=(s, [],false):=by
 subst hs
 unfold Lib.cut
 rw [if_neg]
 intro h0
 rcases Lib.index_spec s [58,58] with ⟨h1,_⟩ | ⟨i,h1,h2,h3,_⟩
 ·omega
 ·have hm:(58:UInt8) ∈ s:=by
   have:∀ (s:List UInt8) (i:Nat),Lib.occAt s [58,58] i=true→(58:UInt8) ∈ s:=by
    intro s i ho
    unfold Lib.occAt at ho
    have:([58,58]:List UInt8).isPrefixOf (s.drop i)=true:=by simpa using ho
    have h5:=List.isPrefixOf_iff_prefix.1 this
    have h6:=h5.subset (show (58:UInt8) ∈ [58,58] by simp)
    exact List.mem_of_mem_drop h6
   exact this s i h3
  have:s.contains 58=true:=by simpa using hm
  rw [h] at this;cases this
theorem spl_none {c:UInt8} {s:List UInt8} (h:s.contains c=false):spl c s=[s]:=by
 induction s with
 | nil => rfl
 | cons b l ih =>
   have hb:¬ b=c:=fun e => by subst e;simp at h
   have hl:l.contains c=false:=by
    rw [← Bool.not_eq_true]
    intro hc
    have:(b :: l).contains c=true:=by simp at hc ⊢;exact .inr hc
    rw [h] at this;cases this
   simp only [spl]
   rw [if_neg hb,ih hl]
theorem loose_same (s:List UInt8):looseF s=match fourF s with
  | some n => some (false,0,n)
  | none => if s=[] then none else sixF s:=by
 unfold looseF
 cases hf:fourF s with
 | some n => rw [four_colon hf,if_neg (by decide)];rfl
 | none =>
   by_cases hc:s.contains 58=true
   ·rw [if_pos hc]
    have:s ≠ []:=fun e => by subst e;simp at hc
    show sixF s=if s=[] then none else sixF s
    rw [if_neg this]
   ·rw [if_neg hc]
    have hc:=eq_false_of_ne_true hc
    show none=if s=[] then none else sixF s
    by_cases h0:s=[]
    ·rw [if_pos h0]
    ·rw [if_neg h0]
     unfold sixF cutC
     rw [index_none hc rfl]
     show none=mkA false (grpF s true) (grpF [] true)
     have hg:grpF s true=grpL true [s] []:=by unfold grpF;rw [if_neg h0,spl_none hc]
     rw [hg]
     unfold grpL
     by_cases hd:s.contains 46=true
     ·rw [if_pos (by rw [hd];rfl),hf];rfl
     ·rw [if_neg (by rw [eq_false_of_ne_true hd];simp)]
      by_cases hk:hexOk s=true
      ·rw [if_pos hk];rfl
      ·rw [if_neg hk];rfl
/-! ### the row of eight groups -/
def gs8 (a b:List Nat):List Nat:=splice (splice (List.replicate 8 0) 0 a) (8 - b.length) b
theorem splice_map {α β:Type} (f:α→β) (L:List α) (off:Nat) (cs:List α):(splice L off cs).map f=splice (L.map f) off (cs.map f):=by
 unfold splice
 simp [List.map_take,List.map_drop]
theorem gs8_get {a b:List Nat} (h:a.length + b.length≤8) {i:Nat} (hi:i < 8):(gs8 a b)[i]?=some (gq a b i):=by
 unfold gs8 gq
 have h1:(splice (List.replicate 8 0) 0 a)[i]?=some (a.getD i 0):=by
  unfold splice
  rw [List.take_zero,List.nil_append,Nat.zero_add]
  rcases Nat.lt_or_ge i a.length with hl | hl
  ·rw [List.getElem?_append_left hl,List.getD_eq_getElem?_getD,List.getElem?_eq_getElem hl];rfl
  ·rw [List.getElem?_append_right hl,List.getElem?_drop,List.getElem?_replicate,if_pos (by omega),List.getD_eq_getElem?_getD,List.getElem?_eq_none hl];rfl
 have hl1:(splice (List.replicate 8 0) 0 a).length=8:=by rw [length_splice _ _ _ (by simp;omega)];simp
 generalize splice (List.replicate 8 0) 0 a=S at *
 unfold splice
 by_cases hb:8 - b.length≤i
 ·rw [if_pos hb,List.getElem?_append_right (by rw [List.length_take,hl1];omega),List.length_take,hl1,Nat.min_eq_left (by omega),List.getElem?_append_left (by omega),List.getD_eq_getElem?_getD,List.getElem?_eq_getElem (by omega)]
  rfl
 ·rw [if_neg hb,List.getElem?_append_left (by rw [List.length_take,hl1];omega),List.getElem?_take,if_pos (by omega)]
  exact h1
theorem wdg_or {g:Nat→Nat} (h:∀ i,g i < 65536) {k:Nat} (hk:k < 4):bits .or .u64 ((wdg g k:Int) * 65536) (g k:Int)=((wdg g (k + 1):Nat):Int):=by
 have h1:=wdg_lt h k
 have h2:=h k
 have h3:65536 ^ k≤65536 ^ 3:=Nat.pow_le_pow_right (by decide) (by omega)
 have h4:wdg g k < 281474976710656:=Nat.lt_of_lt_of_le h1 (Nat.le_trans h3 (by decide))
 rw [show ((wdg g k:Int) * 65536)=((wdg g k * 65536:Nat):Int) by omega,bits_or_u64_nat _ _ (by omega) (by omega)]
 have:=Nat.shiftLeft_add_eq_or_of_lt (b:=g k) (i:=16) (by omega) (wdg g k)
 rw [Nat.shiftLeft_eq] at this
 show ((wdg g k * 65536 ||| g k:Nat):Int)=((wdg g k * 65536 + g k:Nat):Int)
 rw [show (65536:Nat)=2 ^ 16 from rfl, ← this]
def rdG {α:Type} (f:List UInt8→Option α):Nat→List (List UInt8)→List α→Sum Nat (List α)
 | _, [],acc => .inr acc
 | i, [l],acc => if l=[] then .inr acc else .inl i
 | i,l :: l2 :: ls,acc => match f l with
  | some p => rdG f (i + 1) (l2 :: ls) (acc ++ [p])
  | none => .inl i
theorem rdG_last {α:Type} (f:List UInt8→Option α) (i:Nat) (acc:List α):rdG f i [[]] acc=.inr acc:=by rw [rdG,if_pos rfl]
theorem rdG_open {α:Type} {f:List UInt8→Option α} {i:Nat} {l:List UInt8} {acc:List α} (h:l ≠ []):rdG f i [l] acc=.inl i:=by rw [rdG,if_neg h]
theorem rdG_bad {α:Type} {f:List UInt8→Option α} {i:Nat} {l:List UInt8} {ls:List (List UInt8)} {acc:List α} (h:ls ≠ []) (hp:f l=none):rdG f i (l :: ls) acc=.inl i:=by
 cases ls with
 | nil => exact absurd rfl h
 | cons a ls => rw [rdG,hp]
theorem rdG_good {α:Type} {f:List UInt8→Option α} {i:Nat} {l:List UInt8} {ls:List (List UInt8)} {acc:List α} {p:α} (h:ls ≠ []) (hp:f l=some p):rdG f i (l :: ls) acc=rdG f (i + 1) ls (acc ++ [p]):=by
 cases ls with
 | nil => exact absurd rfl h
 | cons a ls => rw [rdG,hp]
theorem rdG_step {α:Type} {f:List UInt8→Option α} {A:List (List UInt8)} {k m:Nat} {x:List UInt8} {acc:List α} (hm:A.length=m + 1) (hk:k < m) (hx:A[k]?=some x) :
  rdG f k (A.drop k) acc=match f x with
   | some p => rdG f (k + 1) (A.drop (k + 1)) (acc ++ [p])
   | none => .inl k:=by
 obtain ⟨hl,rfl⟩:=List.getElem?_eq_some_iff.1 hx
 have hne:A.drop (k + 1) ≠ []:=fun e => by
  have:=congrArg List.length e
  rw [List.length_drop] at this
  simp at this;omega
 rw [List.drop_eq_getElem_cons hl]
 cases hp:f A[k] with
 | none => exact rdG_bad hne hp
 | some p => exact rdG_good hne hp
theorem rdG_end {α:Type} {f:List UInt8→Option α} {A:List (List UInt8)} {m:Nat} {l:List UInt8} {acc:List α} (hm:A.length=m + 1) (hx:A[m]?=some l) :
  rdG f m (A.drop m) acc=if l=[] then .inr acc else .inl m:=by
 obtain ⟨hl,rfl⟩:=List.getElem?_eq_some_iff.1 hx
 have hd:A.drop (m + 1)=[]:=List.drop_eq_nil_of_le (by omega)
 rw [List.drop_eq_getElem_cons hl,hd]
 by_cases h:A[m]=[]
 ·rw [if_pos h,h];exact rdG_last _ _ _
 ·rw [if_neg h];exact rdG_open h
def rsG {α:Type} (f:List UInt8→Option α) (chk:List α→Int) (s:List UInt8):List α × Int × Int :=
 if 200000 < s.length then ([],0,2) else match rdG f 0 (spl 10 s) [] with
  | .inl i => ([],(i:Int),9)
  | .inr L => if chk L=0 then (L,0,0) else ([],0,chk L)
open Go.RowKit Go
def decB (n:Nat):ByteArray:=⟨(Lib.decDigits n).toArray⟩
def joinS (L:List ByteArray) (sep:ByteArray):ByteArray:=⟨(Lib.join (L.map (·.data.toList)) sep.data.toList).toArray⟩
theorem interc_len (sep:List UInt8) (K:Nat):∀ Ls:List (List UInt8),(∀ x ∈ Ls,x.length≤K)→(Lib.join Ls sep).length≤Ls.length * (K + sep.length)
 | [],_ => by simp [Lib.join_nil]
 | [x],h => by
   rw [Lib.join_one]
   have:=h x (by simp)
   simp
   omega
 | x :: y :: l,h => by
   have h1:=interc_len sep K (y :: l) fun z hz => h z (by simp at hz ⊢;right;exact hz)
   have h2:=h x (by simp)
   have h3:Lib.join (x :: y :: l) sep=x ++ sep ++ Lib.join (y :: l) sep:=by simp [Lib.join,List.intercalate,List.intersperse]
   rw [h3]
   simp only [List.length_append,List.length_cons,Nat.add_mul,Nat.one_mul] at h1 ⊢
   omega
def Short (L:List ByteArray):Prop:=L.length≤8∧∀ x ∈ L,x.data.toList.length≤30
theorem decB_short (n:Nat) (h:n < 18446744073709551616):(decB n).data.toList.length≤30:=by
 have:=Lib.nDigits_le20 n h
 rw [← Lib.decDigits_length] at this
 simp [decB]
 omega
theorem joinAt_any (g o c:Nat) (L:List ByteArray) (b:UInt8) (w:World) (hs:Short L) (hg:g < w.heap.size) (hc:L.length≤c) (hcells:∀ (j:Nat) x,L[j]?=some x→w.cell? ⟨g,o + j,none⟩=some (.string x)) :
  Calls Tryz.prog 99 #[.slice (some ⟨g,o,none⟩) L.length c, .string ⟨#[b]⟩] w (Ret (.string (joinS L ⟨#[b]⟩)) w):=by
 have hl:=interc_len ((⟨#[b]⟩:ByteArray).data.toList) 30 (L.map (·.data.toList)) (fun x hx => by
  obtain ⟨y,hy,rfl⟩:=List.mem_map.1 hx
  exact hs.2 y hy)
 rw [List.length_map] at hl
 have h1:=hs.1
 have hsep:((⟨#[b]⟩:ByteArray).data.toList).length=1:=rfl
 rw [hsep] at hl
 exact (Tryz.strings_Join g o c L ⟨#[b]⟩ w hcells hg (by omega) hc (by omega)).mono fun e w' h => h
theorem and255 (n:Nat):Go.bits .and .u64 (n:Int) 255=((n % 256:Nat):Int):=by
 have h127:(BitVec.ofInt 64 255).toNat=2 ^ 8 - 1:=by decide
 have key:(BitVec.ofInt 64 (n:Int) &&& BitVec.ofInt 64 255).toNat=n % 256:=by
  rw [BitVec.toNat_and,BitVec.toNat_ofInt,h127,Nat.and_two_pow_sub_one_eq_mod]
  omega
 show IntKind.u64.wrap ((BitVec.ofInt 64 (n:Int) &&& BitVec.ofInt 64 255).toNat:Int)=_
 rw [key,IntKind.wrap_u64]
 omega
theorem and255i (n:Nat):Go.bits .and .i64 (n:Int) 255=((n % 256:Nat):Int):=by
 have h127:(BitVec.ofInt 64 255).toNat=2 ^ 8 - 1:=by decide
 have key:(BitVec.ofInt 64 (n:Int) &&& BitVec.ofInt 64 255).toNat=n % 256:=by
  rw [BitVec.toNat_and,BitVec.toNat_ofInt,h127,Nat.and_two_pow_sub_one_eq_mod]
  omega
 show IntKind.i64.wrap ((BitVec.ofInt 64 (n:Int) &&& BitVec.ofInt 64 255).toNat:Int)=_
 rw [key,IntKind.wrap_i64]
 omega
def fourL (lo:Nat):List ByteArray:=[decB (lo / 16777216 % 256),decB (lo / 65536 % 256),decB (lo / 256 % 256),decB (lo % 256)]
theorem fourL_short (lo:Nat):Short (fourL lo):=by
 refine ⟨by simp [fourL],fun x hx => ?_⟩
 simp [fourL] at hx
 rcases hx with rfl | rfl | rfl | rfl <;> exact decB_short _ (by omega)
theorem textFour_any (hi lo:Nat) (w:World) (hlo:lo < 4294967296) (ht:Tabs w):Calls Tryz.prog 144 #[.agg #[.bool false, .int .u64 (hi:Int), .int .u64 (lo:Int)]] w (Ret (.string (joinS (fourL lo) ⟨#[46]⟩)) w):=by
 obtain ⟨n0,hn0⟩:∃ n,(lo / 16777216 % 256)=n:=⟨_,rfl⟩
 have c0:n0 < 1000:=by omega
 obtain ⟨n1,hn1⟩:∃ n,(lo / 65536 % 256)=n:=⟨_,rfl⟩
 have c1:n1 < 1000:=by omega
 obtain ⟨n2,hn2⟩:∃ n,(lo / 256 % 256)=n:=⟨_,rfl⟩
 have c2:n2 < 1000:=by omega
 obtain ⟨n3,hn3⟩:∃ n,(lo % 256)=n:=⟨_,rfl⟩
 have c3:n3 < 1000:=by omega
 have b0:Go.bits .and .u64 ((lo:Int) / 16777216) 255=(n0:Int):=by rw [show (lo:Int) / 16777216=((lo / 16777216:Nat):Int) by omega,and255,hn0]
 have b1:Go.bits .and .u64 ((lo:Int) / 65536) 255=(n1:Int):=by rw [show (lo:Int) / 65536=((lo / 65536:Nat):Int) by omega,and255,hn1]
 have b2:Go.bits .and .u64 ((lo:Int) / 256) 255=(n2:Int):=by rw [show (lo:Int) / 256=((lo / 256:Nat):Int) by omega,and255,hn2]
 have b3:Go.bits .and .u64 (lo:Int) 255=(n3:Int):=by rw [and255,hn3]
 have hL:fourL lo=[decB n0,decB n1,decB n2,decB n3]:=by unfold fourL;rw [hn0,hn1,hn2,hn3]
 have hLs:=fourL_short lo
 rw [hL] at hLs ⊢
 clear hL hn0 hn1 hn2 hn3
 have H0:=Lib.hid fun wx (ht:Tabs wx) => fmtU10_any n0 (by omega) wx ht.1
 rw [show (⟨(Lib.decDigits n0).toArray⟩:ByteArray)=decB n0 from rfl] at H0
 generalize decB n0=d0 at *
 have H1:=Lib.hid fun wx (ht:Tabs wx) => fmtU10_any n1 (by omega) wx ht.1
 rw [show (⟨(Lib.decDigits n1).toArray⟩:ByteArray)=decB n1 from rfl] at H1
 generalize decB n1=d1 at *
 have H2:=Lib.hid fun wx (ht:Tabs wx) => fmtU10_any n2 (by omega) wx ht.1
 rw [show (⟨(Lib.decDigits n2).toArray⟩:ByteArray)=decB n2 from rfl] at H2
 generalize decB n2=d2 at *
 have H3:=Lib.hid fun wx (ht:Tabs wx) => fmtU10_any n3 (by omega) wx ht.1
 rw [show (⟨(Lib.decDigits n3).toArray⟩:ByteArray)=decB n3 from rfl] at H3
 generalize decB n3=d3 at *
 have HJ:=Lib.hid fun g c wx h1 h2 h3 => joinAt_any g 0 c ([d0,d1,d2,d3]:List ByteArray) 46 wx hLs h1 h2 h3
 clear hLs
 generalize joinS ([d0,d1,d2,d3]:List ByteArray) ⟨#[46]⟩=J at *
 have HP:Hid (Blk (w.alloc (.cells #[.bool false, .int .u64 (hi:Int), .int .u64 (lo:Int)] 28 (0,0))) w.heap.size 28 #[.bool false, .int .u64 (hi:Int), .int .u64 (lo:Int)]):=Lib.hid (Blk.new w _ _)
 have HB:Hid (Below w.heap.size w (w.alloc (.cells #[.bool false, .int .u64 (hi:Int), .int .u64 (lo:Int)] 28 (0,0)))):=Lib.hid (below_alloc (Below.refl _ _) _)
 have HT:=Lib.hid (ht.below HB.out)
 clear ht
 go_enter Tryz.func144,Tryz.ntmps144
 go_upto_region 1 with fail
 generalize w.alloc (.cells #[.bool false, .int .u64 (hi:Int), .int .u64 (lo:Int)] 28 (0,0))=w0 at *
 have p0:=HP.out.cell 0
 simp at p0
 go_wp2
 go_loopw [3,4,14] (fun v iv i wr => ∃ k:Nat,k≤4∧i=.int .i64 k∧Hid (OwnS wr w0.heap.size v (([d0,d1,d2,d3]:List ByteArray).take k))∧Hid (Below w0.heap.size w0 wr)) (fun _ _ i _ => 4 - (intOf i).toNat)
 case atStart => exact ⟨0,Nat.zero_le _,rfl,Lib.hid (OwnS.nil _ _),Lib.hid (Below.refl _ _)⟩
 case round =>
  clear p0
  obtain ⟨k,hk,rfl,HO,HBr⟩:=hrel
  have p2:=(HP.out.below HBr.out HP.out.lt).cell 2
  simp at p2
  by_cases hlt:k < 4
  ·have hk4:k=0 ∨ k=1 ∨ k=2 ∨ k=3:=by omega
   have HTr:=Lib.hid (HT.out.below HBr.out)
   rcases hk4 with rfl | rfl | rfl | rfl
   ·go_wp2_with fail
    refine (H0.out _ HTr.out).mono ?_
    rintro e w' ⟨rfl,hb⟩
    have HO1:=Lib.hid (HO.out.later hb)
    have HBr1:=Lib.hid (HBr.out.trans (hb.mono HBr.out.size))
    clear hb HO HBr HTr p2
    go_wp2_with (at_builtin;refine wpList_app strE rfl (.tmp 17) (.tmp 26) rfl rfl (World.ownsRow.alloc HO1.out _) rfl (src_one_new _ _ _) ?c1 ?c2 ?c3 ?c4 ?_)
    case c1 => first | rfl | (intro u hu;simp at hu;subst hu;rfl)
    case c2 => unfold maxLen;simp
    case c3 => simp
    case c4 => have:=HBr1.out.size;simp;omega
    intro v' w2 hO hG
    have HO':=Lib.hid (OwnS.snoc hO)
    have HB':Hid (Below w0.heap.size w0 w2):=Lib.hid ((Below.alloc HBr1.out HBr1.out.size _).trans (hG.below (by have:=HBr1.out.size;simp;omega) (own_base HO1.out)))
    clear hO hG
    go_wp2
    exact ⟨⟨1,by decide,rfl,HO',HB'⟩,by simp [intOf]⟩
   ·go_wp2_with fail
    refine (H1.out _ HTr.out).mono ?_
    rintro e w' ⟨rfl,hb⟩
    have HO1:=Lib.hid (HO.out.later hb)
    have HBr1:=Lib.hid (HBr.out.trans (hb.mono HBr.out.size))
    clear hb HO HBr HTr p2
    go_wp2_with (at_builtin;refine wpList_app strE rfl (.tmp 17) (.tmp 26) rfl rfl (World.ownsRow.alloc HO1.out _) rfl (src_one_new _ _ _) ?c1 ?c2 ?c3 ?c4 ?_)
    case c1 => first | rfl | (intro u hu;simp at hu;subst hu;rfl)
    case c2 => unfold maxLen;simp
    case c3 => simp
    case c4 => have:=HBr1.out.size;simp;omega
    intro v' w2 hO hG
    have HO':=Lib.hid (OwnS.snoc hO)
    have HB':Hid (Below w0.heap.size w0 w2):=Lib.hid ((Below.alloc HBr1.out HBr1.out.size _).trans (hG.below (by have:=HBr1.out.size;simp;omega) (own_base HO1.out)))
    clear hO hG
    go_wp2
    exact ⟨⟨2,by decide,rfl,HO',HB'⟩,by simp [intOf]⟩
   ·go_wp2_with fail
    refine (H2.out _ HTr.out).mono ?_
    rintro e w' ⟨rfl,hb⟩
    have HO1:=Lib.hid (HO.out.later hb)
    have HBr1:=Lib.hid (HBr.out.trans (hb.mono HBr.out.size))
    clear hb HO HBr HTr p2
    go_wp2_with (at_builtin;refine wpList_app strE rfl (.tmp 17) (.tmp 26) rfl rfl (World.ownsRow.alloc HO1.out _) rfl (src_one_new _ _ _) ?c1 ?c2 ?c3 ?c4 ?_)
    case c1 => first | rfl | (intro u hu;simp at hu;subst hu;rfl)
    case c2 => unfold maxLen;simp
    case c3 => simp
    case c4 => have:=HBr1.out.size;simp;omega
    intro v' w2 hO hG
    have HO':=Lib.hid (OwnS.snoc hO)
    have HB':Hid (Below w0.heap.size w0 w2):=Lib.hid ((Below.alloc HBr1.out HBr1.out.size _).trans (hG.below (by have:=HBr1.out.size;simp;omega) (own_base HO1.out)))
    clear hO hG
    go_wp2
    exact ⟨⟨3,by decide,rfl,HO',HB'⟩,by simp [intOf]⟩
   ·go_wp2_with fail
    refine (H3.out _ HTr.out).mono ?_
    rintro e w' ⟨rfl,hb⟩
    have HO1:=Lib.hid (HO.out.later hb)
    have HBr1:=Lib.hid (HBr.out.trans (hb.mono HBr.out.size))
    clear hb HO HBr HTr p2
    go_wp2_with (at_builtin;refine wpList_app strE rfl (.tmp 17) (.tmp 26) rfl rfl (World.ownsRow.alloc HO1.out _) rfl (src_one_new _ _ _) ?c1 ?c2 ?c3 ?c4 ?_)
    case c1 => first | rfl | (intro u hu;simp at hu;subst hu;rfl)
    case c2 => unfold maxLen;simp
    case c3 => simp
    case c4 => have:=HBr1.out.size;simp;omega
    intro v' w2 hO hG
    have HO':=Lib.hid (OwnS.snoc hO)
    have HB':Hid (Below w0.heap.size w0 w2):=Lib.hid ((Below.alloc HBr1.out HBr1.out.size _).trans (hG.below (by have:=HBr1.out.size;simp;omega) (own_base HO1.out)))
    clear hO hG
    go_wp2
    exact ⟨⟨4,by decide,rfl,HO',HB'⟩,by simp [intOf]⟩
  ·obtain rfl:k=4:=by omega
   obtain ⟨g,c,hv,_,hg,hc,_,hcell⟩:=HO.out.one (by simp)
   have hv':u3=.slice (some ⟨g,0,none⟩) 4 c:=hv
   have hc':4≤c:=hc
   have HJ2:=Lib.hid (HJ.out g c wr hg hc' (fun j x hx => by rw [Nat.zero_add];exact hcell j x hx))
   clear hv hc hcell p2 HJ
   subst hv'
   go_wp2_with fail
   refine HJ2.out.mono ?_
   rintro e w' ⟨rfl,hb⟩
   go_wp2_with fail
   go_ret
   exact ⟨rfl,HB.out.trans ((HBr.out.trans (hb.mono HBr.out.size)).mono HB.out.size)⟩
def itB (n:Int):ByteArray:=⟨(Lib.itoa n).toArray⟩
theorem itB_size {n:Int} (h0:-9223372036854775808≤n) (h1:n≤9223372036854775807):(itB n).size≤21:=by
 have:=Lib.itoa_length_le n h0 h1
 unfold itB
 show (Lib.itoa n).toArray.size≤21
 rw [List.size_toArray]
 exact this
theorem join_own {w:World} {B:Nat} {v:Value} {M:List ByteArray} (b:UInt8) (h:OwnS w B v M) (hn:M.length≤1000000) (hz:(joinS M ⟨#[b]⟩).size≤140737488355328):Calls Tryz.prog 99 #[v, .string ⟨#[b]⟩] w (Ret (.string (joinS M ⟨#[b]⟩)) w):=by
 rcases Nat.eq_zero_or_pos M.length with h0 | h0
 ·obtain ⟨ad,c,rfl, -⟩:=own_form h
  obtain rfl:=List.eq_nil_of_length_eq_zero h0
  refine (Tryz.strings_Join_none ad c ⟨#[b]⟩ w).mono ?_
  rintro e w' ⟨rfl,rfl⟩
  exact ⟨rfl,Below.refl _ _⟩
 ·obtain ⟨g,c,rfl,hB,hg,hc,hm,hcell⟩:=h.one h0
  have hz2:(Lib.join (M.map (·.data.toList)) (⟨#[b]⟩:ByteArray).data.toList).length≤140737488355328:=by
   have h2:(joinS M ⟨#[b]⟩).size=(Lib.join (M.map (·.data.toList)) (⟨#[b]⟩:ByteArray).data.toList).length:=by
    show (Lib.join _ _).toArray.size=_
    rw [List.size_toArray]
   omega
  exact (Tryz.strings_Join g 0 c M ⟨#[b]⟩ w (fun j x hx => by rw [Nat.zero_add];exact hcell j x hx) hg (by omega) hc hz2).mono fun e w' h => h
theorem itoaI_any (n:Int) (h0:-9223372036854775808≤n) (h1:n≤9223372036854775807) (w:World) (ht:Tabs w):Calls Tryz.prog 97 #[.int .i64 n] w (Ret (.string (itB n)) w):=by
 refine (Tryz.strconv_Itoa n h0 h1 w ht.1).mono ?_
 rintro e w' ⟨rfl,k,os,rfl⟩
 exact ⟨rfl,below_grow (Below.refl _ _) (Nat.le_refl _) _ _⟩
end Go.Proofs.YtgkhcdjoilgfmaaGreatDoor
namespace Go.Proofs.YtgkhcdjoilgfmaaGreatDoor.Lm
open Go Go.Proofs.YtgkhcdjoilgfmaaGreatDoor
section
variable {P:Program} {ops:Array Oper} {Q:Exit→Act→World→Prop} {N total:Nat} {a0:Act}
variable {R:Nat→Value→Nat→World→Prop} {C:Nat→World→Prop} {S:Nat→World→Nat→World→Prop} {cost lim:Nat→Nat}
def msk (ops:Array Oper) (i:Nat):Array Bool:=(Array.range ops.size).map fun j => j == i || bef ops j i
theorem msk_get (ops:Array Oper) (i j:Nat) (hj:j < ops.size):(msk ops i).getD j false=(j == i || bef ops j i):=by
 simp [msk,Array.getD,hj]
def limB (ops:Array Oper) (N total:Nat) (cost lim:Nat→Nat):Bool:=(List.range N).all fun i => decide (total≤lim i + sumCost cost (msk ops i) ops.size)
theorem limB_spec {ops:Array Oper} {N total:Nat} {cost lim:Nat→Nat} (h:limB ops N total cost lim=true):∀ i,i < N→total≤lim i + sumCost cost (msk ops i) ops.size:=by
 simpa [limB] using h
theorem sumCost_disj {cost:Nat→Nat} {listed mask:Array Bool}:∀ k,(∀ j,j < k→listed.getD j false=true→mask.getD j false=false)→sumCost cost listed k + sumCost cost mask k≤sumCost cost (Array.replicate k true) k
 | 0,_ => by simp [sumCost]
 | k + 1,h => by
   have ih:=sumCost_disj (cost:=cost) (listed:=listed) (mask:=mask) k fun j hj => h j (by omega)
   have hk:=h k (by omega)
   have hfull:∀ m,m≤k→sumCost cost (Array.replicate (k + 1) true) m=sumCost cost (Array.replicate k true) m:=by
    intro m
    induction m with
    | zero => intro _;rfl
    | succ m ihm =>
      intro hm
      simp only [sumCost,ihm (by omega)]
      simp [Array.getD,show m < k by omega,show m < k + 1 by omega]
   simp only [sumCost,hfull k (Nat.le_refl _)]
   have h1:(Array.replicate (k + 1) true).getD k false=true:=by simp [Array.getD]
   simp only [h1,if_true]
   cases hl:listed.getD k false
   ·simp only [Bool.false_eq_true,if_false]
    cases hm:mask.getD k false <;> simp <;> omega
   ·simp only [hk hl,if_true,Bool.false_eq_true,if_false]
    omega
def Ob (P:Program) (ops:Array Oper) (a0:Act) (R:Nat→Value→Nat→World→Prop) (C:Nat→World→Prop) (S:Nat→World→Nat→World→Prop) (cost lim:Nat→Nat) (N:Nat) (i:Nat) (o:Oper):Prop :=
 ∀ (T:Nat→Value) (w:World) (n:Nat),C n w→n≤lim i→(∀ p,p < ops.size→bef ops i p=true→R p (T p) n w) →
  if Region.wanted o (yielded ops (setAll (ops.toList.take N) 0 T a0).tmps) then
   Op1 P o (setAll (ops.toList.take N) 0 T a0).eval w fun v w' => R i v (n + cost i) w'∧C (n + cost i) w'∧S n w (n + cost i) w'
  else R i undef (n + cost i) w∧C (n + cost i) w∧S n w (n + cost i) w
theorem region_any (hB:InvB ops N a0.tmps.size) (hS:∀ p v n w n' w',R p v n w→S n w n' w'→R p v n' w')
  (htot:sumCost cost (Array.replicate ops.size true) ops.size≤total) (hlm:∀ i,i < N→total≤lim i + sumCost cost (msk ops i) ops.size)
  (hob:∀ (i:Nat) (o:Oper),ops[i]?=some o→i < N→Ob P ops a0 R C S cost lim N i o)
  (hend:∀ T w,(∃ n,n≤total∧C n w∧∀ p,p < N→R p (T p) n w)→wpList P ops Q (ops.toList.drop N) (setAll (ops.toList.take N) 0 T a0) w) :
  ∀ (fuel:Nat) (listed:Array Bool) (a:Act) (w:World),listed.size=ops.size→fuel + cnt listed ops.size=ops.size →
   (∀ j,j < ops.size→listed.getD j false=true→∀ p,p < ops.size→bef ops j p=true→listed.getD p false=true) →
   ((∃ T,(∀ j,N≤j→listed.getD j false=false)∧Fits ops a0 listed T a∧C (sumCost cost listed ops.size) w∧∀ j,j < ops.size→listed.getD j false=true→R j (T j) (sumCost cost listed ops.size) w) ∨
    (∃ k,N≤k∧k≤ops.size∧(∀ j,j < ops.size→(listed.getD j false=true ↔ j < k))∧wpList P ops Q (ops.toList.drop k) a w)) →
   wpAny P .any ops Q fuel listed a w:=by
 -- the whole head is there: the two frames are one
 have whole:∀ (listed:Array Bool) (T:Nat→Value) (a:Act),(∀ j,N≤j→listed.getD j false=false)→(∀ j,j < N→listed.getD j false=true)→Fits ops a0 listed T a→a=setAll (ops.toList.take N) 0 T a0:=by
  intro listed T a ht hh hF
  have h1:a.defers=(setAll (ops.toList.take N) 0 T a0).defers:=by rw [setAll_defers,hF.defers]
  have h2:a.tmps=(setAll (ops.toList.take N) 0 T a0).tmps:=by
   refine Array.ext_getElem? fun t => ?_
   rcases Nat.lt_or_ge t a0.tmps.size with hts | hts
   ·rw [setAll_get T t _ 0 a0 hts]
    cases hw:lastW t (ops.toList.take N) 0 with
    | some j =>
      obtain ⟨_,o',ho',hd⟩:=lastW_some _ _ hw
      simp only [Nat.sub_zero,List.getElem?_take] at ho'
      split at ho'
      ·rename_i hjN
       exact hF.set j o' t (by simpa using ho') (hh j hjN) hd
      ·cases ho'
    | none =>
      refine hF.rest t fun j o' hj hlj hd => ?_
      have hjN:j < N:=by
       rcases Nat.lt_or_ge j N with h | h
       ·exact h
       ·rw [ht j h] at hlj;cases hlj
      exact lastW_none _ _ hw j o' (by rw [List.getElem?_take,if_pos hjN];simpa using hj) hd
   ·rw [Array.getElem?_eq_none (by rw [hF.size];exact hts),Array.getElem?_eq_none (by rw [setAll_size];exact hts)]
  cases a;cases hb:setAll (ops.toList.take N) 0 T a0;simp_all
 -- nothing ready: all is listed
 have allListed:∀ (listed:Array Bool),listed.size=ops.size→Region.ready .any ops listed=[]→∀ j,j < ops.size→listed.getD j false=true:=by
  intro listed hsz hr j
  induction j using Nat.strongRecOn with
  | _ j ih =>
    intro hj
    cases hlj:listed.getD j false with
    | true => rfl
    | false =>
      exfalso
      obtain ⟨o,ho⟩:∃ o,ops[j]?=some o:=⟨ops[j],Array.getElem?_eq_getElem hj⟩
      have:j ∈ Region.ready .any ops listed:=mem_ready.2 ⟨by simpa [Array.getD,hsz,hj] using hlj,o,ho,fun e he hb => ih e.on (hB.back j o e ho he hb) (by have:=hB.back j o e ho he hb;omega)⟩
      rw [hr] at this;cases this
 -- the end
 have fin:∀ (listed:Array Bool) (a:Act) (w:World),(∀ j,j < ops.size→listed.getD j false=true) →
   ((∃ T,(∀ j,N≤j→listed.getD j false=false)∧Fits ops a0 listed T a∧C (sumCost cost listed ops.size) w∧∀ j,j < ops.size→listed.getD j false=true→R j (T j) (sumCost cost listed ops.size) w) ∨
    (∃ k,N≤k∧k≤ops.size∧(∀ j,j < ops.size→(listed.getD j false=true ↔ j < k))∧wpList P ops Q (ops.toList.drop k) a w))→Q .normal a w:=by
  intro listed a w hall h
  rcases h with ⟨T,ht,hF,hC,hR⟩ | ⟨k,hk1,hk2,hk3,hk4⟩
  ·have hN:N=ops.size:=by
    rcases Nat.lt_or_ge N ops.size with h | h
    ·have h1:=ht N (Nat.le_refl _)
     rw [hall N h] at h1;cases h1
    ·have:=hB.le;omega
   have ha:=whole listed T a ht (fun j hj => hall j (by omega)) hF
   have:=hend T w ⟨_,Nat.le_trans (sumCost_le _) htot,hC,fun p hp => hR p (by omega) (hall p (by omega))⟩
   rw [← ha,List.drop_eq_nil_of_le (by simp;omega)] at this
   exact this
  ·have:k=ops.size:=by
    rcases Nat.lt_or_ge k ops.size with h | h
    ·have:=(hk3 k h).1 (hall k h);omega
    ·omega
   rw [List.drop_eq_nil_of_le (by simp;omega)] at hk4
   exact hk4
 intro fuel
 induction fuel with
 | zero =>
   intro listed a w hsz hf hd h
   have hall:=cnt_full ops.size (by omega:cnt listed ops.size=ops.size)
   refine ⟨?_,fin listed a w hall h⟩
   refine List.eq_nil_iff_forall_not_mem.2 fun i hi => ?_
   obtain ⟨h1,o,ho,_⟩:=mem_ready.1 hi
   have:=hall i (Array.getElem?_eq_some_iff.1 ho).1
   rw [(getD_false h1).2] at this;cases this
 | succ fuel ih =>
   intro listed a w hsz hf hd h
   refine ⟨fun hr => fin listed a w (allListed listed hsz hr) h,fun i hi => ?_⟩
   obtain ⟨h1,o,ho,hafter⟩:=mem_ready.1 hi
   have hilt:i < ops.size:=(Array.getElem?_eq_some_iff.1 ho).1
   have hset:∀ j,(listed.setIfInBounds i true).getD j false=true ↔ (j=i ∨ listed.getD j false=true):=fun j => by
    by_cases hj:i=j
    ·subst hj;simp [Array.getD,hsz,hilt]
    ·rw [getD_set_ne false hj];simp [Ne.symm hj]
   have hbef:∀ p,p < ops.size→bef ops i p=true→listed.getD p false=true:=fun p hp hb => by
    obtain ⟨e,he,hbi,hor⟩:=hB.clos i p o ho hp hb
    have h2:=hafter e he hbi
    rcases hor with rfl | hor
    ·exact h2
    ·exact hd e.on (by have:=hB.back i o e ho he hbi;omega) h2 p hp hor
   have hsz':(listed.setIfInBounds i true).size=ops.size:=by simpa using hsz
   have hf':fuel + cnt (listed.setIfInBounds i true) ops.size=ops.size:=by
    have:=sumCost_set (cost:=fun _ => 1) h1 ops.size
    simp only [cnt,hilt,if_true] at this hf ⊢
    omega
   have hd':∀ j,j < ops.size→(listed.setIfInBounds i true).getD j false=true→∀ p,p < ops.size→bef ops j p=true→(listed.setIfInBounds i true).getD p false=true:=by
    intro j hj hl p hp hb
    rcases (hset j).1 hl with rfl | hl'
    ·exact (hset p).2 (.inr (hbef p hp hb))
    ·exact (hset p).2 (.inr (hd j hj hl' p hp hb))
   rcases h with ⟨T,ht,hF,hC,hR⟩ | ⟨k,hk1,hk2,hk3,hk4⟩
   ·rcases Nat.lt_or_ge i N with hiN | hiN
    ·-- a step of the head
     have hpN:∀ p,bef ops i p=true→p < ops.size→listed.getD p false=true∧p < N:=fun p hb hp => by
      have:=hbef p hp hb
      refine ⟨this,?_⟩
      rcases Nat.lt_or_ge p N with h | h
      ·exact h
      ·rw [ht p h] at this;cases this
     have hag:=hF.agree hB ht ho hpN
     have hsum:=sumCost_set (cost:=cost) h1 ops.size
     simp only [hilt,if_true] at hsum
     have hlim:sumCost cost listed ops.size≤lim i:=by
      have h5:=sumCost_disj (cost:=cost) (listed:=listed) (mask:=msk ops i) ops.size fun j hj hl => by
       rw [msk_get ops i j hj]
       cases hji:j == i
       ·cases hbf:bef ops j i
        ·rfl
        ·have:=hd j hj hl i hilt hbf
         rw [(getD_false h1).2] at this;cases this
       ·obtain rfl:j=i:=by simpa using hji
        rw [(getD_false h1).2] at hl;cases hl
      have h6:=hlm i hiN
      omega
     have hO:=hob i o ho hiN T w _ hC hlim fun p hp hb => hR p hp (hbef p hp hb)
     have next:∀ v w',R i v (sumCost cost listed ops.size + cost i) w'∧C (sumCost cost listed ops.size + cost i) w'∧S (sumCost cost listed ops.size) w (sumCost cost listed ops.size + cost i) w'→wpAny P .any ops Q fuel (listed.setIfInBounds i true) (a.put o.dst v) w':=fun v w' ⟨q1,q2,q3⟩ =>
      ih _ _ _ hsz' hf' hd' (.inl ⟨fun j => if j=i then v else T j,fun j hj => by
        rw [getD_set_ne false (by omega)];exact ht j hj,hF.put hB ho h1 v,by rw [hsum];exact q2,fun j hj hl => by
        by_cases hji:j=i
        ·subst hji;rw [hsum];simpa using q1
        ·simp only [hji,if_false]
         rw [hsum];exact hS j _ _ _ _ _ (hR j hj (((hset j).1 hl).resolve_left hji)) q3⟩)
     unfold wpOp
     simp only [ho]
     rw [wanted_of_get (a:=a) (b:=setAll (ops.toList.take N) 0 T a0) o hag]
     split
     ·rename_i hw
      rw [if_pos hw] at hO
      refine .inl (Op1.wp (post:=fun v w' => R i v (sumCost cost listed ops.size + cost i) w'∧C (sumCost cost listed ops.size + cost i) w'∧S (sumCost cost listed ops.size) w (sumCost cost listed ops.size + cost i) w') ?_ next)
      unfold Op1 at hO ⊢
      rw [execOp_congr o (Region.noSelect_spec hB.sel i o · · ho) (eval_of_get o hag)]
      exact hO
     ·rename_i hw
      rw [if_neg hw] at hO
      exact next undef w hO
    ·-- the tail begins
     have hall:∀ j,j < i→listed.getD j false=true:=fun j hj => hbef j (by omega) (hB.tail i j hiN hilt hj)
     have hiN':i=N:=by
      rcases Nat.lt_or_ge N i with h | h
      ·have h2:=ht N (Nat.le_refl _)
       rw [hall N h] at h2;cases h2
      ·omega
     subst hiN'
     have ha:=whole listed T a ht hall hF
     have hw:=hend T w ⟨_,Nat.le_trans (sumCost_le _) htot,hC,fun p hp => hR p (by omega) (hall p hp)⟩
     rw [← ha] at hw
     have hdr:ops.toList.drop i=o :: ops.toList.drop (i + 1):=by
      rw [List.drop_eq_getElem_cons (by simpa using hilt)]
      congr 1
      have:=(Array.getElem?_eq_some_iff.1 ho).2
      simpa using this
     rw [hdr] at hw
     have hwop:wpOp P ops Q i (wpList P ops Q (ops.toList.drop (i + 1))) a w:=by unfold wpOp;simp only [ho];exact hw
     refine wpOp_mono (fun a' w' h' => ih _ _ _ hsz' hf' hd' (.inr ⟨i + 1,by omega,by omega,fun j hj => ?_,h'⟩)) hwop
     rw [hset j]
     constructor
     ·rintro (rfl | hl)
      ·omega
      ·rcases Nat.lt_or_ge j i with h | h
       ·omega
       ·rw [ht j h] at hl;cases hl
     ·intro hj'
      by_cases hji:j=i
      ·exact .inl hji
      ·exact .inr (hall j (by omega))
   ·-- a step of the tail
    have hik:i=k:=by
     have hnl:=(getD_false h1).2
     have h2:¬ i < k:=fun hlt => by rw [(hk3 i hilt).2 hlt] at hnl;cases hnl
     rcases Nat.lt_or_ge k i with h | h
     ·have h3:=hbef k (by omega) (hB.tail i k (by omega) hilt h)
      have:=(hk3 k (by omega)).1 h3;omega
     ·omega
    subst hik
    have hdr:ops.toList.drop i=o :: ops.toList.drop (i + 1):=by
     rw [List.drop_eq_getElem_cons (by simpa using hilt)]
     congr 1
     have:=(Array.getElem?_eq_some_iff.1 ho).2
     simpa using this
    rw [hdr] at hk4
    have hwop:wpOp P ops Q i (wpList P ops Q (ops.toList.drop (i + 1))) a w:=by unfold wpOp;simp only [ho];exact hk4
    refine wpOp_mono (fun a' w' h' => ih _ _ _ hsz' hf' hd' (.inr ⟨i + 1,by omega,by omega,fun j hj => ?_,h'⟩)) hwop
    rw [hset j,hk3 j hj]
    omega
def AfterAll (R:Nat→Value→Nat→World→Prop) (T:Nat→Value) (n:Nat) (w:World):List Edge→Prop
 | [] => True
 | e :: l => match Region.binds .any e with
  | true => R e.on (T e.on) n w∧AfterAll R T n w l
  | false => AfterAll R T n w l
theorem afterAll_of {R:Nat→Value→Nat→World→Prop} {T:Nat→Value} {n:Nat} {w:World}:∀ (l:List Edge),(∀ e ∈ l,Region.binds .any e=true→R e.on (T e.on) n w)→AfterAll R T n w l
 | [],_ => trivial
 | e :: l,h => by
   have ih:=afterAll_of l fun e' he' => h e' (List.mem_cons_of_mem _ he')
   unfold AfterAll
   cases hb:Region.binds .any e with
   | true => exact ⟨h e (List.mem_cons_self ..) hb,ih⟩
   | false => exact ih
def Ob' (P:Program) (A:(Nat→Value)→Act) (R:Nat→Value→Nat→World→Prop) (C:Nat→World→Prop) (S:Nat→World→Nat→World→Prop) (cost lim:Nat→Nat) (i:Nat) (o:Oper):Prop :=
 ∀ (T:Nat→Value) (w:World) (n:Nat),C n w→n≤lim i→AfterAll R T n w o.after.toList →
  match o.guard with
  | none => Op1 P o (A T).eval w fun v w' => R i v (n + cost i) w'∧C (n + cost i) w'∧S n w (n + cost i) w'
  | some (g,want) => (T g=.bool want→Op1 P o (A T).eval w fun v w' => R i v (n + cost i) w'∧C (n + cost i) w'∧S n w (n + cost i) w') ∧
    (T g ≠ .bool want→R i undef (n + cost i) w∧C (n + cost i) w∧S n w (n + cost i) w)
def ObAll (P:Program) (A:(Nat→Value)→Act) (R:Nat→Value→Nat→World→Prop) (C:Nat→World→Prop) (S:Nat→World→Nat→World→Prop) (cost lim:Nat→Nat):List Oper→Nat→Prop
 | [],_ => True
 | o :: l,k => Ob' P A R C S cost lim k o∧ObAll P A R C S cost lim l (k + 1)
theorem ObAll.get {A:(Nat→Value)→Act}:∀ (l:List Oper) (k:Nat),ObAll P A R C S cost lim l k→∀ (i:Nat) (o:Oper),l[i]?=some o→Ob' P A R C S cost lim (k + i) o
 | [],_,_,i,o,ho => by simp at ho
 | o' :: l,k,h,i,o,ho => by
   cases i with
   | zero => simp at ho;subst ho;exact h.1
   | succ i =>
     have:=ObAll.get l (k + 1) h.2 i o (by simpa using ho)
     rwa [show k + (i + 1)=k + 1 + i by omega]
theorem ob_of {A:(Nat→Value)→Act} (hB:InvB ops N a0.tmps.size) (hE:edgeB ops=true) {i:Nat} {o:Oper} (ho:ops[i]?=some o) (hi:i < N) (hA:∀ T,setAll (ops.toList.take N) 0 T a0=A T) (h:Ob' P A R C S cost lim i o):Ob P ops a0 R C S cost lim N i o:=by
 intro T w n hC hn hp
 have hlt:=(Array.getElem?_eq_some_iff.1 ho).1
 have hE':=hE
 simp only [edgeB,List.all_eq_true,List.mem_range] at hE'
 have hEi:=hE' i hlt
 simp only [ho,Bool.and_eq_true] at hEi
 obtain ⟨he1,he2⟩:=hEi
 rw [Array.all_eq_true_iff_forall_mem] at he1
 have hAft:AfterAll R T n w o.after.toList:=afterAll_of _ fun e he hb => by
  have hm:e ∈ o.after:=by simpa using he
  have h1:=he1 e hm
  simp only [hb,Bool.not_true,Bool.false_or] at h1
  exact hp e.on (by have:=hB.back i o e ho hm hb;omega) h1
 have h0:=h T w n hC hn hAft
 unfold Region.wanted
 cases hg:o.guard with
 | none =>
   simp only [hg] at h0
   rw [hA T]
   exact h0
 | some gw =>
   obtain ⟨g,want⟩:=gw
   simp only [hg] at h0 he2
   obtain ⟨hbg,hgs⟩:=hB.guard i o g want ho hg
   obtain ⟨og,hog⟩:∃ og,ops[g]?=some og:=⟨ops[g],Array.getElem?_eq_getElem hgs⟩
   simp only [hog,Option.bind_some] at he2
   obtain ⟨d,hd⟩:=Option.isSome_iff_exists.1 he2
   have hgi:g < i:=by
    have:∀ k, ∀ (i:Nat) (o:Oper),i < k→ops[i]?=some o→∀ p,p < ops.size→bef ops i p=true→p < i:=by
     intro k
     induction k with
     | zero => intro i o hk;omega
     | succ k ih =>
       intro i o hk hio p hps hb
       obtain ⟨e,he,hbi,hor⟩:=hB.clos i p o hio hps hb
       have h5:=hB.back i o e hio he hbi
       rcases hor with rfl | hor
       ·exact h5
       ·obtain ⟨o',ho'⟩:∃ o',ops[e.on]?=some o':=⟨ops[e.on]'(by have:=(Array.getElem?_eq_some_iff.1 hio).1;omega),Array.getElem?_eq_getElem _⟩
        have:=ih e.on o' (by omega) ho' p hps hor
        omega
    exact this (i + 1) i o (by omega) ho g hgs hbg
   have hts:d < a0.tmps.size:=hB.size g og d hog hd
   have hget:(setAll (ops.toList.take N) 0 T a0).tmps[d]?=some (T g):=by
    rw [setAll_get T d _ 0 a0 hts]
    cases hw:lastW d (ops.toList.take N) 0 with
    | some j =>
      obtain ⟨_,o',ho',hd'⟩:=lastW_some _ _ hw
      simp only [Nat.sub_zero,List.getElem?_take] at ho'
      split at ho'
      ·have hj:ops[j]?=some o':=by simpa using ho'
       have:=hB.uniq j g o' og d hj hog hd' hd
       simp [this]
      ·cases ho'
    | none =>
      exfalso
      exact lastW_none _ _ hw g og (by rw [List.getElem?_take,if_pos (by omega)];simpa using hog) hd
   have hy:yielded ops (setAll (ops.toList.take N) 0 T a0).tmps g=match T g with | .bool b => some b | _ => none:=by
    unfold yielded
    simp only [hog,Option.bind_some,hd,hget]
    cases T g <;> rfl
   simp only [hy]
   by_cases hT:T g=.bool want
   ·simp only [hT]
    simp only [beq_self_eq_true,if_true]
    rw [hA T]
    exact h0.1 hT
   ·have hf:((match T g with | .bool b => some b | _ => none) == some want)=false:=by
     cases hv:T g <;> simp
     intro e
     exact hT (by rw [hv,e])
    simp only [hf]
    exact h0.2 hT
end
theorem wp_region_lim {P:Program} {Q:Exit→Act→World→Prop} {id:Nat} {l:List Oper} {a0:Act} {w:World} (N total:Nat) (R:Nat→Value→Nat→World→Prop) (C:Nat→World→Prop) (S:Nat→World→Nat→World→Prop) (cost lim:Nat→Nat)
  (hm:P.follows .mixedOrders=true) (hB:(invB l.toArray N a0.tmps.size && edgeB l.toArray)=true) (htot:sumCost cost (Array.replicate l.toArray.size true) l.toArray.size≤total) (hlm:limB l.toArray N total cost lim=true)
  (hS:∀ p v n w n' w',R p v n w→S n w n' w'→R p v n' w') (hC:C 0 w.drew)
  (h:∃ A:(Nat→Value)→Act,(∀ T,setAll (l.take N) 0 T a0=A T)∧ObAll P A R C S cost lim (l.take N) 0 ∧
   ∀ T w',(∃ n,n≤total∧C n w'∧∀ p,p < N→R p (T p) n w')→wpList P l.toArray Q (l.drop N) (A T) w') :
  (Code.region id l.toArray true).wp P Q a0 w:=by
 obtain ⟨A,hA,hob,hend⟩:=h
 simp only [Bool.and_eq_true] at hB
 refine wp_region_any hm ?_
 have key:=region_any (P:=P) (Q:=Q) (ops:=l.toArray) (a0:=a0) (R:=R) (C:=C) (S:=S) (cost:=cost) (lim:=lim) (total:=total) (invB_spec hB.1) hS htot (limB_spec hlm)
  (fun i o ho hi => ob_of (invB_spec hB.1) hB.2 ho hi (fun T => by simpa using hA T) (by
   have:=ObAll.get _ _ hob i o (by rw [List.getElem?_take,if_pos hi];simpa using ho)
   simpa using this))
  (fun T w' hc => by
   have:=hend T w' hc
   rw [← hA T] at this
   simpa using this)
  l.toArray.size (Array.replicate l.toArray.size false) a0 w.drew (by simp)
 have h0:∀ j,(Array.replicate l.toArray.size false).getD j false=false:=fun j => getD_replicate_false _ _
 have hz:∀ (c:Nat→Nat) k,sumCost c (Array.replicate l.toArray.size false) k=0:=by
  intro c k
  induction k with
  | zero => rfl
  | succ k ih => simp only [sumCost,ih,h0];rfl
 have hF:Fits l.toArray a0 (Array.replicate l.toArray.size false) (fun _ => undef) a0:=by
  refine ⟨rfl,rfl,?_,fun t _ => rfl⟩
  intro j o d _ hl
  rw [h0] at hl
  cases hl
 refine key (by simp only [cnt,hz];omega) ?_ (.inl ⟨fun _ => undef,fun j _ => h0 j,hF,by rw [hz];exact hC,?_⟩)
 ·intro j _ hl
  rw [h0] at hl
  cases hl
 ·intro j _ hl
  rw [h0] at hl
  cases hl
end Go.Proofs.YtgkhcdjoilgfmaaGreatDoor.Lm
namespace Go.Proofs.YtgkhcdjoilgfmaaGreatDoor
open Go.RowKit Go
def hqS (n:Nat) (_:World) (n':Nat) (_:World):Prop:=n≤n'∧n'≤1
theorem Blk.set3 {w:World} {B:Nat} {t:TypeId} {x y z x' y' z':Value} (h:Blk w B t #[x,y,z]):Blk (((w.setCell ⟨B,0,none⟩ x').setCell ⟨B,1,none⟩ y').setCell ⟨B,2,none⟩ z') B t #[x',y',z'] :=
 Blk.set (Blk.set (Blk.set h 0 x') 1 y') 2 z'
theorem heap_setCells_same {g:Nat} {t:TypeId}:∀ (vs:List Value) (o:Nat) (w:World) (cur:Array Value),w.heap[g]?=some (.cells cur t (0,0))→∃ cur',(w.setCells g o vs).heap[g]?=some (.cells cur' t (0,0))∧cur'.size=cur.size
 | [],_,w,cur,h => ⟨cur,h,rfl⟩
 | v :: r,o,w,cur,h => by
   obtain ⟨cur',h1,h2⟩:=heap_setCells_same r (o + 1) (w.setCell ⟨g,o,none⟩ v) (cur.setIfInBounds o v) (heap_setCell_same w g o cur t v h)
   exact ⟨cur',h1,by rw [h2];simp⟩
theorem heap_setCells_other {g j:Nat} (hne:j ≠ g):∀ (vs:List Value) (o:Nat) (w:World),(w.setCells g o vs).heap[j]?=w.heap[j]?
 | [],_,w => rfl
 | v :: r,o,w => by
   rw [World.setCells,heap_setCells_other hne r (o + 1)]
   exact Below.heap_setCell w ⟨g,o,none⟩ v j hne
theorem grown_setCells (g:Nat):∀ (vs:List Value) (o:Nat) (w:World),w.grownBy (w.setCells g o vs) (some g)
 | [],_,w => World.grownBy.refl _ _
 | v :: r,o,w => by
   have h1:w.grownBy (w.setCell ⟨g,o,none⟩ v) (some g):=⟨rfl,rfl,rfl,by simp,fun i hi hne => Below.heap_setCell w ⟨g,o,none⟩ v i (fun e => hne (by rw [e]))⟩
   exact grown_trans h1 (grown_setCells g r (o + 1) (w.setCell ⟨g,o,none⟩ v))
section
variable {α:Type} {E:Lay α}
theorem OwnK.of_cells {w:World} {B g n c:Nat} {cur:Array Value} {L:List α} (hl:L.length=n) (hB:B≤g) (hnc:n≤c) (hc:c≤maxLen) (hh:w.heap[g]?=some (.cells cur E.ty (0,0))) (hs:cur.size=c * E.K)
  (hcell:∀ (k:Nat) (x:α),L[k]?=some x→∀ (j:Nat) (v:Value),(E.enc x)[j]?=some v→w.cell? ⟨g,k * E.K + j,none⟩=some v):OwnK E w B (.slice (some ⟨g,0,none⟩) n c) L:=by
 subst hl
 refine ⟨E.all_len L, .inr ⟨g,c,cur,rfl,hB,hh,hnc,hc,hs,?_⟩⟩
 apply List.ext_getElem?
 intro t
 have hle:L.length * E.K≤c * E.K:=Nat.mul_le_mul_right _ hnc
 rcases Nat.lt_or_ge t (L.length * E.K) with h | h
 ·obtain ⟨x,hx,he⟩:=E.all_cut L t h
  rw [List.getElem?_take,if_pos h,he]
  have hj:t % E.K < (E.enc x).length:=by rw [E.len];exact Nat.mod_lt _ E.pos
  have:=hcell (t / E.K) x hx (t % E.K) _ (List.getElem?_eq_getElem hj)
  rw [show t / E.K * E.K + t % E.K=t by rw [Nat.mul_comm];exact Nat.div_add_mod t E.K,cell_of_row w g _ _ _ _ hh] at this
  rw [List.getElem?_eq_getElem hj, ← this]
  simp
 ·rw [List.getElem?_eq_none (by rw [List.length_take];simp;omega),List.getElem?_eq_none (by rw [E.all_len];exact h)]
theorem OwnK.cellsAt {w:World} {B g n c:Nat} {L:List α} (h:OwnK E w B (.slice (some ⟨g,0,none⟩) n c) L) {k:Nat} {x:α} (hx:L[k]?=some x):w.rangeAt g (k * E.K) (E.enc x):=fun j v hv => h.get hx hv
theorem OwnK.there {w:World} {B g n c:Nat} {L:List α} (h:OwnK E w B (.slice (some ⟨g,0,none⟩) n c) L) {o m:Nat} (hm:o + m≤n * E.K):w.there g o m:=fun j hj => by
 obtain ⟨hn,_,hc,_,cur,hg,hs,_⟩:=h.block
 refine ⟨?_,h.frozen _⟩
 rw [cell_of_row w g _ _ _ _ hg,Array.getElem?_eq_getElem (by have:=Nat.mul_le_mul_right E.K hc;omega)]
 rfl
theorem mul_apart {i k K:Nat} (h:i ≠ k):k * K + K≤i * K ∨ i * K + K≤k * K:=by
 rcases Nat.lt_or_ge i k with h1 | h1
 ·right;have:=Nat.mul_le_mul_right K (show i + 1≤k by omega);rw [Nat.add_mul] at this;omega
 ·left;have:=Nat.mul_le_mul_right K (show k + 1≤i by omega);rw [Nat.add_mul] at this;omega
theorem OwnK.setRow {w:World} {B g n c:Nat} {L:List α} (h:OwnK E w B (.slice (some ⟨g,0,none⟩) n c) L) {i:Nat} (hi:i < n) (y:α):OwnK E (w.setCells g (i * E.K) (E.enc y)) B (.slice (some ⟨g,0,none⟩) n c) (L.set i y):=by
 have hth:=h.there (o:=i * E.K) (m:=E.K) (by have:=Nat.mul_le_mul_right E.K (show i + 1≤n by omega);rw [Nat.add_mul] at this;omega)
 obtain ⟨hn,hB,hc,hm,cur,hg,hs,ht⟩:=h.block
 obtain ⟨cur',h1,h2⟩:=heap_setCells_same (E.enc y) (i * E.K) w cur hg
 refine OwnK.of_cells (by rw [List.length_set];exact hn.symm) hB hc hm h1 (by rw [h2,hs]) fun k x hx j v hv => ?_
 by_cases e:k=i
 ·subst e
  rw [List.getElem?_set_self (by rw [← hn];exact hi)] at hx
  injection hx with hx
  subst hx
  exact World.rangeAt_setCells_same w g (k * E.K) (E.enc y) (by rw [E.len];exact hth) j v hv
 ·rw [List.getElem?_set_ne (fun h => e h.symm)] at hx
  exact World.rangeAt_setCells_apart (h.cellsAt hx) g (i * E.K) (E.enc y) (.inr (by rw [E.len,E.len];exact mul_apart (fun h => e h.symm))) j v hv
theorem OwnK.cut {w:World} {B g n c:Nat} {L:List α} (h:OwnK E w B (.slice (some ⟨g,0,none⟩) n c) L) {i:Nat} (hi:i≤n) (vs:List Value):OwnK E (w.setCells g (i * E.K) vs) B (.slice (some ⟨g,0,none⟩) i c) (L.take i):=by
 obtain ⟨hn,hB,hc,hm,cur,hg,hs,ht⟩:=h.block
 obtain ⟨cur',h1,h2⟩:=heap_setCells_same vs (i * E.K) w cur hg
 refine OwnK.of_cells (by rw [List.length_take];omega) hB (by omega) hm h1 (by rw [h2,hs]) fun k x hx j v hv => ?_
 have hk:k < i:=by
  have:=(List.getElem?_eq_some_iff.1 hx).1
  rw [List.length_take] at this;omega
 rw [List.getElem?_take,if_pos hk] at hx
 refine World.rangeAt_setCells_apart (h.cellsAt hx) g (i * E.K) vs (.inr (.inl ?_)) j v hv
 rw [E.len]
 have:=Nat.mul_le_mul_right E.K (show k + 1≤i by omega)
 rw [Nat.add_mul] at this;omega
end
theorem zeroCells_len (zs:Array Value) (n:Nat):(Builtin.zeroCells zs n).toList.length=n * zs.size:=by simp [Builtin.zeroCells]
theorem run_clear_rows {P:Program} (w:World) (t e ty:TypeId) (z:Value) (ht:P.underlying t=some (.slice e)) (hv:∀ w,(zeroValue e).run P w=.ok z w) (h1:∀ v ∈ z.cells,v.oneCell'=true) (b o n c:Nat) (hn:0 < n) (hth:w.there b o (n * z.cells.size)) (hz:0 < z.cells.size) :
  (Builtin.clear_ #[t] ty #[.slice (some ⟨b,o,none⟩) n c]).run P w=.ok (.tuple #[]) (w.setCells b o (Builtin.zeroCells z.cells n).toList):=by
 have hst:=run_storeCells_cells (P:=P) b o (Builtin.zeroCells z.cells n).toList 0 w (fun j hj => by rw [zeroCells_len] at hj;simpa using (hth j hj).1) (fun j hj => by rw [zeroCells_len] at hj;simpa using (hth j hj).2) (fun v hv => by
  simp [Builtin.zeroCells] at hv
  obtain ⟨i,hi,rfl⟩:=hv
  have:i % z.cells.size < z.cells.size:=Nat.mod_lt _ hz
  rw [getElem!_pos z.cells (i % z.cells.size) this]
  exact h1 _ (Array.getElem_mem _))
 simp only [Nat.add_zero] at hst
 obtain ⟨m,rfl⟩:∃ m,n=m + 1:=⟨n - 1,by omega⟩
 simp [Builtin.clear_,run_underlying ht,hv,hst]
theorem Op1.loadn {P:Program} {o:Oper} {ρ:Operand→Value} {w:World} {post:Value→World→Prop} (ty:TypeId) (x:Operand) (ho:o.op=.load ty x) (b off:Nat) (hx:ρ x=.pointer (some ⟨b,off,none⟩)) (cs:List Value) (d:TypeDesc) (hc:w.rangeAt b off cs)
  (hu:P.underlying ty=some d) (hd:d.isRow=true) (m:Nat) (hi:(P.info? ty).map (·.size)=some m) (hm:cs.length=m) (h:post (.agg cs.toArray) w):Op1 P o ρ w post:=by
 subst hm
 have:=run_loadAt_mid (P:=P) w b off ty cs d hc hu hd hi
 unfold Op1 execOp
 simp only [ho,hx,Sem.run_bind,this,Result.andThen_ok,Sem.run_pure]
 exact h
end Go.Proofs.YtgkhcdjoilgfmaaGreatDoor
