/-
  laneref2.ReportLines. Condition: at most nineteen reports, each short.
  The insertion sort of a list whose last part stands right already, in plain words.
  The generator of reports.
  The generator ReportString: a string of at most 150000 bytes.
  Plain law: a report, read.
  Plain law: numerals with a sign, read and written again.
  Words and numbers, as the program and the reference read them. Condition: at most a million bytes.
  Slices of ints: an own row, Clone, Min, Max, the numbers' faults.
-/
import Derived.Test.YtgkhcdjoilgfmaaGreatDoorRPX15
import Derived.Test.YtgkhcdjoilgfmaaGreatDoorRPX1
import Derived.Test.YtgkhcdjoilgfmaaGreatDoorRPX12
import Derived.Test.YtgkhcdjoilgfmaaGreatDoorRPX11
import Derived.Test.YtgkhcdjoilgfmaaGreatDoorRPX16
import Derived.Test.YtgkhcdjoilgfmaaGreatDoorRPX3
import Derived.Test.YtgkhcdjoilgfmaaGreatDoorRPX2
import Derived.Lib.LazyBuf
set_option linter.unusedVariables false
set_option maxRecDepth 100000
set_option maxHeartbeats 16000000
namespace Go.Proofs.YtgkhcdjoilgfmaaGreatDoor
open Go.RowKit Go Go.Sort
def rlR (V:List Value) (M:List ByteArray) (p:Nat) (v:Value) (w:World):Prop:=if p=34 then ∃ B,OwnS w B v M else v=V.getD p undef
theorem rlR_keep {V:List Value} {M:List ByteArray} (p:Nat) (v:Value) (u w:World) (h:rlR V M p v u) (hb:Below u.heap.size u w):rlR V M p v w:=by
 unfold rlR at h ⊢
 by_cases hp:p=34
 ·rw [if_pos hp] at h ⊢
  obtain ⟨B,hO⟩:=h
  exact ⟨B,hO.later hb⟩
 ·rw [if_neg hp] at h ⊢
  exact h
theorem reportLines_any (ad:Option Addr) (n c:Nat) (L:List RB) (w:World) (h:RdK layRb w ad L) (hn:L.length=n) (hs:n≤19) (hk:∀ x ∈ L,x.1.Gm) (ht:Tabs w) :
  Calls Tryz.prog 32 #[.slice ad n c] w (Ret (.string (strL (repsT L))) w):=by
 have H0:=Lib.hid h
 have Hn:=Lib.hid hn
 have Hk:=Lib.hid hk
 have HT:=Lib.hid ht
 have HE:Hid (repsT (L.take n)=repsT L):=Lib.hid (by rw [← hn,List.take_length])
 have HZ:Hid (repsT (L.take 0)=[]):=Lib.hid rfl
 clear h hn hk ht
 generalize repsT L=ST at *
 go_enter Tryz.func32,Tryz.ntmps32
 go_wp2_with fail
 go_loopw [4,11] (fun sv i wr => ∃ (k:Nat) (S:ByteArray),k≤n∧i=.int .i64 (k:Int)∧sv=.string S∧Hid (S=strL (repsT (L.take k)))∧Hid (S.size≤10011 * k)∧Hid (Below w.heap.size w wr)) (fun _ i _ => n - (intOf i).toNat)
 case atStart => exact ⟨0,_,Nat.zero_le _,rfl,rfl,Lib.hid (by rw [HZ.out];rfl),Lib.hid (by show 0≤_;omega),Lib.hid (Below.refl _ _)⟩
 case round =>
  obtain ⟨k,S,hk,rfl,rfl,HS,HSz,HB⟩:=hrel
  by_cases hlt:k < n
  ·have hS:k < L.length:=by rw [Hn.out];exact hlt
   obtain ⟨x,hp⟩:∃ x,L[k]?=some x:=⟨_,List.getElem?_eq_getElem hS⟩
   have hgm:=Hk.out x (List.mem_of_getElem? hp)
   have hTk:=repsT_take hp
   have hsz:=rpB_size hgm
   obtain ⟨g,o,had,hg,hc⟩:=(H0.out.below HB.out) k x hp
   subst had
   obtain ⟨⟨nd,hr,ou,⟨p,s1,h1,l1,s2,h2,l2,fp,tp⟩,pk,sz⟩,hsm⟩:=x
   obtain ⟨⟨⟨⟨bp0,bp1⟩,⟨u1,u2⟩,⟨u3,u4⟩,⟨u5,u6⟩,⟨u7,u8⟩,⟨bf0,bf1⟩,bt0,bt1⟩,bh0,bh1, -⟩, -,⟨bk0,bk1⟩,bs0,bs1⟩:=hgm
   simp only at u1 u2 u3 u4 u5 u6 u7 u8 bp0 bp1 bf0 bf1 bt0 bt1 bh0 bh1 bk0 bk1 bs0 bs1
   have k0:=hc 0 _ rfl
   have k1:=hc 1 _ rfl
   have k2:=hc 2 _ rfl
   have k3:=hc 3 _ rfl
   have k4:=hc 4 _ rfl
   have k5:=hc 5 _ rfl
   have k6:=hc 6 _ rfl
   have k7:=hc 7 _ rfl
   have k8:=hc 8 _ rfl
   have k9:=hc 9 _ rfl
   have k10:=hc 10 _ rfl
   have k11:=hc 11 _ rfl
   have k12:=hc 12 _ rfl
   have k13:=hc 13 _ rfl
   simp only [show layRb.K=14 from rfl,Nat.add_zero, ← Nat.add_assoc] at k0 k1 k2 k3 k4 k5 k6 k7 k8 k9 k10 k11 k12 k13
   have HT1:=Lib.hid fun wx (hb:Below w.heap.size w wx) => addrTextU_any s1 h1.toNat l1.toNat wx (by unfold U64N;omega) (by unfold U64N;omega) (HT.out.below hb)
   have HT2:=Lib.hid fun wx (hb:Below w.heap.size w wx) => addrTextU_any s2 h2.toNat l2.toNat wx (by unfold U64N;omega) (by unfold U64N;omega) (HT.out.below hb)
   rw [Int.toNat_of_nonneg u1,Int.toNat_of_nonneg u3] at HT1
   rw [Int.toNat_of_nonneg u5,Int.toNat_of_nonneg u7] at HT2
   have HIt:=Lib.hid fun (z:Int) (h0:-9223372036854775808≤z) (h1:z≤9223372036854775807) wx (hb:Below w.heap.size w wx) => itoaI_any z h0 h1 wx (HT.out.below hb)
   have HI0:=Lib.hid (HIt.out hr (by omega) (by omega))
   have HI1:=Lib.hid (HIt.out p (by omega) (by omega))
   have HI2:=Lib.hid (HIt.out fp (by omega) (by omega))
   have HI3:=Lib.hid (HIt.out tp (by omega) (by omega))
   have HI4:=Lib.hid (HIt.out pk (by omega) (by omega))
   have HI5:=Lib.hid (HIt.out sz (by omega) (by omega))
   clear HIt
   have hWD:rpW ⟨nd,hr,ou,⟨p,s1,h1,l1,s2,h2,l2,fp,tp⟩,pk,sz⟩=[itB hr,nd,wayB ou,itB p,txtA s1 h1.toNat l1.toNat,txtA s2 h2.toNat l2.toNat,itB fp,itB tp,itB pk,itB sz]:=rfl
   unfold rpB at hTk hsz
   simp only at hTk hsz
   rw [hWD] at hTk hsz
   clear hWD
   obtain ⟨WB,hWB⟩:∃ q,wayB ou=q:=⟨_,rfl⟩
   have HWB:Hid ((ou=true→WB=⟨#[111,117,116]⟩)∧(ou=false→WB=⟨#[105,110]⟩)):=Lib.hid ⟨fun e => by rw [← hWB,e];rfl,fun e => by rw [← hWB,e];rfl⟩
   rw [hWB] at hTk hsz
   clear hWB
   generalize itB hr=B0 at *
   generalize itB p=B1 at *
   generalize itB fp=B2 at *
   generalize itB tp=B3 at *
   generalize itB pk=B4 at *
   generalize itB sz=B5 at *
   generalize txtA s1 h1.toNat l1.toNat=A1 at *
   generalize txtA s2 h2.toNat l2.toNat=A2 at *
   have HJ:=Lib.hid fun wx B v (hO:OwnS wx B v [B0,nd,WB,B1,A1,A2,B2,B3,B4,B5]) => join_own 32 hO (by simp) (by omega)
   obtain ⟨TX,hTX⟩:∃ q,joinS [B0,nd,WB,B1,A1,A2,B2,B3,B4,B5] ⟨#[32]⟩=q:=⟨_,rfl⟩
   rw [hTX] at HJ hTk hsz
   have HSn:Hid (S ++ (TX ++ ⟨#[10]⟩)=strL (repsT (L.take (k + 1)))):=Lib.hid (by rw [hTk,strL_app,strL_app,strL_of,HS.out];rfl)
   have h1z:(⟨#[10]⟩:ByteArray).size=1:=rfl
   have hsz2:=HSz.out
   have HSz2:Hid ((S ++ (TX ++ ⟨#[10]⟩)).size≤10011 * (k + 1)):=Lib.hid (by rw [ByteArray.size_append,ByteArray.size_append,h1z];omega)
   have HNb:Hid (¬ 9223372036854775807 < TX.size + 1∧¬ 9223372036854775807 < S.size + (TX.size + 1)):=Lib.hid ⟨by omega,by omega⟩
   clear hp hS hTX hTk hg hc u1 u2 u3 u4 u5 u6 u7 u8 bp0 bp1 bf0 bf1 bt0 bt1 bh0 bh1 bk0 bk1 bs0 bs1 hsm h1z hsz2 hsz
   have HP3:Hid (Blk (wr.alloc (.cells #[.string nd, .int .i64 hr, .bool ou, .int .i64 p, .bool s1, .int .u64 h1, .int .u64 l1, .bool s2, .int .u64 h2, .int .u64 l2, .int .i64 fp, .int .i64 tp, .int .i64 pk, .int .i64 sz] 74 (0,0))) wr.heap.size 74 #[.string nd, .int .i64 hr, .bool ou, .int .i64 p, .bool s1, .int .u64 h1, .int .u64 l1, .bool s2, .int .u64 h2, .int .u64 l2, .int .i64 fp, .int .i64 tp, .int .i64 pk, .int .i64 sz]):=Lib.hid (Blk.new wr _ _)
   have HB3:Hid (Below w.heap.size w (wr.alloc (.cells #[.string nd, .int .i64 hr, .bool ou, .int .i64 p, .bool s1, .int .u64 h1, .int .u64 l1, .bool s2, .int .u64 h2, .int .u64 l2, .int .i64 fp, .int .i64 tp, .int .i64 pk, .int .i64 sz] 74 (0,0)))):=Lib.hid (Below.alloc HB.out HB.out.size _)
   go_upto_region 6 with fail
   generalize wr.alloc (.cells #[.string nd, .int .i64 hr, .bool ou, .int .i64 p, .bool s1, .int .u64 h1, .int .u64 l1, .bool s2, .int .u64 h2, .int .u64 l2, .int .i64 fp, .int .i64 tp, .int .i64 pk, .int .i64 sz] 74 (0,0))=w3 at *
   obtain ⟨bx,hbx⟩:∃ q,wr.heap.size=q:=⟨_,rfl⟩
   rw [hbx] at HP3 ⊢
   clear hbx HB k0 k1 k2 k3 k4 k5 k6 k7 k8 k9 k10 k11 k12 k13
   have d0:=HP3.out.cell 0
   have d1:=HP3.out.cell 1
   have d2:=HP3.out.cell 2
   have d3:=HP3.out.cell 3
   have d4:=HP3.out.cell 4
   have d5:=HP3.out.cell 5
   have d6:=HP3.out.cell 6
   have d7:=HP3.out.cell 7
   have d8:=HP3.out.cell 8
   have d9:=HP3.out.cell 9
   have d10:=HP3.out.cell 10
   have d11:=HP3.out.cell 11
   have d12:=HP3.out.cell 12
   have d13:=HP3.out.cell 13
   simp at d0 d1 d2 d3 d4 d5 d6 d7 d8 d9 d10 d11 d12 d13
   cases ou
   case' false =>
    have hWB:=HWB.out.2 rfl
    go_upto_region 9 with fail
    rw [← hWB]
   case' true =>
    have hWB:=HWB.out.1 rfl
    go_upto_region 9 with fail
    rw [← hWB]
   all_goals
    clear hWB HWB
    have HF4:Hid (Blk (w3.alloc (.cells #[.int .i64 p, .bool s1, .int .u64 h1, .int .u64 l1, .bool s2, .int .u64 h2, .int .u64 l2, .int .i64 fp, .int .i64 tp] 72 (0,0))) w3.heap.size 72 #[.int .i64 p, .bool s1, .int .u64 h1, .int .u64 l1, .bool s2, .int .u64 h2, .int .u64 l2, .int .i64 fp, .int .i64 tp]):=Lib.hid (Blk.new w3 _ _)
    have HP4:Hid (Blk (w3.alloc (.cells #[.int .i64 p, .bool s1, .int .u64 h1, .int .u64 l1, .bool s2, .int .u64 h2, .int .u64 l2, .int .i64 fp, .int .i64 tp] 72 (0,0))) bx 74 _):=Lib.hid (HP3.out.below (below_alloc (Below.refl _ _) _) HP3.out.lt)
    have HB4:Hid (Below w.heap.size w (w3.alloc (.cells #[.int .i64 p, .bool s1, .int .u64 h1, .int .u64 l1, .bool s2, .int .u64 h2, .int .u64 l2, .int .i64 fp, .int .i64 tp] 72 (0,0)))):=Lib.hid (Below.alloc HB3.out HB3.out.size _)
    go_upto_region 10 with fail
    clear d0 d1 d2 d3 d4 d5 d6 d7 d8 d9 d10 d11 d12 d13 HP3 HB3
    generalize w3.alloc (.cells #[.int .i64 p, .bool s1, .int .u64 h1, .int .u64 l1, .bool s2, .int .u64 h2, .int .u64 l2, .int .i64 fp, .int .i64 tp] 72 (0,0))=w4 at *
    obtain ⟨bf,hbf⟩:∃ q,w3.heap.size=q:=⟨_,rfl⟩
    rw [hbf] at HF4 ⊢
    clear hbf
    have HD:Hid (∀ wx,Below w4.heap.size w4 wx→wx.cell? ⟨bx,0,none⟩=some (.string nd)∧wx.cell? ⟨bx,1,none⟩=some (.int .i64 hr)∧wx.cell? ⟨bx,12,none⟩=some (.int .i64 pk)∧wx.cell? ⟨bx,13,none⟩=some (.int .i64 sz)):=Lib.hid fun wx hb => by
     have q:=HP4.out.below hb HP4.out.lt
     exact ⟨q.cell 0,q.cell 1,q.cell 12,q.cell 13⟩
    have HG:Hid (∀ wx,Below w4.heap.size w4 wx→wx.cell? ⟨bf,0,none⟩=some (.int .i64 p)∧wx.cell? ⟨bf,1,none⟩=some (.bool s1)∧wx.cell? ⟨bf,2,none⟩=some (.int .u64 h1)∧wx.cell? ⟨bf,3,none⟩=some (.int .u64 l1)∧wx.cell? ⟨bf,4,none⟩=some (.bool s2)∧wx.cell? ⟨bf,5,none⟩=some (.int .u64 h2)∧wx.cell? ⟨bf,6,none⟩=some (.int .u64 l2)∧wx.cell? ⟨bf,7,none⟩=some (.int .i64 fp)∧wx.cell? ⟨bf,8,none⟩=some (.int .i64 tp)):=Lib.hid fun wx hb => by
     have q:=HF4.out.below hb HF4.out.lt
     exact ⟨q.cell 0,q.cell 1,q.cell 2,q.cell 3,q.cell 4,q.cell 5,q.cell 6,q.cell 7,q.cell 8⟩
    refine wp_region_inv 38 0 (rlR [.string S, .func (.func 97) #[] #[], .pointer (some ⟨bx,1,none⟩), .int .i64 hr, .string B0, .pointer (some ⟨bx,0,none⟩), .string nd, .string WB, .func (.func 97) #[] #[], .pointer (some ⟨bf,0,none⟩), .int .i64 p, .string B1, .pointer (some ⟨bf,1,none⟩), .agg #[.bool s1, .int .u64 h1, .int .u64 l1], .string A1, .pointer (some ⟨bf,4,none⟩), .agg #[.bool s2, .int .u64 h2, .int .u64 l2], .string A2, .func (.func 97) #[] #[], .pointer (some ⟨bf,7,none⟩), .int .i64 fp, .string B2, .func (.func 97) #[] #[], .pointer (some ⟨bf,8,none⟩), .int .i64 tp, .string B3, .func (.func 97) #[] #[], .pointer (some ⟨bx,12,none⟩), .int .i64 pk, .string B4, .func (.func 97) #[] #[], .pointer (some ⟨bx,13,none⟩), .int .i64 sz, .string B5,undef, .string TX, .string (TX ++ ⟨#[10]⟩), .string (S ++ (TX ++ ⟨#[10]⟩))] [B0,nd,WB,B1,A1,A2,B2,B3,B4,B5]) (fun _ wx => Below w4.heap.size w4 wx) (fun u v => Below u.heap.size u v) (fun _ => 0)
     (by kernel_rfl) (by kernel_rfl) (by decide) rlR_keep (below_drew (Below.refl _ _)) ?_
    apply Exists.intro
    refine ⟨fun T => ?_,?_,?_⟩
    ·simp only [setAll,List.take_succ_cons,List.take_zero,Act.put,List.setIfInBounds_toArray,List.set_cons_succ,List.set_cons_zero,Nat.reduceAdd]
     exact rfl
    ·clear HF4 HP4 H0 Hn Hk HS HSz HSn HSz2
     go_light
     refine ⟨?_,?_,?_,?_,?_,?_,?_,?_,?_,?_,?_,?_,?_,?_,?_,?_,?_,?_,?_,?_,?_,?_,?_,?_,?_,?_,?_,?_,?_,?_,?_,?_,?_,?_,?_,?_,?_,?_,trivial⟩
     all_goals (intro T wx m hC hn hp;dsimp only at hn ⊢;unfold Op1)
     all_goals try simp only [AfterAll,Region.binds,rlR,Nat.reduceEqDiff,if_false,if_true,List.getD_cons_zero,List.getD_cons_succ,and_true] at hp
     all_goals obtain ⟨x0,x1,x12,x13⟩:=HD.out wx hC
     all_goals obtain ⟨y0,y1,y2,y3,y4,y5,y6,y7,y8⟩:=HG.out wx hC
     all_goals obtain ⟨nb1,nb2⟩:=HNb.out
     iterate 4
      ·try simp only [hp]
       go_simp
       first
        | exact ⟨rfl,hC,Below.refl _ _⟩
        | exact ⟨rfl,Below.refl _ _⟩
     ·simp only [hp]
      go_simp
      refine (HI0.out _ (HB4.out.trans (hC.mono HB4.out.size))).mono ?_
      rintro e w2 ⟨rfl,hb⟩
      exact ⟨_,rfl,rfl,hC.trans (hb.mono hC.size),hb⟩
     iterate 6
      ·try simp only [hp]
       go_simp
       first
        | exact ⟨rfl,hC,Below.refl _ _⟩
        | exact ⟨rfl,Below.refl _ _⟩
     ·simp only [hp]
      go_simp
      refine (HI1.out _ (HB4.out.trans (hC.mono HB4.out.size))).mono ?_
      rintro e w2 ⟨rfl,hb⟩
      exact ⟨_,rfl,rfl,hC.trans (hb.mono hC.size),hb⟩
     iterate 2
      ·try simp only [hp]
       go_simp
       first
        | exact ⟨rfl,hC,Below.refl _ _⟩
        | exact ⟨rfl,Below.refl _ _⟩
     ·simp only [hp]
      go_simp
      refine (HT1.out _ (HB4.out.trans (hC.mono HB4.out.size))).mono ?_
      rintro e w2 ⟨rfl,hb⟩
      exact ⟨_,rfl,rfl,hC.trans (hb.mono hC.size),hb⟩
     iterate 2
      ·try simp only [hp]
       go_simp
       first
        | exact ⟨rfl,hC,Below.refl _ _⟩
        | exact ⟨rfl,Below.refl _ _⟩
     ·simp only [hp]
      go_simp
      refine (HT2.out _ (HB4.out.trans (hC.mono HB4.out.size))).mono ?_
      rintro e w2 ⟨rfl,hb⟩
      exact ⟨_,rfl,rfl,hC.trans (hb.mono hC.size),hb⟩
     iterate 3
      ·try simp only [hp]
       go_simp
       first
        | exact ⟨rfl,hC,Below.refl _ _⟩
        | exact ⟨rfl,Below.refl _ _⟩
     ·simp only [hp]
      go_simp
      refine (HI2.out _ (HB4.out.trans (hC.mono HB4.out.size))).mono ?_
      rintro e w2 ⟨rfl,hb⟩
      exact ⟨_,rfl,rfl,hC.trans (hb.mono hC.size),hb⟩
     iterate 3
      ·try simp only [hp]
       go_simp
       first
        | exact ⟨rfl,hC,Below.refl _ _⟩
        | exact ⟨rfl,Below.refl _ _⟩
     ·simp only [hp]
      go_simp
      refine (HI3.out _ (HB4.out.trans (hC.mono HB4.out.size))).mono ?_
      rintro e w2 ⟨rfl,hb⟩
      exact ⟨_,rfl,rfl,hC.trans (hb.mono hC.size),hb⟩
     iterate 3
      ·try simp only [hp]
       go_simp
       first
        | exact ⟨rfl,hC,Below.refl _ _⟩
        | exact ⟨rfl,Below.refl _ _⟩
     ·simp only [hp]
      go_simp
      refine (HI4.out _ (HB4.out.trans (hC.mono HB4.out.size))).mono ?_
      rintro e w2 ⟨rfl,hb⟩
      exact ⟨_,rfl,rfl,hC.trans (hb.mono hC.size),hb⟩
     iterate 3
      ·try simp only [hp]
       go_simp
       first
        | exact ⟨rfl,hC,Below.refl _ _⟩
        | exact ⟨rfl,Below.refl _ _⟩
     ·simp only [hp]
      go_simp
      refine (HI5.out _ (HB4.out.trans (hC.mono HB4.out.size))).mono ?_
      rintro e w2 ⟨rfl,hb⟩
      exact ⟨_,rfl,rfl,hC.trans (hb.mono hC.size),hb⟩
     ·simp only [hp]
      go_simp
      exact ⟨⟨wx.heap.size,OwnS.new wx [B0,nd,WB,B1,A1,A2,B2,B3,B4,B5] (by simp)⟩,below_alloc hC _,below_alloc (Below.refl _ _) _⟩
     ·obtain ⟨⟨B,hO⟩,hp2⟩:=hp
      go_simp
      refine (HJ.out wx B _ hO).mono ?_
      rintro e w2 ⟨rfl,hb⟩
      exact ⟨_,rfl,rfl,hC.trans (hb.mono hC.size),hb⟩
     iterate 2
      ·try simp only [hp]
       go_simp
       first
        | exact ⟨rfl,hC,Below.refl _ _⟩
        | exact ⟨rfl,Below.refl _ _⟩
    ·intro T w6 ⟨m,hm,hC⟩ hR
     have e37:T 37=.string (S ++ (TX ++ ⟨#[10]⟩)):=hR 37 (by omega)
     have HB6:=Lib.hid (HB4.out.trans (hC.mono HB4.out.size))
     simp only [List.drop_succ_cons,List.drop_zero]
     clear hR HF4 HP4 HB4 HD HG HNb hC
     go_wp2_with fail
     exact ⟨⟨k + 1,_,by omega,by go_num,e37,HSn,HSz2,HB6⟩,by simp [intOf];omega⟩
  ·obtain rfl:k=n:=by omega
   have hq:=HS.out
   rw [HE.out] at hq
   subst hq
   clear HS
   go_wp2_with fail
   go_ret
   exact ⟨rfl,HB.out⟩
section
variable {α:Type} [Inhabited α]
theorem getB_of {X:Array α} {i:Nat} (h:i < X.size):X[i]! = X[i]:=getElem!_pos X i h
theorem get_appP (X Y:Array α) (i:Nat) (h:i < X.size):(X ++ Y)[i]! = X[i]!:=by
 rw [getB_of (X:=X ++ Y) (by rw [Array.size_append];omega),getB_of h,Array.getElem_append_left h]
theorem swp_appP (X Y:Array α) (i j:Nat) (hi:i < X.size) (hj:j < X.size):swp (X ++ Y) i j=swp X i j ++ Y:=by
 unfold swp
 rw [get_appP X Y i hi,get_appP X Y j hj]
 rw [Array.setIfInBounds_append_left (by omega),Array.setIfInBounds_append_left (by simpa using hj)]
theorem insInner_appP (lt:α→α→Bool) (a:Nat) (Y:Array α):∀ (j:Nat) (X:Array α),j < X.size→insInner lt a j (X ++ Y)=insInner lt a j X ++ Y
 | 0,X,_ => rfl
 | j + 1,X,h => by
   unfold insInner
   rw [get_appP X Y (j + 1) h,get_appP X Y j (by omega)]
   by_cases hc:(decide (j + 1 > a) && lt X[j + 1]! X[j]!)=true
   ·rw [if_pos hc,if_pos hc,swp_appP X Y (j + 1) j h (by omega)]
    exact insInner_appP lt a Y j _ (by rw [size_swp];omega)
   ·rw [if_neg hc,if_neg hc]
theorem insOuter_appP (lt:α→α→Bool) (a b:Nat) (Y:Array α):∀ (n i:Nat) (X:Array α),b - i=n→b≤X.size→insOuter lt a b i (X ++ Y)=insOuter lt a b i X ++ Y
 | 0,i,X,h,_ => by rw [insOuter_stop lt a b i (X ++ Y) (by omega),insOuter_stop lt a b i X (by omega)]
 | n + 1,i,X,h,hb => by
   rw [insOuter_go lt a b i (X ++ Y) (by omega),insOuter_go lt a b i X (by omega),insInner_appP lt a Y i X (by omega)]
   exact insOuter_appP lt a b Y n (i + 1) _ (by omega) (by rw [size_insInnerR];exact hb)
theorem swp_allP (P:α→Prop) (d:Array α) (i j:Nat) (hi:i < d.size) (hj:j < d.size) (h:∀ k,k < d.size→P d[k]!):∀ k,k < (swp d i j).size→P (swp d i j)[k]!:=fun k hk => by
 rw [size_swp] at hk
 by_cases e1:k=i
 ·subst e1
  by_cases e2:k=j
  ·subst e2
   rw [swp_right d k k hk]
   exact h k hk
  ·rw [swp_left d k j hk e2]
   exact h j hj
 ·by_cases e2:k=j
  ·subst e2
   rw [swp_right d i k hk]
   exact h i hi
  ·rw [swp_other d i j k e1 e2]
   exact h k hk
theorem insInner_allP (P:α→Prop) (lt:α→α→Bool) (a:Nat):∀ (j:Nat) (d:Array α),j < d.size→(∀ k,k < d.size→P d[k]!)→∀ k,k < (insInner lt a j d).size→P (insInner lt a j d)[k]!
 | 0,d,_,h => h
 | j + 1,d,hj,h => by
   unfold insInner
   by_cases hc:(decide (j + 1 > a) && lt d[j + 1]! d[j]!)=true
   ·rw [if_pos hc]
    exact insInner_allP P lt a j _ (by rw [size_swp];omega) (swp_allP P d (j + 1) j hj (by omega) h)
   ·rw [if_neg hc]
    exact h
theorem insOuter_allP (P:α→Prop) (lt:α→α→Bool) (a b:Nat):∀ (n i:Nat) (d:Array α),b - i=n→b≤d.size→(∀ k,k < d.size→P d[k]!)→∀ k,k < (insOuter lt a b i d).size→P (insOuter lt a b i d)[k]!
 | 0,i,d,h,_,hP => by
   rw [insOuter_stop lt a b i d (by omega)]
   exact hP
 | n + 1,i,d,h,hb,hP => by
   rw [insOuter_go lt a b i d (by omega)]
   exact insOuter_allP P lt a b n (i + 1) _ (by omega) (by rw [size_insInnerR];exact hb) (insInner_allP P lt a i d (by omega) hP)
end
open Go.RowKit Go
theorem gm_set {L:List RB} {q:Nat} {y:RB} (h:∀ x ∈ L,x.1.Gm) (hy:y.1.Gm):∀ x ∈ L.set q y,x.1.Gm:=fun x hx => by
 rcases List.mem_or_eq_of_mem_set hx with hx | rfl
 ·exact h x hx
 ·exact hy
theorem stabG_mem {A:List RB} {x:RB} (h:x ∈ stabR A):x ∈ A:=by
 unfold stabR Go.Sort.insertionSort at h
 have hall:=insOuter_allP (fun x => x ∈ A) (Go.Proofs.ltOf cR) 0 A.length _ (0 + 1) A.toArray rfl (Nat.le_refl _) (fun k hk => by
  rw [getB_of hk]
  exact List.getElem_mem _)
 obtain ⟨k,hk,rfl⟩:=List.getElem_of_mem h
 have hk':k < (Go.Sort.insOuter (Go.Proofs.ltOf cR) 0 A.length (0 + 1) A.toArray).size:=by simpa using hk
 have:=hall k hk'
 rw [getB_of hk'] at this
 simpa using this
theorem compG_mem (eq:RB→RB→Bool) (l:List RB) {x:RB} (h:x ∈ compL eq l):x ∈ l:=by
 cases l with
 | nil => exact h
 | cons y l =>
   rcases List.mem_cons.1 h with rfl | h
   ·exact List.mem_cons_self ..
   ·exact List.mem_cons_of_mem _ (compF_mem eq _ l x h)
theorem reportsG_gen (b m K:Nat) (w:World) (h:Strm w b m) (hK:K≤10) (hm:m + 1000 < 1099511627776) :
  Calls Tryz.prog 28 #[.pointer (some ⟨b,0,none⟩), .int .i64 (K:Int)] w fun e w' => ∃ v L,e=.returned v∧OwnK layRb w' w.heap.size v L∧L.length≤2 * K∧(∀ x ∈ L,x.1.Gm)∧Gen b w w' (m + 260):=by
 have hblt:=h.lt
 have HG0:Hid (Gen b w w m):=Lib.hid (Gen.start h)
 clear h
 go_enter Tryz.func28,Tryz.ntmps28
 go_wp2_with fail
 go_loopw [5,15] (fun out i wr => ∃ (j:Nat) (L:List RB),j≤K∧i=.int .i64 (j:Int)∧Hid (OwnK layRb wr w.heap.size out L)∧Hid (L.length≤2 * j)∧Hid (∀ x ∈ L,x.1.Gm)∧Hid (Gen b w wr (m + 20 * j))) (fun _ i _ => K - (intOf i).toNat)
 case atStart => exact ⟨0, [],Nat.zero_le _,rfl,Lib.hid (OwnK.nil _ _ _),Lib.hid (Nat.zero_le _),Lib.hid (fun x hx => by cases hx),HG0⟩
 case round =>
  clear HG0
  obtain ⟨j,L,hj,rfl,HO,HL,HGm,HGr⟩:=hrel
  by_cases hlt:j < K
  ·have hbr:b < wr.heap.size:=HGr.out.s.lt
   obtain ⟨mm,hmm⟩:∃ mm,m + 20 * j=mm:=⟨_,rfl⟩
   have hmb:mm + 100 < 1099511627776:=by omega
   have hm2:mm + 20≤m + 20 * (j + 1):=by omega
   have HG0:Hid (Gen b wr wr mm):=Lib.hid (Gen.start (by rw [← hmm];exact HGr.out.s))
   have HGw:Hid (∀ wx q,Gen b wr wx q→Gen b w wx q):=Lib.hid fun wx q hg => HGr.out.trans hg
   have HOlt:Hid (∀ k,u5.ownBlock=some k→k < wr.heap.size):=Lib.hid (own_lt HO.out)
   clear hmm HGr
   go_wp2_with fail
   refine (pick_new b mm _ _ _ _ [6,6,6,17,1] _ HG0.out.s rfl (by omega) rfl (by decide) rfl).mono ?_
   rintro e w1 ⟨p,rfl,hp,hg⟩
   have hp':1≤p∧p≤17:=by simp at hp;omega
   have HG1:=Lib.hid (HG0.out.trans hg)
   clear hp hg HG0
   go_wp2_with fail
   refine (range_gen b (mm + 1) _ _ _ HG1.out.s (by omega) (by omega) (by omega)).mono ?_
   rintro e w2 ⟨k1,rfl,⟨hk10,hk11⟩,hg⟩
   have HG2:=Lib.hid (HG1.out.trans hg)
   clear hg HG1
   go_wp2_with fail
   refine (at_any _ _ (by omega)).mono ?_
   rintro e w3 ⟨rfl,o3,rfl⟩
   have HG3:=Lib.hid (HG2.out.alloc o3)
   clear HG2
   unfold vAddr
   go_wp2_with fail
   refine (range_gen b (mm + 1 + 1) _ _ _ HG3.out.s (by omega) (by omega) (by omega)).mono ?_
   rintro e w4 ⟨k2,rfl,⟨hk20,hk21⟩,hg⟩
   have HG4:=Lib.hid (HG3.out.trans hg)
   clear hg HG3
   go_wp2_with fail
   refine (at_any _ _ (by omega)).mono ?_
   rintro e w5 ⟨rfl,o5,rfl⟩
   have HG5:=Lib.hid (HG4.out.alloc o5)
   clear HG4
   unfold vAddr
   go_wp2_with fail
   refine (flip_gen b (mm + 1 + 1 + 1) _ _ (HG5.out.s.alloc _) (by omega) (by omega)).mono ?_
   rintro e w6 ⟨kk,rfl,hg⟩
   have hF0:w4.heap.size + 1=(w4.alloc o5).heap.size:=by simp
   have HG6:Hid (Gen b wr w6 (mm + 4)):=Lib.hid ((HG5.out.alloc _).trans hg)
   have HF6:Hid (FBlk w6 (w4.heap.size + 1) ⟨p,false,0,1681915904 + k1,false,0,1681915904 + k2,0,0⟩):=by
    have h5:=HG5.out.s.lt
    rw [hF0]
    exact Blk.keep (Blk.new (w4.alloc o5) _ _) hg.g (by omega)
   have hFr:wr.heap.size≤w4.heap.size + 1:=by rw [hF0];exact HG5.out.g.size
   clear hg HG5 hF0
   generalize w4.heap.size + 1=F at *
   have hbF:b < F:=by omega
   go_upto_if 28 with fail
   go_cut [] (fun wx => ∃ f:FV,FBlk wx F f∧f.ok∧Gen b wr wx (mm + 5))
   case first =>
    as_aux_lemma =>
     go_wp2_with fail
     ·refine (range_gen b (mm + 4) _ _ _ HG6.out.s (by omega) (by omega) (by omega)).mono ?_
      rintro e w7 ⟨k,rfl,⟨hk0,hk1⟩,hg⟩
      have HF7:=HF6.out.keep hg.g (by omega)
      obtain ⟨-, -, -, -,c4,c5,c6, -, -,f0⟩:=FBlk.cells HF7
      have HF7:=Lib.hid HF7
      have HG7:=Lib.hid (HG6.out.trans hg)
      clear hg HF6 HG6
      go_wp2_with fail
      go_meet
      case rel =>
       exact ⟨⟨p,false,0,1681915904 + k1,false,0,167772160 + k,0,0⟩,FBlk.setTo (f:=⟨p,false,0,1681915904 + k1,false,0,1681915904 + k2,0,0⟩) HF7.out false 0 (167772160 + k),by simp only [FV.ok,I41,U64];omega,
        Gen.setCell (Gen.setCell (Gen.setCell (HG7.out.mono (by omega)) ⟨F,4,none⟩ _ hFr hbF) ⟨F,5,none⟩ _ hFr hbF) ⟨F,6,none⟩ _ hFr hbF⟩
     ·go_meet
      case rel =>
       exact ⟨⟨p,false,0,1681915904 + k1,false,0,1681915904 + k2,0,0⟩,HF6.out,by simp only [FV.ok,I41,U64];omega,HG6.out.mono (by omega)⟩
   case rest =>
    clear HF6 HG6 hp' hk10 hk11 hk20 hk21
    obtain ⟨f,hf,hfo,hg⟩:=hcut
    have HF:=Lib.hid hf
    have HFo:=Lib.hid hfo
    have HG:=Lib.hid hg
    clear hf hfo hg
    obtain ⟨c0,c1,c2,c3,c4,c5,c6,c7,c8,f0⟩:=FBlk.cells HF.out
    go_upto_if 37 with fail
    go_cut [] (fun wx => ∃ f:FV,FBlk wx F f∧f.ok∧Gen b wr wx (mm + 7))
    case first =>
     go_wp2_with fail
     ·refine (pick_new b (mm + 5) _ _ _ _ [9,9,10] _ HG.out.s rfl (by omega) rfl (by decide) rfl).mono ?_
      rintro e w8 ⟨k,rfl,hk,hg⟩
      have HF8:=Lib.hid (HF.out.keep hg.g (by omega))
      have HG8:=Lib.hid (HG.out.trans hg)
      have hk':9≤k∧k≤10:=by simp at hk;omega
      clear hg hk HF HG c0 c1 c2 c3 c4 c5 c6 c7 c8 f0
      go_wp2_with fail
      refine (pick_new b (mm + 5 + 1) _ _ _ _ [80,80,443,22,23] _ HG8.out.s rfl (by omega) rfl (by decide) rfl).mono ?_
      rintro e w9 ⟨q,rfl,hq,hg⟩
      have HF9:=HF8.out.keep hg.g (by omega)
      have HG9:=Lib.hid (HG8.out.trans hg)
      have hq':22≤q∧q≤443:=by simp at hq;omega
      obtain ⟨c0,c1,c2,c3,c4,c5,c6,c7,c8,f0⟩:=FBlk.cells HF9
      have HF9:=Lib.hid HF9
      clear hg hq HF8 HG8
      go_wp2_with fail
      go_meet
      case rel =>
       obtain ⟨z1,z2,z3,z4,z5,z6,z7⟩:=HFo.out
       exact ⟨{ f with fp:=k,tp:=q },FBlk.setTp (FBlk.setFp HF9.out k) q,⟨z1,z2,z3,z4,z5,by show I41 k;unfold I41;omega,by show I41 q;unfold I41;omega⟩,
        Gen.setCell (Gen.setCell (HG9.out.mono (by omega)) ⟨F,7,none⟩ _ hFr hbF) ⟨F,8,none⟩ _ hFr hbF⟩
     ·go_meet
      case rel =>
       exact ⟨f,HF.out,HFo.out,HG.out.mono (by omega)⟩
    case rest =>
     clear HF HG HFo c0 c1 c2 c3 c4 c5 c6 c7 c8 f0
     obtain ⟨f,hf,hfo,hg⟩:=hcut
     have HF:=Lib.hid hf
     have HFo:=Lib.hid hfo
     have HG:=Lib.hid hg
     clear hf hfo hg
     go_upto_region 9 with fail
     have HGs:=Lib.hid (Gen.start HG.out.s)
     have hbw:=HG.out.s.lt
     have hFw:=HF.out.lt
     refine wp_region_inv 17 5 (rpgR b wc.heap.size f) (fun n wx => Gen b wc wx (mm + 7 + n)) (fun u v => u.grownBy v (some b)) (fun i => if i=2 ∨ i=5 ∨ i=7 ∨ i=11 ∨ i=14 then 1 else 0)
      (by kernel_rfl) (by kernel_rfl) (by decide) rpgR_keep HGs.out.drew ?hX
     case' hX => (apply Exists.intro;refine ⟨fun T => ?hA,?hob,?hend⟩)
     case hA =>
      simp only [setAll,List.take_succ_cons,List.take_zero,Act.put,List.setIfInBounds_toArray,List.set_cons_succ,List.set_cons_zero,Nat.reduceAdd]
      exact rfl
     case hob =>
      have HFk:Hid (∀ wx,wc.grownBy wx (some b)→FBlk wx F f):=Lib.hid fun wx hg => HF.out.keep hg (by omega)
      clear HF HG HO HL HGw HGs
      go_light
      refine ⟨?_,?_,?_,?_,?_,?_,?_,?_,?_,?_,?_,?_,?_,?_,?_,?_,?_,trivial⟩
      all_goals (intro T wx n hC hn hp;dsimp only at hn ⊢;unfold Op1)
      ·go_simp
       first | exact ⟨rfl,World.grownBy.refl _ _⟩ | exact ⟨rfl,hC,World.grownBy.refl _ _⟩
      ·go_simp
       exact ⟨⟨wx.heap.size,rfl,by have:=hC.s.lt;omega,rdStr_new wx _ [⟨#[110,97]⟩,⟨#[110,98]⟩,⟨#[110,99]⟩,⟨#[110,100]⟩] _ rfl⟩,hC.alloc _,World.grownBy_alloc _ _ _⟩
      ·obtain ⟨h1,⟨g,h2,hgb,hR⟩, -⟩:=hp
       have h1:T 0=.pointer (some ⟨b,0,none⟩):=h1
       go_simp
       refine (some_gen b (mm + 7 + n) g 4 [⟨#[110,97]⟩,⟨#[110,98]⟩,⟨#[110,99]⟩,⟨#[110,100]⟩] _ hC.s (by simp at hn;omega) rfl (by omega) hR hgb).mono ?_
       rintro e w2 ⟨s,rfl,hs,hg2⟩
       refine ⟨_,rfl,⟨s,rfl,?_⟩,hC.trans hg2,hg2.g⟩
       simp at hs
       rcases hs with rfl | rfl | rfl | rfl <;> decide
      ·go_simp
       first | exact ⟨rfl,World.grownBy.refl _ _⟩ | exact ⟨rfl,hC,World.grownBy.refl _ _⟩
      ·go_simp
       exact ⟨⟨wx.heap.size,rfl,by have:=hC.s.lt;omega,rdInts_new wx _ [0,0,1,1,2,5,23,24,30,50,720] _ rfl⟩,hC.alloc _,World.grownBy_alloc _ _ _⟩
      ·obtain ⟨h1,⟨g,h2,hgb,hR⟩, -⟩:=hp
       have h1:T 3=.pointer (some ⟨b,0,none⟩):=h1
       go_simp
       refine (pick_gen b (mm + 7 + n) g 0 11 11 [0,0,1,1,2,5,23,24,30,50,720] _ hC.s (by simp at hn;omega) (by omega) hR hgb).mono ?_
       rintro e w2 ⟨y,rfl,hy,hg2⟩
       have hyb:0≤y∧y≤720:=by simp at hy;omega
       exact ⟨_,rfl,⟨y,rfl,hyb.1,hyb.2⟩,hC.trans hg2,hg2.g⟩
      ·go_simp
       first | exact ⟨rfl,World.grownBy.refl _ _⟩ | exact ⟨rfl,hC,World.grownBy.refl _ _⟩
      ·obtain ⟨h1, -⟩:=hp
       have h1:T 6=.pointer (some ⟨b,0,none⟩):=h1
       go_simp
       refine (flip_gen b (mm + 7 + n) _ _ hC.s (by simp at hn;omega) (by omega)).mono ?_
       rintro e w2 ⟨o,rfl,hg2⟩
       exact ⟨_,rfl,⟨o,rfl⟩,hC.trans hg2,hg2.g⟩
      ·obtain ⟨c0,c1,c2,c3,c4,c5,c6,c7,c8,f0⟩:=FBlk.cells (HFk.out wx hC.g)
       go_simp
       first | exact ⟨rfl,World.grownBy.refl _ _⟩ | exact ⟨rfl,hC,World.grownBy.refl _ _⟩
      ·go_simp
       first | exact ⟨rfl,World.grownBy.refl _ _⟩ | exact ⟨rfl,hC,World.grownBy.refl _ _⟩
      ·go_simp
       exact ⟨⟨wx.heap.size,rfl,by have:=hC.s.lt;omega,rdInts_new wx _ [1,2,10,100] _ rfl⟩,hC.alloc _,World.grownBy_alloc _ _ _⟩
      ·obtain ⟨h1,⟨g,h2,hgb,hR⟩, -⟩:=hp
       have h1:T 9=.pointer (some ⟨b,0,none⟩):=h1
       go_simp
       refine (pick_gen b (mm + 7 + n) g 0 4 4 [1,2,10,100] _ hC.s (by simp at hn;omega) (by omega) hR hgb).mono ?_
       rintro e w2 ⟨y,rfl,hy,hg2⟩
       exact ⟨_,rfl,⟨y,rfl,by simp at hy;unfold I64b;omega⟩,hC.trans hg2,hg2.g⟩
      ·go_simp
       first | exact ⟨rfl,World.grownBy.refl _ _⟩ | exact ⟨rfl,hC,World.grownBy.refl _ _⟩
      ·go_simp
       exact ⟨⟨wx.heap.size,rfl,by have:=hC.s.lt;omega,rdInts_new wx _ [0,50,100,110,1000,1000000000,1000000001] _ rfl⟩,hC.alloc _,World.grownBy_alloc _ _ _⟩
      ·obtain ⟨h1,⟨g,h2,hgb,hR⟩, -⟩:=hp
       have h1:T 12=.pointer (some ⟨b,0,none⟩):=h1
       go_simp
       refine (pick_gen b (mm + 7 + n) g 0 7 7 [0,50,100,110,1000,1000000000,1000000001] _ hC.s (by simp at hn;omega) (by omega) hR hgb).mono ?_
       rintro e w2 ⟨y,rfl,hy,hg2⟩
       exact ⟨_,rfl,⟨y,rfl,by simp at hy;unfold I64b;omega⟩,hC.trans hg2,hg2.g⟩
      ·obtain ⟨⟨s,h2,hs⟩,⟨k,h5,hk0,hk1⟩,⟨o,h7⟩,h8,⟨k2,h11,hb2⟩,⟨k3,h14,hb3⟩, -⟩:=hp
       have h8:T 8=.agg #[.int .i64 f.p, .bool f.s1, .int .u64 f.h1, .int .u64 f.l1, .bool f.s2, .int .u64 f.h2, .int .u64 f.l2, .int .i64 f.fp, .int .i64 f.tp]:=h8
       go_simp
       have hz:∃ r:RP,Value.agg #[.string s, .int .i64 k, .bool o, .int .i64 f.p, .bool f.s1, .int .u64 f.h1, .int .u64 f.l1, .bool f.s2, .int .u64 f.h2, .int .u64 f.l2, .int .i64 f.fp, .int .i64 f.tp, .int .i64 k2, .int .i64 k3]=.agg (rpC r).toArray∧r.Gm:=⟨⟨s,k,o,f,k2,k3⟩,rfl,⟨HFo.out,by show -1125899906842624≤k;omega,by show k≤1125899906842624;omega,Nat.le_trans hs (by decide)⟩,hs,hb2,hb3⟩
       first | exact ⟨hz,World.grownBy.refl _ _⟩ | exact ⟨hz,hC,World.grownBy.refl _ _⟩
      ·go_simp
       have hz:rpgR b wc.heap.size f 16 (.pointer (some ⟨wx.heap.size,0,none⟩)) (wx.alloc (.cells #[.string ⟨#[]⟩, .int .i64 0, .bool false, .int .i64 0, .bool false, .int .u64 0, .int .u64 0, .bool false, .int .u64 0, .int .u64 0, .int .i64 0, .int .i64 0, .int .i64 0, .int .i64 0] 74 (0,0))):=⟨wx.heap.size,rfl,hC.g.size,by have:=hC.s.lt;omega,_,rfl,Blk.new wx _ _⟩
       exact ⟨hz,hC.alloc _,World.grownBy_alloc _ _ _⟩
     case hend =>
      intro T w7 ⟨n,hn,hC⟩ hR
      obtain ⟨r,hT15,hro⟩:=hR 15 (by omega)
      obtain ⟨R,hT16,hR0,hRb,cs,hcs,hRB⟩:=hR 16 (by omega)
      have hG7:Gen b wr w7 (mm + 12):=HG.out.trans (hC.mono (by omega))
      have hF7:FBlk w7 F f:=HF.out.keep hC.g (by omega)
      have hRr:wr.heap.size≤R:=Nat.le_trans HG.out.g.size hR0
      have hFR:F ≠ R:=by omega
      have HTH:Hid (w7.there R 0 (rpC r).toArray.size):=Lib.hid fun j hj => ⟨by
       have hj':j < 14:=hj
       rw [Nat.zero_add,hRB.cell j,Array.getElem?_eq_getElem (by omega)]
       rfl,hRB.free _⟩
      have HI:Hid ((Tryz.prog.info? 74).map (·.size)=some (rpC r).toArray.size):=Lib.hid size_rb
      have HX:Hid ((rpC r).toArray.all (·.oneCell')=true):=Lib.hid (all_oneCell_toArray (layRb.one ⟨r,hro.1⟩))
      have HS8:Hid (RpS b (mm + 12) wr (w7.setCells R 0 (rpC r)) F R f r):=Lib.hid ⟨Gen.setCells hRr (by omega) _ _ _ hG7,Blk.farCells hF7 hFR 0 _,Blk.fill hRB (rpC r) (by rw [hcs];rfl),HFo.out,hro,hFr,hRr,hFR,hbr⟩
      clear hR hC hG7 hF7 hRB hcs HF HG HGs HFo hn hro
      simp only [hT15,hT16,List.drop_succ_cons,List.drop_zero]
      clear hT15 hT16
      refine wpList_store_mid rfl 74 _ _ rfl R 0 (rpC r).toArray rfl rfl HTH.out HI.out HX.out ?_
      show wpList _ _ _ _ _ (w7.setCells R 0 (rpC r))
      generalize w7.setCells R 0 (rpC r)=w8 at *
      clear HTH HI HX
      go_wp2_with fail
      refine (flip_gen b (mm + 12) _ _ HS8.out.g.s (by omega) (by omega)).mono ?_
      rintro e w9 ⟨kk,rfl,hg⟩
      have HS9:Hid (RpS b (mm + 13) wr w9 F R f r):=Lib.hid (HS8.out.step hg)
      clear hg HS8
      go_upto_if 64 with fail
      go_cut [] (fun wx => ∃ r:RP,RpS b (mm + 13) wr wx F R f r)
      case first =>
       cases kk
       ·obtain ⟨c0,c1,c2,c3,c4,c5,c6,c7,c8,f0⟩:=FBlk.cells HS9.out.fb
        have HP0:Hid (Blk (w9.alloc (.cells #[.bool f.s2, .int .u64 f.h2, .int .u64 f.l2] 28 (0,0))) w9.heap.size 28 #[.bool f.s2, .int .u64 f.h2, .int .u64 f.l2]):=Lib.hid (Blk.new w9 _ _)
        have HSa:=Lib.hid (HS9.out.alloc (.cells #[.bool f.s2, .int .u64 f.h2, .int .u64 f.l2] 28 (0,0)))
        have hA0:wr.heap.size≤w9.heap.size:=HS9.out.g.g.size
        have hA1:F ≠ w9.heap.size:=by have:=HS9.out.fb.lt;omega
        have hA2:R ≠ w9.heap.size:=by have:=HS9.out.rb.lt;omega
        go_upto_region 12 with fail
        generalize w9.alloc (.cells #[.bool f.s2, .int .u64 f.h2, .int .u64 f.l2] 28 (0,0))=w10 at *
        generalize w9.heap.size=A at *
        clear c0 c1 c2 c3 c4 c5 c6 c7 c8 f0 HS9
        have r2:w10.cell? ⟨R,2,none⟩=some (.bool r.out):=HSa.out.rb.cell 2
        go_upto_if 68 with fail
        go_cut [] (fun wx => ∃ (s:Bool) (h l:Int),Blk wx A 28 #[.bool s, .int .u64 h, .int .u64 l]∧RpS b (mm + 13) wr wx F R f r)
        case first =>
         obtain ⟨c0,c1,c2,c3,c4,c5,c6,c7,c8,f0⟩:=FBlk.cells HSa.out.fb
         have a0:=HP0.out.cell 0
         have a1:=HP0.out.cell 1
         have a2:=HP0.out.cell 2
         have af:=HP0.out.free
         simp at a0 a1 a2
         go_wp2_with fail
         ·go_meet
          case rel => exact ⟨f.s1,f.h1,f.l1,HP0.out.set3,((HSa.out.far hA0 hA1 hA2 0 _).far hA0 hA1 hA2 1 _).far hA0 hA1 hA2 2 _⟩
         ·go_meet
          case rel => exact ⟨f.s2,f.h2,f.l2,HP0.out,HSa.out⟩
        case rest =>
         clear HP0 HSa r2
         obtain ⟨s,h',l',hP,hS⟩:=hcut
         have HSb:=Lib.hid hS
         have a2:=hP.cell 2
         simp at a2
         clear hP hS
         obtain ⟨v,hv⟩:∃ v,IntKind.u64.wrap (l' - 1681915904)=v:=⟨_,rfl⟩
         have r0:∀ o,(wc.alloc o).cell? ⟨R,0,none⟩=some (.string r.node):=fun o => (HSb.out.rb.alloc o).cell 0
         have rf:∀ o i,(wc.alloc o).frozen? ⟨R,i,none⟩=false:=fun o => (HSb.out.rb.alloc o).free
         have HN:Hid (∀ s:ByteArray,s.size≤1000→∀ o,RpS b (mm + 13) wr ((wc.alloc o).setCell ⟨R,0,none⟩ (.string s)) F R f { r with node:=s }):=Lib.hid fun s hs o => (HSb.out.alloc o).setR 0 (.string s) { r with node:=s } rfl (Gm_node HSb.out.ro hs)
         by_cases h1:1≤v
         ·by_cases h4:v≤4
          ·have h5:v=1 ∨ v=2 ∨ v=3 ∨ v=4:=by omega
           clear h1 h4
           rcases h5 with h5 | h5 | h5 | h5
           all_goals
            subst h5
            go_wp2_with fail
            go_meet
            case rel => exact ⟨_,HN.out _ (by decide) _⟩
          ·have h6:(v≤4)=False:=eq_false h4
           go_wp2_with fail
           go_meet
           case rel => exact ⟨r,HSb.out⟩
         ·have h6:(1≤v)=False:=eq_false h1
          go_wp2_with fail
          go_meet
          case rel => exact ⟨r,HSb.out⟩
       ·go_wp2_with fail
        go_meet
        case rel => exact ⟨r,HS9.out⟩
      case rest =>
       clear HS9
       obtain ⟨r,hS⟩:=hcut
       have HS:=Lib.hid hS
       clear hS
       obtain ⟨x,hx⟩:∃ x:RB,x.1=r:=⟨⟨r,HS.out.ro.1⟩,rfl⟩
       have HXg:Hid (x.1.Gm):=Lib.hid (by rw [hx];exact HS.out.ro)
       have HXs:Hid ((rpC r).length=14):=Lib.hid rfl
       have hxe:layRb.enc x=rpC r:=by rw [← hx];rfl
       have HRr:Hid (wc.rangeAt R 0 (rpC r)):=Lib.hid HS.out.rb.range
       have HO17:=Lib.hid (HO.out.gen HS.out.g hblt)
       have HOr:Hid (wc.ownsRow w.heap.size 74 14 u5 L.length (layRb.all L)):=HO17
       have hLb:2 * j≤20:=by omega
       have hLc:=HL.out
       have Hxe:=Lib.hid hxe
       clear HO hxe
       generalize hXC:rpC r=XC at HXs HRr Hxe
       have HXC:=Lib.hid hXC
       clear hXC
       have HXz:Hid (XC.toArray.size=14):=Lib.hid (by simpa using HXs.out)
       go_wp2_with (first | (refine wpList_loadn rfl 74 _ rfl R 0 rfl _ _ HRr.out under_rb rfl 14 size_rb HXs.out ?_;go_simp) | (refine wpList_build1 rfl 61 74 _ rfl XC.toArray rfl 14 Tryz.underlying61 zero_rb HXz.out (by decide) (by decide) ?_;go_simp) | (at_builtin;refine wpList_app rbE rfl (.tmp 85) (.tmp 87) rfl rfl (World.ownsRow.alloc HOr.out _) rfl (src_new layRb _ x _ _ ?c0) ?c1 ?c2 ?c3 ?c4 ?_))
       case c0 => rw [Hxe.out]
       case c1 => exact layRb.one x
       case c2 => unfold maxLen;omega
       case c3 => omega
       case c4 => have:=(HGw.out _ _ HS.out.g).g.size;simp;omega
       intro v' w' hO' hG'
       have hbz:w.heap.size≤(wc.alloc (.cells XC.toArray 74 (0,0))).heap.size:=by have:=(HGw.out _ _ HS.out.g).g.size;simp;omega
       have HG2:Hid (Gen b w w' (mm + 13)):=Lib.hid (Gen.below ((HGw.out _ _ HS.out.g).alloc (.cells XC.toArray 74 (0,0))) (hG'.below hbz (own_base HOr.out)) (Nat.le_refl _) hblt)
       have HL2:Hid (OwnK layRb w' w.heap.size v' (L ++ [x])):=Lib.hid (OwnK.snoc hO')
       have HF2:Hid (FBlk w' F f):=Lib.hid ((hG'.g.block F (by have:=(HS.out.fb).lt;simp;omega) (fun e => by have:=HOlt.out F e.symm;have:=HS.out.hF;omega)).trans (HS.out.fb.alloc (.cells XC.toArray 74 (0,0))))
       have HR2:Hid (Blk w' R 74 (rpC r).toArray):=Lib.hid ((hG'.g.block R (by have:=(HS.out.rb).lt;simp;omega) (fun e => by have:=HOlt.out R e.symm;have:=HS.out.hR;omega)).trans (HS.out.rb.alloc (.cells XC.toArray 74 (0,0))))
       have hFb:F ≠ b:=by have:=HS.out.hF;have:=HS.out.hb;omega
       have hRb2:R ≠ b:=by have:=HS.out.hR;have:=HS.out.hb;omega
       have Hro:Hid r.Gm:=Lib.hid HS.out.ro
       clear hO' hG' hbz HOr HO17 HS HRr HGw HOlt hFr hbF hRr hFR hbr hR0 hRb hFw hbw
       obtain ⟨w2,hw2⟩:∃ q,w'=q:=⟨_,rfl⟩
       rw [hw2] at HG2 HL2 HF2 HR2 ⊢
       clear hw2
       go_wp2_with fail
       refine (flip_gen b (mm + 13) _ _ HG2.out.s (by omega) (by omega)).mono ?_
       rintro e w3 ⟨kk,rfl,hg⟩
       have HG3:=Lib.hid hg
       clear hg
       cases kk
       ·have HE1:=Lib.hid (HL2.out.gen HG3.out hblt)
        have HE2:Hid ((L ++ [x]).length≤2 * (j + 1)):=Lib.hid (by rw [List.length_append,List.length_singleton];omega)
        have HE3:Hid (Gen b w w3 (m + 20 * (j + 1))):=Lib.hid ((HG2.out.trans HG3.out).mono (by omega))
        go_wp2_with fail
        exact ⟨⟨j + 1,L ++ [x],by omega,by go_num,HE1,HE2,Lib.hid (fun z hz => (List.mem_append.1 hz).elim (HGm.out z) (fun h => by rw [List.mem_singleton.1 h];exact HXg.out)),HE3⟩,by simp [intOf];omega⟩
       ·skip
        have hb2:b < w2.heap.size:=HG2.out.s.lt
        have HT0:Hid (RpT b (mm + 14) w2 (w3.alloc (.cells XC.toArray 74 (0,0))) F R w3.heap.size f r r):=Lib.hid (by
         have h3:w2.heap.size≤w3.heap.size:=HG3.out.g.size
         have hf:=HF2.out.lt
         have hr:=HR2.out.lt
         refine ⟨HG3.out.alloc _,(HF2.out.keep HG3.out.g hFb).alloc _,(HR2.out.keep HG3.out.g hRb2).alloc _,?_,Hro.out,hFb,hRb2,h3,by omega,by omega,hb2⟩
         rw [HXC.out]
         exact Blk.new w3 _ _)
        have HRr:Hid (w3.rangeAt R 0 XC):=Lib.hid (by rw [← HXC.out];exact (HR2.out.keep HG3.out.g hRb2).range)
        have HXo:Hid (XC.toArray.all (·.oneCell')=true):=Lib.hid (by rw [← HXC.out];exact all_oneCell_toArray (layRb.one ⟨r,Hro.out.1⟩))
        go_upto_region 20 with (first | (refine wpList_loadn rfl 74 _ rfl R 0 rfl _ _ HRr.out under_rb rfl 14 size_rb HXs.out ?_;go_simp) | (refine wpList_var XC.toArray 74 Tryz.zeroValue74 rfl rfl rfl _ _ rfl _ rfl ?_ ?_ 14 size_rb HXz.out ?_ HXo.out ?_;all_goals (try rfl);try go_simp))
        generalize w3.alloc (.cells XC.toArray 74 (0,0))=w4 at *
        generalize w3.heap.size=O at *
        clear HRr HXo HF2 HR2 HG3
        have r2:w4.cell? ⟨R,2,none⟩=some (.bool r.out):=HT0.out.rb.cell 2
        have o2:w4.cell? ⟨O,2,none⟩=some (.bool r.out):=HT0.out.ob.cell 2
        have of:=HT0.out.ob.free
        have HT1:Hid (RpT b (mm + 14) w2 (w4.setCell ⟨O,2,none⟩ (.bool (!r.out))) F R O f r { r with out:=!r.out }):=Lib.hid (HT0.out.setO 2 (.bool (!r.out)) { r with out:=!r.out } rfl HT0.out.oo)
        go_upto_region 21 with fail
        generalize w4.setCell ⟨O,2,none⟩ (.bool (!r.out))=w5 at *
        clear r2 o2 of HT0
        obtain ⟨o,ho⟩:∃ q:RP, { r with out:=!r.out }=q:=⟨_,rfl⟩
        rw [ho] at HT1
        clear ho
        obtain ⟨c0,c1,c2,c3,c4,c5,c6,c7,c8,f0⟩:=FBlk.cells HT1.out.fb
        have HP0:Hid (Blk (w5.alloc (.cells #[.bool f.s2, .int .u64 f.h2, .int .u64 f.l2] 28 (0,0))) w5.heap.size 28 #[.bool f.s2, .int .u64 f.h2, .int .u64 f.l2]):=Lib.hid (Blk.new w5 _ _)
        have HTa:=Lib.hid (HT1.out.alloc (.cells #[.bool f.s2, .int .u64 f.h2, .int .u64 f.l2] 28 (0,0)))
        have hA0:w2.heap.size≤w5.heap.size:=HT1.out.g.g.size
        have hA1:F ≠ w5.heap.size:=by have:=HT1.out.fb.lt;omega
        have hA2:R ≠ w5.heap.size:=by have:=HT1.out.rb.lt;omega
        have hA3:O ≠ w5.heap.size:=by have:=HT1.out.ob.lt;omega
        go_upto_region 22 with fail
        generalize w5.alloc (.cells #[.bool f.s2, .int .u64 f.h2, .int .u64 f.l2] 28 (0,0))=w6 at *
        generalize w5.heap.size=A at *
        clear c0 c1 c2 c3 c4 c5 c6 c7 c8 f0 HT1
        have o2:w6.cell? ⟨O,2,none⟩=some (.bool o.out):=HTa.out.ob.cell 2
        go_upto_if 99 with fail
        go_cut [] (fun wx => ∃ (s:Bool) (h l:Int),Blk wx A 28 #[.bool s, .int .u64 h, .int .u64 l]∧RpT b (mm + 14) w2 wx F R O f r o)
        case first =>
         as_aux_lemma =>
          obtain ⟨c0,c1,c2,c3,c4,c5,c6,c7,c8,f0⟩:=FBlk.cells HTa.out.fb
          have a0:=HP0.out.cell 0
          have a1:=HP0.out.cell 1
          have a2:=HP0.out.cell 2
          have af:=HP0.out.free
          simp at a0 a1 a2
          go_wp2_with fail
          ·go_meet
           case rel => exact ⟨f.s1,f.h1,f.l1,HP0.out.set3,((HTa.out.far hA0 hA1 hA2 hA3 0 _).far hA0 hA1 hA2 hA3 1 _).far hA0 hA1 hA2 hA3 2 _⟩
          ·go_meet
           case rel => exact ⟨f.s2,f.h2,f.l2,HP0.out,HTa.out⟩
        case rest =>
        clear HP0 HTa o2
        obtain ⟨s,h',l',hP,hS⟩:=hcut
        have HTb:=Lib.hid hS
        have a2:=hP.cell 2
        simp at a2
        clear hP hS
        obtain ⟨v,hv⟩:∃ v,IntKind.u64.wrap (l' - 1681915904)=v:=⟨_,rfl⟩
        have r0:∀ x,(wc.alloc x).cell? ⟨O,0,none⟩=some (.string o.node):=fun x => (HTb.out.ob.alloc x).cell 0
        have rf:∀ x i,(wc.alloc x).frozen? ⟨O,i,none⟩=false:=fun x => (HTb.out.ob.alloc x).free
        have HN:Hid (∀ s:ByteArray,s.size≤1000→∀ x,RpT b (mm + 14) w2 ((wc.alloc x).setCell ⟨O,0,none⟩ (.string s)) F R O f r { o with node:=s }):=Lib.hid fun s hs x => (HTb.out.alloc x).setO 0 (.string s) { o with node:=s } rfl (Gm_node HTb.out.oo hs)
        go_upto_region 25 with fail
        go_cut [110] (fun s wx => ∃ k:Bool,s=.bool k∧(k=true→1≤v∧v≤4)∧RpT b (mm + 14) w2 wx F R O f r o)
        case first =>
         as_aux_lemma =>
          clear HN r0 rf
          by_cases h1:1≤v
          ·by_cases h4:v≤4
           ·go_wp2_with fail
            go_meet
            case rel => exact ⟨true,rfl,fun _ => ⟨h1,h4⟩,HTb.out⟩
           ·have h6:(v≤4)=False:=eq_false h4
            go_wp2_with fail
            go_meet
            case rel => exact ⟨false,rfl,(fun h => by cases h),HTb.out⟩
          ·have h6:(1≤v)=False:=eq_false h1
           go_wp2_with fail
           go_meet
           case rel => exact ⟨false,rfl,(fun h => by cases h),HTb.out⟩
        case rest =>
        clear HTb HN r0 rf a2 hv
        obtain ⟨kb,rfl,hkb,hS⟩:=hcut
        have HTb:=Lib.hid hS
        have HKb:=Lib.hid hkb
        have r0:∀ x,(wc.alloc x).cell? ⟨O,0,none⟩=some (.string o.node):=fun x => (HTb.out.ob.alloc x).cell 0
        have rf:∀ x i,(wc.alloc x).frozen? ⟨O,i,none⟩=false:=fun x => (HTb.out.ob.alloc x).free
        have HN:Hid (∀ s:ByteArray,s.size≤1000→∀ x,RpT b (mm + 14) w2 ((wc.alloc x).setCell ⟨O,0,none⟩ (.string s)) F R O f r { o with node:=s }):=Lib.hid fun s hs x => (HTb.out.alloc x).setO 0 (.string s) { o with node:=s } rfl (Gm_node HTb.out.oo hs)
        clear hS hkb
        go_upto_if 110 with fail
        go_cut [] (fun wx => ∃ o:RP,RpT b (mm + 14) w2 wx F R O f r o)
        case first =>
         cases kb
         ·clear HN r0 rf
          go_wp2_with fail
          go_meet
          case rel => exact ⟨o,HTb.out⟩
         ·obtain ⟨h1,h4⟩:=HKb.out rfl
          have h5:v=1 ∨ v=2 ∨ v=3 ∨ v=4:=by omega
          clear h1 h4 HKb HTb
          rcases h5 with h5 | h5 | h5 | h5
          ·subst h5
           go_wp2_with fail
           go_meet
           case rel => exact ⟨_,HN.out ⟨#[110,97]⟩ (by decide) _⟩
          ·subst h5
           go_wp2_with fail
           go_meet
           case rel => exact ⟨_,HN.out ⟨#[110,98]⟩ (by decide) _⟩
          ·subst h5
           go_wp2_with fail
           go_meet
           case rel => exact ⟨_,HN.out ⟨#[110,99]⟩ (by decide) _⟩
          ·subst h5
           go_wp2_with fail
           go_meet
           case rel => exact ⟨_,HN.out ⟨#[110,100]⟩ (by decide) _⟩
        case rest =>
        clear HTb HN r0 rf HKb
        obtain ⟨o,hS⟩:=hcut
        have HT:=Lib.hid hS
        clear hS
        go_upto_region 27 with fail
        refine wp_region_inv 8 1 (rqgR b R O 12 5 [0,0, -1, -5,1] r.pk) (fun n wx => Gen b wc wx (mm + 14 + n)) (fun u v => u.grownBy v (some b)) (fun i => if i=4 then 1 else 0)
         (by kernel_rfl) (by kernel_rfl) (by decide) rqgR_keep (Gen.start HT.out.g.s).drew ?hX2
        case' hX2 => (apply Exists.intro;refine ⟨fun T => ?hA2,?hob2,?hend2⟩)
        case hA2 =>
         simp only [setAll,List.take_succ_cons,List.take_zero,Act.put,List.setIfInBounds_toArray,List.set_cons_succ,List.set_cons_zero,Nat.reduceAdd]
         exact rfl
        case hob2 =>
         have HTk:Hid (∀ wx,wc.grownBy wx (some b)→wx.cell? ⟨R,12,none⟩=some (.int .i64 r.pk)):=Lib.hid fun wx hg => (HT.out.rb.keep hg HT.out.hR).cell 12
         clear HT HL2
         go_light
         refine ⟨?_,?_,?_,?_,?_,?_,?_,?_,trivial⟩
         all_goals (intro T wx n hC hn hp;dsimp only at hn ⊢;unfold Op1)
         ·go_simp
          first | exact ⟨rfl,World.grownBy.refl _ _⟩ | exact ⟨rfl,hC,World.grownBy.refl _ _⟩
         ·obtain ⟨h1, -⟩:=hp
          have h1:T 0=.pointer (some ⟨R,12,none⟩):=h1
          have hc:=HTk.out wx hC.g
          go_simp
          first | exact ⟨rfl,World.grownBy.refl _ _⟩ | exact ⟨rfl,hC,World.grownBy.refl _ _⟩
         ·go_simp
          first | exact ⟨rfl,World.grownBy.refl _ _⟩ | exact ⟨rfl,hC,World.grownBy.refl _ _⟩
         ·go_simp
          exact ⟨⟨wx.heap.size,rfl,by have:=hC.s.lt;omega,rdInts_new wx _ [0,0, -1, -5,1] _ rfl⟩,hC.alloc _,World.grownBy_alloc _ _ _⟩
         ·obtain ⟨h1,⟨g,h2,hgb,hR⟩, -⟩:=hp
          have h1:T 2=.pointer (some ⟨b,0,none⟩):=h1
          go_simp
          refine (pick_gen b (mm + 14 + n) g 0 5 5 [0,0, -1, -5,1] _ hC.s (by simp at hn;omega) (by omega) hR hgb).mono ?_
          rintro e w2 ⟨y,rfl,hy,hg2⟩
          exact ⟨_,rfl,⟨y,rfl,by simp at hy;unfold I64b;omega⟩,hC.trans hg2,hg2.g⟩
         ·obtain ⟨h1,⟨k,h2,hkb⟩, -⟩:=hp
          have h1:T 1=.int .i64 r.pk:=h1
          go_simp
          first | exact ⟨⟨_,rfl,by first | exact i64b_wrap _ | (unfold I64b at *;omega)⟩,World.grownBy.refl _ _⟩ | exact ⟨⟨_,rfl,by first | exact i64b_wrap _ | (unfold I64b at *;omega)⟩,hC,World.grownBy.refl _ _⟩
         ·obtain ⟨⟨k,h2,hkb⟩, -⟩:=hp
          go_simp
          first | exact ⟨⟨_,rfl,by first | exact i64b_wrap _ | (unfold I64b at *;omega)⟩,World.grownBy.refl _ _⟩ | exact ⟨⟨_,rfl,by first | exact i64b_wrap _ | (unfold I64b at *;omega)⟩,hC,World.grownBy.refl _ _⟩
         ·go_simp
          first | exact ⟨rfl,World.grownBy.refl _ _⟩ | exact ⟨rfl,hC,World.grownBy.refl _ _⟩
        case hend2 =>
         intro T w7 ⟨n,hn,hC⟩ hR
         obtain ⟨k,hT6,hkb⟩:=hR 6 (by omega)
         have hT7:T 7=.pointer (some ⟨O,12,none⟩):=hR 7 (by omega)
         have HT7:Hid (RpT b (mm + 14 + 1) w2 w7 F R O f r o):=Lib.hid (HT.out.step (hC.mono (by omega)))
         clear HT hR hC hn
         have o0:=HT7.out.ob.cell 12
         have of:=HT7.out.ob.free
         have HT8:Hid (RpT b (mm + 14 + 1) w2 (w7.setCell ⟨O,12,none⟩ (.int .i64 k)) F R O f r { o with pk:=k }):=Lib.hid (HT7.out.setO 12 (.int .i64 k) { o with pk:=k } rfl ⟨HT7.out.oo.1,HT7.out.oo.2.1,hkb,HT7.out.oo.2.2.2⟩)
         have o1:w7.cell? ⟨O,12,none⟩=some (.int .i64 o.pk):=o0
         simp only [List.drop_succ_cons,List.drop_zero]
         go_upto_region 28 with fail
         generalize w7.setCell ⟨O,12,none⟩ (.int .i64 k)=WY at *
         clear o0 o1 of HT7 hT6 hT7
         obtain ⟨o,ho⟩:∃ q:RP, { o with pk:=k }=q:=⟨_,rfl⟩
         rw [ho] at HT8
         clear ho
         have HT:=HT8
         refine wp_region_inv 8 1 (rqgR b R O 13 4 [0, -50, -1,20] r.sz) (fun n wx => Gen b WY wx (mm + 15 + n)) (fun u v => u.grownBy v (some b)) (fun i => if i=4 then 1 else 0)
          (by kernel_rfl) (by kernel_rfl) (by decide) rqgR_keep (Gen.start HT.out.g.s).drew ?hX3
         case' hX3 => (apply Exists.intro;refine ⟨fun T => ?hA3,?hob3,?hend3⟩)
         case hA3 =>
          simp only [setAll,List.take_succ_cons,List.take_zero,Act.put,List.setIfInBounds_toArray,List.set_cons_succ,List.set_cons_zero,Nat.reduceAdd]
          exact rfl
         case hob3 =>
          have HTk:Hid (∀ wx,WY.grownBy wx (some b)→wx.cell? ⟨R,13,none⟩=some (.int .i64 r.sz)):=Lib.hid fun wx hg => (HT.out.rb.keep hg HT.out.hR).cell 13
          clear HT HL2
          go_light
          refine ⟨?_,?_,?_,?_,?_,?_,?_,?_,trivial⟩
          all_goals (intro T wx n hC hn hp;dsimp only at hn ⊢;unfold Op1)
          ·go_simp
           first | exact ⟨rfl,World.grownBy.refl _ _⟩ | exact ⟨rfl,hC,World.grownBy.refl _ _⟩
          ·obtain ⟨h1, -⟩:=hp
           have h1:T 0=.pointer (some ⟨R,13,none⟩):=h1
           have hc:=HTk.out wx hC.g
           go_simp
           first | exact ⟨rfl,World.grownBy.refl _ _⟩ | exact ⟨rfl,hC,World.grownBy.refl _ _⟩
          ·go_simp
           first | exact ⟨rfl,World.grownBy.refl _ _⟩ | exact ⟨rfl,hC,World.grownBy.refl _ _⟩
          ·go_simp
           exact ⟨⟨wx.heap.size,rfl,by have:=hC.s.lt;omega,rdInts_new wx _ [0, -50, -1,20] _ rfl⟩,hC.alloc _,World.grownBy_alloc _ _ _⟩
          ·obtain ⟨h1,⟨g,h2,hgb,hR⟩, -⟩:=hp
           have h1:T 2=.pointer (some ⟨b,0,none⟩):=h1
           go_simp
           refine (pick_gen b (mm + 15 + n) g 0 4 4 [0, -50, -1,20] _ hC.s (by simp at hn;omega) (by omega) hR hgb).mono ?_
           rintro e w2 ⟨y,rfl,hy,hg2⟩
           exact ⟨_,rfl,⟨y,rfl,by simp at hy;unfold I64b;omega⟩,hC.trans hg2,hg2.g⟩
          ·obtain ⟨h1,⟨k,h2,hkb⟩, -⟩:=hp
           have h1:T 1=.int .i64 r.sz:=h1
           go_simp
           first | exact ⟨⟨_,rfl,by first | exact i64b_wrap _ | (unfold I64b at *;omega)⟩,World.grownBy.refl _ _⟩ | exact ⟨⟨_,rfl,by first | exact i64b_wrap _ | (unfold I64b at *;omega)⟩,hC,World.grownBy.refl _ _⟩
          ·obtain ⟨⟨k,h2,hkb⟩, -⟩:=hp
           go_simp
           first | exact ⟨⟨_,rfl,by first | exact i64b_wrap _ | (unfold I64b at *;omega)⟩,World.grownBy.refl _ _⟩ | exact ⟨⟨_,rfl,by first | exact i64b_wrap _ | (unfold I64b at *;omega)⟩,hC,World.grownBy.refl _ _⟩
          ·go_simp
           first | exact ⟨rfl,World.grownBy.refl _ _⟩ | exact ⟨rfl,hC,World.grownBy.refl _ _⟩
         case hend3 =>
          intro T w7 ⟨n,hn,hC⟩ hR
          obtain ⟨k,hT6,hkb⟩:=hR 6 (by omega)
          have hT7:T 7=.pointer (some ⟨O,13,none⟩):=hR 7 (by omega)
          have HT7:Hid (RpT b (mm + 15 + 1) w2 w7 F R O f r o):=Lib.hid (HT.out.step (hC.mono (by omega)))
          clear HT hR hC hn
          have o0:=HT7.out.ob.cell 13
          have of:=HT7.out.ob.free
          have HT8:Hid (RpT b (mm + 15 + 1) w2 (w7.setCell ⟨O,13,none⟩ (.int .i64 k)) F R O f r { o with sz:=k }):=Lib.hid (HT7.out.setO 13 (.int .i64 k) { o with sz:=k } rfl ⟨HT7.out.oo.1,HT7.out.oo.2.1,HT7.out.oo.2.2.1,hkb⟩)
          have o1:w7.cell? ⟨O,13,none⟩=some (.int .i64 o.sz):=o0
          simp only [List.drop_succ_cons,List.drop_zero]
          go_upto_region 29 with fail
          generalize w7.setCell ⟨O,13,none⟩ (.int .i64 k)=WZ at *
          clear o0 o1 of HT7 hT6 hT7
          obtain ⟨o,ho⟩:∃ q:RP, { o with sz:=k }=q:=⟨_,rfl⟩
          rw [ho] at HT8
          clear ho
          obtain ⟨y,hy⟩:∃ y:RB,y.1=o:=⟨⟨o,HT8.out.oo.1⟩,rfl⟩
          have HYg:Hid (y.1.Gm):=Lib.hid (by rw [hy];exact HT8.out.oo)
          have HYs:Hid ((rpC o).length=14):=Lib.hid rfl
          have hye:layRb.enc y=rpC o:=by rw [← hy];rfl
          have HRo:Hid (WZ.rangeAt O 0 (rpC o)):=Lib.hid HT8.out.ob.range
          have HO29:=HL2.out.gen HT8.out.g hblt
          have HOw:Hid (WZ.ownsRow w.heap.size 74 14 v' (L ++ [x]).length (layRb.all (L ++ [x]))):=Lib.hid HO29
          have HG9:Hid (Gen b w WZ (m + 20 * (j + 1))):=Lib.hid ((HG2.out.trans HT8.out.g).mono (by omega))
          have Hye:=Lib.hid hye
          clear HO29 hye HL2 HG2 HT8
          generalize rpC o=YC at HYs HRo Hye
          have HYz:Hid (YC.toArray.size=14):=Lib.hid (by simpa using HYs.out)
          have hLl:(L ++ [x]).length=L.length + 1:=by simp
          go_wp2_with (first | (refine wpList_loadn rfl 74 _ rfl O 0 rfl _ _ HRo.out under_rb rfl 14 size_rb HYs.out ?_;go_simp) | (refine wpList_build1 rfl 61 74 _ rfl YC.toArray rfl 14 Tryz.underlying61 zero_rb HYz.out (by decide) (by decide) ?_;go_simp) | (at_builtin;refine wpList_app rbE rfl (.tmp 132) (.tmp 134) rfl rfl (World.ownsRow.alloc HOw.out _) rfl (src_new layRb _ y _ _ ?d0) ?d1 ?d2 ?d3 ?d4 ?_))
          case d0 => rw [Hye.out]
          case d1 => exact layRb.one y
          case d2 => unfold maxLen;omega
          case d3 => omega
          case d4 => have:=HG9.out.g.size;simp;omega
          intro v3 w9 hO9 hG9'
          have hbz:w.heap.size≤(WZ.alloc (.cells YC.toArray 74 (0,0))).heap.size:=by have:=HG9.out.g.size;simp;omega
          have HE1:Hid (OwnK layRb w9 w.heap.size v3 (L ++ [x] ++ [y])):=Lib.hid (OwnK.snoc (by rw [hLl];exact hO9))
          have HE2:Hid ((L ++ [x] ++ [y]).length≤2 * (j + 1)):=Lib.hid (by rw [List.length_append,hLl,List.length_singleton];omega)
          have HE3:Hid (Gen b w w9 (m + 20 * (j + 1))):=Lib.hid (Gen.below (HG9.out.alloc (.cells YC.toArray 74 (0,0))) (hG9'.below hbz (own_base HOw.out)) (Nat.le_refl _) hblt)
          clear hO9 hG9' hbz HOw HRo HG9 hLl
          go_wp2_with fail
          exact ⟨⟨j + 1,_,by omega,by go_num,HE1,HE2,Lib.hid (fun z hz => (List.mem_append.1 hz).elim (fun hz => (List.mem_append.1 hz).elim (HGm.out z) (fun h => by rw [List.mem_singleton.1 h];exact HXg.out)) (fun h => by rw [List.mem_singleton.1 h];exact HYg.out)),HE3⟩,by simp [intOf];omega⟩
  ·obtain rfl:j=K:=by omega
   obtain ⟨a1,c1,hv1, -⟩:=HO.out.form
   subst hv1
   obtain ⟨n1,hn1⟩:∃ q,L.length=q:=⟨_,rfl⟩
   rw [hn1] at HO HL ⊢
   have hL1:=HL.out
   have Hn1:=Lib.hid hn1
   clear hn1
   have eg:∀ args w,(callFunc 91 args).run Tryz.prog w=.ok (.enter 91 args) w:=Go.Proofs.enters_of Tryz.func91 (by kernel_rfl) rfl
   have HSO:=Lib.hid (sortStableRb_any 91 eg reportOrder_any w.heap.size n1 c1 a1 L wr HO.out (by omega))
   clear eg
   have hwr:=HGr.out.g.size
   go_wp2_with fail
   refine HSO.out.mono ?_
   rintro e w1 ⟨rfl,hO1,hG1⟩
   have HG1:Hid (Gen b w w1 (m + 20 * j)):=Lib.hid (Gen.below HGr.out (hG1.below hwr (own_base HO.out)) (Nat.le_refl _) hblt)
   have HO1:=Lib.hid hO1
   have hl1:=stabR_len L
   rw [Hn1.out] at hl1
   clear hO1 hG1 HSO HO HGr hwr HL
   have HGm1:Hid (∀ x ∈ stabR L,x.1.Gm):=Lib.hid fun x hx => HGm.out x (stabG_mem hx)
   clear HGm
   generalize stabR L=L1 at *
   have hw1:=HG1.out.g.size
   have HCF:=Lib.hid (compactFuncRb_any w.heap.size a1 n1 c1 L1 w1 HO1.out (by omega) hw1 sameR reports1_any)
   go_wp2_with fail
   refine HCF.out.mono ?_
   rintro e w2 ⟨v2,rfl,hO2,hG2⟩
   have HG2:Hid (Gen b w w2 (m + 20 * j)):=Lib.hid (Gen.below HG1.out (hG2.below hw1 (own_base HO1.out)) (Nat.le_refl _) hblt)
   have hl2:=compL_len sameR L1
   rw [hl1] at hl2
   have HO2:=Lib.hid hO2
   clear hO2 hG2 HCF HO1 HG1 hw1 hl1
   have HGm2:Hid (∀ x ∈ compL sameR L1,x.1.Gm):=Lib.hid fun x hx => HGm1.out x (compG_mem sameR L1 hx)
   clear HGm1
   generalize compL sameR L1=L2 at *
   obtain ⟨a2,c2,hv2, -⟩:=HO2.out.form
   subst hv2
   obtain ⟨n2,hn2⟩:∃ q,L2.length=q:=⟨_,rfl⟩
   rw [hn2] at HO2 hl2 ⊢
   have Hn2:=Lib.hid hn2
   clear hn2
   have hn20:n2≤20:=by omega
   go_upto_region 33 with fail
   go_cut [147] (fun s wx => ∃ kb:Bool,s=.bool kb∧(kb=true→0 < n2)∧Gen b w wx (m + 20 * j + 1)∧OwnK layRb wx w.heap.size (.slice a2 n2 c2) L2)
   case first =>
    as_aux_lemma =>
     rcases Nat.eq_zero_or_pos n2 with h0 | h0
     ·subst h0
      go_wp2_with fail
      go_meet
      case rel => exact ⟨false,rfl,(fun h => by cases h),HG2.out.mono (by omega),HO2.out⟩
     ·have h1:(0:Int) < (n2:Int):=by omega
      go_wp2_with fail
      refine (flip_gen b (m + 20 * j) _ _ HG2.out.s (by omega) (by omega)).mono ?_
      rintro e w3 ⟨kk,rfl,hg⟩
      have HG3:=Lib.hid (HG2.out.trans hg)
      have HO3:=Lib.hid (HO2.out.gen hg hblt)
      clear hg HG2 HO2
      go_wp2_with fail
      go_meet
      case rel => exact ⟨kk,rfl,fun _ => h0,HG3.out,HO3.out⟩
   case rest =>
    clear HG2 HO2
    obtain ⟨kb,rfl,hkb,hg,hO⟩:=hcut
    have HKb:=Lib.hid hkb
    have HG3:=Lib.hid hg
    have HO3:=Lib.hid hO
    clear hkb hg hO
    go_upto_if 147 with fail
    go_cut [] (fun wx => ∃ L':List RB,OwnK layRb wx w.heap.size (.slice a2 n2 c2) L'∧L'.length=n2∧(∀ x ∈ L',x.1.Gm)∧Gen b w wx (m + 260))
    case first =>
     as_aux_lemma =>
      cases kb
      ·go_wp2_with fail
       go_meet
       case rel => exact ⟨L2,HO3.out,Hn2.out,HGm2.out,HG3.out.mono (by omega)⟩
      ·have h0:=HKb.out rfl
       obtain ⟨g,c',hv,hgB, -⟩:=HO3.out.one (by rw [Hn2.out];exact h0)
       injection hv with hv q1 q2
       subst hv
       clear q1 q2 HKb
       have hbg:b < g:=by omega
       go_wp2_with fail
       refine (next_gen b (m + 20 * j + 1) _ _ HG3.out.s (by omega) (by omega)).mono ?_
       rintro e w4 ⟨k,rfl,⟨hk0,hk1⟩,hg⟩
       obtain ⟨q,rfl⟩:=Int.eq_ofNat_of_zero_le hk0
       have hq:q < n2:=by omega
       have hq1:(q:Int) < (n2:Int):=by omega
       have HG4:=Lib.hid (HG3.out.trans hg)
       have HO4:=Lib.hid (HO3.out.gen hg hblt)
       clear hg HG3 HO3 hk0 hk1
       go_wp2_with fail
       refine (next_gen b (m + 20 * j + 1 + 1) _ _ HG4.out.s (by omega) (by omega)).mono ?_
       rintro e w5 ⟨k5,rfl,⟨hk0,hk1⟩,hg⟩
       have HG5:=Lib.hid (HG4.out.trans hg)
       have HO5:=Lib.hid (HO4.out.gen hg hblt)
       obtain ⟨x,hx⟩:∃ x,L2[q]?=some x:=⟨_,List.getElem?_eq_getElem (by rw [Hn2.out];exact hq)⟩
       have Hx:=Lib.hid hx
       clear hg HG4 HO4 hx
       have h5:k5=0 ∨ k5=1 ∨ k5=2 ∨ k5=3 ∨ k5=4:=by omega
       clear hk0 hk1
       rcases h5 with h5 | h5 | h5 | h5 | h5
       ·subst h5
        have HSt:Hid (RdStr (w5.alloc (.cells #[.string ⟨#[]⟩, .string ⟨#[65]⟩, .string ⟨#[110,97]⟩] 9 (0,0))) w5.heap.size [⟨#[]⟩,⟨#[65]⟩,⟨#[110,97]⟩]):=Lib.hid (rdStr_new w5 _ [⟨#[]⟩,⟨#[65]⟩,⟨#[110,97]⟩] _ rfl)
        go_wp2_with fail
        refine (some_gen b (m + 20 * j + 1 + 1 + 1) w5.heap.size 3 [⟨#[]⟩,⟨#[65]⟩,⟨#[110,97]⟩] _ (HG5.out.s.alloc _) (by omega) rfl (by omega) HSt.out (by have:=HG5.out.s.lt;omega)).mono ?_
        rintro e w6 ⟨s,rfl,hs,hg⟩
        have HG6:=Lib.hid ((HG5.out.alloc _).trans hg)
        have HO6:=Lib.hid ((HO5.out.alloc _).gen hg hblt)
        have hs2:s.size≤1000:=by simp at hs;rcases hs with rfl | rfl | rfl <;> decide
        clear hg hs HG5 HO5 HSt
        have e0:w6.cell? ⟨g,q * 14,none⟩=some (.string x.1.node):=HO6.out.get (j:=0) Hx.out rfl
        have ef:=HO6.out.frozen
        have HE:=Lib.hid (HO6.out.setTo (j:=0) (v:=.string s) (y:=⟨{ x.1 with node:=s },Sm_node x.2 hs2⟩) Hx.out (by decide) rfl)
        have HGx:Hid (∀ z ∈ L2.set q ⟨{ x.1 with node:=s },Sm_node x.2 hs2⟩,z.1.Gm):=Lib.hid (gm_set HGm2.out (Gm_node (HGm2.out x (List.mem_of_getElem? Hx.out)) hs2))
        go_wp2_with fail
        go_meet
        case rel => exact ⟨_,HE.out,List.length_set.trans Hn2.out,HGx.out,(HG6.out.setCell ⟨g,q * 14,none⟩ _ hgB hbg).mono (by omega)⟩
       ·subst h5
        go_wp2_with fail
        refine (odd_gen b (m + 20 * j + 1 + 1 + 1) _ _ _ HG5.out.s (by omega) (by omega) (by omega)).mono ?_
        rintro e w6 ⟨z,rfl,hz,hg⟩
        have HG6:=Lib.hid (HG5.out.trans hg)
        have HO6:=Lib.hid (HO5.out.gen hg hblt)
        clear hg HG5 HO5
        have e0:w6.cell? ⟨g,q * 14 + 1,none⟩=some (.int .i64 x.1.hour):=HO6.out.get (j:=1) Hx.out rfl
        have ef:=HO6.out.frozen
        have HE:=Lib.hid (HO6.out.setTo (j:=1) (v:=.int .i64 z) (y:=⟨{ x.1 with hour:=z },x.2.1,by have:=hz.1;show -1125899906842624≤z;omega,by have:=hz.2;show z≤1125899906842624;omega,x.2.2.2.2⟩) Hx.out (by decide) rfl)
        have HGx:Hid (∀ y ∈ L2.set q ⟨{ x.1 with hour:=z },x.2.1,by have:=hz.1;show -1125899906842624≤z;omega,by have:=hz.2;show z≤1125899906842624;omega,x.2.2.2.2⟩,y.1.Gm):=Lib.hid (gm_set HGm2.out (by have g:=HGm2.out x (List.mem_of_getElem? Hx.out);exact ⟨⟨x.2.1,by have:=hz.1;show -1125899906842624≤z;omega,by have:=hz.2;show z≤1125899906842624;omega,x.2.2.2.2⟩,g.2⟩))
        go_wp2_with fail
        go_meet
        case rel => exact ⟨_,HE.out,List.length_set.trans Hn2.out,HGx.out,(HG6.out.setCell ⟨g,q * 14 + 1,none⟩ _ hgB hbg).mono (by omega)⟩
       ·subst h5
        go_wp2_with fail
        refine (flow_gen b (m + 20 * j + 1 + 1 + 1) _ HG5.out.s (by omega)).mono ?_
        rintro e w6 ⟨f,rfl,hf,hg⟩
        have HG6:=Lib.hid (HG5.out.trans hg)
        have HO6:=Lib.hid (HO5.out.gen hg hblt)
        clear hg HG5 HO5
        have HE:Hid (OwnK layRb (w6.setCells g (q * 14 + 3) f.cells.toList) w.heap.size (.slice (some ⟨g,0,none⟩) n2 c2) (L2.set q ⟨{ x.1 with f:=f },hf,x.2.2⟩)):=Lib.hid (OwnK.setPart HO6.out (j:=3) (vs:=f.cells.toList) (y:=⟨{ x.1 with f:=f },hf,x.2.2⟩) Hx.out (by show 3 + 9≤14;decide) (fun t ht => by
         have:t=0 ∨ t=1 ∨ t=2:=by omega
         rcases this with rfl | rfl | rfl <;> rfl) (fun t ht => by
         have ht:t < 9:=ht
         have:t=0 ∨ t=1 ∨ t=2 ∨ t=3 ∨ t=4 ∨ t=5 ∨ t=6 ∨ t=7 ∨ t=8:=by omega
         rcases this with rfl | rfl | rfl | rfl | rfl | rfl | rfl | rfl | rfl <;> rfl) (fun t ht => by
         have ht:12≤t:=ht
         rcases Nat.lt_or_ge t 14 with h | h
         ·have:t=12 ∨ t=13:=by omega
          rcases this with rfl | rfl <;> rfl
         ·exact (List.getElem?_eq_none (Nat.le_trans (Nat.le_of_eq (layRb.len _)) h)).trans (List.getElem?_eq_none (Nat.le_trans (Nat.le_of_eq (layRb.len _)) h)).symm))
        have HGx:Hid (∀ z ∈ L2.set q (⟨{ x.1 with f:=f },hf,x.2.2⟩:RB),z.1.Gm):=Lib.hid (gm_set HGm2.out (by have g:=HGm2.out x (List.mem_of_getElem? Hx.out);exact ⟨⟨hf,x.2.2⟩,g.2⟩))
        have HTH:Hid (w6.there g (q * 14 + 3) f.cells.size):=Lib.hid (HO6.out.there (by show q * 14 + 3 + 9≤n2 * 14;omega))
        have HI:Hid ((Tryz.prog.info? 72).map (·.size)=some f.cells.size):=Lib.hid size_flow
        have HXo:Hid (f.cells.all (·.oneCell')=true):=Lib.hid (by simp [FV.cells,Value.oneCell'])
        have HGe:Hid (Gen b w (w6.setCells g (q * 14 + 3) f.cells.toList) (m + 260)):=Lib.hid (Gen.setCells hgB hbg _ _ _ (HG6.out.mono (by omega)))
        generalize f.cells=FC at *
        go_wp2_with (refine wpList_store_mid rfl 72 _ _ rfl g (q * 14 + 3) FC rfl rfl HTH.out HI.out HXo.out ?_;show wpList _ _ _ _ _ (w6.setCells g (q * 14 + 3) FC.toList);generalize w6.setCells g (q * 14 + 3) FC.toList=w7 at *)
        go_meet
        case rel => exact ⟨_,HE.out,List.length_set.trans Hn2.out,HGx.out,HGe.out⟩
       ·subst h5
        go_wp2_with fail
        refine (odd_gen b (m + 20 * j + 1 + 1 + 1) _ _ _ HG5.out.s (by omega) (by omega) (by omega)).mono ?_
        rintro e w6 ⟨z,rfl,hz,hg⟩
        have HG6:=Lib.hid (HG5.out.trans hg)
        have HO6:=Lib.hid (HO5.out.gen hg hblt)
        clear hg HG5 HO5
        have e0:w6.cell? ⟨g,q * 14 + 12,none⟩=some (.int .i64 x.1.pk):=HO6.out.get (j:=12) Hx.out rfl
        have ef:=HO6.out.frozen
        have HE:=Lib.hid (HO6.out.setTo (j:=12) (v:=.int .i64 z) (y:=⟨{ x.1 with pk:=z },x.2⟩) Hx.out (by decide) rfl)
        have HGx:Hid (∀ y ∈ L2.set q (⟨{ x.1 with pk:=z },x.2⟩:RB),y.1.Gm):=Lib.hid (gm_set HGm2.out (by have g:=HGm2.out x (List.mem_of_getElem? Hx.out);exact ⟨x.2,g.2.1,by unfold I64b;show -9223372036854775808≤z∧z≤9223372036854775807;omega,g.2.2.2⟩))
        go_wp2_with fail
        go_meet
        case rel => exact ⟨_,HE.out,List.length_set.trans Hn2.out,HGx.out,(HG6.out.setCell ⟨g,q * 14 + 12,none⟩ _ hgB hbg).mono (by omega)⟩
       ·subst h5
        go_wp2_with fail
        refine (odd_gen b (m + 20 * j + 1 + 1 + 1) _ _ _ HG5.out.s (by omega) (by omega) (by omega)).mono ?_
        rintro e w6 ⟨z,rfl,hz,hg⟩
        have HG6:=Lib.hid (HG5.out.trans hg)
        have HO6:=Lib.hid (HO5.out.gen hg hblt)
        clear hg HG5 HO5
        have e0:w6.cell? ⟨g,q * 14 + 13,none⟩=some (.int .i64 x.1.sz):=HO6.out.get (j:=13) Hx.out rfl
        have ef:=HO6.out.frozen
        have HE:=Lib.hid (HO6.out.setTo (j:=13) (v:=.int .i64 z) (y:=⟨{ x.1 with sz:=z },x.2⟩) Hx.out (by decide) rfl)
        have HGx:Hid (∀ y ∈ L2.set q (⟨{ x.1 with sz:=z },x.2⟩:RB),y.1.Gm):=Lib.hid (gm_set HGm2.out (by have g:=HGm2.out x (List.mem_of_getElem? Hx.out);exact ⟨x.2,g.2.1,g.2.2.1,by unfold I64b;show -9223372036854775808≤z∧z≤9223372036854775807;omega⟩))
        go_wp2_with fail
        go_meet
        case rel => exact ⟨_,HE.out,List.length_set.trans Hn2.out,HGx.out,(HG6.out.setCell ⟨g,q * 14 + 13,none⟩ _ hgB hbg).mono (by omega)⟩
    case rest =>
     clear HG3 HO3
     obtain ⟨L',hO,hl,hgm,hg⟩:=hcut
     have HGq:=Lib.hid hgm
     have HE1:=Lib.hid hO
     have HE2:=Lib.hid hg
     have HE3:=Lib.hid hl
     clear hO hg hl hgm
     go_wp2_with fail
     go_ret
     exact ⟨_,L',rfl,HE1.out,by rw [HE3.out];omega,HGq.out,HE2.out⟩
theorem repsT_len {L:List RB} (h:∀ x ∈ L,x.1.Gm):(repsT L).length≤10011 * L.length:=by
 induction L with
 | nil => exact Nat.zero_le _
 | cons r L ih =>
   have h1:=ih fun q hq => h q (List.mem_cons_of_mem _ hq)
   have h2:=rpB_size (h r (List.mem_cons_self ..))
   have h3:(rpB r.1).data.toList.length=(rpB r.1).size:=by rw [Array.length_toList];rfl
   have e:(repsT (r :: L)).length=(rpB r.1).size + 1 + (repsT L).length:=by
    show ((rpB r.1).data.toList ++ [10] ++ repsT L).length=_
    rw [List.length_append,List.length_append,h3]
    rfl
   rw [e,List.length_cons,Nat.mul_succ]
   omega
theorem reportString_gen (b m:Nat) (w:World) (h:Strm w b m) (hm:m + 20000 < 1099511627776) (htb:∀ w',(∃ k,Gen b w w' k)→Tabs w') :
  Calls Tryz.prog 33 #[.pointer (some ⟨b,0,none⟩)] w fun e w' => ∃ S:ByteArray,e=.returned (.string S)∧S.size≤150000∧Gen b w w' (m + 400):=by
 have HTb:=Lib.hid htb
 clear htb
 go_enter Tryz.func33,Tryz.ntmps33
 go_wp2_with fail
 refine (range_gen b m 0 3 _ h (by omega) (by omega) (by omega)).mono ?_
 rintro e w1 ⟨kr,rfl,hkr,hg⟩
 obtain ⟨K,rfl,hK⟩:∃ K:Nat,kr=(K:Int)∧K≤3:=by
  have h0:=hkr
  unfold RangeRes at h0
  exact ⟨kr.toNat,by omega,by omega⟩
 have HG1:=Lib.hid hg
 clear hg hkr h
 go_wp2_with fail
 refine (reportsG_gen b (m + 1) K _ HG1.out.s (by omega) (by omega)).mono ?_
 rintro e w2 ⟨v,L,rfl,hO,hl,hok,hg⟩
 have HG2:=Lib.hid (HG1.out.trans hg)
 obtain ⟨ad,c,hv, -⟩:=hO.form
 subst hv
 have HTx:=Lib.hid (reportLines_any ad L.length c L w2 hO.rd rfl (by omega) hok (HTb.out w2 ⟨_,HG2.out⟩))
 have hsz:(strL (repsT L)).size≤148935:=by
  rw [strL_size]
  have:=repsT_len hok
  omega
 generalize strL (repsT L)=TX at *
 generalize L.length=n0 at *
 clear hg hO hok hl HG1
 go_wp2_with fail
 refine HTx.out.mono ?_
 rintro e w3 ⟨rfl,hb⟩
 have HG3:=Lib.hid (HG2.out.below hb HG2.out.g.size HG2.out.s.lt)
 clear hb HG2 HTx
 go_wp2_with fail
 refine (pick_gen b (m + 261) w3.heap.size 0 4 4 [0,0,1,2] _ (HG3.out.s.alloc _) (by omega) (by omega) (rdInts_new w3 _ _ _ rfl) (by have:=HG3.out.s.lt;omega)).mono ?_
 rintro e w4 ⟨k4,rfl,hk4,hg⟩
 have HG4:=Lib.hid ((HG3.out.alloc _).trans hg)
 obtain ⟨n,rfl,hn⟩:∃ n:Nat,k4=(n:Int)∧n≤2:=by
  have:k4=0 ∨ k4=1 ∨ k4=2:=by simpa using hk4
  rcases this with rfl | rfl | rfl
  ·exact ⟨0,rfl,by omega⟩
  ·exact ⟨1,rfl,by omega⟩
  ·exact ⟨2,rfl,by omega⟩
 clear hg HG3 hk4
 have HCh:=Lib.hid fun m T wx (h:Strm wx b m) (hm:m + 3 < 1099511627776) (hT:T.size≤150000) => changed_gen b m T ⟨#[32,46,10,48,45,57,105,110,111,116]⟩ wx h hm (by omega) (by decide) (by decide +kernel)
 go_wp2_with fail
 go_loopw [3,12] (fun v i wr => ∃ (k:Nat) (S:ByteArray),k≤n∧i=.int .i64 (k:Int)∧v=.string S∧Hid (S.size≤148935 + 100 * k)∧Hid (Gen b w wr (m + 270 + 3 * k))) (fun _ i _ => n - (intOf i).toNat)
 case atStart => exact ⟨0,TX,Nat.zero_le _,rfl,rfl,Lib.hid (by omega),Lib.hid (HG4.out.mono (by omega))⟩
 case round =>
  clear HG4
  obtain ⟨k,S,hk,rfl,rfl,HS,HG⟩:=hrel
  by_cases hlt:k < n
  ·have hss:=HS.out
   have HCx:=Lib.hid (HCh.out (m + 270 + 3 * k) S wr HG.out.s (by omega) (by omega))
   clear HCh
   go_wp2_with fail
   refine HCx.out.mono ?_
   rintro e w5 ⟨S2,rfl,hs2,hg⟩
   have HG5:Hid (Gen b w w5 (m + 270 + 3 * (k + 1))):=Lib.hid ((HG.out.trans hg).mono (by omega))
   have HS5:Hid (S2.size≤148935 + 100 * (k + 1)):=Lib.hid (by omega)
   clear hg HG HCx hs2
   go_wp2_with fail
   exact ⟨⟨k + 1,S2,by omega,by go_num,rfl,HS5,HG5⟩,by simp [intOf];omega⟩
  ·obtain rfl:k=n:=by omega
   have hss:=HS.out
   go_wp2_with fail
   go_ret
   exact ⟨S,rfl,by omega,HG.out.mono (by omega)⟩
def numIx:List Nat:=[0,3,6,7,8,9]
def wAt (A:List (List UInt8)) (i:Nat):List UInt8:=A.getD i []
def numsV (A:List (List UInt8)) (k:Nat):List Int:=(numIx.take k).map fun i => numV (wAt A i)
def numsOk (A:List (List UInt8)) (k:Nat):Bool:=(numIx.take k).all fun i => numOk (wAt A i) 13
def adO (o:Option (Bool × Nat × Nat)):Bool × Nat × Nat:=o.getD (false,0,0)
def repV (A:List (List UInt8)):RP:=⟨strL (wAt A 1),numV (wAt A 0),wAt A 2 == [111,117,116],⟨numV (wAt A 3),(adO (parseF (wAt A 4))).1,((adO (parseF (wAt A 4))).2.1:Int),((adO (parseF (wAt A 4))).2.2:Int),(adO (parseF (wAt A 5))).1,((adO (parseF (wAt A 5))).2.1:Int),((adO (parseF (wAt A 5))).2.2:Int),numV (wAt A 6),numV (wAt A 7)⟩,numV (wAt A 8),numV (wAt A 9)⟩
def repO (A:List (List UInt8)):Option RP:=if A.contains []=true ∨ A.length ≠ 10 ∨ ¬ (wAt A 2=[105,110] ∨ wAt A 2=[111,117,116]) ∨ numsOk A 6=false ∨ parseF (wAt A 4)=none ∨ parseF (wAt A 5)=none then none else some (repV A)
instance:DecidablePred RP.Sm:=fun r => by
 unfold RP.Sm FV.ok I41 U64
 infer_instance
def repP (s:List UInt8):Option RB:=match repO (spl 32 s) with
 | none => none
 | some r => if h:r.Sm then some ⟨r,h⟩ else none
theorem numsOk_succ {A:List (List UInt8)} {k i:Nat} (h:numIx[k]?=some i):numsOk A (k + 1)=(numsOk A k && numOk (wAt A i) 13):=by
 unfold numsOk
 rw [List.take_add_one,h,List.all_append]
 simp
theorem numsV_succ {A:List (List UInt8)} {k i:Nat} (h:numIx[k]?=some i):numsV A (k + 1)=numsV A k ++ [numV (wAt A i)]:=by
 unfold numsV
 rw [List.take_add_one,h,List.map_append]
 rfl
theorem numsOk_mono {A:List (List UInt8)}:∀ {k m:Nat},k≤m→numsOk A k=false→numsOk A m=false:=fun {k m} hkm h => by
 unfold numsOk at h ⊢
 rw [List.all_eq_false] at h ⊢
 obtain ⟨i,hi,hn⟩:=h
 exact ⟨i,(List.take_subset_take_left numIx hkm) hi,hn⟩
theorem numsOk_mem {A:List (List UInt8)} (h:numsOk A 6=true):∀ i ∈ numIx,numOk (wAt A i) 13=true:=fun i hi => by
 unfold numsOk at h
 exact List.all_eq_true.1 h i hi
theorem numV_13 {s:List UInt8} (h:numOk s 13=true):-10000000000000 < numV s∧numV s < 10000000000000:=by
 unfold numOk at h
 simp only [Bool.and_eq_true,decide_eq_true_eq] at h
 obtain ⟨⟨⟨-,h2⟩, -⟩,h4⟩:=h
 have h5:=(decV_dgs _ (sgnD s) rfl h4).1
 have h6:10 ^ (sgnD s).length≤10 ^ 13:=Nat.pow_le_pow_right (by decide) h2
 have h7:(10:Nat) ^ 13=10000000000000:=by decide
 unfold numV
 split <;> omega
theorem adO_ok {s:List UInt8} (hs:s.length≤1000000):(adO (parseF s)).2.1 < 18446744073709551616∧(adO (parseF s)).2.2 < 18446744073709551616:=by
 cases h:parseF s with
 | none => exact ⟨by decide,by decide⟩
 | some p =>
   obtain ⟨x,h1,l1⟩:=p
   have:=parseF_ok hs h
   exact ⟨this.1,this.2.1⟩
theorem wAt_len {s:List UInt8} {m:Nat} (hs:s.length≤m) (i:Nat):(wAt (spl 32 s) i).length≤m:=by
 unfold wAt
 rw [List.getD_eq_getElem?_getD]
 cases h:(spl 32 s)[i]? with
 | none => exact Nat.zero_le _
 | some x => exact Nat.le_trans (spl_mem 32 s x (List.mem_of_getElem? h)).2.2 hs
theorem repV_sm {s:List UInt8} (hs:s.length≤200000) (h:numsOk (spl 32 s) 6=true):(repV (spl 32 s)).Sm:=by
 have hn:=fun i hi => numV_13 (numsOk_mem h i hi)
 have h0:=hn 0 (by decide)
 have h3:=hn 3 (by decide)
 have h6:=hn 6 (by decide)
 have h7:=hn 7 (by decide)
 have hl:=fun i => wAt_len hs i
 obtain ⟨a1,a2⟩:=adO_ok (s:=wAt (spl 32 s) 4) (by have:=hl 4;omega)
 obtain ⟨b1,b2⟩:=adO_ok (s:=wAt (spl 32 s) 5) (by have:=hl 5;omega)
 have hz:(repV (spl 32 s)).node.size≤200000:=by
  show (strL (wAt (spl 32 s) 1)).size≤_
  rw [strL_size]
  exact hl 1
 unfold RP.Sm FV.ok I41 U64
 refine ⟨⟨?_,?_,?_,?_,?_,?_,?_⟩,?_,?_,hz⟩
 all_goals (unfold repV;simp only)
 all_goals omega
theorem repP_of {s:List UInt8} (hs:s.length≤200000) {r:RP} (h:repO (spl 32 s)=some r):∃ hm:r.Sm,repP s=some ⟨r,hm⟩:=by
 have h0:=h
 unfold repO at h
 split at h
 ·cases h
 ·rename_i hc
  have hk:numsOk (spl 32 s) 6=true:=by
   cases hq:numsOk (spl 32 s) 6 with
   | true => rfl
   | false => exact absurd (.inr (.inr (.inr (.inl hq)))) hc
  have e:repV (spl 32 s)=r:=Option.some.inj h
  have hm:r.Sm:=e ▸ repV_sm hs hk
  refine ⟨hm,?_⟩
  unfold repP
  rw [h0]
  exact dif_pos hm
theorem repP_none {s:List UInt8} (h:repO (spl 32 s)=none):repP s=none:=by
 unfold repP
 rw [h]
theorem atoiAll_sg {s:List UInt8} (h1:sgnD s ≠ []) (h3:(sgnD s).all isDg=true) (hb:decV (sgnD s) < 1000000000000000000):Lib.atoiAll s=.ok (numV s):=by
 have hp:=parseUint_all (sgnD s) 0 h3 hb
 by_cases h45:s.head?=some 45
 ·cases s with
  | nil => simp at h45
  | cons b r =>
    have:b=45:=by simpa using h45
    subst this
    unfold numV
    rw [if_pos h45]
    rw [sgnD_neg] at *
    unfold Lib.atoiAll
    simp only
    rw [if_pos (by decide)]
    unfold Lib.parseMag
    rw [if_neg (by simpa using h1),hp]
    show (if _ then _ else if _ then _ else _)=_
    have hs':r.foldl (fun a b => a * 10 + (b.toNat - 48)) 0 < 1000000000000000000:=hb
    rw [if_neg (fun h => h.1 (by decide)),if_neg (by omega),if_pos (by decide)]
    rfl
 ·unfold numV
  rw [if_neg h45]
  rw [sgnD_pos h45] at *
  cases s with
  | nil => exact absurd rfl h1
  | cons b r =>
    have hd:isDg b=true:=by rw [List.all_cons,Bool.and_eq_true] at h3;exact h3.1
    unfold isDg at hd
    have hd:48≤b.toNat∧b.toNat≤57:=by simpa using hd
    unfold Lib.atoiAll
    simp only
    rw [if_neg (by omega:¬ (b.toNat=43 ∨ b.toNat=45))]
    unfold Lib.parseMag
    rw [if_neg (by simp),hp]
    show (if _ then _ else if _ then _ else _)=_
    have hs':(b :: r).foldl (fun a b => a * 10 + (b.toNat - 48)) 0 < 1000000000000000000:=hb
    rw [if_neg (by omega),if_neg (by omega),if_neg (by omega)]
    rfl
theorem decV_bd {d:List UInt8} (h:d.all isDg=true) (hl:d.length≤17):decV d < 100000000000000000:=by
 have h1:=(decV_dgs d.length d rfl h).1
 have h2:10 ^ d.length≤10 ^ 17:=Nat.pow_le_pow_right (by decide) hl
 have h3:(10:Nat) ^ 17=100000000000000000:=by decide
 omega
theorem numV_bd {s:List UInt8} (h:(sgnD s).all isDg=true) (hl:(sgnD s).length≤17):-100000000000000000 < numV s∧numV s < 100000000000000000:=by
 have:=decV_bd h hl
 unfold numV
 split <;> omega
theorem itoa_num {s:List UInt8} {most:Nat} (h1:sgnD s ≠ []) (h2:(sgnD s).length≤most) (h3:(sgnD s).all isDg=true):decide (Lib.itoa (numV s)=s)=numOk s most:=by
 have hO:numOk s most=((sgnD s).head? != some 48 || s == [48]):=by
  unfold numOk
  rw [decide_eq_true h2,h3,Bool.and_true,Bool.and_true]
  cases e:sgnD s with
  | nil => exact absurd e h1
  | cons _ _ => simp
 rw [hO]
 by_cases h45:s.head?=some 45
 ·cases s with
  | nil => simp at h45
  | cons b r =>
    have:b=45:=by simpa using h45
    subst this
    unfold numV
    rw [if_pos h45]
    rw [sgnD_neg] at *
    have e2:((45 :: r:List UInt8) == [48])=false:=by simp
    rw [e2,Bool.or_false]
    cases r with
    | nil => exact absurd rfl h1
    | cons c d =>
      have hd:isDg c=true:=by rw [List.all_cons,Bool.and_eq_true] at h3;exact h3.1
      by_cases hc:c=48
      ·subst hc
       have e3:((48 :: d:List UInt8).head? != some 48)=false:=by simp
       rw [e3,decide_eq_false_iff_not]
       intro e
       by_cases h0:decV (48 :: d)=0
       ·rw [h0] at e
        have:Lib.itoa (-((0:Nat):Int))=Lib.decDigits 0:=Lib.itoa_nonneg 0
        rw [this,Lib.decDigits_one (by decide)] at e
        simp at e
       ·rw [Lib.itoa_neg _ (by omega)] at e
        injection e with _ e
        have hn:=dec_numL (decV (48 :: d))
        rw [e] at hn
        unfold numL at hn
        simp at hn
        obtain ⟨-,hn⟩:=hn
        subst hn
        exact h0 rfl
      ·have e3:((c :: d:List UInt8).head? != some 48)=true:=by simpa using hc
       rw [e3,decide_eq_true_iff]
       have h0:1≤decV (c :: d):=Nat.le_trans (Nat.pow_pos (by decide)) (decV_lead hd hc)
       rw [Lib.itoa_neg _ h0,numL_dec]
       unfold numL
       rw [h3,e3];rfl
 ·unfold numV
  rw [if_neg h45]
  rw [sgnD_pos h45] at *
  rw [Lib.itoa_nonneg]
  have e4:(s.head? != some 48 || s == [48])=numL s:=by
   unfold numL
   rw [h3,Bool.and_true]
   cases s with
   | nil => exact absurd rfl h1
   | cons _ _ => simp
  rw [e4,Bool.eq_iff_iff,decide_eq_true_iff]
  exact ⟨fun h => h ▸ dec_numL _,fun h => numL_dec h⟩
theorem indexE_any (g n c:Nat) (A:List (List UInt8)) (w:World) (h:RdS w g A) (hn:A.length=n) (hs:n≤2000000) :
  Calls Tryz.prog 216 #[.slice (some ⟨g,0,none⟩) n c, .string ⟨#[]⟩] w fun e w' => ∃ k:Int,e=.returned (.int .i64 k)∧decide (0≤k)=A.contains []∧w'=w:=by
 have H0:=Lib.hid h
 have Hn:=Lib.hid hn
 have hg:=h.1
 have HY:Hid (∀ (k:Nat),A[k]?=some []→A.contains []=true):=Lib.hid fun k hk => by
  rw [List.contains_iff_mem];exact List.mem_of_getElem? hk
 have HN:Hid ((∀ (j:Nat) y,A[j]?=some y→y ≠ [])→A.contains []=false):=Lib.hid fun hh => by
  rw [← Bool.not_eq_true,List.contains_iff_mem]
  intro hm
  obtain ⟨j,hj,e⟩:=List.getElem_of_mem hm
  exact hh j _ (List.getElem?_eq_getElem hj) e
 generalize A.contains []=CT at *
 clear h hn
 go_enter Tryz.func216,Tryz.ntmps216
 go_wp2_with fail
 go_loop [5,8] (fun s5 i => ∃ k:Nat,k≤n∧i=.int .i64 (k:Int)∧Hid (∀ (j:Nat) y,j < k→A[j]?=some y→y ≠ [])) (fun _ i => n - (intOf i).toNat)
 case atStart => exact ⟨0,Nat.zero_le _,rfl,Lib.hid fun j y hj => absurd hj (Nat.not_lt_zero _)⟩
 case round =>
  obtain ⟨k,hk,rfl,HK⟩:=hrel
  by_cases hlt:k < n
  ·obtain ⟨x,hx⟩:∃ x,A[k]?=some x:=⟨_,List.getElem?_eq_getElem (by rw [Hn.out];exact hlt)⟩
   have hc:=H0.out.2 k x hx
   have hse:=strL_list x
   have Hx:=Lib.hid hx
   obtain ⟨SX,hSX⟩:∃ q,strL x=q:=⟨_,rfl⟩
   rw [hSX] at hc hse
   have HSX:=Lib.hid hSX
   clear hx hSX
   by_cases h0:x=[]
   ·subst h0
    have he:SX=⟨#[]⟩:=by rw [← HSX.out];rfl
    subst he
    have hct:=HY.out k Hx.out
    clear HN HSX hse HY
    go_wp2_with fail
    go_ret
    exact ⟨(k:Int),rfl,by first | (rw [hct];simp;done) | (simp;done) | omega,rfl⟩
   ·have hne:¬ (⟨#[]⟩:ByteArray)=SX:=fun e => h0 (by rw [← hse, ← e];exact strL_list [])
    have hne3:¬ ([]:List UInt8)=SX.toList:=fun e => h0 (by rw [← hse, ← e])
    have HK2:Hid (∀ (j:Nat) y,j < k + 1→A[j]?=some y→y ≠ []):=Lib.hid fun j y hj hy => by
     rcases Nat.lt_or_ge j k with h1 | h1
     ·exact HK.out j y h1 hy
     ·obtain rfl:j=k:=by omega
      rw [Hx.out] at hy
      exact (Option.some.inj hy) ▸ h0
    have hem:x.isEmpty=false:=by cases x with
     | nil => exact absurd rfl h0
     | cons _ _ => rfl
    clear HSX HY HN
    go_wp2_with fail
    exact ⟨⟨k + 1,by omega,by go_num,HK2⟩,by simp [intOf];omega⟩
  ·obtain rfl:k=n:=by omega
   have hct:=HN.out fun j y hy => HK.out j y (by have:=(List.getElem?_eq_some_iff.1 hy).1;have:=Hn.out;omega) hy
   clear HN HY HK
   go_wp2_with fail
   go_ret
   exact ⟨-1,rfl,by first | (rw [hct];rfl) | rfl | (simp;done),rfl⟩
theorem containsE_any (g n c:Nat) (A:List (List UInt8)) (w:World) (h:RdS w g A) (hn:A.length=n) (hs:n≤2000000) :
  Calls Tryz.prog 167 #[.slice (some ⟨g,0,none⟩) n c, .string ⟨#[]⟩] w fun e w' => e=.returned (.bool (A.contains []))∧w'=w:=by
 have HC:=Lib.hid (indexE_any g n c A w h hn hs)
 generalize A.contains []=CT at *
 clear h hn
 go_enter Tryz.func167,Tryz.ntmps167
 go_wp2_with fail
 refine HC.out.mono ?_
 rintro e w1 ⟨k,rfl,hk,rfl⟩
 subst hk
 clear HC
 go_wp2_with fail
 go_ret
 exact ⟨by first | rfl | rw [← hk] | simp,rfl⟩
theorem kWords_any (s:List UInt8) (w:World) (hv:Vr w) (hs:s.length≤1000000) :
  Calls Tryz.prog 163 #[.string (strL s)] w fun e w' => ∃ g,e=.returned (.tuple #[.slice (some ⟨g,0,none⟩) (spl 32 s).length (spl 32 s).length, .bool (!(spl 32 s).contains [])])∧RdS w' g (spl 32 s)∧Below w.heap.size w w':=by
 have HSp:=Lib.hid (split_any s 32 w hv hs)
 have hnl:(spl 32 s).length≤1000001:=by
  rw [spl_len]
  have:=List.count_le_length (a:=(32:UInt8)) (l:=s)
  omega
 have HCt:=Lib.hid fun g wx (h:RdS wx g (spl 32 s)) => containsE_any g _ (spl 32 s).length (spl 32 s) wx h rfl (by omega)
 generalize (spl 32 s).contains []=CT at *
 obtain ⟨A,hA⟩:∃ q,spl 32 s=q:=⟨_,rfl⟩
 simp only [hA] at HSp hnl HCt ⊢
 generalize hm:A.length=n at *
 generalize strL s=SS at *
 clear hA hv hs hm
 go_enter Tryz.func163,Tryz.ntmps163
 go_wp2_with fail
 refine HSp.out.mono ?_
 rintro e w1 ⟨g,rfl,hr,hb⟩
 have HR1:=Lib.hid hr
 have HB1:=Lib.hid hb
 have HCx:=Lib.hid (HCt.out g w1 hr)
 clear hr hb HSp HCt
 go_wp2_with fail
 refine HCx.out.mono ?_
 rintro e w2 ⟨rfl,rfl⟩
 clear HCx
 go_wp2_with fail
 go_ret2
 exact ⟨g,rfl,HR1.out,HB1.out⟩
theorem qWords_any (s:List UInt8) (w:World) (hv:Vr w) (hs:s.length≤1000000) :
  Calls Tryz.prog 109 #[.string (strL s)] w fun e w' => ∃ g,e=.returned (.tuple #[.slice (some ⟨g,0,none⟩) (spl 32 s).length (spl 32 s).length, .bool (!(spl 32 s).contains [])])∧RdS w' g (spl 32 s)∧Below w.heap.size w w':=by
 have HSp:=Lib.hid (split_any s 32 w hv hs)
 have hnl:(spl 32 s).length≤1000001:=by
  rw [spl_len]
  have:=List.count_le_length (a:=(32:UInt8)) (l:=s)
  omega
 have HCt:=Lib.hid fun g wx (h:RdS wx g (spl 32 s)) => containsE_any g _ (spl 32 s).length (spl 32 s) wx h rfl (by omega)
 generalize (spl 32 s).contains []=CT at *
 obtain ⟨A,hA⟩:∃ q,spl 32 s=q:=⟨_,rfl⟩
 simp only [hA] at HSp hnl HCt ⊢
 generalize hm:A.length=n at *
 generalize strL s=SS at *
 clear hA hv hs hm
 go_enter Tryz.func109,Tryz.ntmps109
 go_wp2_with fail
 refine HSp.out.mono ?_
 rintro e w1 ⟨g,rfl,hr,hb⟩
 have HR1:=Lib.hid hr
 have HB1:=Lib.hid hb
 have HCx:=Lib.hid (HCt.out g w1 hr)
 clear hr hb HSp HCt
 go_wp2_with fail
 refine HCx.out.mono ?_
 rintro e w2 ⟨rfl,rfl⟩
 clear HCx
 go_wp2_with fail
 go_ret2
 exact ⟨g,rfl,HR1.out,HB1.out⟩
def digL:List UInt8:=[48,49,50,51,52,53,54,55,56,57]
theorem dig_set (c:UInt8):isDg c=digL.contains c:=by
 have:=byte_all (fun c => isDg c == digL.contains c) (by decide +kernel) c
 exact eq_of_beq this
theorem dig_ascii:asciiB digL:=fun j b h => (by decide +kernel:∀ b ∈ digL,b.toNat < 128) b (List.mem_of_getElem? h)
theorem qNumber_any (s:List UInt8) (most:Nat) (w:World) (hv:Vr w) (hs:s.length≤1000000) (hm:most≤17) :
  Calls Tryz.prog 110 #[.string (strL s), .int .i64 (most:Int)] w fun e w' => ∃ n:Int,e=.returned (.tuple #[.int .i64 n, .bool (numOk s most)])∧(numOk s most=true→n=numV s)∧Below w.heap.size w w':=by
 have HT:=Lib.hid fun wx => trimPrefix_any s [45] wx
 have hdl:(sgnD s).length≤s.length:=by
  by_cases h:s.head?=some 45
  ·cases s with
   | nil => simp at h
   | cons b r =>
     have:b=45:=by simpa using h
     subst this
     rw [sgnD_neg];simp
  ·rw [sgnD_pos h];omega
 have HOn:=Lib.hid fun wx => only_any (sgnD s) digL wx (by omega) (by decide) dig_ascii
 have e1:(sgnD s).all digL.contains=(sgnD s).all isDg:=by congr 1;funext c;exact (dig_set c).symm
 rw [e1] at HOn
 clear e1
 have HO:Hid (numOk s most=(!(sgnD s).isEmpty && decide ((sgnD s).length≤most) && ((sgnD s).head? != some 48 || s == [48]) && (sgnD s).all isDg)):=Lib.hid rfl
 have HI:=Lib.hid fun (h1:sgnD s ≠ []) (h2:(sgnD s).length≤most) (h3:(sgnD s).all isDg=true) => itoa_num h1 h2 h3
 have HV0:=Lib.hid hv
 have HAt:Hid (sgnD s ≠ []→(sgnD s).length≤most→(sgnD s).all isDg=true→∀ wx,Vr wx→Calls Tryz.prog 169 #[.string (strL s)] wx fun e w' => e=.returned (.tuple #[.int .i64 (numV s), .nilIface])∧Below wx.heap.size wx w'):=Lib.hid fun h1 h2 h3 wx hv => by
  have hb:=decV_bd h3 (by omega)
  have ha:=atoiAll_sg h1 h3 (by omega)
  refine (atoi_any s wx hv hs).mono ?_
  rintro e w' ⟨⟨n,ev,rfl,hh⟩,hb⟩
  rw [ha] at hh
  obtain ⟨rfl,rfl⟩:=hh
  exact ⟨rfl,hb⟩
 have HIt:Hid ((sgnD s).all isDg=true→(sgnD s).length≤most→∀ wx,Vr wx→Calls Tryz.prog 97 #[.int .i64 (numV s)] wx (Ret (.string (itB (numV s))) wx)):=Lib.hid fun h3 h2 wx hv => by
  have hb:=numV_bd h3 (by omega)
  exact itoaI_any _ (by omega) (by omega) wx hv.tb
 have hil:(itB (numV s)).toList=Lib.itoa (numV s):=by rw [ByteArray.toList_eq];rfl
 obtain ⟨D,hD⟩:∃ q,sgnD s=q:=⟨_,rfl⟩
 have hD':Lib.trimPrefix s [45]=D:=hD
 rw [hD] at HO hdl HOn HI HAt HIt
 simp only [hD'] at HT
 clear hD hD'
 generalize numV s=V at *
 generalize numOk s most=OK at *
 generalize Lib.itoa V=IV at *
 generalize itB V=IB at *
 have hse:=strL_list s
 have hde:=strL_list D
 have hsz:(strL D).size=D.length:=strL_size D
 obtain ⟨SS,hSS⟩:∃ q,strL s=q:=⟨_,rfl⟩
 obtain ⟨DD,hDD⟩:∃ q,strL D=q:=⟨_,rfl⟩
 rw [hSS] at HT HAt hse ⊢
 simp only [hDD] at HT
 rw [hDD] at hde hsz HOn
 have e45:strL [45]=⟨#[45]⟩:=rfl
 have edg:strL digL=⟨#[48,49,50,51,52,53,54,55,56,57]⟩:=rfl
 rw [e45] at HT
 rw [edg] at HOn
 clear hSS hDD e45 edg hv
 go_enter Tryz.func110,Tryz.ntmps110
 go_wp2_with fail
 refine (HT.out _).mono ?_
 rintro e w1 ⟨rfl,hb⟩
 have HB1:=Lib.hid hb
 clear hb HT
 obtain ⟨PRE,hPRE⟩:∃ q,(D.isEmpty || decide (most < D.length) || !(D.all isDg))=q:=⟨_,rfl⟩
 have HPRE:=Lib.hid hPRE
 clear hPRE
 go_upto_region 2 with fail
 go_cut [23] (fun v wx => v=.bool PRE∧Below w.heap.size w wx)
 case first =>
  clear HO HI HAt HIt
  rcases D with _ | ⟨x,D'⟩
  ·have hP:PRE=true:=by rw [← HPRE.out];rfl
   subst hP
   clear HOn
   go_wp2_with fail
   go_meet
   case rel => exact ⟨rfl,HB1.out⟩
  ·have hl0:0 < (x :: D').length:=by simp
   have hemp:(x :: D').isEmpty=false:=rfl
   have hP:PRE=(decide (most < (x :: D').length) || !((x :: D').all isDg)):=by rw [← HPRE.out];simp
   have hne:¬ (x :: D'=[]):=by simp
   clear HPRE
   generalize (x :: D').all isDg=AD at *
   generalize x :: D'=DL at *
   by_cases hlm:most < DL.length
   ·have hP2:PRE=true:=by rw [hP,decide_eq_true hlm];rfl
    have hlm2:(DL.length:Int) > (most:Int):=by omega
    subst hP2
    clear hP HOn
    go_wp2_with fail
    go_meet
    case rel => exact ⟨rfl,HB1.out⟩
   ·have hP2:PRE=!AD:=by rw [hP,decide_eq_false hlm];rfl
    have hlm2:¬ (DL.length:Int) > (most:Int):=by omega
    have HOx:=Lib.hid (HOn.out w1)
    subst hP2
    clear hP HOn
    go_wp2_with fail
    refine HOx.out.mono ?_
    rintro e w2 ⟨rfl,hb⟩
    have HB2:=Lib.hid (HB1.out.trans (hb.mono HB1.out.size))
    clear hb HOx
    go_wp2_with fail
    go_meet
    case rel => exact ⟨rfl,HB2.out⟩
 case rest =>
  clear HB1 HOn
  obtain ⟨rfl,hb⟩:=hcut
  have HB1:=Lib.hid hb
  clear hb
  cases PRE
  ·have HQ:Hid (D ≠ []∧D.length≤most∧D.all isDg=true):=Lib.hid (by
    have:=HPRE.out
    rw [Bool.or_eq_false_iff,Bool.or_eq_false_iff] at this
    obtain ⟨⟨h1,h2⟩,h3⟩:=this
    exact ⟨fun e => by rw [e] at h1;simp at h1,by simpa using h2,by simpa using h3⟩)
   have HIe:=Lib.hid (HI.out HQ.out.1 HQ.out.2.1 HQ.out.2.2)
   have HV1:=Lib.hid (HV0.out.below HB1.out)
   have HAx:=Lib.hid (HAt.out HQ.out.1 HQ.out.2.1 HQ.out.2.2 _ HV1.out)
   have HIx:=Lib.hid (HIt.out HQ.out.2.2 HQ.out.2.1)
   clear HPRE HQ HI HAt HIt HO
   go_wp2_with fail
   refine HAx.out.mono ?_
   rintro e w3 ⟨rfl,hb⟩
   have HB3:=Lib.hid (HB1.out.trans (hb.mono HB1.out.size))
   have HV3:=Lib.hid (HV1.out.below hb)
   have HIy:=Lib.hid (HIx.out _ HV3.out)
   clear hb HAx HB1 HV1 HIx
   go_wp2_with fail
   refine HIy.out.mono ?_
   rintro e w4 ⟨rfl,hb⟩
   have HB4:=Lib.hid (HB3.out.trans (hb.mono HB3.out.size))
   clear hb HIy HB3 HV3
   go_wp2_with fail
   go_ret2
   have he:(IV == s)=OK:=by rw [← HIe.out,Bool.eq_iff_iff];simp
   exact ⟨V,by rw [he];rfl,fun _ => rfl,HB4.out⟩
  ·have hO:OK=false:=by
    rw [HO.out]
    have:=HPRE.out
    rw [Bool.or_eq_true,Bool.or_eq_true] at this
    rcases this with (h1 | h2) | h3
    ·rw [h1];rfl
    ·rw [decide_eq_false (by simpa using h2)];simp
    ·rw [show D.all isDg=false by simpa using h3,Bool.and_false]
   subst hO
   clear HO HI HAt HIt HPRE
   go_wp2_with fail
   go_ret2
   exact ⟨0,rfl,fun h => (by cases h),HB1.out⟩
def encIs (zs:List Int):List Value:=zs.map (Value.int .i64)
theorem encIs_one (zs:List Int):∀ u ∈ encIs zs,u.oneCell'=true:=by
 intro u hu
 obtain ⟨c,_,rfl⟩:=List.mem_map.1 hu
 rfl
def OwnI (w:World) (base:Nat) (v:Value) (zs:List Int):Prop:=w.ownsRow base 3 1 v zs.length (encIs zs)
theorem OwnI.nil (w:World) (base:Nat):OwnI w base (.slice none 0 0) []:=World.ownsRow_nil w base _ 1
theorem OwnI.later {w w':World} {base:Nat} {v:Value} {zs:List Int} (h:OwnI w base v zs) (hb:Below w.heap.size w w'):OwnI w' base v zs:=own_later h hb
theorem OwnI.slice {w:World} {base:Nat} {v:Value} {zs:List Int} (h:OwnI w base v zs) (hn:1≤zs.length) :
  ∃ g c cur,v=.slice (some ⟨g,0,none⟩) zs.length c∧base≤g∧w.heap[g]?=some (.cells cur 3 (0,0))∧RdInts w g 0 zs.length zs∧zs.length≤c∧c≤maxLen:=by
 rcases h.2 with ⟨_,h0⟩ | ⟨g,cap,cur,rfl,hb,hg,hc,hm,hs,ht⟩
 ·omega
 ·refine ⟨g,cap,cur,rfl,hb,hg,⟨rfl,lt_of_block hg,fun i hi => ?_⟩,hc,hm⟩
  rw [Nat.zero_add,cell_of_row w g i _ _ _ hg]
  have h1:(cur.toList.take (zs.length * 1))[i]?=(encIs zs)[i]?:=by rw [ht]
  rw [List.getElem?_take,if_pos (by omega)] at h1
  rw [← Array.getElem?_toList,h1]
  simp [encIs,List.getD,hi]
theorem own_empty (w:World) (t:TypeId) (size:Nat):(w.alloc (.cells #[] t (0,0))).ownsRow w.heap.size t size (.slice (some ⟨w.heap.size,0,none⟩) 0 0) 0 [] :=
 ⟨by simp, .inr ⟨w.heap.size,0, #[],rfl,Nat.le_refl _,heap_alloc_new w _,Nat.le_refl _,by unfold maxLen;omega,by simp,by simp⟩⟩
theorem RdInts.src {w:World} {g o n:Nat} {zs:List Int} (h:RdInts w g o n zs):Src w (some ⟨g,o,none⟩) n 1 (encIs zs):=by
 obtain ⟨hl,hg,hc⟩:=h
 refine ⟨by simp [encIs,hl],fun j u hu => ?_⟩
 have hj:j < zs.length:=by
  rcases Nat.lt_or_ge j zs.length with h | h
  ·exact h
  ·rw [List.getElem?_eq_none (by simpa [encIs] using h)] at hu;cases hu
 refine ⟨_,rfl,hg,?_⟩
 have hadd:(⟨g,o,none⟩:Addr).add j=⟨g,o + j,none⟩:=by unfold Addr.add;split <;> simp_all
 rw [hadd,hc j (by omega)]
 simp [encIs,hj] at hu
 rw [← hu]
 simp [List.getD,hj]
theorem RdInts.later {w w':World} {g o n:Nat} {zs:List Int} (h:RdInts w g o n zs) (hb:Below w.heap.size w w'):RdInts w' g o n zs :=
 ⟨h.1,Nat.lt_of_lt_of_le h.2.1 hb.size,fun i hi => (World.cell?_of_block (w:=w) (hb.block g h.2.1)).trans (h.2.2 i hi)⟩
theorem RdInts.alloc {w:World} {g o n:Nat} {zs:List Int} (h:RdInts w g o n zs) (ob:Obj):RdInts (w.alloc ob) g o n zs:=h.later (below_alloc (Below.refl _ _) _)
theorem getD_mem {zs:List Int} {i:Nat} (h:i < zs.length):zs.getD i 0 ∈ zs:=by simp [List.getD,List.getElem?_eq_getElem h]
theorem run_eql_slice_nil_ints (w:World) (a:Option Addr) (l c:Nat):(binOp .eql 22 (.slice a l c) (.slice none 0 0)).run Tryz.prog w=.ok (.bool a.isNone) w :=
 Lib.run_eql_slice_nil (h:=Tryz.underlying22) ..
theorem clone_ints (g o n c:Nat) (zs:List Int) (w:World) (h:RdInts w g o n zs) (hn:n≤1000000) :
  Calls Tryz.prog 225 #[.slice (some ⟨g,o,none⟩) n c] w fun e w' => ∃ v,e=.returned v∧OwnI w' w.heap.size v zs∧Below w.heap.size w w':=by
 have en:=fun w => run_eql_slice_nil_ints w (some ⟨g,o,none⟩) n c
 simp only [Option.isNone_some] at en
 go_enter Tryz.func225,Tryz.ntmps225
 go_wp2_with (at_builtin;refine wpList_app intE rfl (.tmp 5) (.tmp 6) rfl rfl (own_empty w _ _) rfl (h.alloc _).src (encIs_one zs) ?c2 ?c3 ?c4 ?_)
 case c2 => unfold maxLen;omega
 case c3 => omega
 case c4 => simp
 intro v' w' hO hG
 rw [← h.1] at hO
 have HO:=Lib.hid hO
 have HG:=Lib.hid hG
 clear hO hG
 go_wp2
 go_ret
 exact ⟨_,rfl,HO.out,HG.out.below (u:=.slice (some ⟨w.heap.size,0,none⟩) 0 0) (by simp) (by intro k hk;simp [Value.ownBlock] at hk;omega) |> (below_alloc (Below.refl _ _) _).trans⟩
end Go.Proofs.YtgkhcdjoilgfmaaGreatDoor
