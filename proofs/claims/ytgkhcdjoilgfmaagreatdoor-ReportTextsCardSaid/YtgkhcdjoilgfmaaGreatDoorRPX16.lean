/-
  The reference's Key says keyB.
  The fault of a list of reports: the program.
  Plain law: the text of a set, written and read line by line.
  A builder of strings: WriteString (where the laid contract falls), walked as the kit's library walks it.
  The generator of right prefixes: what it returns is a right prefix.
  The generator PrefixString: a string of at most 1100 bytes.
  wide.plus of the reference, at 1: the next number.
  The reference's wide numbers, said of one number: of, firstOf, lastOf, addr, cmp, ==.
-/
import Derived.Test.YtgkhcdjoilgfmaaGreatDoorRPX11
import Derived.Test.YtgkhcdjoilgfmaaGreatDoorRPX2
import Derived.Test.YtgkhcdjoilgfmaaGreatDoorRPX15
import Derived.Test.YtgkhcdjoilgfmaaGreatDoorRPX8
import Derived.Test.YtgkhcdjoilgfmaaGreatDoorRPX14
import Derived.Test.YtgkhcdjoilgfmaaGreatDoorRPX10
import Derived.Test.YtgkhcdjoilgfmaaGreatDoorRPX1
import Derived.Test.YtgkhcdjoilgfmaaGreatDoorRPX12
import Derived.Test.YtgkhcdjoilgfmaaGreatDoorRPX4
import Derived.Shelf.Strings.Builder1
import Derived.Test.YtgkhcdjoilgfmaaGreatDoorRPX5
import Derived.Test.YtgkhcdjoilgfmaaGreatDoorRPX9
import Derived.Test.YtgkhcdjoilgfmaaGreatDoorRPX6
import Derived.Test.YtgkhcdjoilgfmaaGreatDoorRPX3
set_option linter.unusedVariables false
set_option maxRecDepth 100000
set_option maxHeartbeats 4000000
namespace Go.Proofs.YtgkhcdjoilgfmaaGreatDoor
open Go.RowKit Go
def smallsL:List UInt8:=[97,98,99,100,101,102,103,104,105,106,107,108,109,110,111,112,113,114,115,116,117,118,119,120,121,122]
def keysL:List UInt8:=[97,98,99,100,101,102,103,104,105,106,107,108,109,110,111,112,113,114,115,116,117,118,119,120,121,122] ++ [48,49,50,51,52,53,54,55,56,57,45,95]
theorem byte_all (p:UInt8→Bool) (h:∀ n:Fin 256,p (UInt8.ofNat n.val)=true) (c:UInt8):p c=true:=by
 have:=h ⟨c.toNat,c.toNat_lt⟩
 simpa using this
theorem small_set (c:UInt8):smallC c=smallsL.contains c:=by
 have:=byte_all (fun c => smallC c == smallsL.contains c) (by decide +kernel) c
 simpa using this
theorem key_set (c:UInt8):keyC c=keysL.contains c:=by
 have:=byte_all (fun c => keyC c == keysL.contains c) (by decide +kernel) c
 simpa using this
theorem smalls_ascii:asciiB smallsL:=fun j b h => by
 have hm:b ∈ smallsL:=List.mem_of_getElem? h
 revert hm b
 intro b _ hm
 exact (by decide +kernel:∀ b ∈ smallsL,b.toNat < 128) b hm
theorem keys_ascii:asciiB keysL:=fun j b h => (by decide +kernel:∀ b ∈ keysL,b.toNat < 128) b (List.mem_of_getElem? h)
theorem qKey_any (L:List UInt8) (w:World) (hL:L.length≤1000000):Calls Tryz.prog 51 #[.string (strL L)] w (Ret (.bool (keyB L)) w):=by
 obtain ⟨B,hB⟩:∃ B,keyB L=B:=⟨_,rfl⟩
 rw [hB]
 have HO1:=Lib.hid fun wx => only_any (L.take 1) smallsL wx (by rw [List.length_take];omega) (by decide) smalls_ascii
 have HO2:=Lib.hid fun wx => only_any L keysL wx hL (by decide) keys_ascii
 have e1:(L.take 1).all smallsL.contains=(L.take 1).all smallC:=by congr 1;funext c;exact (small_set c).symm
 have e2:L.all keysL.contains=L.all keyC:=by congr 1;funext c;exact (key_set c).symm
 rw [e1] at HO1
 rw [e2] at HO2
 clear e1 e2
 have HI:=Lib.hid fun wx => in_any (L.length:Int) 1 40 wx
 have hsz:=strL_size L
 have hcut:=strL_take L 1
 have hX1:strL smallsL=⟨#[97,98,99,100,101,102,103,104,105,106,107,108,109,110,111,112,113,114,115,116,117,118,119,120,121,122]⟩:=rfl
 have hX2:strL keysL=⟨#[97,98,99,100,101,102,103,104,105,106,107,108,109,110,111,112,113,114,115,116,117,118,119,120,121,122,48,49,50,51,52,53,54,55,56,57,45,95]⟩:=rfl
 rw [hX1] at HO1
 rw [hX2] at HO2
 clear hX1 hX2
 have HK:Hid ((decide (1≤L.length∧L.length≤40) && (L.take 1).all smallC && L.all keyC)=B):=Lib.hid hB
 generalize (L.take 1).all smallC=A1 at *
 generalize L.all keyC=A2 at *
 generalize strL (L.take 1)=S1 at *
 generalize strL L=S at *
 generalize L.length=n at *
 clear hB
 by_cases hn:1≤n∧n≤40
 ·have hin:inB (n:Int) 1 40=true:=by unfold inB;simp;omega
  rw [hin] at HI
  have b1:(1:Int)≤(n:Int):=by omega
  have hK:=HK.out
  rw [show decide (1≤n∧n≤40)=true by simp;omega,Bool.true_and] at hK
  clear hin HK
  go_enter Tryz.func51,Tryz.ntmps51
  go_wp2_with fail
  refine (HI.out _).mono ?_
  rintro e w' ⟨rfl,rfl⟩
  go_wp2_with fail
  refine (HO1.out _).mono ?_
  rintro e w2 ⟨rfl,hb⟩
  have HB2:=Lib.hid hb
  clear hb
  cases A1
  ·have:B=false:=by rw [← hK];rfl
   subst this
   clear hK
   go_wp2_with fail
   go_ret
   exact ⟨rfl,HB2.out⟩
  ·have:B=A2:=by rw [← hK];rfl
   subst this
   clear hK
   go_wp2_with fail
   refine (HO2.out _).mono ?_
   rintro e w3 ⟨rfl,hb⟩
   have HB3:=Lib.hid (HB2.out.trans (hb.mono HB2.out.size))
   clear hb HB2
   go_wp2_with fail
   go_ret
   exact ⟨rfl,HB3.out⟩
 ·have hin:inB (n:Int) 1 40=false:=by unfold inB;simp;omega
  rw [hin] at HI
  have hK:=HK.out
  rw [show decide (1≤n∧n≤40)=false by simp;omega,Bool.false_and,Bool.false_and] at hK
  subst hK
  clear hin HK
  go_enter Tryz.func51,Tryz.ntmps51
  go_wp2_with fail
  refine (HI.out _).mono ?_
  rintro e w' ⟨rfl,rfl⟩
  go_wp2_with fail
  go_ret
  exact ⟨rfl,Below.refl _ _⟩
theorem wpList_var3R {P:Program} {ops:Array Oper} {rest:List Oper} {o1 o2 o3:Oper} {a:Act} {Q:Exit→Act→World→Prop} {w:World} (c':Array Value) (ty:TypeId) {z:Value} (hz:∀ w,(zeroValue ty).run P w=.ok z w)
  (h1:o1.guard=none) (e1:o1.op=.alloc ty) (h2:o2.guard=none) (u:Operand) (e2:o2.op=.assign u) (h3:o3.guard=none) (x y:Operand) (e3:o3.op=.store ty x y) (d:Option Tmp) (hd:o1.dst=d) (a2:Act) (ha2:a2=((a.put d (.pointer (some ⟨w.heap.size,0,none⟩))).put o2.dst ((a.put d (.pointer (some ⟨w.heap.size,0,none⟩))).eval u)))
  (hx:a2.eval x=.pointer (some ⟨w.heap.size,0,none⟩)) (hy:a2.eval y=.agg c')
  (m:Nat) (hi:(P.info? ty).map (·.size)=some m) (hm:c'.size=m) (hs:z.cells.size=m) (hone:c'.all (·.oneCell')=true)
  (h:wpList P ops Q rest (a2.put o3.dst undef) (w.alloc (.cells c' ty (0,0)))):wpList P ops Q (o1 :: o2 :: o3 :: rest) a w:=by
 subst hd hm ha2
 refine wpList_plain h1 fun K hK => ?_
 unfold Oper.wp execOp
 simp only [e1,Sem.run_bind,alloc_of hz w,Sem.run_pure,Result.andThen_ok]
 refine hK _ _ (wpList_plain h2 fun K2 hK2 => ?_)
 unfold Oper.wp execOp
 simp only [e2,Sem.run_pure]
 exact hK2 _ _ (wpList_store_newb h3 ty x y e3 hx hy hi hs hone h)
def prevR (L:List RB) (k:Nat):Option RB:=if k=0 then none else L[k - 1]?
theorem prevR_succ {L:List RB} {k:Nat} {x:RB} (h:L[k]?=some x):prevR L (k + 1)=some x:=by
 unfold prevR
 rw [if_neg (by omega)]
 exact h
theorem scanRF_step {L:List RB} {k:Nat} {x:RB} (h:L[k]?=some x):scanRF (prevR L k) (L.drop k)=if afterRF (prevR L k) x ≠ 0 then afterRF (prevR L k) x else scanRF (prevR L (k + 1)) (L.drop (k + 1)):=by
 obtain ⟨hk,rfl⟩:=List.getElem?_eq_some_iff.1 h
 rw [List.drop_eq_getElem_cons hk,prevR_succ h]
 rfl
theorem repF_scan {L:List RB} (h:¬ 3000 < L.length):repF L=scanRF (prevR L 0) (L.drop 0):=by
 unfold repF
 rw [if_neg h]
 rfl
theorem afterRF_eq (p:Option RB) (x:RB):afterRF p x=if keyB x.1.node.data.toList=false then 5 else if outB x.1.hour 0 96023=true then 1 else if flowFault x.1.f ≠ 0 then flowFault x.1.f else if outB x.1.pk 1 1000000000000=true ∨ outB x.1.sz 0 1000000000000=true then 1 else ordF p x:=by
 unfold afterRF rowRF
 by_cases h1:keyB x.1.node.data.toList=false
 ·simp [h1]
 ·by_cases h2:outB x.1.hour 0 96023=true
  ·simp [h1,h2]
  ·by_cases h3:flowFault x.1.f=0
   ·by_cases h4:outB x.1.pk 1 1000000000000=true ∨ outB x.1.sz 0 1000000000000=true
    ·simp [h1,h2,h3,h4]
    ·simp [h1,h2,h3,h4]
   ·simp [h1,h2,h3]
theorem flCheckR_any (ad:Option Addr) (n c:Nat) (L:List RB) (w:World) (h:RdK layRb w ad L) (hn:L.length=n) (hs:n≤1000000) :
  Calls Tryz.prog 96 #[.slice ad n c] w (Ret (.int .i64 (repF L)) w):=by
 by_cases hbig:3000 < n
 ·have e:repF L=2:=by unfold repF;rw [hn,if_pos hbig]
  rw [e]
  have b:(3000:Int) < (n:Int):=by omega
  clear e h hn
  go_enter Tryz.func96,Tryz.ntmps96
  go_wp2_with fail
  go_ret
  exact ⟨rfl,Below.refl _ _⟩
 ·have hb0:¬ (3000:Int) < (n:Int):=by omega
  rw [repF_scan (by rw [hn];exact hbig)]
  obtain ⟨R,hR⟩:∃ R,scanRF (prevR L 0) (L.drop 0)=R:=⟨_,rfl⟩
  have HR0:=Lib.hid hR
  rw [hR]
  have H0:=Lib.hid h
  have Hn:=Lib.hid hn
  clear hR h hn
  go_enter Tryz.func96,Tryz.ntmps96
  go_wp2_with fail
  go_loopw [11] (fun i wr => ∃ k:Nat,k≤n∧i=.int .i64 (k:Int)∧Hid (scanRF (prevR L k) (L.drop k)=R)∧Hid (Below w.heap.size w wr)) (fun i _ => n - (intOf i).toNat)
  case atStart => exact ⟨0,Nat.zero_le _,rfl,HR0,Lib.hid (Below.refl _ _)⟩
  case round =>
   clear HR0
   obtain ⟨k,hk,rfl,HS,HB⟩:=hrel
   by_cases hlt:k < n
   ·obtain ⟨x,hx⟩:∃ x,L[k]?=some x:=⟨_,List.getElem?_eq_getElem (by rw [Hn.out];exact hlt)⟩
    obtain ⟨g,o,had,hg,hc⟩:=(H0.out.below HB.out) k x hx
    have HRx:Hid (wr.rangeAt g (o + k * 14) (layRb.enc x)):=Lib.hid fun j v hv => by
     have:=hc j v hv
     rwa [← Nat.add_assoc] at this
    have HRp:Hid (∀ wx,Below wr.heap.size wr wx→∀ (m:Nat) (y:RB),k=m + 1→L[m]?=some y→wx.rangeAt g (o + m * 14) ((layRb.enc y).toArray).toList):=Lib.hid fun wx hb m y hm hy => by
     obtain ⟨g',o',had',hg',hc'⟩:=((H0.out.below HB.out).below hb) m y hy
     rw [had] at had'
     injection had' with had'
     injection had' with q1 q2 q3
     subst q1 q2
     intro j v hv
     have:=hc' j v hv
     rwa [← Nat.add_assoc] at this
    have HSt:=HS.out
    rw [scanRF_step hx,afterRF_eq] at HSt
    have HKy:=Lib.hid fun wx => ((isKey_any x.1.node.data.toList wx (by have:=x.2.2.2.2;rw [← strL_size,strL_of];omega)).mono fun e w' h => (⟨h.1,by rw [h.2];exact Below.refl _ _⟩:Ret _ wx e w'))
    rw [strL_of] at HKy
    have HHr:=Lib.hid fun wx => outside_any x.1.hour 0 96023 wx
    have HFl:=Lib.hid fun wx => vFlowFault_any x.1.f wx x.2.1
    have HPk:=Lib.hid fun wx => outside_any x.1.pk 1 1000000000000 wx
    have HSz:=Lib.hid fun wx => outside_any x.1.sz 0 1000000000000 wx
    have HCm:=Lib.hid fun y wx => cmpRp_any y x wx
    have HX1:Hid ((layRb.enc x).toArray.size=14):=Lib.hid (by rw [List.size_toArray,layRb.len];rfl)
    have HX2:Hid ((layRb.enc x).toArray.all (·.oneCell')=true):=Lib.hid (all_oneCell_toArray (layRb.one x))
    have hcells:∀ w2 b,Blk w2 b 74 (layRb.enc x).toArray→w2.cell? ⟨b,0,none⟩=some (.string x.1.node)∧w2.cell? ⟨b,1,none⟩=some (.int .i64 x.1.hour)∧w2.cell? ⟨b,12,none⟩=some (.int .i64 x.1.pk)∧w2.cell? ⟨b,13,none⟩=some (.int .i64 x.1.sz)∧w2.rangeAt b 3 x.1.f.cells.toList:=fun w2 b hb => ⟨hb.cell 0,hb.cell 1,hb.cell 12,hb.cell 13,rbFlow (x:=x.1) hb⟩
    have S9:Hid (x.1.f.cells.toList.length=9):=Lib.hid rfl
    have HX:=Lib.hid hcells
    have Hpx:=Lib.hid (prevR_succ hx)
    have HP0:Hid (∀ m,k=m + 1→prevR L k=L[m]?):=Lib.hid fun m hm => by subst hm;unfold prevR;rw [if_neg (by omega)];rfl
    have HPz:Hid (k=0→prevR L k=none):=Lib.hid fun hm => by subst hm;rfl
    have HSn:Hid (scanRF (prevR L (k + 1)) (L.drop (k + 1))=R→True):=Lib.hid fun _ => trivial
    obtain ⟨XC,hXC⟩:∃ X,(layRb.enc x).toArray=X:=⟨_,rfl⟩
    have hXL:layRb.enc x=XC.toList:=by rw [← hXC]
    rw [hXL] at HRx
    rw [hXC] at HX1 HX2 HX
    simp only [hXC] at HCm
    generalize keyB x.1.node.data.toList=K1 at *
    generalize outB x.1.hour 0 96023=O1 at *
    generalize flowFault x.1.f=FF at *
    generalize outB x.1.pk 1 1000000000000=O2 at *
    generalize outB x.1.sz 0 1000000000000=O3 at *
    generalize x.1.f.cells=FC at *
    generalize x.1.node=ND at *
    generalize x.1.hour=HR at *
    generalize x.1.pk=PK at *
    generalize x.1.sz=SZ at *
    have HST:=Lib.hid HSt
    have Hx:=Lib.hid hx
    clear HSt hXC hXL hcells hc hx
    subst had
    have HP:Hid (Blk (wr.alloc (.cells XC 74 (0,0))) wr.heap.size 74 XC):=Lib.hid (Blk.new wr _ _)
    have hbr:Below wr.heap.size wr (wr.alloc (.cells XC 74 (0,0))):=below_alloc (Below.refl _ _) _
    have HBr:=Lib.hid hbr
    clear hbr
    go_upto_region 6 with (first | (refine wpList_loadn rfl 74 _ rfl g (o + k * 14) rfl _ _ HRx.out under_rb rfl 14 size_rb (by simpa using HX1.out) ?_;go_simp) | (refine wpList_var3R XC 74 Tryz.zeroValue74 rfl rfl rfl _ rfl rfl _ _ rfl _ rfl _ rfl ?_ ?_ 14 size_rb HX1.out ?_ HX2.out ?_;all_goals (try rfl);try go_simp))
    generalize wr.alloc (.cells XC 74 (0,0))=w2 at *
    generalize wr.heap.size=bx at HP ⊢
    obtain ⟨a0,a1,a12,a13, -⟩:=HX.out _ _ HP.out
    go_wp2_with fail
    refine (HKy.out _).mono ?_
    rintro e w3 ⟨rfl,hb3⟩
    have HP3:=Lib.hid (HP.out.below hb3 HP.out.lt)
    have HB3:Hid (Below wr.heap.size wr w3):=Lib.hid (HBr.out.trans (hb3.mono HBr.out.size))
    clear hb3 HBr HP HKy a0 a1 a12 a13
    obtain ⟨a0,a1,a12,a13,hfr⟩:=HX.out _ _ HP3.out
    have HFr:=Lib.hid hfr
    clear hfr
    cases K1
    ·have hR:R=5:=HST.out.symm
     subst hR
     clear HST
     go_wp2_with fail
     go_ret
     exact ⟨rfl,HB.out.trans (HB3.out.mono HB.out.size)⟩
    ·go_wp2_with fail
     refine (HHr.out _).mono ?_
     rintro e w4 ⟨rfl,rfl⟩
     clear HHr
     cases O1
     ·go_wp2_with (refine wpList_loadn rfl 72 _ rfl bx 3 rfl FC.toList _ HFr.out under_flow rfl 9 size_flow S9.out ?_;go_simp)
      refine (HFl.out _).mono ?_
      rintro e w5 ⟨rfl,hb5⟩
      have HP5:=Lib.hid (HP3.out.below hb5 HP3.out.lt)
      have HB5:Hid (Below wr.heap.size wr w5):=Lib.hid (HB3.out.trans (hb5.mono HB3.out.size))
      clear hb5 HB3 HP3 HFl HFr a0 a1 a12 a13
      obtain ⟨-, -,a12,a13, -⟩:=HX.out _ _ HP5.out
      by_cases hFF:FF=0
      ·subst hFF
       go_wp2_with fail
       refine (HPk.out _).mono ?_
       rintro e w6 ⟨rfl,rfl⟩
       cases O2
       ·go_wp2_with fail
        refine (HSz.out _).mono ?_
        rintro e w6 ⟨rfl,rfl⟩
        cases O3
        ·have hST:(if ordF (prevR L k) x ≠ 0 then ordF (prevR L k) x else scanRF (prevR L (k + 1)) (L.drop (k + 1)))=R:=by
          have:=HST.out
          simpa using this
         have HST2:=Lib.hid hST
         clear hST HST HPk HSz a12 a13
         rcases Nat.eq_zero_or_pos k with h0 | h0
         ·subst h0
          have hN:scanRF (prevR L (0 + 1)) (L.drop (0 + 1))=R:=by
           have:=HST2.out
           rw [HPz.out rfl] at this
           exact this
          have HN:=Lib.hid hN
          clear hN HST2 HPz HP0 HRp HCm
          go_upto_region 15 with fail
          refine wp_region_later (by kernel_rfl) (by kernel_rfl) ?_
          repeat (go_big_quiet_step (fail))
          refine wpQuiet_nil ?_
          rintro w7 ⟨m7,hm7⟩
          have hb:Below w5.heap.size w5 w7:=by rw [hm7];exact m7.2
          have HB7:Hid (Below w.heap.size w w7):=Lib.hid (HB.out.trans ((HB5.out.trans (hb.mono HB5.out.size)).mono HB.out.size))
          clear hm7 m7 hb
          go_wp2_with fail
          exact ⟨⟨1,by omega,rfl,HN,HB7⟩,by simp [intOf];omega⟩
         ·obtain ⟨m,rfl⟩:∃ m,k=m + 1:=⟨k - 1,by omega⟩
          obtain ⟨y,hy⟩:∃ y,L[m]?=some y:=⟨_,List.getElem?_eq_getElem (by rw [Hn.out];omega)⟩
          have hp0:prevR L (m + 1)=some y:=(HP0.out m rfl).trans hy
          have HYr:Hid (∀ wx,(∃ q:Later w5,wx=q.1)→wx.rangeAt g (o + m * 14) ((layRb.enc y).toArray).toList):=Lib.hid fun wx ⟨q,hq⟩ => by
           subst hq
           exact HRp.out _ (HB5.out.trans (q.2.mono HB5.out.size)) m y rfl hy
          have HXr:Hid (∀ wx,(∃ q:Later w5,wx=q.1)→wx.rangeAt bx 0 XC.toList):=Lib.hid fun wx ⟨q,hq⟩ => by
           subst hq
           exact (HP5.out.below q.2 HP5.out.lt).range
          have Ys:((layRb.enc y).toArray).size=14:=by rw [List.size_toArray,layRb.len];rfl
          have hst:=HST2.out
          rw [hp0] at hst
          have hst2:(if (if 0≤cR y x then (7:Int) else 0) ≠ 0 then (if 0≤cR y x then (7:Int) else 0) else scanRF (prevR L (m + 1 + 1)) (L.drop (m + 1 + 1)))=R:=hst
          have hQ:=fun q:Later w5 => Calls.later q ((HCm.out y q.1).mono fun _ _ => RetD.ret)
          generalize cR y x=C at *
          obtain ⟨YC,hYC⟩:∃ X,(layRb.enc y).toArray=X:=⟨_,rfl⟩
          rw [hYC] at HYr Ys hQ
          have HS1:Hid (0≤C→R=7):=Lib.hid fun h => by rw [if_pos h] at hst2;exact hst2.symm
          have HS2:Hid (¬ 0≤C→scanRF (prevR L (m + 1 + 1)) (L.drop (m + 1 + 1))=R):=Lib.hid fun h => by rw [if_neg h] at hst2;exact hst2
          have Xs:=HX1.out
          clear hst hst2 HST2 hYC hp0 hy HRp HCm HP0 HPz
          have e1:(((m + 1:Nat):Int) - 1)=(m:Int):=by omega
          have e2:IntKind.i64.wrap (m:Int)=(m:Int):=by rw [IntKind.wrap_i64];omega
          have e3:wrap64 (((m + 1:Nat):Int) - 1)=(m:Int):=by unfold wrap64;omega
          have b1:(0:Int)≤(m:Int):=by omega
          have b2:(m:Int) < (n:Int):=by omega
          have b3:(0:Int) < ((m + 1:Nat):Int):=by omega
          go_upto_region 15 with fail
          refine wp_region_later (by kernel_rfl) (by kernel_rfl) ?_
          repeat (first | (refine wpQuiet_loadn rfl 74 _ rfl _ rfl g (o + m * 14) rfl YC HYr.out _ under_rb rfl 14 size_rb Ys ?_;go_simp) | (refine wpQuiet_loadn rfl 74 _ rfl _ rfl bx 0 rfl XC HXr.out _ under_rb rfl 14 size_rb Xs ?_;go_simp) | go_big_quiet_step ((go_at_call 155;exact hQ _)))
          refine wpQuiet_nil ?_
          rintro ⟨w7,hb⟩
          dsimp only
          have HB7:Hid (Below w.heap.size w w7):=Lib.hid (HB.out.trans ((HB5.out.trans (hb.mono HB5.out.size)).mono HB.out.size))
          clear hb hQ HYr HXr
          by_cases hC:0≤C
          ·have hR:=HS1.out hC
           subst hR
           clear HS1 HS2
           go_wp2_with fail
           go_ret
           exact ⟨rfl,HB7.out⟩
          ·have HN:=Lib.hid (HS2.out (by omega))
           have hC2:(0≤C)=False:=eq_false hC
           clear HS1 HS2
           go_wp2_with fail
           exact ⟨⟨m + 1 + 1,by omega,by go_num,HN,HB7⟩,by simp [intOf];omega⟩
        ·have hR:R=1:=by
          have:=HST.out
          simpa using this.symm
         subst hR
         clear HST
         go_wp2_with fail
         go_ret
         exact ⟨rfl,HB.out.trans (HB5.out.mono HB.out.size)⟩
       ·have hR:R=1:=by
         have:=HST.out
         simpa using this.symm
        subst hR
        clear HST
        go_wp2_with fail
        go_ret
        exact ⟨rfl,HB.out.trans (HB5.out.mono HB.out.size)⟩
      ·have hR:R=FF:=by
        have:=HST.out
        simpa [hFF] using this.symm
       subst hR
       have hne:(R != 0)=true:=by simpa using hFF
       clear HST
       go_wp2_with fail
       go_ret
       exact ⟨rfl,HB.out.trans (HB5.out.mono HB.out.size)⟩
     ·have hR:R=1:=by
       have:=HST.out
       simpa using this.symm
      subst hR
      clear HST
      go_wp2_with fail
      go_ret
      exact ⟨rfl,HB.out.trans (HB3.out.mono HB.out.size)⟩
   ·obtain rfl:k=n:=by omega
    have hS:=HS.out
    rw [List.drop_of_length_le (by rw [Hn.out];exact Nat.le_refl _)] at hS
    have hR:R=0:=hS.symm
    subst hR
    clear hS
    go_wp2_with fail
    go_ret
    exact ⟨rfl,HB.out⟩
open Go.RowKit Go Go.Sort
theorem cut_spl (s:List UInt8) (c:UInt8):(c ∉ s∧Lib.cut s [c]=(s, [],false)∧spl c s=[s]) ∨ (∃ l r,s=l ++ c :: r∧Lib.cut s [c]=(l,r,true)∧spl c s=l :: spl c r):=by
 unfold Lib.cut
 rcases Lib.index_spec s [c] with ⟨h1,h2⟩ | ⟨i,h1,h2,h3,h4⟩
 ·left
  have hm:c ∉ s:=fun hc => by
   obtain ⟨j,hj,e⟩:=List.getElem_of_mem hc
   have h5:=h2 j (Nat.le_of_lt hj)
   unfold Lib.occAt at h5
   rw [List.drop_eq_getElem_cons hj,e] at h5
   simp [List.isPrefixOf] at h5
  refine ⟨hm,by rw [h1];rfl,spl_none (by simpa using hm)⟩
 ·right
  unfold Lib.occAt at h3
  obtain ⟨t,ht⟩:=List.isPrefixOf_iff_prefix.1 h3
  have h7:c :: t=s.drop i:=ht
  have h6:s.drop (i + [c].length)=t:=by
   rw [← List.drop_drop, ← h7];rfl
  have hs:s=s.take i ++ c :: t:=by rw [h7,List.take_append_drop]
  have hn:c ∉ s.take i:=fun hc => by
   obtain ⟨j,hj,e⟩:=List.getElem_of_mem hc
   have hjl:j < i∧j < s.length:=by rw [List.length_take] at hj;omega
   have h5:=h4 j hjl.1
   unfold Lib.occAt at h5
   rw [List.getElem_take] at e
   rw [List.drop_eq_getElem_cons hjl.2,e] at h5
   simp [List.isPrefixOf] at h5
  refine ⟨s.take i,t,hs,by rw [h1,if_pos (by omega)];show (s.take ((i:Int)).toNat,s.drop (((i:Int)).toNat + [c].length),true)=_;rw [Int.toNat_natCast,h6],?_⟩
  have key:∀ (a:List UInt8),c ∉ a→spl c (a ++ c :: t)=a :: spl c t:=by
   intro a
   induction a with
   | nil => intro _;simp [spl]
   | cons x a ih =>
     intro ha
     have hx:¬ x=c:=fun e => ha (by rw [e];exact List.mem_cons_self ..)
     have h8:=ih fun h => ha (List.mem_cons_of_mem _ h)
     show (if x=c then [] :: spl c (a ++ c :: t) else match spl c (a ++ c :: t) with
      | p :: ps => (x :: p) :: ps
      | [] => [[x]])=_
     rw [if_neg hx,h8]
  rw [hs]
  have e:(s.take i ++ c :: t).take i=s.take i:=by rw [← hs]
  rw [e]
  exact key _ hn
theorem bInfo:∃ j,Tryz.prog.info? 129=some j∧j.size=2:=Option.map_eq_some_iff.1 (show (Tryz.prog.info? 129).map (·.size)=some 2 by kernel_rfl)
theorem bCheck_used (b:Nat) (w:World) (h0:w.cell? ⟨b,0,none⟩=some (.pointer (some ⟨b,0,none⟩))) :
  Calls Tryz.prog 157 #[.pointer (some ⟨b,0,none⟩)] w fun e w' => e=.returned (.tuple #[])∧w'=w:=by
 obtain ⟨j,hj,_⟩:=bInfo
 go_enter Tryz.func157,Tryz.ntmps157
 go_wp2
 rw [Lib.run_neq_ptr_same w _ Tryz.underlying126 hj]
 go_wp2
 go_end0
 exact ⟨rfl,rfl⟩
theorem bCheck_fresh (b:Nat) (w:World) (h0:w.cell? ⟨b,0,none⟩=some (.pointer none)) (hsh:w.shape? b=some (129,2)) (hfz:w.frozen? ⟨b,0,none⟩=false) :
  Calls Tryz.prog 157 #[.pointer (some ⟨b,0,none⟩)] w fun e w' => e=.returned (.tuple #[])∧w'=w.setCell ⟨b,0,none⟩ (.pointer (some ⟨b,0,none⟩)):=by
 obtain ⟨j,hj,hjs⟩:=bInfo
 have hlies:liesAt Tryz.prog Tryz.prog.depth 129 (2 / Tryz.prog.cellsOf 129) 0 129 1=true:=by kernel_rfl
 go_enter Tryz.func157,Tryz.ntmps157
 go_wp2
 rw [Lib.run_to_unsafe w ⟨b,0,none⟩ Tryz.underlying126 Tryz.underlying221 hj (by rw [hjs];decide) hsh (Nat.zero_lt_succ 1)]
 simp only [Result.andThen]
 rw [Oper.upon_value]
 go_wp2
 rw [run_callFunc_extern Tryz.func211 (by kernel_rfl) (by kernel_rfl) (by kernel_rfl) (e:=Extern.AbiNoEscape.same) (by kernel_rfl)]
 rw [Lib.run_noEscape]
 simp only [Result.andThen]
 rw [Oper.upon_value]
 go_wp2
 rw [Lib.run_from_unsafe w ⟨b,0,none⟩ Tryz.underlying221 Tryz.underlying126 hj hsh hlies]
 simp only [Result.andThen]
 rw [Oper.upon_value]
 go_wp2
 go_end0
 exact ⟨rfl,rfl⟩
theorem bCheck_any (B b:Nat) (bs:List Value) (w:World) (h:Lib.IsBuilder 129 5 B b bs w) :
  Calls Tryz.prog 157 #[.pointer (some ⟨b,0,none⟩)] w fun e w' => e=.returned (.tuple #[])∧(Lib.BuilderAt 129 5 B b (.pointer (some ⟨b,0,none⟩)) bs w'∧Below B w w'):=by
 rcases h with h | h
 ·refine (bCheck_fresh b w h.cell0 h.shape h.frozen0).mono ?_
  rintro e w' ⟨rfl,rfl⟩
  exact ⟨rfl,h.used _,(Below.refl B w).setCell (p:=⟨b,0,none⟩) h.1 _⟩
 ·refine (bCheck_used b w h.cell0).mono ?_
  rintro e w' ⟨rfl,rfl⟩
  exact ⟨rfl,h,Below.refl B _⟩
theorem bWrite_any (B b:Nat) (bs:List Value) (s:ByteArray) (w:World) (h:Lib.IsBuilder 129 5 B b bs w) (hlen:bs.length + s.size≤140737488355328) (hBw:B≤w.heap.size) :
  Calls Tryz.prog 98 #[.pointer (some ⟨b,0,none⟩), .string s] w fun e w' => e=.returned (.tuple #[.int .i64 s.size, .nilIface])∧(Lib.BuilderAt 129 5 B b (.pointer (some ⟨b,0,none⟩)) (bs ++ Lib.strCells s) w'∧Below B w w'):=by
 obtain ⟨i0,hi,hz0,hz1,hz2⟩:=info_parts (show (Tryz.prog.info? 5).map (fun i => (i.zero,i.size,i.bytes))=some (some (.int .u8 0),1,1) by kernel_rfl)
 have hne5:(129:Nat) ≠ 5:=by decide
 have HC:=Lib.hid (bCheck_any B b bs w h)
 clear h
 go_enter Tryz.func98,Tryz.ntmps98
 go_wp2_with fail
 refine HC.out.mono ?_
 rintro e w1 ⟨rfl,h1,hb1⟩
 obtain ⟨hB,v,hbk,hown,hne⟩:=h1
 have c0:w1.cell? ⟨b,0,none⟩=some (.pointer (some ⟨b,0,none⟩)):=by rw [Lib.cell_of_heap hbk];rfl
 have c1:w1.cell? ⟨b,1,none⟩=some v:=by rw [Lib.cell_of_heap hbk];rfl
 go_wp2_with (at_builtin;refine Lib.wpList_append_own_string _ rfl _ _ 127 9 rfl B 5 i0 Tryz.underlying127 Tryz.underlying9 hi hz0 hz1 hz2 _ _ _ rfl hown s rfl ?c3 ?c4 ?c5 ?_)
 case c3 => unfold maxLen;omega
 case c4 => omega
 case c5 => have:=hb1.size;omega
 intro v' w2 hown' hgrow _
 have hlt:b < w1.heap.size:=by
  rcases Nat.lt_or_ge b w1.heap.size with h' | h'
  ·exact h'
  ·simp [Array.getElem?_eq_none h'] at hbk
 have hb2:w2.heap[b]?=some (.cells #[.pointer (some ⟨b,0,none⟩),v] 129 (0,0)):=by
  rw [hgrow.block b hlt (fun e => hne e.symm)]
  exact hbk
 have d0:w2.cell? ⟨b,0,none⟩=some (.pointer (some ⟨b,0,none⟩)):=by rw [Lib.cell_of_heap hb2];rfl
 have d1:w2.cell? ⟨b,1,none⟩=some v:=by rw [Lib.cell_of_heap hb2];rfl
 have f1:w2.frozen? ⟨b,1,none⟩=false:=Lib.frozen_of_heap hb2 1
 obtain ⟨ao,n',cap,rfl⟩:∃ ao n' cap,v'=.slice ao n' cap:=by
  rcases hown'.2 with ⟨hv,_⟩ | ⟨g,cap,cur,hv,_⟩
  ·exact ⟨_,_,_,hv⟩
  ·exact ⟨_,_,_,hv⟩
 go_wp2_with fail
 go_ret2
 refine ⟨rfl,?_,?_⟩
 ·exact Lib.BuilderAt.put (T:=129) (e:=5) hB hb2 (bs':=bs ++ Lib.strCells s) (by simpa [Lib.strCells_length] using hown') hne5
 ·exact (hb1.grown hgrow (by have:=hb1.size;omega) (fun k hk => (hown.lt k hk).1)).setCell (p:=⟨b,1,none⟩) hB _
end Go.Proofs.YtgkhcdjoilgfmaaGreatDoor
