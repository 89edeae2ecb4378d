/-
  Median and Spread of the program, MedianOf and SpreadOf of the reference, flowing: of at most 3000 numbers.
  The reference's stream of numbers (Numbers), and flowing.
  The law ReportTexts: walked. Condition: the variables that the functions read.
  The tables of numerals, out of what a row lists: the listed tables lie as the program's text lays them.
  The variables that functions of strings and numbers read, out of what a row lists and of the world's shape.
-/
import Derived.Test.YtgkhcdjoilgfmaaGreatDoorRPX24
import Derived.Test.YtgkhcdjoilgfmaaGreatDoorRPX17
import Derived.Test.YtgkhcdjoilgfmaaGreatDoorRPX18
import Derived.Test.YtgkhcdjoilgfmaaGreatDoorRPX23
import Derived.Test.YtgkhcdjoilgfmaaGreatDoorRPX5
import Derived.Test.YtgkhcdjoilgfmaaGreatDoorRPX11
import Derived.Stop.LaidErr
set_option linter.unusedVariables false
set_option maxRecDepth 100000
set_option maxHeartbeats 8000000
namespace Go.Proofs.YtgkhcdjoilgfmaaGreatDoor
open Go.RowKit Go
def FrBlk (w:World) (B:Nat) (a b:Int):Prop:=Blk w B 151 #[.int .i64 a, .int .i64 b]
theorem FrBlk.cells {w:World} {B:Nat} {a b:Int} (h:FrBlk w B a b):w.cell? ⟨B,0,none⟩=some (.int .i64 a)∧w.cell? ⟨B,1,none⟩=some (.int .i64 b)∧∀ i,w.frozen? ⟨B,i,none⟩=false:=⟨Blk.cell h 0,Blk.cell h 1,Blk.free h⟩
theorem median_none (ad:Option Addr) (c:Nat) (w:World) :
  Calls Tryz.prog 112 #[.slice ad 0 c] w (Ret (.tuple #[.agg #[.int .i64 0, .int .i64 0], .int .i64 8]) w):=by
 go_enter Tryz.func112,Tryz.ntmps112
 go_wp2_with fail
 refine (numbersFault_none ad c _).mono ?_
 rintro e w1 ⟨rfl,rfl⟩
 have HA:FrBlk (w.alloc (.cells #[.int .i64 0, .int .i64 0] 151 (0,0))) w.heap.size 0 0:=Blk.new w _ _
 have HB:=Lib.hid (below_alloc (Below.refl w.heap.size w) (.cells #[.int .i64 0, .int .i64 0] 151 (0,0)))
 generalize (w.alloc (.cells #[.int .i64 0, .int .i64 0] 151 (0,0)))=w1 at *
 obtain ⟨c0,c1,f0⟩:=HA.cells
 clear HA
 go_wp2_with fail
 refine bodyPost_ret (v:=.tuple #[.agg #[.int .i64 0, .int .i64 0], .int .i64 8]) (by simp [results,Tryz.results112,go_sem,c0,c1]) rfl ⟨rfl,?_⟩
 repeat refine Below.setCell ?_ (by simp) _
 exact HB.out
theorem median_good (g o n c:Nat) (zs:List Int) (w:World) (h:RdInts w g o n zs) (hn:1≤n∧n≤3000) (hf:nFault zs=0) :
  Calls Tryz.prog 112 #[.slice (some ⟨g,o,none⟩) n c] w (Ret (.tuple #[.agg #[.int .i64 (fracN (mid zs) 2), .int .i64 (fracD (mid zs) 2)], .int .i64 0]) w):=by
 have Hc:=Lib.hid fun (w:World) h => numbersFault_any g o n c zs w h hn
 obtain ⟨hsm,h1⟩:=nFault_small hf
 have HI:Hid (I62 (mid zs)):=Lib.hid (by have:=mid_I62 hsm h1;exact ⟨by omega,by omega⟩)
 have HA:FrBlk (w.alloc (.cells #[.int .i64 0, .int .i64 0] 151 (0,0))) w.heap.size 0 0:=Blk.new w _ _
 have HB:=Lib.hid (below_alloc (Below.refl w.heap.size w) (.cells #[.int .i64 0, .int .i64 0] 151 (0,0)))
 have HR:=Lib.hid (h.alloc (.cells #[.int .i64 0, .int .i64 0] 151 (0,0)))
 have HS:=Lib.hid hsm
 have HL:=Lib.hid fun w => lowest_any (mid zs) 2 w HI.out ⟨by omega,by omega⟩ (by omega)
 generalize fracN (mid zs) 2=p at *
 generalize fracD (mid zs) 2=q at *
 rw [hf] at Hc
 have Hn:=Lib.hid hn
 have hlt:w.heap.size < (w.alloc (.cells #[.int .i64 0, .int .i64 0] 151 (0,0))).heap.size:=HA.lt
 clear h hsm h1 hn hf
 go_enter Tryz.func112,Tryz.ntmps112
 go_wp2_with fail
 refine (Hc.out _ HR.out).mono ?_
 rintro e w1 ⟨rfl,rfl⟩
 generalize (w.alloc (.cells #[.int .i64 0, .int .i64 0] 151 (0,0)))=w1 at *
 go_wp2_with fail
 refine (middle_any g o n c zs _ HR.out ⟨Hn.out.1,by have:=Hn.out;omega⟩ HS.out.sized).mono ?_
 rintro e w2 ⟨rfl,hB2⟩
 have HA2:FrBlk w2 w.heap.size 0 0:=Blk.below HA hB2 hlt
 have HB2:=Lib.hid (HB.out.trans (hB2.mono (by omega)))
 have hlt2:=HA2.lt
 clear hB2 HA hlt
 go_wp2_with fail
 refine (HL.out _).mono ?_
 rintro e w3 ⟨rfl,hB3⟩
 have HA3:FrBlk w3 w.heap.size 0 0:=Blk.below HA2 hB3 hlt2
 have HB3:=Lib.hid (HB2.out.trans (hB3.mono (by omega)))
 obtain ⟨c0,c1,f0⟩:=HA3.cells
 clear hB3 HA2 hlt2 HA3
 go_wp2_with fail
 refine bodyPost_ret (v:=.tuple #[.agg #[.int .i64 p, .int .i64 q], .int .i64 0]) (by simp [results,Tryz.results112,go_sem,c0,c1]) rfl ⟨rfl,?_⟩
 repeat refine Below.setCell ?_ (by simp) _
 exact HB3.out
theorem nFault_three:nFault [1,2,9]=0:=by decide
theorem mid_three:fracN (mid [1,2,9]) 2=2∧fracD (mid [1,2,9]) 2=1:=by
 have:mid [1,2,9]=4:=by
  unfold mid sortI
  rw [List.mergeSort_of_pairwise (by decide)]
  rfl
 rw [this]
 decide
theorem flowing_any (w:World):Calls Tryz.prog 37 #[] w (Ret (.bool true) w):=by
 have HR:=Lib.hid (rdInts_new w 3 [1,2,9] #[.int .i64 1, .int .i64 2, .int .i64 9] rfl)
 have HB:=Lib.hid (below_alloc (Below.refl w.heap.size w) (.cells #[.int .i64 1, .int .i64 2, .int .i64 9] 3 (0,0)))
 go_enter Tryz.func37,Tryz.ntmps37
 go_wp2_with fail
 refine (median_good w.heap.size 0 3 3 _ _ HR.out (by omega) nFault_three).mono ?_
 rintro e w2 ⟨rfl,hB⟩
 rw [mid_three.1,mid_three.2]
 have HB2:=Lib.hid (HB.out.trans (hB.mono (by simp)))
 clear hB HB HR
 go_wp2
 go_ret
 exact ⟨rfl,by repeat (first | exact HB2.out | apply below_alloc | apply below_drewN | refine below_set ?_ (HB2.out.size) _ _)⟩
open Go.RowKit Go Go.Sort
theorem rsG_short {s:List UInt8} {L:List RB} {i f:Int} (h:rsG repP repF s=(L,i,f)):L.length≤3000:=by
 rw [rsG_eq] at h
 by_cases h1:200000 < s.length
 ·rw [if_pos h1] at h
  injection h with h
  subst h
  exact Nat.zero_le _
 ·rw [if_neg h1] at h
  unfold rvG at h
  split at h
  ·injection h with h
   subst h
   exact Nat.zero_le _
  ·split at h
   ·rename_i hs
    injection h with h
    subst h
    unfold repF at hs
    split at hs
    ·cases hs
    ·omega
   ·injection h with h
    subst h
    exact Nat.zero_le _
theorem law_ReportTexts (ad:Option Addr) (n c:Nat) (w:World) (h:LawArg w ad n) (hv:Vr w) :
  Calls Tryz.prog 5 #[.slice ad n c] w (Ret (.bool true) w):=by
 have hS:=LawArg.strm (c:=c) h
 have HB0:Hid (Below w.heap.size w (w.alloc (.cells #[.slice ad n c, .int .i64 0] 25 (0,0)))):=Lib.hid (below_alloc (Below.refl _ _) _)
 have hblt:w.heap.size < (w.alloc (.cells #[.slice ad n c, .int .i64 0] 25 (0,0))).heap.size:=hS.lt
 have HS:=Lib.hid hS
 have HVw:Hid (∀ wx,Below w.heap.size w wx→Vr wx):=Lib.hid fun wx hb => hv.below hb
 clear h hS hv
 go_enter Tryz.func5,Tryz.ntmps5
 go_wp2_with fail
 generalize w.alloc (.cells #[.slice ad n c, .int .i64 0] 25 (0,0))=w0 at *
 obtain ⟨b,hbw⟩:∃ b,w.heap.size=b:=⟨_,rfl⟩
 rw [hbw] at hblt HS HB0 HVw ⊢
 have Hbw:=Lib.hid hbw
 have HBw:Hid (b≤w.heap.size):=Lib.hid (by omega)
 clear hbw
 have HBg:Hid (∀ w' k,Gen b w0 w' k→Below b w w'):=Lib.hid fun w' k hg => by
  have:=Gen.toBelowR (w:=w) hg (by rw [Hbw.out];exact HB0.out) (by rw [Hbw.out];exact Nat.le_refl _)
  rwa [Hbw.out] at this
 have HVg:Hid (∀ w' k,Gen b w0 w' k→Vr w'):=Lib.hid fun w' k hg => HVw.out w' (HBg.out w' k hg)
 refine (range_gen b 0 _ _ _ HS.out (by omega) (by omega) (by omega)).mono ?_
 rintro e w1 ⟨k,rfl,⟨hk0,hk1⟩,hg⟩
 obtain ⟨K,rfl⟩:=Int.eq_ofNat_of_zero_le hk0
 have hK:K≤5:=by omega
 have HG0:Hid (Gen b w0 w1 1):=Lib.hid hg
 clear hg hk0 hk1
 go_wp2_with fail
 refine (reportsG_gen b 1 K _ HG0.out.s (by omega) (by omega)).mono ?_
 rintro e w1' ⟨v,L,rfl,hO,hl,hu,hg⟩
 replace hO:=hO.weak HG0.out.g.size
 replace hg:=HG0.out.trans hg
 clear HG0
 have HG1:=Lib.hid hg
 have HO1:=Lib.hid hO
 obtain ⟨la,lc,hv, -⟩:=hO.form
 subst hv
 obtain ⟨ln,hln⟩:∃ q,L.length=q:=⟨_,rfl⟩
 rw [hln] at HO1 hl ⊢
 have HC1:=Lib.hid fun wx (hr:OwnK layRb wx w0.heap.size (.slice la ln lc) L) (hv:Vr wx) => wText_any la ln lc L wx hr.rd hln (by omega) hu hv.tb
 have HC2:=Lib.hid fun wx (hr:OwnK layRb wx w0.heap.size (.slice la ln lc) L) => reportsFault_any la ln lc L wx hr.rd hln (by omega)
 have HC3:=Lib.hid fun (hf:repF L=0) wx (hr:OwnK layRb wx w0.heap.size (.slice la ln lc) L) (hv:Vr wx) => reportLines_any la ln lc L wx hr.rd hln (by omega) hu hv.tb
 have HRS0:Hid (repF L=0→(if repF L=0 then strL (repsT L) else ⟨#[]⟩)=strL (repsT L)):=Lib.hid fun h => if_pos h
 have HRS1:Hid (repF L ≠ 0→(if repF L=0 then strL (repsT L) else ⟨#[]⟩)=⟨#[]⟩):=Lib.hid fun h => if_neg h
 clear hg hO hl hu hln HS HB0
 obtain ⟨RS,hRS⟩:∃ q,(if repF L=0 then strL (repsT L) else ⟨#[]⟩)=q:=⟨_,rfl⟩
 rw [hRS] at HC1 HRS0 HRS1
 clear hRS
 generalize strL (repsT L)=TX at *
 generalize repF L=F at *
 have HR1:=HO1
 have HCx:=Lib.hid (HC1.out w1' HR1.out (HVg.out _ _ HG1.out))
 clear HC1 HO1
 go_wp2_with fail
 refine HCx.out.mono ?_
 rintro e u1 ⟨rfl,hb⟩
 have HR2:=Lib.hid (HR1.out.later hb)
 have HG2:=Lib.hid (HG1.out.below hb HG1.out.g.size HG1.out.s.lt)
 clear hb HCx HR1 HG1
 have HCx:=Lib.hid (HC2.out u1 HR2.out)
 clear HC2
 go_wp2_with fail
 refine HCx.out.mono ?_
 rintro e u2 ⟨rfl,hb⟩
 have HR3:=Lib.hid (HR2.out.later hb)
 have HG3:=Lib.hid (HG2.out.below hb HG2.out.g.size HG2.out.s.lt)
 clear hb HCx HR2 HG2
 by_cases hF:F=0
 ·subst hF
  obtain rfl:RS=TX:=HRS0.out rfl
  have HCx:=Lib.hid (HC3.out rfl u2 HR3.out (HVg.out _ _ HG3.out))
  clear HC3 HRS0 HRS1
  go_wp2_with fail
  refine HCx.out.mono ?_
  rintro e u3 ⟨rfl,hb⟩
  have HGz:=Lib.hid (HG3.out.below hb HG3.out.g.size HG3.out.s.lt)
  clear hb HCx HR3 HG3
  have HTb5:Hid (∀ w',(∃ k,Gen b u3 w' k)→Tabs w'):=Lib.hid fun w' ⟨k,hg2⟩ => (HVg.out w' _ (HGz.out.trans hg2)).tb
  go_wp2_with fail
  refine (reportString_gen b _ _ HGz.out.s (by omega) HTb5.out).mono ?_
  rintro e w5 ⟨S,rfl,hS,hg⟩
  have HG5:=Lib.hid (HGz.out.trans hg)
  clear hg HGz HTb5
  have hsl:S.data.toList.length≤1000000:=by
   have:S.data.toList.length=S.size:=by rw [Array.length_toList];rfl
   omega
  have hss:strL S.data.toList=S:=strL_of S
  obtain ⟨s,hs⟩:∃ q,S.data.toList=q:=⟨_,rfl⟩
  rw [hs] at hsl hss
  subst hss
  have HC4:=Lib.hid fun wx (hv:Vr wx) => wRead_any s wx hv hsl
  have HC5:=Lib.hid fun wx (hv:Vr wx) => reportsRead_any s wx hv hsl
  obtain ⟨⟨L0,i0,f0⟩,hr⟩:∃ q,rsG repP repF s=q:=⟨_,rfl⟩
  simp only [hr] at HC4 HC5
  generalize strL s=SS at *
  have Hr:=Lib.hid (rsG_short hr)
  clear hs hS hr hsl
  have HCx:=Lib.hid (HC4.out _ (HVg.out _ _ HG5.out))
  clear HC4
  go_wp2_with fail
  refine HCx.out.mono ?_
  rintro e w6 ⟨v1,L1,i1,f1,he,rfl,hO,hb⟩
  injection he with e1 he
  injection he with e2 e3
  subst e1 e2 e3
  have HO6:=Lib.hid hO
  have HG6:=Lib.hid (HG5.out.below hb HG5.out.g.size HG5.out.s.lt)
  clear hO hb HCx HG5
  have HCx:=Lib.hid (HC5.out _ (HVg.out _ _ HG6.out))
  clear HC5
  go_wp2_with fail
  refine HCx.out.mono ?_
  rintro e w7 ⟨v2,L2,i2,f2,he,rfl,hO,hb⟩
  injection he with e1 he
  injection he with e2 e3
  subst e1 e2 e3
  have HO7:=Lib.hid hO
  have HP7:=Lib.hid (HO6.out.later hb)
  have HG7:=Lib.hid (HG6.out.below hb HG6.out.g.size HG6.out.s.lt)
  clear hO hb HCx HG6 HO6
  obtain ⟨ad1,c1,hv1, -⟩:=HP7.out.form
  obtain ⟨ad2,c2,hv2, -⟩:=HO7.out.form
  subst hv1 hv2
  have hll:L0.length≤1000000:=by have:=Hr.out;omega
  have HQ:=Lib.hid (equalRb_any ad1 ad2 L0.length c1 c2 L0 w7 HP7.out.rd HO7.out.rd rfl hll)
  generalize L0.length=nn at *
  have HB7:=Lib.hid (HBg.out _ _ HG7.out)
  clear HG7 hll HO7 HP7
  have hAd:=Lib.hid fun wx => flowing_any wx
  go_wp2_with fail
  refine HQ.out.mono ?_
  rintro e z ⟨rfl,hbz⟩
  have HBz:Hid (Below b w z):=Lib.hid (HB7.out.trans (hbz.mono (Nat.le_trans HBw.out HB7.out.size)))
  clear hbz
  go_wp2_with fail
  refine (hAd.out _).mono ?_
  rintro e z2 ⟨rfl,hb⟩
  have HE:Hid (Below b w z2):=Lib.hid (HBz.out.trans (hb.mono (by have:=HBz.out.size;have:=HBw.out;omega)))
  clear hb
  go_wp2_with fail
  go_ret
  exact ⟨by first | rfl | simp,by rw [Hbw.out];exact HE.out⟩
 ·obtain rfl:RS=⟨#[]⟩:=HRS1.out hF
  have hb1:(F != 0)=true:=by simpa using hF
  have hb2:(F == 0)=false:=by simpa using hF
  have HGz:=HG3
  clear HC3 HRS0 HRS1 HR3 HG3
  have HTb5:Hid (∀ w',(∃ k,Gen b u2 w' k)→Tabs w'):=Lib.hid fun w' ⟨k,hg2⟩ => (HVg.out w' _ (HGz.out.trans hg2)).tb
  go_wp2_with fail
  refine (reportString_gen b _ _ HGz.out.s (by omega) HTb5.out).mono ?_
  rintro e w5 ⟨S,rfl,hS,hg⟩
  have HG5:=Lib.hid (HGz.out.trans hg)
  clear hg HGz HTb5
  have hsl:S.data.toList.length≤1000000:=by
   have:S.data.toList.length=S.size:=by rw [Array.length_toList];rfl
   omega
  have hss:strL S.data.toList=S:=strL_of S
  obtain ⟨s,hs⟩:∃ q,S.data.toList=q:=⟨_,rfl⟩
  rw [hs] at hsl hss
  subst hss
  have HC4:=Lib.hid fun wx (hv:Vr wx) => wRead_any s wx hv hsl
  have HC5:=Lib.hid fun wx (hv:Vr wx) => reportsRead_any s wx hv hsl
  obtain ⟨⟨L0,i0,f0⟩,hr⟩:∃ q,rsG repP repF s=q:=⟨_,rfl⟩
  simp only [hr] at HC4 HC5
  generalize strL s=SS at *
  have Hr:=Lib.hid (rsG_short hr)
  clear hs hS hr hsl
  have HCx:=Lib.hid (HC4.out _ (HVg.out _ _ HG5.out))
  clear HC4
  go_wp2_with fail
  refine HCx.out.mono ?_
  rintro e w6 ⟨v1,L1,i1,f1,he,rfl,hO,hb⟩
  injection he with e1 he
  injection he with e2 e3
  subst e1 e2 e3
  have HO6:=Lib.hid hO
  have HG6:=Lib.hid (HG5.out.below hb HG5.out.g.size HG5.out.s.lt)
  clear hO hb HCx HG5
  have HCx:=Lib.hid (HC5.out _ (HVg.out _ _ HG6.out))
  clear HC5
  go_wp2_with fail
  refine HCx.out.mono ?_
  rintro e w7 ⟨v2,L2,i2,f2,he,rfl,hO,hb⟩
  injection he with e1 he
  injection he with e2 e3
  subst e1 e2 e3
  have HO7:=Lib.hid hO
  have HP7:=Lib.hid (HO6.out.later hb)
  have HG7:=Lib.hid (HG6.out.below hb HG6.out.g.size HG6.out.s.lt)
  clear hO hb HCx HG6 HO6
  obtain ⟨ad1,c1,hv1, -⟩:=HP7.out.form
  obtain ⟨ad2,c2,hv2, -⟩:=HO7.out.form
  subst hv1 hv2
  have hll:L0.length≤1000000:=by have:=Hr.out;omega
  have HQ:=Lib.hid (equalRb_any ad1 ad2 L0.length c1 c2 L0 w7 HP7.out.rd HO7.out.rd rfl hll)
  generalize L0.length=nn at *
  have HB7:=Lib.hid (HBg.out _ _ HG7.out)
  clear HG7 hll HO7 HP7
  have hAd:=Lib.hid fun wx => flowing_any wx
  go_wp2_with fail
  refine HQ.out.mono ?_
  rintro e z ⟨rfl,hbz⟩
  have HBz:Hid (Below b w z):=Lib.hid (HB7.out.trans (hbz.mono (Nat.le_trans HBw.out HB7.out.size)))
  clear hbz
  go_wp2_with fail
  refine (hAd.out _).mono ?_
  rintro e z2 ⟨rfl,hb⟩
  have HE:Hid (Below b w z2):=Lib.hid (HBz.out.trans (hb.mono (by have:=HBz.out.size;have:=HBw.out;omega)))
  clear hb
  go_wp2_with fail
  go_ret
  exact ⟨by first | rfl | simp,by rw [Hbw.out];exact HE.out⟩
def numsOf:DataW Unit→List Int
 | .agg l => l.map fun | .lit (.int _ z) => z | _ => 0
 | _ => []
theorem tabs_of {w:World} {L:List (String × DataW Unit)} {d64:DataW Unit} (h:laidMetH Tryz.prog L w)
  (e1 : L.filter (fun x => x.1 == "internal/strconv.uint64pow10") = [("internal/strconv.uint64pow10", Lib.tabData .u64 Lib.pow10Tab)])
  (e2 : L.filter (fun x => x.1 == "math/bits.deBruijn64tab") = [("math/bits.deBruijn64tab", d64)])
  (e3:d64=Lib.tabData .u8 (numsOf d64)) (e4:(numsOf d64).length=64) (e5:(numsOf d64).getD 15 0=4):Tabs w:=by
 refine ⟨?_,?_⟩
 ·have h1 := h.filter (fun x => x.1 == "internal/strconv.uint64pow10")
  rw [e1] at h1
  replace h1 : laidMet Tryz.prog [("internal/strconv.uint64pow10", Lib.tabData .u64 Lib.pow10Tab)] w := (laidMetH_iff.1 h1).1
  exact Lib.tabIs_of_head (g:=1) (t:=288) (e:=26) (n:=20) (by kernel_rfl) (by kernel_rfl) (by kernel_rfl) (by kernel_rfl) (by kernel_rfl) (by kernel_rfl) h1
 ·have h2 := h.filter (fun x => x.1 == "math/bits.deBruijn64tab")
  rw [e2,e3] at h2
  replace h2 : laidMet Tryz.prog [("math/bits.deBruijn64tab", Lib.tabData .u8 (numsOf d64))] w := (laidMetH_iff.1 h2).1
  have:=Lib.TabIs.cell (Lib.tabIs_of_head (g:=7) (t:=332) (e:=5) (n:=64) (by kernel_rfl) (by kernel_rfl) (by kernel_rfl) (by kernel_rfl) (by kernel_rfl) (by kernel_rfl) h2) (g:=7) (by kernel_rfl) 15 (by rw [e4];decide)
  rw [e5] at this
  exact this
theorem maxLen_of {w:World} (h:w.ShapedOpen Tryz.prog):∃ m,w.cell? ⟨0,0,none⟩=some (.int .i64 m):=(Tryz.laysM144).s1_3 w h
theorem row_err (u : TypeId) (h : Tryz.prog.typeName? 3 u = some "*errors.errorString") : u = 317 :=
 typeName_ptr_named (nm := "errors.errorString") (by rw [show "*" ++ "errors.errorString" = "*errors.errorString" by decide]; kernel_rfl) (by kernel_rfl) (by decide) u (by rw [show "*" ++ "errors.errorString" = "*errors.errorString" by decide]; exact h)
theorem es_of {w:World} {L:List (String × DataW Unit)} {t:List UInt8} (h:laidMetH Tryz.prog L w)
  (e : L.filter (fun x => x.1 == "strconv.ErrSyntax") = [("strconv.ErrSyntax", .iface "*errors.errorString" (.ptr (.agg [.lit (.string t)])))]) :
  ∃ ev,w.cell? ⟨2,0,none⟩=some ev∧(ev=.nilIface ∨ ∃ te pe,ev=.iface te pe):=by
 have h1 := h.filter (fun x => x.1 == "strconv.ErrSyntax")
 rw [e] at h1
 replace h1 : laidMet Tryz.prog [("strconv.ErrSyntax", .iface "*errors.errorString" (.ptr (.agg [.lit (.string t)])))] w := (laidMetH_iff.1 h1).1
 obtain ⟨a0,s0,hv0, -, -, -⟩:=laid_sentinel h1 (g:=2) (by kernel_rfl) (by kernel_rfl) Tryz.underlying133 row_err Tryz.underlying317 Tryz.underlying319 rfl rfl Tryz.underlying9 (by kernel_rfl) (by kernel_rfl)
 exact ⟨_,by have h0:=World.var?_cell (g:=2) (by kernel_rfl) hv0 0;simpa using h0,Or.inr ⟨_,_,rfl⟩⟩
theorem er_of {w:World} {L:List (String × DataW Unit)} {t:List UInt8} (h:laidMetH Tryz.prog L w)
  (e : L.filter (fun x => x.1 == "strconv.ErrRange") = [("strconv.ErrRange", .iface "*errors.errorString" (.ptr (.agg [.lit (.string t)])))]) :
  ∃ ev,w.cell? ⟨3,0,none⟩=some ev∧(ev=.nilIface ∨ ∃ te pe,ev=.iface te pe):=by
 have h1 := h.filter (fun x => x.1 == "strconv.ErrRange")
 rw [e] at h1
 replace h1 : laidMet Tryz.prog [("strconv.ErrRange", .iface "*errors.errorString" (.ptr (.agg [.lit (.string t)])))] w := (laidMetH_iff.1 h1).1
 obtain ⟨a0,s0,hv0, -, -, -⟩:=laid_sentinel h1 (g:=3) (by kernel_rfl) (by kernel_rfl) Tryz.underlying133 row_err Tryz.underlying317 Tryz.underlying319 rfl rfl Tryz.underlying9 (by kernel_rfl) (by kernel_rfl)
 exact ⟨_,by have h0:=World.var?_cell (g:=3) (by kernel_rfl) hv0 0;simpa using h0,Or.inr ⟨_,_,rfl⟩⟩
end Go.Proofs.YtgkhcdjoilgfmaaGreatDoor
