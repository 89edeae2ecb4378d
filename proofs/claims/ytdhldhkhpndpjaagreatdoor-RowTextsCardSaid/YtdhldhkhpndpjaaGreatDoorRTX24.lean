/-
  The law RowTexts: walked. Condition: the variables that the functions read.
  The tables of numerals, out of what a row lists: the listed tables lie as the program's text lays them.
  The variables that functions of strings and numbers read, out of what a row lists and of the world's shape.
-/
import Derived.Test.YtdhldhkhpndpjaaGreatDoorRTX21
import Derived.Test.YtdhldhkhpndpjaaGreatDoorRTX23
import Derived.Test.YtdhldhkhpndpjaaGreatDoorRTX3
import Derived.Test.YtdhldhkhpndpjaaGreatDoorRTX10
import Derived.Stop.LaidErr
set_option linter.unusedVariables false
set_option maxRecDepth 100000
set_option maxHeartbeats 8000000
namespace Go.Proofs.YtdhldhkhpndpjaaGreatDoor
open Go.RowKit Go Go.Sort
theorem portsF_po {L:List (Int × Int)} (h:portsF L=0):∀ p ∈ L,PoOk p:=fun p hp => by
 obtain ⟨i,hi,rfl⟩:=List.getElem_of_mem hp
 have h0:faultAt L i=0:=by
  unfold portsF at h
  cases e:((List.range L.length).map (faultAt L)).find? (· != 0) with
  | none =>
    have:=List.find?_eq_none.1 e (faultAt L i) (List.mem_map.2 ⟨i,List.mem_range.2 hi,rfl⟩)
    simpa using this
  | some v =>
    rw [e] at h
    have h2:=List.find?_some e
    simp at h h2
    exact absurd h h2
 unfold faultAt at h0
 have hg:L.getD i (0,0)=L[i]:=by rw [List.getD,List.getElem?_eq_getElem hi];rfl
 by_cases hb:badP (L.getD i (0,0))=true
 ·rw [if_pos hb] at h0;exact absurd h0 (by decide)
 ·rw [hg] at hb
  unfold badP outB at hb
  simp at hb
  exact ⟨by omega,by omega,by omega,by omega⟩
theorem rowsF_wr {L:List FR} (h:rowsF L=0) (hu:∀ r ∈ L,r.Us):∀ r ∈ L,r.Wr:=fun r hr => by
 obtain ⟨h1,h2,h3⟩:=rowsF_ok h (fun q hq => (hu q hq).un)
 have hz:=(rowsF_zero h).2 r hr
 have hq:portsG r.po=0∧outB r.p 0 255=false:=by
  unfold rowF at hz
  by_cases a1:outB r.p 0 255=true
  ·rw [if_pos a1] at hz;exact absurd hz (by decide)
  rw [if_neg a1] at hz
  by_cases a2:setF r.src ≠ 0
  ·rw [if_pos a2] at hz;exact absurd hz a2
  rw [if_neg a2] at hz
  by_cases a3:setF r.dst ≠ 0
  ·rw [if_pos a3] at hz;exact absurd hz a3
  rw [if_neg a3] at hz
  by_cases a4:r.src=[] ∨ r.dst=[] ∨ r.po=[]
  ·rw [if_pos a4] at hz;exact absurd hz (by decide)
  rw [if_neg a4] at hz
  by_cases a5:portsG r.po ≠ 0
  ·rw [if_pos a5] at hz;exact absurd hz a5
  exact ⟨by simpa using a5,by simpa using a1⟩
 have hp:0≤r.p∧r.p≤255:=by
  have:=hq.2
  unfold outB at this
  simp at this
  omega
 have hpo:portsF r.po=0:=by
  have h5:=hq.1
  unfold portsG at h5
  by_cases h6:1000 < r.po.length
  ·rw [if_pos h6] at h5;exact absurd h5 (by decide)
  ·rwa [if_neg h6] at h5
 exact ⟨h2 r hr,(h3 r hr).1,(h3 r hr).2.1,(h3 r hr).2.2,hp.1,hp.2,portsF_po hpo⟩
theorem rsG_len {s:List UInt8} {L:List FR} {i f:Int} (h:rsG rowP rowsF s=(L,i,f)):L.length≤300∧∀ r ∈ L,r.po.length≤1000:=by
 rw [rsG_eq] at h
 by_cases h1:200000 < s.length
 ·rw [if_pos h1] at h
  injection h with h
  subst h
  exact ⟨Nat.zero_le _,fun r hr => by cases hr⟩
 ·rw [if_neg h1] at h
  unfold rvG at h
  split at h
  ·injection h with h
   subst h
   exact ⟨Nat.zero_le _,fun r hr => by cases hr⟩
  ·split at h
   ·rename_i hs
    injection h with h
    subst h
    refine ⟨(rowsF_zero hs).1,fun r hr => ?_⟩
    have hz:=(rowsF_zero hs).2 r hr
    unfold rowF at hz
    by_cases a1:outB r.p 0 255=true
    ·rw [if_pos a1] at hz;exact absurd hz (by decide)
    rw [if_neg a1] at hz
    by_cases a2:setF r.src ≠ 0
    ·rw [if_pos a2] at hz;exact absurd hz a2
    rw [if_neg a2] at hz
    by_cases a3:setF r.dst ≠ 0
    ·rw [if_pos a3] at hz;exact absurd hz a3
    rw [if_neg a3] at hz
    by_cases a4:r.src=[] ∨ r.dst=[] ∨ r.po=[]
    ·rw [if_pos a4] at hz;exact absurd hz (by decide)
    rw [if_neg a4] at hz
    by_cases a5:portsG r.po ≠ 0
    ·rw [if_pos a5] at hz;exact absurd hz a5
    unfold portsG at a5
    by_cases h6:1000 < r.po.length
    ·rw [if_pos h6] at a5;exact absurd (by decide) a5
    ·omega
   ·injection h with h
    subst h
    exact ⟨Nat.zero_le _,fun r hr => by cases hr⟩
theorem law_RowTexts (ad:Option Addr) (n c:Nat) (w:World) (h:LawArg w ad n) (hv:Vr w) :
  Calls Tryz.prog 5 #[.slice ad n c] w (Ret (.bool true) w):=by
 have hS:=LawArg.strm (c:=c) h
 have HB0:Hid (Below w.heap.size w (w.alloc (.cells #[.slice ad n c, .int .i64 0] 25 (0,0)))):=Lib.hid (below_alloc (Below.refl _ _) _)
 have hblt:w.heap.size < (w.alloc (.cells #[.slice ad n c, .int .i64 0] 25 (0,0))).heap.size:=hS.lt
 have HS:=Lib.hid hS
 have HVw:Hid (∀ wx,Below w.heap.size w wx→Vr wx):=Lib.hid fun wx hb => hv.below hb
 clear h hS hv
 go_enter Tryz.func5,Tryz.ntmps5
 go_wp2_with fail
 generalize w.alloc (.cells #[.slice ad n c, .int .i64 0] 25 (0,0))=w0 at *
 obtain ⟨b,hbw⟩:∃ b,w.heap.size=b:=⟨_,rfl⟩
 rw [hbw] at hblt HS HB0 HVw ⊢
 have Hbw:=Lib.hid hbw
 have HBw:Hid (b≤w.heap.size):=Lib.hid (by omega)
 clear hbw
 have HBg:Hid (∀ w' k,Gen b w0 w' k→Below b w w'):=Lib.hid fun w' k hg => by
  have:=Gen.toBelowR (w:=w) hg (by rw [Hbw.out];exact HB0.out) (by rw [Hbw.out];exact Nat.le_refl _)
  rwa [Hbw.out] at this
 have HVg:Hid (∀ w' k,Gen b w0 w' k→Vr w'):=Lib.hid fun w' k hg => HVw.out w' (HBg.out w' k hg)
 refine (rowsS_gen b 0 4 _ HS.out (by omega) (by omega)).mono ?_
 rintro e w1 ⟨v,L,rfl,hO,hl,hu,hg⟩
 have HG1:=Lib.hid hg
 have HO1:=Lib.hid hO
 obtain ⟨la,lc,hv, -⟩:=hO.form
 subst hv
 obtain ⟨ln,hln⟩:∃ q,L.length=q:=⟨_,rfl⟩
 rw [hln] at HO1 hl ⊢
 have hwr:rowsF L=0→∀ r ∈ L,r.Wr:=fun h => rowsF_wr h hu
 have HC1:=Lib.hid fun wx (hr:FlO wx w0.heap.size (.slice la ln lc) L) (hv:Vr wx) => fText_any _ la ln lc L wx hr hln (by omega) hu hwr hv.tb
 have HC2:=Lib.hid fun wx (hr:FlO wx w0.heap.size (.slice la ln lc) L) => rowsFault_any la ln lc L wx hr.at hln (by omega) (fun r h => (hu r h).un)
 have HC3:=Lib.hid fun (hf:rowsF L=0) wx (hr:FlO wx w0.heap.size (.slice la ln lc) L) (hv:Vr wx) => rowLines_any la ln lc L wx hr.at hln (by omega) (hwr hf) (fun r hr => (hwr hf r hr).size (hu r hr).s1 (hu r hr).s2 (hu r hr).s3) hv.tb
 have HRS0:Hid (rowsF L=0→(if rowsF L=0 then strL (rowsT L) else ⟨#[]⟩)=strL (rowsT L)):=Lib.hid fun h => if_pos h
 have HRS1:Hid (rowsF L ≠ 0→(if rowsF L=0 then strL (rowsT L) else ⟨#[]⟩)=⟨#[]⟩):=Lib.hid fun h => if_neg h
 clear hg hO hl hu hln HS HB0 hwr
 obtain ⟨RS,hRS⟩:∃ q,(if rowsF L=0 then strL (rowsT L) else ⟨#[]⟩)=q:=⟨_,rfl⟩
 rw [hRS] at HC1 HRS0 HRS1
 clear hRS
 generalize strL (rowsT L)=TX at *
 generalize rowsF L=F at *
 have HR1:=HO1
 have HCx:=Lib.hid (HC1.out w1 HR1.out (HVg.out _ _ HG1.out))
 clear HC1 HO1
 go_wp2_with fail
 refine HCx.out.mono ?_
 rintro e u1 ⟨rfl,hb⟩
 have HR2:=Lib.hid (HR1.out.later hb)
 have HG2:=Lib.hid (HG1.out.below hb HG1.out.g.size HG1.out.s.lt)
 clear hb HCx HR1 HG1
 have HCx:=Lib.hid (HC2.out u1 HR2.out)
 clear HC2
 go_wp2_with fail
 refine HCx.out.mono ?_
 rintro e u2 ⟨rfl,hb⟩
 have HR3:=Lib.hid (HR2.out.later hb)
 have HG3:=Lib.hid (HG2.out.below hb HG2.out.g.size HG2.out.s.lt)
 clear hb HCx HR2 HG2
 by_cases hF:F=0
 ·subst hF
  obtain rfl:RS=TX:=HRS0.out rfl
  have HCx:=Lib.hid (HC3.out rfl u2 HR3.out (HVg.out _ _ HG3.out))
  clear HC3 HRS0 HRS1
  go_wp2_with fail
  refine HCx.out.mono ?_
  rintro e u3 ⟨rfl,hb⟩
  have HGz:=Lib.hid (HG3.out.below hb HG3.out.g.size HG3.out.s.lt)
  clear hb HCx HR3 HG3
  have HTb5:Hid (∀ w',(∃ k,Gen b u3 w' k)→Tabs w'):=Lib.hid fun w' ⟨k,hg2⟩ => (HVg.out w' _ (HGz.out.trans hg2)).tb
  go_wp2_with fail
  refine (rowString_gen b _ _ HGz.out.s (by omega) HTb5.out).mono ?_
  rintro e w5 ⟨S,rfl,hS,hg⟩
  have HG5:=Lib.hid (HGz.out.trans hg)
  clear hg HGz HTb5
  have hsl:S.data.toList.length≤1000000:=by
   have:S.data.toList.length=S.size:=by rw [Array.length_toList];rfl
   omega
  have hss:strL S.data.toList=S:=strL_of S
  obtain ⟨s,hs⟩:∃ q,S.data.toList=q:=⟨_,rfl⟩
  rw [hs] at hsl hss
  subst hss
  have HC4:=Lib.hid fun wx (hv:Vr wx) => fRead_any s wx hv hsl
  have HC5:=Lib.hid fun wx (hv:Vr wx) => rowsRead_any s wx hv hsl
  obtain ⟨⟨L0,i0,f0⟩,hr⟩:∃ q,rsG rowP rowsF s=q:=⟨_,rfl⟩
  simp only [hr] at HC4 HC5
  generalize strL s=SS at *
  have Hr:=Lib.hid (rsG_len hr)
  clear hs hS hr hsl
  have HCx:=Lib.hid (HC4.out _ (HVg.out _ _ HG5.out))
  clear HC4
  go_wp2_with fail
  refine HCx.out.mono ?_
  rintro e w6 ⟨v1,L1,i1,f1,he,rfl,hO,hb⟩
  injection he with e1 he
  injection he with e2 e3
  subst e1 e2 e3
  have HO6:=Lib.hid hO
  have HG6:=Lib.hid (HG5.out.below hb HG5.out.g.size HG5.out.s.lt)
  clear hO hb HCx HG5
  have HCx:=Lib.hid (HC5.out _ (HVg.out _ _ HG6.out))
  clear HC5
  go_wp2_with fail
  refine HCx.out.mono ?_
  rintro e w7 ⟨v2,L2,i2,f2,he,rfl,hO,hb⟩
  injection he with e1 he
  injection he with e2 e3
  subst e1 e2 e3
  have HO7:=Lib.hid hO
  have HP7:=Lib.hid (HO6.out.later hb)
  have HG7:=Lib.hid (HG6.out.below hb HG6.out.g.size HG6.out.s.lt)
  clear hO hb HCx HG6 HO6
  obtain ⟨ad1,c1,hv1, -⟩:=HP7.out.form
  obtain ⟨ad2,c2,hv2, -⟩:=HO7.out.form
  subst hv1 hv2
  have hll:L0.length≤1000000:=by have:=Hr.out.1;omega
  have HQ:=Lib.hid (sameRows_any _ _ ad1 ad2 L0.length c1 c2 L0 w7 HP7.out HO7.out rfl hll Hr.out.2)
  generalize L0.length=nn at *
  have HB7:=Lib.hid (HBg.out _ _ HG7.out)
  clear HG7 hll HO7 HP7
  have hAd:=Lib.hid fun wx => filtered_any wx
  go_wp2_with fail
  refine HQ.out.mono ?_
  rintro e z ⟨rfl,hbz⟩
  have HBz:Hid (Below b w z):=Lib.hid (HB7.out.trans (hbz.mono (Nat.le_trans HBw.out HB7.out.size)))
  clear hbz
  go_wp2_with fail
  refine (hAd.out _).mono ?_
  rintro e z2 ⟨rfl,hb⟩
  have HE:Hid (Below b w z2):=Lib.hid (HBz.out.trans (hb.mono (by have:=HBz.out.size;have:=HBw.out;omega)))
  clear hb
  go_wp2_with fail
  go_ret
  exact ⟨by first | rfl | simp,by rw [Hbw.out];exact HE.out⟩
 ·obtain rfl:RS=⟨#[]⟩:=HRS1.out hF
  have hb1:(F != 0)=true:=by simpa using hF
  have hb2:(F == 0)=false:=by simpa using hF
  have HGz:=HG3
  clear HC3 HRS0 HRS1 HR3 HG3
  have HTb5:Hid (∀ w',(∃ k,Gen b u2 w' k)→Tabs w'):=Lib.hid fun w' ⟨k,hg2⟩ => (HVg.out w' _ (HGz.out.trans hg2)).tb
  go_wp2_with fail
  refine (rowString_gen b _ _ HGz.out.s (by omega) HTb5.out).mono ?_
  rintro e w5 ⟨S,rfl,hS,hg⟩
  have HG5:=Lib.hid (HGz.out.trans hg)
  clear hg HGz HTb5
  have hsl:S.data.toList.length≤1000000:=by
   have:S.data.toList.length=S.size:=by rw [Array.length_toList];rfl
   omega
  have hss:strL S.data.toList=S:=strL_of S
  obtain ⟨s,hs⟩:∃ q,S.data.toList=q:=⟨_,rfl⟩
  rw [hs] at hsl hss
  subst hss
  have HC4:=Lib.hid fun wx (hv:Vr wx) => fRead_any s wx hv hsl
  have HC5:=Lib.hid fun wx (hv:Vr wx) => rowsRead_any s wx hv hsl
  obtain ⟨⟨L0,i0,f0⟩,hr⟩:∃ q,rsG rowP rowsF s=q:=⟨_,rfl⟩
  simp only [hr] at HC4 HC5
  generalize strL s=SS at *
  have Hr:=Lib.hid (rsG_len hr)
  clear hs hS hr hsl
  have HCx:=Lib.hid (HC4.out _ (HVg.out _ _ HG5.out))
  clear HC4
  go_wp2_with fail
  refine HCx.out.mono ?_
  rintro e w6 ⟨v1,L1,i1,f1,he,rfl,hO,hb⟩
  injection he with e1 he
  injection he with e2 e3
  subst e1 e2 e3
  have HO6:=Lib.hid hO
  have HG6:=Lib.hid (HG5.out.below hb HG5.out.g.size HG5.out.s.lt)
  clear hO hb HCx HG5
  have HCx:=Lib.hid (HC5.out _ (HVg.out _ _ HG6.out))
  clear HC5
  go_wp2_with fail
  refine HCx.out.mono ?_
  rintro e w7 ⟨v2,L2,i2,f2,he,rfl,hO,hb⟩
  injection he with e1 he
  injection he with e2 e3
  subst e1 e2 e3
  have HO7:=Lib.hid hO
  have HP7:=Lib.hid (HO6.out.later hb)
  have HG7:=Lib.hid (HG6.out.below hb HG6.out.g.size HG6.out.s.lt)
  clear hO hb HCx HG6 HO6
  obtain ⟨ad1,c1,hv1, -⟩:=HP7.out.form
  obtain ⟨ad2,c2,hv2, -⟩:=HO7.out.form
  subst hv1 hv2
  have hll:L0.length≤1000000:=by have:=Hr.out.1;omega
  have HQ:=Lib.hid (sameRows_any _ _ ad1 ad2 L0.length c1 c2 L0 w7 HP7.out HO7.out rfl hll Hr.out.2)
  generalize L0.length=nn at *
  have HB7:=Lib.hid (HBg.out _ _ HG7.out)
  clear HG7 hll HO7 HP7
  have hAd:=Lib.hid fun wx => filtered_any wx
  go_wp2_with fail
  refine HQ.out.mono ?_
  rintro e z ⟨rfl,hbz⟩
  have HBz:Hid (Below b w z):=Lib.hid (HB7.out.trans (hbz.mono (Nat.le_trans HBw.out HB7.out.size)))
  clear hbz
  go_wp2_with fail
  refine (hAd.out _).mono ?_
  rintro e z2 ⟨rfl,hb⟩
  have HE:Hid (Below b w z2):=Lib.hid (HBz.out.trans (hb.mono (by have:=HBz.out.size;have:=HBw.out;omega)))
  clear hb
  go_wp2_with fail
  go_ret
  exact ⟨by first | rfl | simp,by rw [Hbw.out];exact HE.out⟩
open Go.RowKit Go
def numsOf:DataW Unit→List Int
 | .agg l => l.map fun | .lit (.int _ z) => z | _ => 0
 | _ => []
theorem tabs_of {w:World} {L:List (String × DataW Unit)} {d64:DataW Unit} (h:laidMetH Tryz.prog L w)
  (e1 : L.filter (fun x => x.1 == "internal/strconv.uint64pow10") = [("internal/strconv.uint64pow10", Lib.tabData .u64 Lib.pow10Tab)])
  (e2 : L.filter (fun x => x.1 == "math/bits.deBruijn64tab") = [("math/bits.deBruijn64tab", d64)])
  (e3:d64=Lib.tabData .u8 (numsOf d64)) (e4:(numsOf d64).length=64) (e5:(numsOf d64).getD 15 0=4):Tabs w:=by
 refine ⟨?_,?_⟩
 ·have h1 := h.filter (fun x => x.1 == "internal/strconv.uint64pow10")
  rw [e1] at h1
  replace h1 : laidMet Tryz.prog [("internal/strconv.uint64pow10", Lib.tabData .u64 Lib.pow10Tab)] w := (laidMetH_iff.1 h1).1
  exact Lib.tabIs_of_head (g:=1) (t:=337) (e:=26) (n:=20) (by kernel_rfl) (by kernel_rfl) (by kernel_rfl) (by kernel_rfl) (by kernel_rfl) (by kernel_rfl) h1
 ·have h2 := h.filter (fun x => x.1 == "math/bits.deBruijn64tab")
  rw [e2,e3] at h2
  replace h2 : laidMet Tryz.prog [("math/bits.deBruijn64tab", Lib.tabData .u8 (numsOf d64))] w := (laidMetH_iff.1 h2).1
  have:=Lib.TabIs.cell (Lib.tabIs_of_head (g:=7) (t:=381) (e:=5) (n:=64) (by kernel_rfl) (by kernel_rfl) (by kernel_rfl) (by kernel_rfl) (by kernel_rfl) (by kernel_rfl) h2) (g:=7) (by kernel_rfl) 15 (by rw [e4];decide)
  rw [e5] at this
  exact this
theorem maxLen_of {w:World} (h:w.ShapedOpen Tryz.prog):∃ m,w.cell? ⟨0,0,none⟩=some (.int .i64 m):=(Tryz.laysM144).s1_3 w h
theorem row_err (u : TypeId) (h : Tryz.prog.typeName? 3 u = some "*errors.errorString") : u = 366 :=
 typeName_ptr_named (nm := "errors.errorString") (by rw [show "*" ++ "errors.errorString" = "*errors.errorString" by decide]; kernel_rfl) (by kernel_rfl) (by decide) u (by rw [show "*" ++ "errors.errorString" = "*errors.errorString" by decide]; exact h)
theorem es_of {w:World} {L:List (String × DataW Unit)} {t:List UInt8} (h:laidMetH Tryz.prog L w)
  (e : L.filter (fun x => x.1 == "strconv.ErrSyntax") = [("strconv.ErrSyntax", .iface "*errors.errorString" (.ptr (.agg [.lit (.string t)])))]) :
  ∃ ev,w.cell? ⟨2,0,none⟩=some ev∧(ev=.nilIface ∨ ∃ te pe,ev=.iface te pe):=by
 have h1 := h.filter (fun x => x.1 == "strconv.ErrSyntax")
 rw [e] at h1
 replace h1 : laidMet Tryz.prog [("strconv.ErrSyntax", .iface "*errors.errorString" (.ptr (.agg [.lit (.string t)])))] w := (laidMetH_iff.1 h1).1
 obtain ⟨a0,s0,hv0, -, -, -⟩:=laid_sentinel h1 (g:=2) (by kernel_rfl) (by kernel_rfl) Tryz.underlying139 row_err Tryz.underlying366 Tryz.underlying368 rfl rfl Tryz.underlying9 (by kernel_rfl) (by kernel_rfl)
 exact ⟨_,by have h0:=World.var?_cell (g:=2) (by kernel_rfl) hv0 0;simpa using h0,Or.inr ⟨_,_,rfl⟩⟩
theorem er_of {w:World} {L:List (String × DataW Unit)} {t:List UInt8} (h:laidMetH Tryz.prog L w)
  (e : L.filter (fun x => x.1 == "strconv.ErrRange") = [("strconv.ErrRange", .iface "*errors.errorString" (.ptr (.agg [.lit (.string t)])))]) :
  ∃ ev,w.cell? ⟨3,0,none⟩=some ev∧(ev=.nilIface ∨ ∃ te pe,ev=.iface te pe):=by
 have h1 := h.filter (fun x => x.1 == "strconv.ErrRange")
 rw [e] at h1
 replace h1 : laidMet Tryz.prog [("strconv.ErrRange", .iface "*errors.errorString" (.ptr (.agg [.lit (.string t)])))] w := (laidMetH_iff.1 h1).1
 obtain ⟨a0,s0,hv0, -, -, -⟩:=laid_sentinel h1 (g:=3) (by kernel_rfl) (by kernel_rfl) Tryz.underlying139 row_err Tryz.underlying366 Tryz.underlying368 rfl rfl Tryz.underlying9 (by kernel_rfl) (by kernel_rfl)
 exact ⟨_,by have h0:=World.var?_cell (g:=3) (by kernel_rfl) hv0 0;simpa using h0,Or.inr ⟨_,_,rfl⟩⟩
end Go.Proofs.YtdhldhkhpndpjaaGreatDoor
