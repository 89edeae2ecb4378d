/-
  The reference's see.
-/
import Derived.Test.YthebgfnaomgcnaaGreatFT12
set_option linter.unusedVariables false
set_option maxRecDepth 100000
set_option maxHeartbeats 8000000
namespace Go.Proofs.YthebgfnaomgcnaaGreat
open Go.RowKit Go
theorem qsee_any (T B : Nat) (rs : Value) (tv : TV) (most last : Int) (lst : Value) (L : List TK) (x : PV) (at_ : Int) (w : World) (hT : Blk w T 44 (tcC rs tv most last lst)) (hL : OwnK layTk w B lst L) (hB : B ≤ w.heap.size) (hok : TkOk L) (hs : L.length ≤ 1000) (ha : 0 ≤ at_ ∧ at_ < 345686400) :
  Calls Tryz.prog 50 #[.pointer (some ⟨T,0,none⟩), .agg x.cells, .int .i64 at_] w fun e w' => ∃ lst',e = .returned (.bool (seeM tv x.flow (x.fin || x.rst) at_ L).1) ∧ Blk w' T 44 (tcC rs tv most at_ lst') ∧ OwnK layTk w' B lst' (seeM tv x.flow (x.fin || x.rst) at_ L).2 ∧ Chg T lst lst' w w':=by
 obtain ⟨SM,hSM⟩ : ∃ SM,seeM tv x.flow (x.fin || x.rst) at_ L = SM:=⟨_,rfl⟩
 have HS : Hid (SM = match firstI (isF x.flow) (liveM tv at_ L) with | none => (false,liveM tv at_ L) | some i => (true,(liveM tv at_ L).modify i (seenM x.flow at_ (x.fin || x.rst)))):=Lib.hid hSM.symm
 rw [hSM]
 clear hSM
 obtain ⟨w0,hw0⟩ : ∃ w0,((w.alloc (.cells #[.pointer (some ⟨T,0,none⟩)] 41 (0,0))).alloc (.cells x.cells 52 (0,0))).alloc (.cells #[.int .i64 at_] 3 (0,0)) = w0:=⟨_,rfl⟩
 have hb0 : Below w.heap.size w w0:=by rw [← hw0];exact below_alloc (below_alloc (below_alloc (Below.refl _ _) _) _) _
 have K1 : Hid (Blk w0 w.heap.size 41 #[.pointer (some ⟨T,0,none⟩)]):=Lib.hid (by rw [← hw0];exact ((Blk.new w _ _).alloc _).alloc _)
 have K2 : Hid (Blk w0 (w.heap.size + 1) 52 x.cells):=Lib.hid (by
  rw [← hw0]
  have this:=Blk.new (w.alloc (.cells #[.pointer (some ⟨T,0,none⟩)] 41 (0,0))) 52 x.cells
  rw [World.size_alloc] at this
  exact this.alloc _)
 have K3 : Hid (Blk w0 (w.heap.size + 1 + 1) 3 #[.int .i64 at_]):=Lib.hid (by
  rw [← hw0]
  have this:=Blk.new ((w.alloc (.cells #[.pointer (some ⟨T,0,none⟩)] 41 (0,0))).alloc (.cells x.cells 52 (0,0))) 3 #[.int .i64 at_]
  rw [World.size_alloc,World.size_alloc] at this
  exact this)
 have HT0:=Lib.hid (hT.below hb0 hT.lt)
 have HL0:=Lib.hid (hL.later hb0)
 have HC0 : Hid (Chg T lst lst w w0):=Lib.hid (Chg.of_below hb0)
 have hTw:=hT.lt
 have hsz0:=hb0.size
 have HOK:=Lib.hid hok
 have HB0 : Hid (B ≤ w0.heap.size):=Lib.hid (Nat.le_trans hB hsz0)
 obtain ⟨ad,c,hlst, -⟩:=hL.form
 clear hT hL hok hb0
 have hXs : x.cells.size = 19:=rfl
 have hXz : (Tryz.prog.info? 52).map (·.size) = some 19:=by kernel_rfl
 have hXu : Tryz.prog.underlying 52 = some (.struct (Tryz.prog.fieldsOf 52)):=by kernel_rfl
 go_enter Tryz.func50,Tryz.ntmps50
 go_upto_region 1 with fail
 clear hw0
 generalize w.heap.size = p1 at *
 have k1:=K1.out.cell 0
 have k3:=K3.out.cell 0
 have t6:=HT0.out.cell 7
 have tf:=HT0.out.free
 simp [tcC] at k1 k3 t6
 go_upto_region 2 with fail
 have HT1 : Hid (Blk (w0.setCell ⟨T,7,none⟩ (.int .i64 at_)) T 44 (tcC rs tv most at_ lst)):=Lib.hid (HT0.out.set 7 _)
 have HL1 : Hid (OwnK layTk (w0.setCell ⟨T,7,none⟩ (.int .i64 at_)) B lst L):=Lib.hid (HL0.out.keepT (KeepT.of_set (S:=[44]) HT0.out (by simp)) (by decide))
 have HC1 : Hid (Chg T lst lst w (w0.setCell ⟨T,7,none⟩ (.int .i64 at_))):=Lib.hid (HC0.out.trans Chg.of_set)
 have K11:=Lib.hid (K1.out.far (show p1 ≠ T by omega) 7 (.int .i64 at_))
 have K21:=Lib.hid (K2.out.far (show p1 + 1 ≠ T by omega) 7 (.int .i64 at_))
 have K31:=Lib.hid (K3.out.far (show p1 + 1 + 1 ≠ T by omega) 7 (.int .i64 at_))
 have HB1 : Hid (B ≤ (w0.setCell ⟨T,7,none⟩ (.int .i64 at_)).heap.size):=Lib.hid (by simpa using HB0.out)
 have hs1 : p1 ≤ (w0.setCell ⟨T,7,none⟩ (.int .i64 at_)).heap.size:=by simpa using hsz0
 generalize (w0.setCell ⟨T,7,none⟩ (.int .i64 at_)) = w1 at *
 clear HT0 HL0 HC0 K1 K2 K3 HB0 k1 k3 t6 tf hsz0
 have egs : ∀ args w,(callFunc 94 args).run Tryz.prog w = .ok (.enter 94 args) w:=Go.Proofs.enters_of Tryz.func94 (by kernel_rfl) rfl
 have HDF : Hid (∀ wx,Below w1.heap.size w1 wx → Calls Tryz.prog 54 #[lst, .func (.func 94) #[] #[.pointer (some ⟨p1,0,none⟩), .pointer (some ⟨p1 + 1 + 1,0,none⟩)]] wx fun e w' => ∃ v,e = .returned v ∧ OwnK layTk w' B v (liveM tv at_ L) ∧ Grew wx w' lst v):=Lib.hid fun wx hb => by
  have hLx:=HL1.out.later hb
  rw [hlst] at hLx ⊢
  refine deleteFuncTk_any 94 #[.pointer (some ⟨p1,0,none⟩), .pointer (some ⟨p1 + 1 + 1,0,none⟩)] (fun x => endB tv x at_) B ad L.length c L wx hLx (by omega) (Nat.le_trans HB1.out hb.size) egs ?_
  intro y hy wz hk
  have hkz : KeepT [65] w1 wz:=(KeepT.of_below hb).trans hk
  exact qsee1_any T p1 (p1 + 1 + 1) rs most at_ lst tv y at_ wz (HT1.out.keepT hkz (by decide)) (K11.out.keepT hkz (by decide)) (K31.out.keepT hkz (by decide)) (HOK.out y hy) ha
 have HL1o:=Lib.hid HL1.out
 refine Lm.wp_region_lim 7 1 (seR T (p1 + 1 + 1) (.pointer (some ⟨T,6,none⟩)) lst B 94 #[.pointer (some ⟨p1,0,none⟩), .pointer (some ⟨p1 + 1 + 1,0,none⟩)] (liveM tv at_ L) w1) (seC w1) seS (fun i => if i = 6 then 1 else 0) (fun i => if i = 0 then 1 else 0)
  (by kernel_rfl) (by kernel_rfl) (by decide) (by kernel_rfl) seR_keep ⟨KeepT.of_below (below_drew (Below.refl _ _)),fun _ => below_drew (Below.refl _ _)⟩ ?hX
 case' hX => (apply Exists.intro;refine ⟨fun T => ?hA,?hob,?hend⟩)
 case hA =>
  simp only [setAll,List.take_succ_cons,List.take_zero,Act.put,List.setIfInBounds_toArray,List.set_cons_succ,List.set_cons_zero,Nat.reduceAdd]
  exact rfl
 case hob =>
  go_light
  refine ⟨?_,?_,?_,?_,?_,?_,?_,trivial⟩
  all_goals (intro TT wx n0 hC hn hp;dsimp only at hn ⊢;unfold Op1)
  ·have e0:=(K11.out.keepT hC.1 (by decide)).cell 0
   simp at e0
   go_simp
   first | exact ⟨rfl,hC, .inl ⟨rfl,rfl⟩⟩ | exact ⟨rfl, .inl ⟨rfl,rfl⟩⟩ | exact .inl ⟨rfl,rfl⟩
  ·have e0:=(K11.out.keepT hC.1 (by decide)).cell 0
   simp at e0
   go_simp
   first | exact ⟨rfl,hC, .inl ⟨rfl,rfl⟩⟩ | exact ⟨rfl, .inl ⟨rfl,rfl⟩⟩ | exact .inl ⟨rfl,rfl⟩
  ·obtain ⟨h0, -⟩:=hp
   have h0 : TT 1 = .pointer (some ⟨T,0,none⟩):=h0
   go_simp
   first | exact ⟨rfl,hC, .inl ⟨rfl,rfl⟩⟩ | exact ⟨rfl, .inl ⟨rfl,rfl⟩⟩ | exact .inl ⟨rfl,rfl⟩
  ·obtain ⟨h0, -⟩:=hp
   have h0 : TT 2 = .pointer (some ⟨T,0,none⟩):=h0
   go_simp
   first | exact ⟨rfl,hC, .inl ⟨rfl,rfl⟩⟩ | exact ⟨rfl, .inl ⟨rfl,rfl⟩⟩ | exact .inl ⟨rfl,rfl⟩
  ·obtain ⟨h0, -⟩:=hp
   have h0 : TT 3 = .pointer (some ⟨T,6,none⟩):=h0
   have e0:=(HT1.out.keepT hC.1 (by decide)).cell 6
   simp [tcC] at e0
   clear hlst
   go_simp
   first | exact ⟨rfl,hC, .inl ⟨rfl,rfl⟩⟩ | exact ⟨rfl, .inl ⟨rfl,rfl⟩⟩ | exact .inl ⟨rfl,rfl⟩
  ·go_simp
   first | exact ⟨rfl,hC, .inl ⟨rfl,rfl⟩⟩ | exact ⟨rfl, .inl ⟨rfl,rfl⟩⟩ | exact .inl ⟨rfl,rfl⟩
  ·obtain ⟨h0,h1, -⟩:=hp
   have h0 : TT 4 = lst:=h0
   have h1 : TT 5 = .func (.func 94) #[] #[.pointer (some ⟨p1,0,none⟩), .pointer (some ⟨p1 + 1 + 1,0,none⟩)]:=h1
   have hn0 : n0 = 0:=by simpa using hn
   subst hn0
   have hbx:=hC.2 rfl
   clear hlst
   go_simp
   refine (HDF.out wx hbx).mono ?_
   rintro e w5 ⟨v,rfl,hO,hG⟩
   have hG1 : Grew w1 w5 lst v:=(⟨⟨hbx.os,hbx.tape,hbx.output,hbx.size,fun j hj _ => hbx.block j hj⟩, .inl rfl⟩ : Grew w1 wx lst lst).trans hG
   exact ⟨_,rfl,⟨rfl,hO,hG1⟩,⟨KeepT.of_grew (E:=layTk) HL1o.out hG1 (by simp [layTk]),fun h => absurd h (by decide)⟩, .inr rfl⟩
 case hend =>
  intro TT w2 ⟨n0,hn0,hC,hR⟩
  have hT0 : TT 0 = .pointer (some ⟨T,0,none⟩):=hR 0 (by omega)
  obtain ⟨hn1,hO,hG⟩:=hR 6 (by omega)
  obtain ⟨lv,hlv⟩ : ∃ lv,TT 6 = lv:=⟨_,rfl⟩
  have hO : OwnK layTk w2 B (TT 6) (liveM tv at_ L):=hO
  have hG : Grew w1 w2 lst (TT 6):=hG
  rw [hlv] at hO hG
  have HO2:=Lib.hid hO
  have HT2:=Lib.hid (HT1.out.keepT hC.1 (by decide))
  have K12:=Lib.hid (K11.out.keepT hC.1 (by decide))
  have K22:=Lib.hid (K21.out.keepT hC.1 (by decide))
  have K32:=Lib.hid (K31.out.keepT hC.1 (by decide))
  have HC2 : Hid (Chg T lst lv w w2):=Lib.hid (HC1.out.trans (Chg.of_grew hG))
  have HB2 : Hid (B ≤ w2.heap.size):=Lib.hid (Nat.le_trans HB1.out hC.1.1)
  have hs2 : p1 ≤ w2.heap.size:=Nat.le_trans hs1 hC.1.1
  have HLv : Hid ((liveM tv at_ L).length ≤ 1000):=Lib.hid (Nat.le_trans (List.length_filter_le _ _) hs)
  have HOKv : Hid (TkOk (liveM tv at_ L)):=Lib.hid (lives_ok HOK.out)
  obtain ⟨a2,c2,hlv2, -⟩:=hO.form
  clear hR hn1 hO hG hC HDF HL1 HL1o HT1 K11 K21 K31 HC1 HB1 hlst egs HOK
  rw [hlv2] at HO2 HC2 hlv
  clear hlv2 lv
  generalize liveM tv at_ L = LV at *
  obtain ⟨n2,hn2⟩ : ∃ n,LV.length = n:=⟨_,rfl⟩
  have HN2:=Lib.hid hn2
  rw [hn2] at HO2 HC2 hlv HLv
  clear hn2
  have t7:=HT2.out.cell 6
  have tf:=HT2.out.free
  simp [tcC] at t7
  simp only [List.drop_succ_cons,List.drop_zero]
  have hT6 : TT 6 = .slice a2 n2 c2:=hlv
  clear hlv
  go_upto_region 3 with fail
  have HT3 : Hid (Blk (w2.setCell ⟨T,6,none⟩ (.slice a2 n2 c2)) T 44 (tcC rs tv most at_ (.slice a2 n2 c2))):=Lib.hid (HT2.out.set 6 _)
  have HO3:=Lib.hid (HO2.out.keepT (KeepT.of_set (S:=[44]) (i:=6) (v:=.slice a2 n2 c2) HT2.out (by simp)) (by decide))
  have HC3 : Hid (Chg T lst (.slice a2 n2 c2) w (w2.setCell ⟨T,6,none⟩ (.slice a2 n2 c2))):=Lib.hid (HC2.out.trans Chg.of_set)
  have K13:=Lib.hid (K12.out.far (show p1 ≠ T by omega) 6 (.slice a2 n2 c2))
  have K23:=Lib.hid (K22.out.far (show p1 + 1 ≠ T by omega) 6 (.slice a2 n2 c2))
  have K33:=Lib.hid (K32.out.far (show p1 + 1 + 1 ≠ T by omega) 6 (.slice a2 n2 c2))
  have hs3 : p1 ≤ (w2.setCell ⟨T,6,none⟩ (.slice a2 n2 c2)).heap.size:=by simpa using hs2
  generalize (w2.setCell ⟨T,6,none⟩ (.slice a2 n2 c2)) = w3 at *
  clear HT2 HO2 HC2 K12 K22 K32 HB2 t7 tf hT0 hT6 hs2 hs1
  have HR : Hid (w3.rangeAt (p1 + 1) 0 x.cells.toList):=Lib.hid (Blk.range K23.out)
  have HFl:=Lib.hid fun wx => flowFrom_any x wx
  have hFc : x.flow.cells.size = 9:=rfl
  obtain ⟨f,hf⟩ : ∃ f,x.flow = f:=⟨_,rfl⟩
  rw [hf] at HFl HS hFc
  obtain ⟨dn,hdn⟩ : ∃ dn,(x.fin || x.rst) = dn:=⟨_,rfl⟩
  have HDn:=Lib.hid hdn
  rw [hdn] at HS
  have q11:=K23.out.cell 11
  have q12:=K23.out.cell 12
  have hq : x.cells[11]? = some (.bool x.fin):=rfl
  have hq2 : x.cells[12]? = some (.bool x.rst):=rfl
  rw [hq] at q11
  rw [hq2] at q12
  have HQ:=Lib.hid (And.intro q11 q12)
  have HX11:=Lib.hid hq
  have HX12:=Lib.hid hq2
  clear hf hdn q11 q12 hq hq2
  generalize x.fin = xf at *
  generalize x.rst = xr at *
  generalize x.cells = X at *
  go_wp2_with (refine wpList_loadn rfl 52 _ rfl (p1 + 1) 0 rfl _ _ HR.out hXu rfl 19 hXz hXs ?_)
  refine (HFl.out _).mono ?_
  rintro e w4 ⟨rfl,hb⟩
  have HT4:=Lib.hid (HT3.out.below hb HT3.out.lt)
  have HO4:=Lib.hid (HO3.out.later hb)
  have HC4 : Hid (Chg T lst (.slice a2 n2 c2) w w4):=Lib.hid (HC3.out.trans (Chg.of_below hb))
  have K14:=Lib.hid (K13.out.below hb K13.out.lt)
  have K24:=Lib.hid (K23.out.below hb K23.out.lt)
  have K34:=Lib.hid (K33.out.below hb K33.out.lt)
  have hs4 : p1 ≤ w4.heap.size:=Nat.le_trans hs3 hb.size
  have hTl4 : T < w4.heap.size:=HT4.out.lt
  have HQ4 : Hid (w4.cell? ⟨p1 + 1,11,none⟩ = some (.bool xf) ∧ w4.cell? ⟨p1 + 1,12,none⟩ = some (.bool xr)):=Lib.hid ⟨(hb.cell (p:=⟨p1 + 1,11,none⟩) K23.out.lt).trans HQ.out.1,(hb.cell (p:=⟨p1 + 1,12,none⟩) K23.out.lt).trans HQ.out.2⟩
  clear hb HT3 HO3 HC3 K13 K23 K33 HQ HR HFl hs3
  have hFo : f.cells.all (·.oneCell') = true:=f.one
  have HFE:=Lib.hid (rfl : f.cells = f.cells)
  have hFz : (Tryz.prog.info? 63).map (·.size) = some 9:=by kernel_rfl
  obtain ⟨FC,hFC⟩ : ∃ FC,f.cells = FC:=⟨_,rfl⟩
  have HFC:=Lib.hid hFC
  rw [hFC] at hFo hFc
  rw [hFC]
  clear HFE hFC
  have HF5 : Hid (Blk (w4.alloc (.cells FC 63 (0,0))) w4.heap.size 63 FC):=Lib.hid (Blk.new w4 _ _)
  have hb5 : Below w4.heap.size w4 (w4.alloc (.cells FC 63 (0,0))):=below_alloc (Below.refl _ _) _
  have HT5:=Lib.hid (HT4.out.below hb5 HT4.out.lt)
  have HO5:=Lib.hid (HO4.out.later hb5)
  have HC5 : Hid (Chg T lst (.slice a2 n2 c2) w (w4.alloc (.cells FC 63 (0,0)))):=Lib.hid (HC4.out.trans (Chg.of_below hb5))
  have K15:=Lib.hid (K14.out.below hb5 K14.out.lt)
  have K25:=Lib.hid (K24.out.below hb5 K24.out.lt)
  have K35:=Lib.hid (K34.out.below hb5 K34.out.lt)
  have HQ5 : Hid ((w4.alloc (.cells FC 63 (0,0))).cell? ⟨p1 + 1,11,none⟩ = some (.bool xf) ∧ (w4.alloc (.cells FC 63 (0,0))).cell? ⟨p1 + 1,12,none⟩ = some (.bool xr)):=Lib.hid ⟨(hb5.cell (p:=⟨p1 + 1,11,none⟩) K24.out.lt).trans HQ4.out.1,(hb5.cell (p:=⟨p1 + 1,12,none⟩) K24.out.lt).trans HQ4.out.2⟩
  clear hb5 HT4 HO4 HC4 K14 K24 K34 HQ4
  go_upto_region 4 with (refine wpList_var FC 63 Tryz.zeroValue63 rfl rfl rfl _ _ rfl _ rfl ?_ ?_ 9 hFz hFc ?_ hFo ?_;all_goals (try rfl);try go_simp)
  generalize (w4.alloc (.cells FC 63 (0,0))) = w5 at *
  generalize w4.heap.size = F at *
  have k1:=K15.out.cell 0
  have t6:=HT5.out.cell 6
  simp [tcC] at k1 t6
  have hun : Tryz.prog.underlying 63 = some (.struct (Tryz.prog.fieldsOf 63)):=by kernel_rfl
  clear HQ5
  have hn2:=HLv.out
  go_wp2_with fail
  clear k1 t6
  go_loopw [30] (fun kv wr => ∃ i : Nat,i ≤ n2 ∧ kv = .int .i64 (i : Int) ∧ Hid (∀ (j : Nat) (y : TK),j < i → LV[j]? = some y → isF f y = false) ∧ Hid (Below w5.heap.size w5 wr)) (fun kv _ => n2 - (intOf kv).toNat)
  case atStart => exact ⟨0,Nat.zero_le _,rfl,Lib.hid fun j y hj => absurd hj (Nat.not_lt_zero _),Lib.hid (Below.refl _ _)⟩
  case round =>
   obtain ⟨i,hi,rfl,HN,HB⟩:=hrel
   by_cases hin : i < n2
   ·obtain ⟨y,hy⟩ : ∃ y,LV[i]? = some y:=⟨_,List.getElem?_eq_getElem (by rw [HN2.out];exact hin)⟩
    obtain ⟨g,c',hv,hBg, -⟩:=HO5.out.one (by rw [HN2.out];omega)
    injection hv with hv q1 q2
    subst hv
    clear q1 q2
    obtain ⟨yf,yl,ya,yd⟩:=y
    have hb:=HB.out
    have HT6:=Lib.hid (HT5.out.below hb HT5.out.lt)
    have HO6:=Lib.hid (HO5.out.later hb)
    have HC6 : Hid (Chg T lst (.slice (some ⟨g,0,none⟩) n2 c2) w wr):=Lib.hid (HC5.out.trans (Chg.of_below hb))
    have K16:=Lib.hid (K15.out.below hb K15.out.lt)
    have K26:=Lib.hid (K25.out.below hb K25.out.lt)
    have K36:=Lib.hid (K35.out.below hb K35.out.lt)
    have HF6:=Lib.hid (HF5.out.below hb HF5.out.lt)
    clear hb
    have hgr : g < wr.heap.size:=own_lt HO6.out g rfl
    have HR : Hid (wr.rangeAt g (i * 12) (layTk.enc ⟨yf,yl,ya,yd⟩)):=Lib.hid (HO6.out.cellsAt hy)
    have HX1 : Hid ((layTk.enc ⟨yf,yl,ya,yd⟩).toArray.size = 12):=Lib.hid (by simp [layTk.len];rfl)
    have HX2 : Hid ((layTk.enc ⟨yf,yl,ya,yd⟩).toArray.all (·.oneCell') = true):=Lib.hid (all_oneCell_toArray (layTk.one _))
    have HYX : Hid (layTk.enc ⟨yf,yl,ya,yd⟩ = yf.cells.toList ++ [.int .i64 yl, .bool ya, .bool yd]):=Lib.hid rfl
    have HY10 : Hid ((layTk.enc ⟨yf,yl,ya,yd⟩).toArray[10]? = some (.bool ya)):=Lib.hid rfl
    have HY11 : Hid ((layTk.enc ⟨yf,yl,ya,yd⟩).toArray[11]? = some (.bool yd)):=Lib.hid rfl
    have Hi:=Lib.hid hy
    clear hy
    generalize layTk.enc ⟨yf,yl,ya,yd⟩ = X1 at *
    have HPn : Hid (Blk (wr.alloc (.cells X1.toArray 65 (0,0))) wr.heap.size 65 X1.toArray):=Lib.hid (Blk.new wr _ _)
    have hb : Below wr.heap.size wr (wr.alloc (.cells X1.toArray 65 (0,0))):=below_alloc (Below.refl _ _) _
    have HBw : Hid (Below w5.heap.size w5 (wr.alloc (.cells X1.toArray 65 (0,0)))):=Lib.hid (below_alloc HB.out _)
    have hbxg : wr.heap.size ≠ g:=by omega
    have HTA:=Lib.hid (HT6.out.below hb HT6.out.lt)
    have HOA:=Lib.hid (HO6.out.later hb)
    have HCA : Hid (Chg T lst (.slice (some ⟨g,0,none⟩) n2 c2) w (wr.alloc (.cells X1.toArray 65 (0,0)))):=Lib.hid (HC6.out.trans (Chg.of_below hb))
    have K1A:=Lib.hid (K16.out.below hb K16.out.lt)
    have K2A:=Lib.hid (K26.out.below hb K26.out.lt)
    have K3A:=Lib.hid (K36.out.below hb K36.out.lt)
    have HFA:=Lib.hid (HF6.out.below hb HF6.out.lt)
    clear hb HT6 HO6 HC6 K16 K26 K36 HF6
    go_upto_region 7 with (first | (refine wpList_loadn rfl 65 _ rfl g (i * 12) rfl _ _ HR.out under_tk rfl 12 size_tk (by simpa using HX1.out) ?_;go_simp) | (refine wpList_var3 X1.toArray 65 Tryz.zeroValue65 rfl rfl rfl _ rfl rfl _ _ rfl _ rfl _ rfl ?_ ?_ 12 size_tk HX1.out ?_ HX2.out ?_;all_goals (try rfl);try go_simp))
    clear HR HX1 HX2 hgr
    generalize wr.alloc (.cells X1.toArray 65 (0,0)) = w6 at *
    generalize wr.heap.size = bx at *
    have HR1 : Hid (∀ w',(∃ n : Later w6,w' = n.1) → w'.rangeAt bx 0 yf.cells.toList):=Lib.hid fun w' ⟨n,e⟩ => by
     subst e
     exact range_below (range_left (B:=[.int .i64 yl, .bool ya, .bool yd]) (by rw [← HYX.out];exact Blk.range HPn.out)) n.2 HPn.out.lt
    have HR2 : Hid (∀ w',(∃ n : Later w6,w' = n.1) → w'.rangeAt F 0 FC.toList):=Lib.hid fun w' ⟨n,e⟩ => by
     subst e
     exact range_below (Blk.range HFA.out) n.2 HFA.out.lt
    have hE:=fun wz => neq_flow yf f wz
    have hG:=fun a b wz => eqGuard_flow .neq a b yf f wz (.inr rfl)
    have hE2:=fun wz => neq_flow yf f.back wz
    have hG2:=fun a b wz => eqGuard_flow .neq a b yf f.back wz (.inr rfl)
    have hBk:=fun x : Later w6 => Calls.later x (backOf_any f x.1)
    rw [HFC.out] at hE hG hBk
    have hYs : yf.cells.size = 9:=rfl
    have HIF : Hid (isF f ⟨yf,yl,ya,yd⟩ = (yf.eqB f || yf.eqB f.back)):=Lib.hid rfl
    have HSF : Hid (isF f ⟨yf,yl,ya,yd⟩ = true → SM = (true,LV.set i ⟨yf,at_,ya || !yf.eqB f,yd || dn⟩)):=Lib.hid fun h => by
     rw [HS.out,firstI_some Hi.out h HN.out]
     show (true,LV.modify i (seenM f at_ dn)) = _
     rw [modify_set _ Hi.out]
     rfl
    generalize yf.cells = YC at *
    generalize f.back.cells = BC at *
    generalize yf.eqB f = E1 at *
    generalize yf.eqB f.back = E2 at *
    cases E1
    ·cases E2
     ·have HN2' : Hid (∀ (j : Nat) (y : TK),j < i + 1 → LV[j]? = some y → isF f y = false):=Lib.hid fun j y hj hy => by
       rcases Nat.lt_or_ge j i with h1 | h1
       ·exact HN.out j y h1 hy
       ·obtain rfl : j = i:=by omega
        rw [Hi.out] at hy
        exact (Option.some.inj hy) ▸ HIF.out
      refine wp_region_later (by kernel_rfl) (by kernel_rfl) ?_
      repeat (first | go_big_quiet_step ((go_at_call 95;exact hBk _)) | (refine wpQuiet_loadn rfl 63 _ rfl _ rfl bx 0 rfl YC HR1.out _ hun rfl 9 hFz hYs ?_;go_simp) | (refine wpQuiet_loadn rfl 63 _ rfl _ rfl F 0 rfl FC HR2.out _ hun rfl 9 hFz hFc ?_;go_simp))
      refine wpQuiet_nil ?_
      first
       | (rintro w7 ⟨m7,hm7⟩
          have hb : Below w6.heap.size w6 w7:=by rw [hm7];exact m7.2
          clear hm7 m7)
       | (rintro ⟨w7,hb⟩
          simp only)
      have HB7:=Lib.hid (HBw.out.trans (hb.mono HBw.out.size))
      clear hb hE hE2 hG hG2 hBk HR1 HR2 HTA HOA HCA K1A K2A K3A HFA HPn HSF HIF Hi
      go_wp2_with fail
      exact ⟨⟨i + 1,by omega,by go_num,HN2',HB7⟩,by simp [intOf];omega⟩
     ·have HSF:=Lib.hid (HSF.out (by rw [HIF.out];rfl))
      refine wp_region_later (by kernel_rfl) (by kernel_rfl) ?_
      repeat (first | go_big_quiet_step ((go_at_call 95;exact hBk _)) | (refine wpQuiet_loadn rfl 63 _ rfl _ rfl bx 0 rfl YC HR1.out _ hun rfl 9 hFz hYs ?_;go_simp) | (refine wpQuiet_loadn rfl 63 _ rfl _ rfl F 0 rfl FC HR2.out _ hun rfl 9 hFz hFc ?_;go_simp))
      refine wpQuiet_nil ?_
      first
       | (rintro w7 ⟨m7,hm7⟩
          have hb : Below w6.heap.size w6 w7:=by rw [hm7];exact m7.2
          clear hm7 m7)
       | (rintro ⟨w7,hb⟩
          simp only)
      have HB7:=Lib.hid (HBw.out.trans (hb.mono HBw.out.size))
      have HT7:=Lib.hid (HTA.out.below hb HTA.out.lt)
      have HO7:=Lib.hid (HOA.out.later hb)
      have HC7 : Hid (Chg T lst (.slice (some ⟨g,0,none⟩) n2 c2) w w7):=Lib.hid (HCA.out.trans (Chg.of_below hb))
      have K17:=Lib.hid (K1A.out.below hb K1A.out.lt)
      have K27:=Lib.hid (K2A.out.below hb K2A.out.lt)
      have K37:=Lib.hid (K3A.out.below hb K3A.out.lt)
      have HF7:=Lib.hid (HFA.out.below hb HFA.out.lt)
      have HP7:=Lib.hid (HPn.out.below hb HPn.out.lt)
      clear hb HTA HOA HCA K1A K2A K3A HFA HPn
      clear hE2 hG2 hBk HR1 HR2 HB7 HN HB HIF HS HBw
      go_upto_region 8 with fail
      have k1:=K17.out.cell 0
      have k3:=K37.out.cell 0
      have t6:=HT7.out.cell 6
      simp [tcC] at k1 k3 t6
      have m1:=Later.cell_of k1
      have m3:=Later.cell_of k3
      have m6:=Later.cell_of t6
      refine wp_region_later_tail 6 (by kernel_rfl) (by kernel_rfl) ?_
      simp only [List.take_succ_cons,List.take_zero,List.drop_succ_cons,List.drop_zero]
      repeat (go_big_quiet_step (fail))
      refine wpQuiet_nil ?_
      first
       | (rintro w8 ⟨m8,hm8⟩
          have hb : Below w7.heap.size w7 w8:=by rw [hm8];exact m8.2
          clear hm8 m8)
       | (rintro ⟨w8,hb⟩
          simp only)
      clear k1 k3 t6 m1 m3 m6
      have HT8:=Lib.hid (HT7.out.below hb HT7.out.lt)
      have HO8:=Lib.hid (HO7.out.later hb)
      have HC8 : Hid (Chg T lst (.slice (some ⟨g,0,none⟩) n2 c2) w w8):=Lib.hid (HC7.out.trans (Chg.of_below hb))
      have K18:=Lib.hid (K17.out.below hb K17.out.lt)
      have K28:=Lib.hid (K27.out.below hb K27.out.lt)
      have K38:=Lib.hid (K37.out.below hb K37.out.lt)
      have HF8:=Lib.hid (HF7.out.below hb HF7.out.lt)
      have HP8:=Lib.hid (HP7.out.below hb HP7.out.lt)
      clear hb HT7 HO7 HC7 K17 K27 K37 HF7 HP7
      have g9 : w8.cell? ⟨g,i * 12 + 9,none⟩ = some (.int .i64 yl):=HO8.out.get (j:=9) Hi.out rfl
      have gf:=HO8.out.frozen
      go_upto_region 9 with fail
      have hk : KeepT [65] w8 (w8.setCell ⟨g,i * 12 + 9,none⟩ (.int .i64 at_)):=KeepT.of_rowset HO8.out _ _
      have HO9 : Hid (OwnK layTk (w8.setCell ⟨g,i * 12 + 9,none⟩ (.int .i64 at_)) B (.slice (some ⟨g,0,none⟩) n2 c2) (LV.set i ⟨yf,at_,ya,yd⟩)):=Lib.hid (by
       have:=HO8.out.setTo (j:=9) (y:=⟨yf,at_,ya,yd⟩) (v:=.int .i64 at_) Hi.out (by decide) rfl
       first | exact this | rwa [List.set_set] at this)
      have HT9:=Lib.hid (HT8.out.keepT hk (by decide))
      have HC9 : Hid (Chg T lst (.slice (some ⟨g,0,none⟩) n2 c2) w (w8.setCell ⟨g,i * 12 + 9,none⟩ (.int .i64 at_))):=Lib.hid (HC8.out.trans Chg.of_row)
      have K19:=Lib.hid (K18.out.keepT hk (by decide))
      have K29:=Lib.hid (K28.out.keepT hk (by decide))
      have K39:=Lib.hid (K38.out.keepT hk (by decide))
      have HF9:=Lib.hid (HF8.out.keepT hk (by decide))
      have HP9:=Lib.hid (HP8.out.far hbxg (i * 12 + 9) (.int .i64 at_))
      have Hi9 : Hid ((LV.set i ⟨yf,at_,ya,yd⟩)[i]? = some ⟨yf,at_,ya,yd⟩):=Lib.hid (List.getElem?_set_self (by rw [HN2.out];exact hin))
      generalize (w8.setCell ⟨g,i * 12 + 9,none⟩ (.int .i64 at_)) = w9 at *
      clear hk HT8 HO8 HC8 K18 K28 K38 HF8 HP8
      clear g9 gf
      have k1:=K19.out.cell 0
      have k3:=K39.out.cell 0
      have t6:=HT9.out.cell 6
      simp [tcC] at k1 k3 t6
      have m1:=Later.cell_of k1
      have m3:=Later.cell_of k3
      have m6:=Later.cell_of t6
      have p10:=HP9.out.cell 10
      rw [HY10.out] at p10
      have mp10:=Later.cell_of p10
      have HR1 : Hid (∀ w',(∃ n : Later w9,w' = n.1) → w'.rangeAt bx 0 YC.toList):=Lib.hid fun w' ⟨n,e⟩ => by
       subst e
       exact range_below (range_left (B:=[.int .i64 yl, .bool ya, .bool yd]) (by rw [HYX.out] at HP9;exact Blk.range HP9.out)) n.2 HP9.out.lt
      have HR2 : Hid (∀ w',(∃ n : Later w9,w' = n.1) → w'.rangeAt F 0 FC.toList):=Lib.hid fun w' ⟨n,e⟩ => by
       subst e
       exact range_below (Blk.range HF9.out) n.2 HF9.out.lt
      refine wp_region_later_tail 13 (by kernel_rfl) (by kernel_rfl) ?_
      simp only [List.take_succ_cons,List.take_zero,List.drop_succ_cons,List.drop_zero]
      cases ya
      all_goals
       repeat (first | go_big_quiet_step (fail) | (refine wpQuiet_loadn rfl 63 _ rfl _ rfl bx 0 rfl YC HR1.out _ hun rfl 9 hFz hYs ?_;go_simp) | (refine wpQuiet_loadn rfl 63 _ rfl _ rfl F 0 rfl FC HR2.out _ hun rfl 9 hFz hFc ?_;go_simp))
       refine wpQuiet_nil ?_
       first
        | (rintro w10 ⟨m10,hm10⟩
           have hb : Below w9.heap.size w9 w10:=by rw [hm10];exact m10.2
           clear hm10 m10)
        | (rintro ⟨w10,hb⟩
           simp only)
      ·clear k1 k3 t6 m1 m3 m6
       clear p10 mp10 HR1 HR2
       have HT10:=Lib.hid (HT9.out.below hb HT9.out.lt)
       have HO10:=Lib.hid (HO9.out.later hb)
       have HC10 : Hid (Chg T lst (.slice (some ⟨g,0,none⟩) n2 c2) w w10):=Lib.hid (HC9.out.trans (Chg.of_below hb))
       have K110:=Lib.hid (K19.out.below hb K19.out.lt)
       have K210:=Lib.hid (K29.out.below hb K29.out.lt)
       have K310:=Lib.hid (K39.out.below hb K39.out.lt)
       have HF10:=Lib.hid (HF9.out.below hb HF9.out.lt)
       have HP10:=Lib.hid (HP9.out.below hb HP9.out.lt)
       clear hb HT9 HO9 HC9 K19 K29 K39 HF9 HP9
       have g10 : w10.cell? ⟨g,i * 12 + 10,none⟩ = some (.bool false):=HO10.out.get (j:=10) Hi9.out rfl
       have gf:=HO10.out.frozen
       go_upto_region 10 with fail
       have hk : KeepT [65] w10 (w10.setCell ⟨g,i * 12 + 10,none⟩ (.bool true)):=KeepT.of_rowset HO10.out _ _
       have HO11 : Hid (OwnK layTk (w10.setCell ⟨g,i * 12 + 10,none⟩ (.bool true)) B (.slice (some ⟨g,0,none⟩) n2 c2) (LV.set i ⟨yf,at_,true,yd⟩)):=Lib.hid (by
        have:=HO10.out.setTo (j:=10) (y:=⟨yf,at_,true,yd⟩) (v:=.bool true) Hi9.out (by decide) rfl
        first | exact this | rwa [List.set_set] at this)
       have HT11:=Lib.hid (HT10.out.keepT hk (by decide))
       have HC11 : Hid (Chg T lst (.slice (some ⟨g,0,none⟩) n2 c2) w (w10.setCell ⟨g,i * 12 + 10,none⟩ (.bool true))):=Lib.hid (HC10.out.trans Chg.of_row)
       have K111:=Lib.hid (K110.out.keepT hk (by decide))
       have K211:=Lib.hid (K210.out.keepT hk (by decide))
       have K311:=Lib.hid (K310.out.keepT hk (by decide))
       have HF11:=Lib.hid (HF10.out.keepT hk (by decide))
       have HP11:=Lib.hid (HP10.out.far hbxg (i * 12 + 10) (.bool true))
       have Hi11 : Hid ((LV.set i ⟨yf,at_,true,yd⟩)[i]? = some ⟨yf,at_,true,yd⟩):=Lib.hid (List.getElem?_set_self (by rw [HN2.out];exact hin))
       generalize (w10.setCell ⟨g,i * 12 + 10,none⟩ (.bool true)) = w11 at *
       clear hk HT10 HO10 HC10 K110 K210 K310 HF10 HP10
       clear g10 gf
       have k1:=K111.out.cell 0
       have k3:=K311.out.cell 0
       have t6:=HT11.out.cell 6
       simp [tcC] at k1 k3 t6
       have m1:=Later.cell_of k1
       have m3:=Later.cell_of k3
       have m6:=Later.cell_of t6
       have p11:=HP11.out.cell 11
       have x11:=K211.out.cell 11
       have x12:=K211.out.cell 12
       rw [HY11.out] at p11
       rw [HX11.out] at x11
       rw [HX12.out] at x12
       have mp11:=Later.cell_of p11
       have mx11:=Later.cell_of x11
       have mx12:=Later.cell_of x12
       refine wp_region_later_tail 15 (by kernel_rfl) (by kernel_rfl) ?_
       simp only [List.take_succ_cons,List.take_zero,List.drop_succ_cons,List.drop_zero]
       have HSM : Hid (∀ d : Bool,d = (yd || dn) → SM = (true,LV.set i ⟨yf,at_,true,d⟩)):=Lib.hid fun d hd => by rw [HSF.out,hd];rfl
       clear HSF
       cases yd
       ·cases xf
        ·cases xr
         ·repeat (go_big_quiet_step (fail))
          refine wpQuiet_nil ?_
          first
           | (rintro w12 ⟨m12,hm12⟩
              have hb : Below w11.heap.size w11 w12:=by rw [hm12];exact m12.2
              clear hm12 m12)
           | (rintro ⟨w12,hb⟩
              simp only)
          clear k1 k3 t6 m1 m3 m6
          clear p11 x11 x12 mp11 mx11 mx12
          have HT12:=Lib.hid (HT11.out.below hb HT11.out.lt)
          have HO12:=Lib.hid (HO11.out.later hb)
          have HC12 : Hid (Chg T lst (.slice (some ⟨g,0,none⟩) n2 c2) w w12):=Lib.hid (HC11.out.trans (Chg.of_below hb))
          have K112:=Lib.hid (K111.out.below hb K111.out.lt)
          have K212:=Lib.hid (K211.out.below hb K211.out.lt)
          have K312:=Lib.hid (K311.out.below hb K311.out.lt)
          have HF12:=Lib.hid (HF11.out.below hb HF11.out.lt)
          have HP12:=Lib.hid (HP11.out.below hb HP11.out.lt)
          clear hb HT11 HO11 HC11 K111 K211 K311 HF11 HP11
          have g11 : w12.cell? ⟨g,i * 12 + 11,none⟩ = some (.bool _):=HO12.out.get (j:=11) Hi11.out rfl
          have gf:=HO12.out.frozen
          have hSM:=HSM.out false (by first | rfl | (rw [← HDn.out];rfl))
          clear HSM
          go_upto_region 11 with fail
          have HTin : Hid (∀ v : Value,Blk (w12.setCell ⟨g,i * 12 + 11,none⟩ v) T 44 (tcC rs tv most at_ (.slice (some ⟨g,0,none⟩) n2 c2))):=Lib.hid fun v => HT12.out.keepT (KeepT.of_rowset HO12.out _ _) (by decide)
          have HCin : Hid (∀ v : Value,Chg T lst (.slice (some ⟨g,0,none⟩) n2 c2) w (w12.setCell ⟨g,i * 12 + 11,none⟩ v)):=Lib.hid fun v => HC12.out.trans Chg.of_row
          have HFin : Hid (∀ d : Bool,OwnK layTk (w12.setCell ⟨g,i * 12 + 11,none⟩ (.bool d)) B (.slice (some ⟨g,0,none⟩) n2 c2) (LV.set i ⟨yf,at_,true,d⟩)):=Lib.hid fun d => by
           have:=HO12.out.setTo (j:=11) (y:=⟨yf,at_,true,d⟩) (v:=.bool d) Hi11.out (by decide) rfl
           rwa [List.set_set] at this
          subst hSM
          clear HT12 HO12 HC12 K112 K212 K312 HF12 HP12 g11 gf
          go_wp2_with fail
          go_ret
          first | exact ⟨rfl,_,HTin.out _,HFin.out _,HCin.out _⟩ | exact ⟨_,rfl,HTin.out _,HFin.out _,HCin.out _⟩
         ·repeat (go_big_quiet_step (fail))
          refine wpQuiet_nil ?_
          first
           | (rintro w12 ⟨m12,hm12⟩
              have hb : Below w11.heap.size w11 w12:=by rw [hm12];exact m12.2
              clear hm12 m12)
           | (rintro ⟨w12,hb⟩
              simp only)
          clear k1 k3 t6 m1 m3 m6
          clear p11 x11 x12 mp11 mx11 mx12
          have HT12:=Lib.hid (HT11.out.below hb HT11.out.lt)
          have HO12:=Lib.hid (HO11.out.later hb)
          have HC12 : Hid (Chg T lst (.slice (some ⟨g,0,none⟩) n2 c2) w w12):=Lib.hid (HC11.out.trans (Chg.of_below hb))
          have K112:=Lib.hid (K111.out.below hb K111.out.lt)
          have K212:=Lib.hid (K211.out.below hb K211.out.lt)
          have K312:=Lib.hid (K311.out.below hb K311.out.lt)
          have HF12:=Lib.hid (HF11.out.below hb HF11.out.lt)
          have HP12:=Lib.hid (HP11.out.below hb HP11.out.lt)
          clear hb HT11 HO11 HC11 K111 K211 K311 HF11 HP11
          have g11 : w12.cell? ⟨g,i * 12 + 11,none⟩ = some (.bool _):=HO12.out.get (j:=11) Hi11.out rfl
          have gf:=HO12.out.frozen
          have hSM:=HSM.out true (by first | rfl | (rw [← HDn.out];rfl))
          clear HSM
          go_upto_region 11 with fail
          have HTin : Hid (∀ v : Value,Blk (w12.setCell ⟨g,i * 12 + 11,none⟩ v) T 44 (tcC rs tv most at_ (.slice (some ⟨g,0,none⟩) n2 c2))):=Lib.hid fun v => HT12.out.keepT (KeepT.of_rowset HO12.out _ _) (by decide)
          have HCin : Hid (∀ v : Value,Chg T lst (.slice (some ⟨g,0,none⟩) n2 c2) w (w12.setCell ⟨g,i * 12 + 11,none⟩ v)):=Lib.hid fun v => HC12.out.trans Chg.of_row
          have HFin : Hid (∀ d : Bool,OwnK layTk (w12.setCell ⟨g,i * 12 + 11,none⟩ (.bool d)) B (.slice (some ⟨g,0,none⟩) n2 c2) (LV.set i ⟨yf,at_,true,d⟩)):=Lib.hid fun d => by
           have:=HO12.out.setTo (j:=11) (y:=⟨yf,at_,true,d⟩) (v:=.bool d) Hi11.out (by decide) rfl
           rwa [List.set_set] at this
          subst hSM
          clear HT12 HO12 HC12 K112 K212 K312 HF12 HP12 g11 gf
          go_wp2_with fail
          go_ret
          first | exact ⟨rfl,_,HTin.out _,HFin.out _,HCin.out _⟩ | exact ⟨_,rfl,HTin.out _,HFin.out _,HCin.out _⟩
        ·repeat (go_big_quiet_step (fail))
         refine wpQuiet_nil ?_
         first
          | (rintro w12 ⟨m12,hm12⟩
             have hb : Below w11.heap.size w11 w12:=by rw [hm12];exact m12.2
             clear hm12 m12)
          | (rintro ⟨w12,hb⟩
             simp only)
         clear k1 k3 t6 m1 m3 m6
         clear p11 x11 x12 mp11 mx11 mx12
         have HT12:=Lib.hid (HT11.out.below hb HT11.out.lt)
         have HO12:=Lib.hid (HO11.out.later hb)
         have HC12 : Hid (Chg T lst (.slice (some ⟨g,0,none⟩) n2 c2) w w12):=Lib.hid (HC11.out.trans (Chg.of_below hb))
         have K112:=Lib.hid (K111.out.below hb K111.out.lt)
         have K212:=Lib.hid (K211.out.below hb K211.out.lt)
         have K312:=Lib.hid (K311.out.below hb K311.out.lt)
         have HF12:=Lib.hid (HF11.out.below hb HF11.out.lt)
         have HP12:=Lib.hid (HP11.out.below hb HP11.out.lt)
         clear hb HT11 HO11 HC11 K111 K211 K311 HF11 HP11
         have g11 : w12.cell? ⟨g,i * 12 + 11,none⟩ = some (.bool _):=HO12.out.get (j:=11) Hi11.out rfl
         have gf:=HO12.out.frozen
         have hSM:=HSM.out true (by first | rfl | (rw [← HDn.out];rfl))
         clear HSM
         go_upto_region 11 with fail
         have HTin : Hid (∀ v : Value,Blk (w12.setCell ⟨g,i * 12 + 11,none⟩ v) T 44 (tcC rs tv most at_ (.slice (some ⟨g,0,none⟩) n2 c2))):=Lib.hid fun v => HT12.out.keepT (KeepT.of_rowset HO12.out _ _) (by decide)
         have HCin : Hid (∀ v : Value,Chg T lst (.slice (some ⟨g,0,none⟩) n2 c2) w (w12.setCell ⟨g,i * 12 + 11,none⟩ v)):=Lib.hid fun v => HC12.out.trans Chg.of_row
         have HFin : Hid (∀ d : Bool,OwnK layTk (w12.setCell ⟨g,i * 12 + 11,none⟩ (.bool d)) B (.slice (some ⟨g,0,none⟩) n2 c2) (LV.set i ⟨yf,at_,true,d⟩)):=Lib.hid fun d => by
          have:=HO12.out.setTo (j:=11) (y:=⟨yf,at_,true,d⟩) (v:=.bool d) Hi11.out (by decide) rfl
          rwa [List.set_set] at this
         subst hSM
         clear HT12 HO12 HC12 K112 K212 K312 HF12 HP12 g11 gf
         go_wp2_with fail
         go_ret
         first | exact ⟨rfl,_,HTin.out _,HFin.out _,HCin.out _⟩ | exact ⟨_,rfl,HTin.out _,HFin.out _,HCin.out _⟩
       ·repeat (go_big_quiet_step (fail))
        refine wpQuiet_nil ?_
        first
         | (rintro w12 ⟨m12,hm12⟩
            have hb : Below w11.heap.size w11 w12:=by rw [hm12];exact m12.2
            clear hm12 m12)
         | (rintro ⟨w12,hb⟩
            simp only)
        clear k1 k3 t6 m1 m3 m6
        clear p11 x11 x12 mp11 mx11 mx12
        have HT12:=Lib.hid (HT11.out.below hb HT11.out.lt)
        have HO12:=Lib.hid (HO11.out.later hb)
        have HC12 : Hid (Chg T lst (.slice (some ⟨g,0,none⟩) n2 c2) w w12):=Lib.hid (HC11.out.trans (Chg.of_below hb))
        have K112:=Lib.hid (K111.out.below hb K111.out.lt)
        have K212:=Lib.hid (K211.out.below hb K211.out.lt)
        have K312:=Lib.hid (K311.out.below hb K311.out.lt)
        have HF12:=Lib.hid (HF11.out.below hb HF11.out.lt)
        have HP12:=Lib.hid (HP11.out.below hb HP11.out.lt)
        clear hb HT11 HO11 HC11 K111 K211 K311 HF11 HP11
        have g11 : w12.cell? ⟨g,i * 12 + 11,none⟩ = some (.bool _):=HO12.out.get (j:=11) Hi11.out rfl
        have gf:=HO12.out.frozen
        have hSM:=HSM.out true (by first | rfl | (rw [← HDn.out];rfl))
        clear HSM
        go_upto_region 11 with fail
        have HTin : Hid (∀ v : Value,Blk (w12.setCell ⟨g,i * 12 + 11,none⟩ v) T 44 (tcC rs tv most at_ (.slice (some ⟨g,0,none⟩) n2 c2))):=Lib.hid fun v => HT12.out.keepT (KeepT.of_rowset HO12.out _ _) (by decide)
        have HCin : Hid (∀ v : Value,Chg T lst (.slice (some ⟨g,0,none⟩) n2 c2) w (w12.setCell ⟨g,i * 12 + 11,none⟩ v)):=Lib.hid fun v => HC12.out.trans Chg.of_row
        have HFin : Hid (∀ d : Bool,OwnK layTk (w12.setCell ⟨g,i * 12 + 11,none⟩ (.bool d)) B (.slice (some ⟨g,0,none⟩) n2 c2) (LV.set i ⟨yf,at_,true,d⟩)):=Lib.hid fun d => by
         have:=HO12.out.setTo (j:=11) (y:=⟨yf,at_,true,d⟩) (v:=.bool d) Hi11.out (by decide) rfl
         rwa [List.set_set] at this
        subst hSM
        clear HT12 HO12 HC12 K112 K212 K312 HF12 HP12 g11 gf
        go_wp2_with fail
        go_ret
        first | exact ⟨rfl,_,HTin.out _,HFin.out _,HCin.out _⟩ | exact ⟨_,rfl,HTin.out _,HFin.out _,HCin.out _⟩
      ·clear k1 k3 t6 m1 m3 m6
       clear p10 mp10 HR1 HR2
       have HT10:=Lib.hid (HT9.out.below hb HT9.out.lt)
       have HO10:=Lib.hid (HO9.out.later hb)
       have HC10 : Hid (Chg T lst (.slice (some ⟨g,0,none⟩) n2 c2) w w10):=Lib.hid (HC9.out.trans (Chg.of_below hb))
       have K110:=Lib.hid (K19.out.below hb K19.out.lt)
       have K210:=Lib.hid (K29.out.below hb K29.out.lt)
       have K310:=Lib.hid (K39.out.below hb K39.out.lt)
       have HF10:=Lib.hid (HF9.out.below hb HF9.out.lt)
       have HP10:=Lib.hid (HP9.out.below hb HP9.out.lt)
       clear hb HT9 HO9 HC9 K19 K29 K39 HF9 HP9
       have g10 : w10.cell? ⟨g,i * 12 + 10,none⟩ = some (.bool true):=HO10.out.get (j:=10) Hi9.out rfl
       have gf:=HO10.out.frozen
       go_upto_region 10 with fail
       have hk : KeepT [65] w10 (w10.setCell ⟨g,i * 12 + 10,none⟩ (.bool true)):=KeepT.of_rowset HO10.out _ _
       have HO11 : Hid (OwnK layTk (w10.setCell ⟨g,i * 12 + 10,none⟩ (.bool true)) B (.slice (some ⟨g,0,none⟩) n2 c2) (LV.set i ⟨yf,at_,true,yd⟩)):=Lib.hid (by
        have:=HO10.out.setTo (j:=10) (y:=⟨yf,at_,true,yd⟩) (v:=.bool true) Hi9.out (by decide) rfl
        first | exact this | rwa [List.set_set] at this)
       have HT11:=Lib.hid (HT10.out.keepT hk (by decide))
       have HC11 : Hid (Chg T lst (.slice (some ⟨g,0,none⟩) n2 c2) w (w10.setCell ⟨g,i * 12 + 10,none⟩ (.bool true))):=Lib.hid (HC10.out.trans Chg.of_row)
       have K111:=Lib.hid (K110.out.keepT hk (by decide))
       have K211:=Lib.hid (K210.out.keepT hk (by decide))
       have K311:=Lib.hid (K310.out.keepT hk (by decide))
       have HF11:=Lib.hid (HF10.out.keepT hk (by decide))
       have HP11:=Lib.hid (HP10.out.far hbxg (i * 12 + 10) (.bool true))
       have Hi11 : Hid ((LV.set i ⟨yf,at_,true,yd⟩)[i]? = some ⟨yf,at_,true,yd⟩):=Lib.hid (List.getElem?_set_self (by rw [HN2.out];exact hin))
       generalize (w10.setCell ⟨g,i * 12 + 10,none⟩ (.bool true)) = w11 at *
       clear hk HT10 HO10 HC10 K110 K210 K310 HF10 HP10
       clear g10 gf
       have k1:=K111.out.cell 0
       have k3:=K311.out.cell 0
       have t6:=HT11.out.cell 6
       simp [tcC] at k1 k3 t6
       have m1:=Later.cell_of k1
       have m3:=Later.cell_of k3
       have m6:=Later.cell_of t6
       have p11:=HP11.out.cell 11
       have x11:=K211.out.cell 11
       have x12:=K211.out.cell 12
       rw [HY11.out] at p11
       rw [HX11.out] at x11
       rw [HX12.out] at x12
       have mp11:=Later.cell_of p11
       have mx11:=Later.cell_of x11
       have mx12:=Later.cell_of x12
       refine wp_region_later_tail 15 (by kernel_rfl) (by kernel_rfl) ?_
       simp only [List.take_succ_cons,List.take_zero,List.drop_succ_cons,List.drop_zero]
       have HSM : Hid (∀ d : Bool,d = (yd || dn) → SM = (true,LV.set i ⟨yf,at_,true,d⟩)):=Lib.hid fun d hd => by rw [HSF.out,hd];rfl
       clear HSF
       cases yd
       ·cases xf
        ·cases xr
         ·repeat (go_big_quiet_step (fail))
          refine wpQuiet_nil ?_
          first
           | (rintro w12 ⟨m12,hm12⟩
              have hb : Below w11.heap.size w11 w12:=by rw [hm12];exact m12.2
              clear hm12 m12)
           | (rintro ⟨w12,hb⟩
              simp only)
          clear k1 k3 t6 m1 m3 m6
          clear p11 x11 x12 mp11 mx11 mx12
          have HT12:=Lib.hid (HT11.out.below hb HT11.out.lt)
          have HO12:=Lib.hid (HO11.out.later hb)
          have HC12 : Hid (Chg T lst (.slice (some ⟨g,0,none⟩) n2 c2) w w12):=Lib.hid (HC11.out.trans (Chg.of_below hb))
          have K112:=Lib.hid (K111.out.below hb K111.out.lt)
          have K212:=Lib.hid (K211.out.below hb K211.out.lt)
          have K312:=Lib.hid (K311.out.below hb K311.out.lt)
          have HF12:=Lib.hid (HF11.out.below hb HF11.out.lt)
          have HP12:=Lib.hid (HP11.out.below hb HP11.out.lt)
          clear hb HT11 HO11 HC11 K111 K211 K311 HF11 HP11
          have g11 : w12.cell? ⟨g,i * 12 + 11,none⟩ = some (.bool _):=HO12.out.get (j:=11) Hi11.out rfl
          have gf:=HO12.out.frozen
          have hSM:=HSM.out false (by first | rfl | (rw [← HDn.out];rfl))
          clear HSM
          go_upto_region 11 with fail
          have HTin : Hid (∀ v : Value,Blk (w12.setCell ⟨g,i * 12 + 11,none⟩ v) T 44 (tcC rs tv most at_ (.slice (some ⟨g,0,none⟩) n2 c2))):=Lib.hid fun v => HT12.out.keepT (KeepT.of_rowset HO12.out _ _) (by decide)
          have HCin : Hid (∀ v : Value,Chg T lst (.slice (some ⟨g,0,none⟩) n2 c2) w (w12.setCell ⟨g,i * 12 + 11,none⟩ v)):=Lib.hid fun v => HC12.out.trans Chg.of_row
          have HFin : Hid (∀ d : Bool,OwnK layTk (w12.setCell ⟨g,i * 12 + 11,none⟩ (.bool d)) B (.slice (some ⟨g,0,none⟩) n2 c2) (LV.set i ⟨yf,at_,true,d⟩)):=Lib.hid fun d => by
           have:=HO12.out.setTo (j:=11) (y:=⟨yf,at_,true,d⟩) (v:=.bool d) Hi11.out (by decide) rfl
           rwa [List.set_set] at this
          subst hSM
          clear HT12 HO12 HC12 K112 K212 K312 HF12 HP12 g11 gf
          go_wp2_with fail
          go_ret
          first | exact ⟨rfl,_,HTin.out _,HFin.out _,HCin.out _⟩ | exact ⟨_,rfl,HTin.out _,HFin.out _,HCin.out _⟩
         ·repeat (go_big_quiet_step (fail))
          refine wpQuiet_nil ?_
          first
           | (rintro w12 ⟨m12,hm12⟩
              have hb : Below w11.heap.size w11 w12:=by rw [hm12];exact m12.2
              clear hm12 m12)
           | (rintro ⟨w12,hb⟩
              simp only)
          clear k1 k3 t6 m1 m3 m6
          clear p11 x11 x12 mp11 mx11 mx12
          have HT12:=Lib.hid (HT11.out.below hb HT11.out.lt)
          have HO12:=Lib.hid (HO11.out.later hb)
          have HC12 : Hid (Chg T lst (.slice (some ⟨g,0,none⟩) n2 c2) w w12):=Lib.hid (HC11.out.trans (Chg.of_below hb))
          have K112:=Lib.hid (K111.out.below hb K111.out.lt)
          have K212:=Lib.hid (K211.out.below hb K211.out.lt)
          have K312:=Lib.hid (K311.out.below hb K311.out.lt)
          have HF12:=Lib.hid (HF11.out.below hb HF11.out.lt)
          have HP12:=Lib.hid (HP11.out.below hb HP11.out.lt)
          clear hb HT11 HO11 HC11 K111 K211 K311 HF11 HP11
          have g11 : w12.cell? ⟨g,i * 12 + 11,none⟩ = some (.bool _):=HO12.out.get (j:=11) Hi11.out rfl
          have gf:=HO12.out.frozen
          have hSM:=HSM.out true (by first | rfl | (rw [← HDn.out];rfl))
          clear HSM
          go_upto_region 11 with fail
          have HTin : Hid (∀ v : Value,Blk (w12.setCell ⟨g,i * 12 + 11,none⟩ v) T 44 (tcC rs tv most at_ (.slice (some ⟨g,0,none⟩) n2 c2))):=Lib.hid fun v => HT12.out.keepT (KeepT.of_rowset HO12.out _ _) (by decide)
          have HCin : Hid (∀ v : Value,Chg T lst (.slice (some ⟨g,0,none⟩) n2 c2) w (w12.setCell ⟨g,i * 12 + 11,none⟩ v)):=Lib.hid fun v => HC12.out.trans Chg.of_row
          have HFin : Hid (∀ d : Bool,OwnK layTk (w12.setCell ⟨g,i * 12 + 11,none⟩ (.bool d)) B (.slice (some ⟨g,0,none⟩) n2 c2) (LV.set i ⟨yf,at_,true,d⟩)):=Lib.hid fun d => by
           have:=HO12.out.setTo (j:=11) (y:=⟨yf,at_,true,d⟩) (v:=.bool d) Hi11.out (by decide) rfl
           rwa [List.set_set] at this
          subst hSM
          clear HT12 HO12 HC12 K112 K212 K312 HF12 HP12 g11 gf
          go_wp2_with fail
          go_ret
          first | exact ⟨rfl,_,HTin.out _,HFin.out _,HCin.out _⟩ | exact ⟨_,rfl,HTin.out _,HFin.out _,HCin.out _⟩
        ·repeat (go_big_quiet_step (fail))
         refine wpQuiet_nil ?_
         first
          | (rintro w12 ⟨m12,hm12⟩
             have hb : Below w11.heap.size w11 w12:=by rw [hm12];exact m12.2
             clear hm12 m12)
          | (rintro ⟨w12,hb⟩
             simp only)
         clear k1 k3 t6 m1 m3 m6
         clear p11 x11 x12 mp11 mx11 mx12
         have HT12:=Lib.hid (HT11.out.below hb HT11.out.lt)
         have HO12:=Lib.hid (HO11.out.later hb)
         have HC12 : Hid (Chg T lst (.slice (some ⟨g,0,none⟩) n2 c2) w w12):=Lib.hid (HC11.out.trans (Chg.of_below hb))
         have K112:=Lib.hid (K111.out.below hb K111.out.lt)
         have K212:=Lib.hid (K211.out.below hb K211.out.lt)
         have K312:=Lib.hid (K311.out.below hb K311.out.lt)
         have HF12:=Lib.hid (HF11.out.below hb HF11.out.lt)
         have HP12:=Lib.hid (HP11.out.below hb HP11.out.lt)
         clear hb HT11 HO11 HC11 K111 K211 K311 HF11 HP11
         have g11 : w12.cell? ⟨g,i * 12 + 11,none⟩ = some (.bool _):=HO12.out.get (j:=11) Hi11.out rfl
         have gf:=HO12.out.frozen
         have hSM:=HSM.out true (by first | rfl | (rw [← HDn.out];rfl))
         clear HSM
         go_upto_region 11 with fail
         have HTin : Hid (∀ v : Value,Blk (w12.setCell ⟨g,i * 12 + 11,none⟩ v) T 44 (tcC rs tv most at_ (.slice (some ⟨g,0,none⟩) n2 c2))):=Lib.hid fun v => HT12.out.keepT (KeepT.of_rowset HO12.out _ _) (by decide)
         have HCin : Hid (∀ v : Value,Chg T lst (.slice (some ⟨g,0,none⟩) n2 c2) w (w12.setCell ⟨g,i * 12 + 11,none⟩ v)):=Lib.hid fun v => HC12.out.trans Chg.of_row
         have HFin : Hid (∀ d : Bool,OwnK layTk (w12.setCell ⟨g,i * 12 + 11,none⟩ (.bool d)) B (.slice (some ⟨g,0,none⟩) n2 c2) (LV.set i ⟨yf,at_,true,d⟩)):=Lib.hid fun d => by
          have:=HO12.out.setTo (j:=11) (y:=⟨yf,at_,true,d⟩) (v:=.bool d) Hi11.out (by decide) rfl
          rwa [List.set_set] at this
         subst hSM
         clear HT12 HO12 HC12 K112 K212 K312 HF12 HP12 g11 gf
         go_wp2_with fail
         go_ret
         first | exact ⟨rfl,_,HTin.out _,HFin.out _,HCin.out _⟩ | exact ⟨_,rfl,HTin.out _,HFin.out _,HCin.out _⟩
       ·repeat (go_big_quiet_step (fail))
        refine wpQuiet_nil ?_
        first
         | (rintro w12 ⟨m12,hm12⟩
            have hb : Below w11.heap.size w11 w12:=by rw [hm12];exact m12.2
            clear hm12 m12)
         | (rintro ⟨w12,hb⟩
            simp only)
        clear k1 k3 t6 m1 m3 m6
        clear p11 x11 x12 mp11 mx11 mx12
        have HT12:=Lib.hid (HT11.out.below hb HT11.out.lt)
        have HO12:=Lib.hid (HO11.out.later hb)
        have HC12 : Hid (Chg T lst (.slice (some ⟨g,0,none⟩) n2 c2) w w12):=Lib.hid (HC11.out.trans (Chg.of_below hb))
        have K112:=Lib.hid (K111.out.below hb K111.out.lt)
        have K212:=Lib.hid (K211.out.below hb K211.out.lt)
        have K312:=Lib.hid (K311.out.below hb K311.out.lt)
        have HF12:=Lib.hid (HF11.out.below hb HF11.out.lt)
        have HP12:=Lib.hid (HP11.out.below hb HP11.out.lt)
        clear hb HT11 HO11 HC11 K111 K211 K311 HF11 HP11
        have g11 : w12.cell? ⟨g,i * 12 + 11,none⟩ = some (.bool _):=HO12.out.get (j:=11) Hi11.out rfl
        have gf:=HO12.out.frozen
        have hSM:=HSM.out true (by first | rfl | (rw [← HDn.out];rfl))
        clear HSM
        go_upto_region 11 with fail
        have HTin : Hid (∀ v : Value,Blk (w12.setCell ⟨g,i * 12 + 11,none⟩ v) T 44 (tcC rs tv most at_ (.slice (some ⟨g,0,none⟩) n2 c2))):=Lib.hid fun v => HT12.out.keepT (KeepT.of_rowset HO12.out _ _) (by decide)
        have HCin : Hid (∀ v : Value,Chg T lst (.slice (some ⟨g,0,none⟩) n2 c2) w (w12.setCell ⟨g,i * 12 + 11,none⟩ v)):=Lib.hid fun v => HC12.out.trans Chg.of_row
        have HFin : Hid (∀ d : Bool,OwnK layTk (w12.setCell ⟨g,i * 12 + 11,none⟩ (.bool d)) B (.slice (some ⟨g,0,none⟩) n2 c2) (LV.set i ⟨yf,at_,true,d⟩)):=Lib.hid fun d => by
         have:=HO12.out.setTo (j:=11) (y:=⟨yf,at_,true,d⟩) (v:=.bool d) Hi11.out (by decide) rfl
         rwa [List.set_set] at this
        subst hSM
        clear HT12 HO12 HC12 K112 K212 K312 HF12 HP12 g11 gf
        go_wp2_with fail
        go_ret
        first | exact ⟨rfl,_,HTin.out _,HFin.out _,HCin.out _⟩ | exact ⟨_,rfl,HTin.out _,HFin.out _,HCin.out _⟩
    ·have HSF:=Lib.hid (HSF.out (by rw [HIF.out];rfl))
     refine wp_region_later (by kernel_rfl) (by kernel_rfl) ?_
     repeat (first | go_big_quiet_step ((go_at_call 95;exact hBk _)) | (refine wpQuiet_loadn rfl 63 _ rfl _ rfl bx 0 rfl YC HR1.out _ hun rfl 9 hFz hYs ?_;go_simp) | (refine wpQuiet_loadn rfl 63 _ rfl _ rfl F 0 rfl FC HR2.out _ hun rfl 9 hFz hFc ?_;go_simp))
     refine wpQuiet_nil ?_
     first
      | (rintro w7 ⟨m7,hm7⟩
         have hb : Below w6.heap.size w6 w7:=by rw [hm7];exact m7.2
         clear hm7 m7)
      | (rintro ⟨w7,hb⟩
         simp only)
     have HB7:=Lib.hid (HBw.out.trans (hb.mono HBw.out.size))
     have HT7:=Lib.hid (HTA.out.below hb HTA.out.lt)
     have HO7:=Lib.hid (HOA.out.later hb)
     have HC7 : Hid (Chg T lst (.slice (some ⟨g,0,none⟩) n2 c2) w w7):=Lib.hid (HCA.out.trans (Chg.of_below hb))
     have K17:=Lib.hid (K1A.out.below hb K1A.out.lt)
     have K27:=Lib.hid (K2A.out.below hb K2A.out.lt)
     have K37:=Lib.hid (K3A.out.below hb K3A.out.lt)
     have HF7:=Lib.hid (HFA.out.below hb HFA.out.lt)
     have HP7:=Lib.hid (HPn.out.below hb HPn.out.lt)
     clear hb HTA HOA HCA K1A K2A K3A HFA HPn
     clear hE2 hG2 hBk HR1 HR2 HB7 HN HB HIF HS HBw
     go_upto_region 8 with fail
     have k1:=K17.out.cell 0
     have k3:=K37.out.cell 0
     have t6:=HT7.out.cell 6
     simp [tcC] at k1 k3 t6
     have m1:=Later.cell_of k1
     have m3:=Later.cell_of k3
     have m6:=Later.cell_of t6
     refine wp_region_later_tail 6 (by kernel_rfl) (by kernel_rfl) ?_
     simp only [List.take_succ_cons,List.take_zero,List.drop_succ_cons,List.drop_zero]
     repeat (go_big_quiet_step (fail))
     refine wpQuiet_nil ?_
     first
      | (rintro w8 ⟨m8,hm8⟩
         have hb : Below w7.heap.size w7 w8:=by rw [hm8];exact m8.2
         clear hm8 m8)
      | (rintro ⟨w8,hb⟩
         simp only)
     clear k1 k3 t6 m1 m3 m6
     have HT8:=Lib.hid (HT7.out.below hb HT7.out.lt)
     have HO8:=Lib.hid (HO7.out.later hb)
     have HC8 : Hid (Chg T lst (.slice (some ⟨g,0,none⟩) n2 c2) w w8):=Lib.hid (HC7.out.trans (Chg.of_below hb))
     have K18:=Lib.hid (K17.out.below hb K17.out.lt)
     have K28:=Lib.hid (K27.out.below hb K27.out.lt)
     have K38:=Lib.hid (K37.out.below hb K37.out.lt)
     have HF8:=Lib.hid (HF7.out.below hb HF7.out.lt)
     have HP8:=Lib.hid (HP7.out.below hb HP7.out.lt)
     clear hb HT7 HO7 HC7 K17 K27 K37 HF7 HP7
     have g9 : w8.cell? ⟨g,i * 12 + 9,none⟩ = some (.int .i64 yl):=HO8.out.get (j:=9) Hi.out rfl
     have gf:=HO8.out.frozen
     go_upto_region 9 with fail
     have hk : KeepT [65] w8 (w8.setCell ⟨g,i * 12 + 9,none⟩ (.int .i64 at_)):=KeepT.of_rowset HO8.out _ _
     have HO9 : Hid (OwnK layTk (w8.setCell ⟨g,i * 12 + 9,none⟩ (.int .i64 at_)) B (.slice (some ⟨g,0,none⟩) n2 c2) (LV.set i ⟨yf,at_,ya,yd⟩)):=Lib.hid (by
      have:=HO8.out.setTo (j:=9) (y:=⟨yf,at_,ya,yd⟩) (v:=.int .i64 at_) Hi.out (by decide) rfl
      first | exact this | rwa [List.set_set] at this)
     have HT9:=Lib.hid (HT8.out.keepT hk (by decide))
     have HC9 : Hid (Chg T lst (.slice (some ⟨g,0,none⟩) n2 c2) w (w8.setCell ⟨g,i * 12 + 9,none⟩ (.int .i64 at_))):=Lib.hid (HC8.out.trans Chg.of_row)
     have K19:=Lib.hid (K18.out.keepT hk (by decide))
     have K29:=Lib.hid (K28.out.keepT hk (by decide))
     have K39:=Lib.hid (K38.out.keepT hk (by decide))
     have HF9:=Lib.hid (HF8.out.keepT hk (by decide))
     have HP9:=Lib.hid (HP8.out.far hbxg (i * 12 + 9) (.int .i64 at_))
     have Hi9 : Hid ((LV.set i ⟨yf,at_,ya,yd⟩)[i]? = some ⟨yf,at_,ya,yd⟩):=Lib.hid (List.getElem?_set_self (by rw [HN2.out];exact hin))
     generalize (w8.setCell ⟨g,i * 12 + 9,none⟩ (.int .i64 at_)) = w9 at *
     clear hk HT8 HO8 HC8 K18 K28 K38 HF8 HP8
     clear g9 gf
     have k1:=K19.out.cell 0
     have k3:=K39.out.cell 0
     have t6:=HT9.out.cell 6
     simp [tcC] at k1 k3 t6
     have m1:=Later.cell_of k1
     have m3:=Later.cell_of k3
     have m6:=Later.cell_of t6
     have p10:=HP9.out.cell 10
     rw [HY10.out] at p10
     have mp10:=Later.cell_of p10
     have HR1 : Hid (∀ w',(∃ n : Later w9,w' = n.1) → w'.rangeAt bx 0 YC.toList):=Lib.hid fun w' ⟨n,e⟩ => by
      subst e
      exact range_below (range_left (B:=[.int .i64 yl, .bool ya, .bool yd]) (by rw [HYX.out] at HP9;exact Blk.range HP9.out)) n.2 HP9.out.lt
     have HR2 : Hid (∀ w',(∃ n : Later w9,w' = n.1) → w'.rangeAt F 0 FC.toList):=Lib.hid fun w' ⟨n,e⟩ => by
      subst e
      exact range_below (Blk.range HF9.out) n.2 HF9.out.lt
     refine wp_region_later_tail 13 (by kernel_rfl) (by kernel_rfl) ?_
     simp only [List.take_succ_cons,List.take_zero,List.drop_succ_cons,List.drop_zero]
     cases ya
     all_goals
      repeat (first | go_big_quiet_step (fail) | (refine wpQuiet_loadn rfl 63 _ rfl _ rfl bx 0 rfl YC HR1.out _ hun rfl 9 hFz hYs ?_;go_simp) | (refine wpQuiet_loadn rfl 63 _ rfl _ rfl F 0 rfl FC HR2.out _ hun rfl 9 hFz hFc ?_;go_simp))
      refine wpQuiet_nil ?_
      first
       | (rintro w10 ⟨m10,hm10⟩
          have hb : Below w9.heap.size w9 w10:=by rw [hm10];exact m10.2
          clear hm10 m10)
       | (rintro ⟨w10,hb⟩
          simp only)
     ·clear k1 k3 t6 m1 m3 m6
      clear p10 mp10 HR1 HR2
      have HT10:=Lib.hid (HT9.out.below hb HT9.out.lt)
      have HO10:=Lib.hid (HO9.out.later hb)
      have HC10 : Hid (Chg T lst (.slice (some ⟨g,0,none⟩) n2 c2) w w10):=Lib.hid (HC9.out.trans (Chg.of_below hb))
      have K110:=Lib.hid (K19.out.below hb K19.out.lt)
      have K210:=Lib.hid (K29.out.below hb K29.out.lt)
      have K310:=Lib.hid (K39.out.below hb K39.out.lt)
      have HF10:=Lib.hid (HF9.out.below hb HF9.out.lt)
      have HP10:=Lib.hid (HP9.out.below hb HP9.out.lt)
      clear hb HT9 HO9 HC9 K19 K29 K39 HF9 HP9
      have g10 : w10.cell? ⟨g,i * 12 + 10,none⟩ = some (.bool false):=HO10.out.get (j:=10) Hi9.out rfl
      have gf:=HO10.out.frozen
      go_upto_region 10 with fail
      have hk : KeepT [65] w10 (w10.setCell ⟨g,i * 12 + 10,none⟩ (.bool false)):=KeepT.of_rowset HO10.out _ _
      have HO11 : Hid (OwnK layTk (w10.setCell ⟨g,i * 12 + 10,none⟩ (.bool false)) B (.slice (some ⟨g,0,none⟩) n2 c2) (LV.set i ⟨yf,at_,false,yd⟩)):=Lib.hid (by
       have:=HO10.out.setTo (j:=10) (y:=⟨yf,at_,false,yd⟩) (v:=.bool false) Hi9.out (by decide) rfl
       first | exact this | rwa [List.set_set] at this)
      have HT11:=Lib.hid (HT10.out.keepT hk (by decide))
      have HC11 : Hid (Chg T lst (.slice (some ⟨g,0,none⟩) n2 c2) w (w10.setCell ⟨g,i * 12 + 10,none⟩ (.bool false))):=Lib.hid (HC10.out.trans Chg.of_row)
      have K111:=Lib.hid (K110.out.keepT hk (by decide))
      have K211:=Lib.hid (K210.out.keepT hk (by decide))
      have K311:=Lib.hid (K310.out.keepT hk (by decide))
      have HF11:=Lib.hid (HF10.out.keepT hk (by decide))
      have HP11:=Lib.hid (HP10.out.far hbxg (i * 12 + 10) (.bool false))
      have Hi11 : Hid ((LV.set i ⟨yf,at_,false,yd⟩)[i]? = some ⟨yf,at_,false,yd⟩):=Lib.hid (List.getElem?_set_self (by rw [HN2.out];exact hin))
      generalize (w10.setCell ⟨g,i * 12 + 10,none⟩ (.bool false)) = w11 at *
      clear hk HT10 HO10 HC10 K110 K210 K310 HF10 HP10
      clear g10 gf
      have k1:=K111.out.cell 0
      have k3:=K311.out.cell 0
      have t6:=HT11.out.cell 6
      simp [tcC] at k1 k3 t6
      have m1:=Later.cell_of k1
      have m3:=Later.cell_of k3
      have m6:=Later.cell_of t6
      have p11:=HP11.out.cell 11
      have x11:=K211.out.cell 11
      have x12:=K211.out.cell 12
      rw [HY11.out] at p11
      rw [HX11.out] at x11
      rw [HX12.out] at x12
      have mp11:=Later.cell_of p11
      have mx11:=Later.cell_of x11
      have mx12:=Later.cell_of x12
      refine wp_region_later_tail 15 (by kernel_rfl) (by kernel_rfl) ?_
      simp only [List.take_succ_cons,List.take_zero,List.drop_succ_cons,List.drop_zero]
      have HSM : Hid (∀ d : Bool,d = (yd || dn) → SM = (true,LV.set i ⟨yf,at_,false,d⟩)):=Lib.hid fun d hd => by rw [HSF.out,hd];rfl
      clear HSF
      cases yd
      ·cases xf
       ·cases xr
        ·repeat (go_big_quiet_step (fail))
         refine wpQuiet_nil ?_
         first
          | (rintro w12 ⟨m12,hm12⟩
             have hb : Below w11.heap.size w11 w12:=by rw [hm12];exact m12.2
             clear hm12 m12)
          | (rintro ⟨w12,hb⟩
             simp only)
         clear k1 k3 t6 m1 m3 m6
         clear p11 x11 x12 mp11 mx11 mx12
         have HT12:=Lib.hid (HT11.out.below hb HT11.out.lt)
         have HO12:=Lib.hid (HO11.out.later hb)
         have HC12 : Hid (Chg T lst (.slice (some ⟨g,0,none⟩) n2 c2) w w12):=Lib.hid (HC11.out.trans (Chg.of_below hb))
         have K112:=Lib.hid (K111.out.below hb K111.out.lt)
         have K212:=Lib.hid (K211.out.below hb K211.out.lt)
         have K312:=Lib.hid (K311.out.below hb K311.out.lt)
         have HF12:=Lib.hid (HF11.out.below hb HF11.out.lt)
         have HP12:=Lib.hid (HP11.out.below hb HP11.out.lt)
         clear hb HT11 HO11 HC11 K111 K211 K311 HF11 HP11
         have g11 : w12.cell? ⟨g,i * 12 + 11,none⟩ = some (.bool _):=HO12.out.get (j:=11) Hi11.out rfl
         have gf:=HO12.out.frozen
         have hSM:=HSM.out false (by first | rfl | (rw [← HDn.out];rfl))
         clear HSM
         go_upto_region 11 with fail
         have HTin : Hid (∀ v : Value,Blk (w12.setCell ⟨g,i * 12 + 11,none⟩ v) T 44 (tcC rs tv most at_ (.slice (some ⟨g,0,none⟩) n2 c2))):=Lib.hid fun v => HT12.out.keepT (KeepT.of_rowset HO12.out _ _) (by decide)
         have HCin : Hid (∀ v : Value,Chg T lst (.slice (some ⟨g,0,none⟩) n2 c2) w (w12.setCell ⟨g,i * 12 + 11,none⟩ v)):=Lib.hid fun v => HC12.out.trans Chg.of_row
         have HFin : Hid (∀ d : Bool,OwnK layTk (w12.setCell ⟨g,i * 12 + 11,none⟩ (.bool d)) B (.slice (some ⟨g,0,none⟩) n2 c2) (LV.set i ⟨yf,at_,false,d⟩)):=Lib.hid fun d => by
          have:=HO12.out.setTo (j:=11) (y:=⟨yf,at_,false,d⟩) (v:=.bool d) Hi11.out (by decide) rfl
          rwa [List.set_set] at this
         subst hSM
         clear HT12 HO12 HC12 K112 K212 K312 HF12 HP12 g11 gf
         go_wp2_with fail
         go_ret
         first | exact ⟨rfl,_,HTin.out _,HFin.out _,HCin.out _⟩ | exact ⟨_,rfl,HTin.out _,HFin.out _,HCin.out _⟩
        ·repeat (go_big_quiet_step (fail))
         refine wpQuiet_nil ?_
         first
          | (rintro w12 ⟨m12,hm12⟩
             have hb : Below w11.heap.size w11 w12:=by rw [hm12];exact m12.2
             clear hm12 m12)
          | (rintro ⟨w12,hb⟩
             simp only)
         clear k1 k3 t6 m1 m3 m6
         clear p11 x11 x12 mp11 mx11 mx12
         have HT12:=Lib.hid (HT11.out.below hb HT11.out.lt)
         have HO12:=Lib.hid (HO11.out.later hb)
         have HC12 : Hid (Chg T lst (.slice (some ⟨g,0,none⟩) n2 c2) w w12):=Lib.hid (HC11.out.trans (Chg.of_below hb))
         have K112:=Lib.hid (K111.out.below hb K111.out.lt)
         have K212:=Lib.hid (K211.out.below hb K211.out.lt)
         have K312:=Lib.hid (K311.out.below hb K311.out.lt)
         have HF12:=Lib.hid (HF11.out.below hb HF11.out.lt)
         have HP12:=Lib.hid (HP11.out.below hb HP11.out.lt)
         clear hb HT11 HO11 HC11 K111 K211 K311 HF11 HP11
         have g11 : w12.cell? ⟨g,i * 12 + 11,none⟩ = some (.bool _):=HO12.out.get (j:=11) Hi11.out rfl
         have gf:=HO12.out.frozen
         have hSM:=HSM.out true (by first | rfl | (rw [← HDn.out];rfl))
         clear HSM
         go_upto_region 11 with fail
         have HTin : Hid (∀ v : Value,Blk (w12.setCell ⟨g,i * 12 + 11,none⟩ v) T 44 (tcC rs tv most at_ (.slice (some ⟨g,0,none⟩) n2 c2))):=Lib.hid fun v => HT12.out.keepT (KeepT.of_rowset HO12.out _ _) (by decide)
         have HCin : Hid (∀ v : Value,Chg T lst (.slice (some ⟨g,0,none⟩) n2 c2) w (w12.setCell ⟨g,i * 12 + 11,none⟩ v)):=Lib.hid fun v => HC12.out.trans Chg.of_row
         have HFin : Hid (∀ d : Bool,OwnK layTk (w12.setCell ⟨g,i * 12 + 11,none⟩ (.bool d)) B (.slice (some ⟨g,0,none⟩) n2 c2) (LV.set i ⟨yf,at_,false,d⟩)):=Lib.hid fun d => by
          have:=HO12.out.setTo (j:=11) (y:=⟨yf,at_,false,d⟩) (v:=.bool d) Hi11.out (by decide) rfl
          rwa [List.set_set] at this
         subst hSM
         clear HT12 HO12 HC12 K112 K212 K312 HF12 HP12 g11 gf
         go_wp2_with fail
         go_ret
         first | exact ⟨rfl,_,HTin.out _,HFin.out _,HCin.out _⟩ | exact ⟨_,rfl,HTin.out _,HFin.out _,HCin.out _⟩
       ·repeat (go_big_quiet_step (fail))
        refine wpQuiet_nil ?_
        first
         | (rintro w12 ⟨m12,hm12⟩
            have hb : Below w11.heap.size w11 w12:=by rw [hm12];exact m12.2
            clear hm12 m12)
         | (rintro ⟨w12,hb⟩
            simp only)
        clear k1 k3 t6 m1 m3 m6
        clear p11 x11 x12 mp11 mx11 mx12
        have HT12:=Lib.hid (HT11.out.below hb HT11.out.lt)
        have HO12:=Lib.hid (HO11.out.later hb)
        have HC12 : Hid (Chg T lst (.slice (some ⟨g,0,none⟩) n2 c2) w w12):=Lib.hid (HC11.out.trans (Chg.of_below hb))
        have K112:=Lib.hid (K111.out.below hb K111.out.lt)
        have K212:=Lib.hid (K211.out.below hb K211.out.lt)
        have K312:=Lib.hid (K311.out.below hb K311.out.lt)
        have HF12:=Lib.hid (HF11.out.below hb HF11.out.lt)
        have HP12:=Lib.hid (HP11.out.below hb HP11.out.lt)
        clear hb HT11 HO11 HC11 K111 K211 K311 HF11 HP11
        have g11 : w12.cell? ⟨g,i * 12 + 11,none⟩ = some (.bool _):=HO12.out.get (j:=11) Hi11.out rfl
        have gf:=HO12.out.frozen
        have hSM:=HSM.out true (by first | rfl | (rw [← HDn.out];rfl))
        clear HSM
        go_upto_region 11 with fail
        have HTin : Hid (∀ v : Value,Blk (w12.setCell ⟨g,i * 12 + 11,none⟩ v) T 44 (tcC rs tv most at_ (.slice (some ⟨g,0,none⟩) n2 c2))):=Lib.hid fun v => HT12.out.keepT (KeepT.of_rowset HO12.out _ _) (by decide)
        have HCin : Hid (∀ v : Value,Chg T lst (.slice (some ⟨g,0,none⟩) n2 c2) w (w12.setCell ⟨g,i * 12 + 11,none⟩ v)):=Lib.hid fun v => HC12.out.trans Chg.of_row
        have HFin : Hid (∀ d : Bool,OwnK layTk (w12.setCell ⟨g,i * 12 + 11,none⟩ (.bool d)) B (.slice (some ⟨g,0,none⟩) n2 c2) (LV.set i ⟨yf,at_,false,d⟩)):=Lib.hid fun d => by
         have:=HO12.out.setTo (j:=11) (y:=⟨yf,at_,false,d⟩) (v:=.bool d) Hi11.out (by decide) rfl
         rwa [List.set_set] at this
        subst hSM
        clear HT12 HO12 HC12 K112 K212 K312 HF12 HP12 g11 gf
        go_wp2_with fail
        go_ret
        first | exact ⟨rfl,_,HTin.out _,HFin.out _,HCin.out _⟩ | exact ⟨_,rfl,HTin.out _,HFin.out _,HCin.out _⟩
      ·repeat (go_big_quiet_step (fail))
       refine wpQuiet_nil ?_
       first
        | (rintro w12 ⟨m12,hm12⟩
           have hb : Below w11.heap.size w11 w12:=by rw [hm12];exact m12.2
           clear hm12 m12)
        | (rintro ⟨w12,hb⟩
           simp only)
       clear k1 k3 t6 m1 m3 m6
       clear p11 x11 x12 mp11 mx11 mx12
       have HT12:=Lib.hid (HT11.out.below hb HT11.out.lt)
       have HO12:=Lib.hid (HO11.out.later hb)
       have HC12 : Hid (Chg T lst (.slice (some ⟨g,0,none⟩) n2 c2) w w12):=Lib.hid (HC11.out.trans (Chg.of_below hb))
       have K112:=Lib.hid (K111.out.below hb K111.out.lt)
       have K212:=Lib.hid (K211.out.below hb K211.out.lt)
       have K312:=Lib.hid (K311.out.below hb K311.out.lt)
       have HF12:=Lib.hid (HF11.out.below hb HF11.out.lt)
       have HP12:=Lib.hid (HP11.out.below hb HP11.out.lt)
       clear hb HT11 HO11 HC11 K111 K211 K311 HF11 HP11
       have g11 : w12.cell? ⟨g,i * 12 + 11,none⟩ = some (.bool _):=HO12.out.get (j:=11) Hi11.out rfl
       have gf:=HO12.out.frozen
       have hSM:=HSM.out true (by first | rfl | (rw [← HDn.out];rfl))
       clear HSM
       go_upto_region 11 with fail
       have HTin : Hid (∀ v : Value,Blk (w12.setCell ⟨g,i * 12 + 11,none⟩ v) T 44 (tcC rs tv most at_ (.slice (some ⟨g,0,none⟩) n2 c2))):=Lib.hid fun v => HT12.out.keepT (KeepT.of_rowset HO12.out _ _) (by decide)
       have HCin : Hid (∀ v : Value,Chg T lst (.slice (some ⟨g,0,none⟩) n2 c2) w (w12.setCell ⟨g,i * 12 + 11,none⟩ v)):=Lib.hid fun v => HC12.out.trans Chg.of_row
       have HFin : Hid (∀ d : Bool,OwnK layTk (w12.setCell ⟨g,i * 12 + 11,none⟩ (.bool d)) B (.slice (some ⟨g,0,none⟩) n2 c2) (LV.set i ⟨yf,at_,false,d⟩)):=Lib.hid fun d => by
        have:=HO12.out.setTo (j:=11) (y:=⟨yf,at_,false,d⟩) (v:=.bool d) Hi11.out (by decide) rfl
        rwa [List.set_set] at this
       subst hSM
       clear HT12 HO12 HC12 K112 K212 K312 HF12 HP12 g11 gf
       go_wp2_with fail
       go_ret
       first | exact ⟨rfl,_,HTin.out _,HFin.out _,HCin.out _⟩ | exact ⟨_,rfl,HTin.out _,HFin.out _,HCin.out _⟩
     ·clear k1 k3 t6 m1 m3 m6
      clear p10 mp10 HR1 HR2
      have HT10:=Lib.hid (HT9.out.below hb HT9.out.lt)
      have HO10:=Lib.hid (HO9.out.later hb)
      have HC10 : Hid (Chg T lst (.slice (some ⟨g,0,none⟩) n2 c2) w w10):=Lib.hid (HC9.out.trans (Chg.of_below hb))
      have K110:=Lib.hid (K19.out.below hb K19.out.lt)
      have K210:=Lib.hid (K29.out.below hb K29.out.lt)
      have K310:=Lib.hid (K39.out.below hb K39.out.lt)
      have HF10:=Lib.hid (HF9.out.below hb HF9.out.lt)
      have HP10:=Lib.hid (HP9.out.below hb HP9.out.lt)
      clear hb HT9 HO9 HC9 K19 K29 K39 HF9 HP9
      have g10 : w10.cell? ⟨g,i * 12 + 10,none⟩ = some (.bool true):=HO10.out.get (j:=10) Hi9.out rfl
      have gf:=HO10.out.frozen
      go_upto_region 10 with fail
      have hk : KeepT [65] w10 (w10.setCell ⟨g,i * 12 + 10,none⟩ (.bool true)):=KeepT.of_rowset HO10.out _ _
      have HO11 : Hid (OwnK layTk (w10.setCell ⟨g,i * 12 + 10,none⟩ (.bool true)) B (.slice (some ⟨g,0,none⟩) n2 c2) (LV.set i ⟨yf,at_,true,yd⟩)):=Lib.hid (by
       have:=HO10.out.setTo (j:=10) (y:=⟨yf,at_,true,yd⟩) (v:=.bool true) Hi9.out (by decide) rfl
       first | exact this | rwa [List.set_set] at this)
      have HT11:=Lib.hid (HT10.out.keepT hk (by decide))
      have HC11 : Hid (Chg T lst (.slice (some ⟨g,0,none⟩) n2 c2) w (w10.setCell ⟨g,i * 12 + 10,none⟩ (.bool true))):=Lib.hid (HC10.out.trans Chg.of_row)
      have K111:=Lib.hid (K110.out.keepT hk (by decide))
      have K211:=Lib.hid (K210.out.keepT hk (by decide))
      have K311:=Lib.hid (K310.out.keepT hk (by decide))
      have HF11:=Lib.hid (HF10.out.keepT hk (by decide))
      have HP11:=Lib.hid (HP10.out.far hbxg (i * 12 + 10) (.bool true))
      have Hi11 : Hid ((LV.set i ⟨yf,at_,true,yd⟩)[i]? = some ⟨yf,at_,true,yd⟩):=Lib.hid (List.getElem?_set_self (by rw [HN2.out];exact hin))
      generalize (w10.setCell ⟨g,i * 12 + 10,none⟩ (.bool true)) = w11 at *
      clear hk HT10 HO10 HC10 K110 K210 K310 HF10 HP10
      clear g10 gf
      have k1:=K111.out.cell 0
      have k3:=K311.out.cell 0
      have t6:=HT11.out.cell 6
      simp [tcC] at k1 k3 t6
      have m1:=Later.cell_of k1
      have m3:=Later.cell_of k3
      have m6:=Later.cell_of t6
      have p11:=HP11.out.cell 11
      have x11:=K211.out.cell 11
      have x12:=K211.out.cell 12
      rw [HY11.out] at p11
      rw [HX11.out] at x11
      rw [HX12.out] at x12
      have mp11:=Later.cell_of p11
      have mx11:=Later.cell_of x11
      have mx12:=Later.cell_of x12
      refine wp_region_later_tail 15 (by kernel_rfl) (by kernel_rfl) ?_
      simp only [List.take_succ_cons,List.take_zero,List.drop_succ_cons,List.drop_zero]
      have HSM : Hid (∀ d : Bool,d = (yd || dn) → SM = (true,LV.set i ⟨yf,at_,true,d⟩)):=Lib.hid fun d hd => by rw [HSF.out,hd];rfl
      clear HSF
      cases yd
      ·cases xf
       ·cases xr
        ·repeat (go_big_quiet_step (fail))
         refine wpQuiet_nil ?_
         first
          | (rintro w12 ⟨m12,hm12⟩
             have hb : Below w11.heap.size w11 w12:=by rw [hm12];exact m12.2
             clear hm12 m12)
          | (rintro ⟨w12,hb⟩
             simp only)
         clear k1 k3 t6 m1 m3 m6
         clear p11 x11 x12 mp11 mx11 mx12
         have HT12:=Lib.hid (HT11.out.below hb HT11.out.lt)
         have HO12:=Lib.hid (HO11.out.later hb)
         have HC12 : Hid (Chg T lst (.slice (some ⟨g,0,none⟩) n2 c2) w w12):=Lib.hid (HC11.out.trans (Chg.of_below hb))
         have K112:=Lib.hid (K111.out.below hb K111.out.lt)
         have K212:=Lib.hid (K211.out.below hb K211.out.lt)
         have K312:=Lib.hid (K311.out.below hb K311.out.lt)
         have HF12:=Lib.hid (HF11.out.below hb HF11.out.lt)
         have HP12:=Lib.hid (HP11.out.below hb HP11.out.lt)
         clear hb HT11 HO11 HC11 K111 K211 K311 HF11 HP11
         have g11 : w12.cell? ⟨g,i * 12 + 11,none⟩ = some (.bool _):=HO12.out.get (j:=11) Hi11.out rfl
         have gf:=HO12.out.frozen
         have hSM:=HSM.out false (by first | rfl | (rw [← HDn.out];rfl))
         clear HSM
         go_upto_region 11 with fail
         have HTin : Hid (∀ v : Value,Blk (w12.setCell ⟨g,i * 12 + 11,none⟩ v) T 44 (tcC rs tv most at_ (.slice (some ⟨g,0,none⟩) n2 c2))):=Lib.hid fun v => HT12.out.keepT (KeepT.of_rowset HO12.out _ _) (by decide)
         have HCin : Hid (∀ v : Value,Chg T lst (.slice (some ⟨g,0,none⟩) n2 c2) w (w12.setCell ⟨g,i * 12 + 11,none⟩ v)):=Lib.hid fun v => HC12.out.trans Chg.of_row
         have HFin : Hid (∀ d : Bool,OwnK layTk (w12.setCell ⟨g,i * 12 + 11,none⟩ (.bool d)) B (.slice (some ⟨g,0,none⟩) n2 c2) (LV.set i ⟨yf,at_,true,d⟩)):=Lib.hid fun d => by
          have:=HO12.out.setTo (j:=11) (y:=⟨yf,at_,true,d⟩) (v:=.bool d) Hi11.out (by decide) rfl
          rwa [List.set_set] at this
         subst hSM
         clear HT12 HO12 HC12 K112 K212 K312 HF12 HP12 g11 gf
         go_wp2_with fail
         go_ret
         first | exact ⟨rfl,_,HTin.out _,HFin.out _,HCin.out _⟩ | exact ⟨_,rfl,HTin.out _,HFin.out _,HCin.out _⟩
        ·repeat (go_big_quiet_step (fail))
         refine wpQuiet_nil ?_
         first
          | (rintro w12 ⟨m12,hm12⟩
             have hb : Below w11.heap.size w11 w12:=by rw [hm12];exact m12.2
             clear hm12 m12)
          | (rintro ⟨w12,hb⟩
             simp only)
         clear k1 k3 t6 m1 m3 m6
         clear p11 x11 x12 mp11 mx11 mx12
         have HT12:=Lib.hid (HT11.out.below hb HT11.out.lt)
         have HO12:=Lib.hid (HO11.out.later hb)
         have HC12 : Hid (Chg T lst (.slice (some ⟨g,0,none⟩) n2 c2) w w12):=Lib.hid (HC11.out.trans (Chg.of_below hb))
         have K112:=Lib.hid (K111.out.below hb K111.out.lt)
         have K212:=Lib.hid (K211.out.below hb K211.out.lt)
         have K312:=Lib.hid (K311.out.below hb K311.out.lt)
         have HF12:=Lib.hid (HF11.out.below hb HF11.out.lt)
         have HP12:=Lib.hid (HP11.out.below hb HP11.out.lt)
         clear hb HT11 HO11 HC11 K111 K211 K311 HF11 HP11
         have g11 : w12.cell? ⟨g,i * 12 + 11,none⟩ = some (.bool _):=HO12.out.get (j:=11) Hi11.out rfl
         have gf:=HO12.out.frozen
         have hSM:=HSM.out true (by first | rfl | (rw [← HDn.out];rfl))
         clear HSM
         go_upto_region 11 with fail
         have HTin : Hid (∀ v : Value,Blk (w12.setCell ⟨g,i * 12 + 11,none⟩ v) T 44 (tcC rs tv most at_ (.slice (some ⟨g,0,none⟩) n2 c2))):=Lib.hid fun v => HT12.out.keepT (KeepT.of_rowset HO12.out _ _) (by decide)
         have HCin : Hid (∀ v : Value,Chg T lst (.slice (some ⟨g,0,none⟩) n2 c2) w (w12.setCell ⟨g,i * 12 + 11,none⟩ v)):=Lib.hid fun v => HC12.out.trans Chg.of_row
         have HFin : Hid (∀ d : Bool,OwnK layTk (w12.setCell ⟨g,i * 12 + 11,none⟩ (.bool d)) B (.slice (some ⟨g,0,none⟩) n2 c2) (LV.set i ⟨yf,at_,true,d⟩)):=Lib.hid fun d => by
          have:=HO12.out.setTo (j:=11) (y:=⟨yf,at_,true,d⟩) (v:=.bool d) Hi11.out (by decide) rfl
          rwa [List.set_set] at this
         subst hSM
         clear HT12 HO12 HC12 K112 K212 K312 HF12 HP12 g11 gf
         go_wp2_with fail
         go_ret
         first | exact ⟨rfl,_,HTin.out _,HFin.out _,HCin.out _⟩ | exact ⟨_,rfl,HTin.out _,HFin.out _,HCin.out _⟩
       ·repeat (go_big_quiet_step (fail))
        refine wpQuiet_nil ?_
        first
         | (rintro w12 ⟨m12,hm12⟩
            have hb : Below w11.heap.size w11 w12:=by rw [hm12];exact m12.2
            clear hm12 m12)
         | (rintro ⟨w12,hb⟩
            simp only)
        clear k1 k3 t6 m1 m3 m6
        clear p11 x11 x12 mp11 mx11 mx12
        have HT12:=Lib.hid (HT11.out.below hb HT11.out.lt)
        have HO12:=Lib.hid (HO11.out.later hb)
        have HC12 : Hid (Chg T lst (.slice (some ⟨g,0,none⟩) n2 c2) w w12):=Lib.hid (HC11.out.trans (Chg.of_below hb))
        have K112:=Lib.hid (K111.out.below hb K111.out.lt)
        have K212:=Lib.hid (K211.out.below hb K211.out.lt)
        have K312:=Lib.hid (K311.out.below hb K311.out.lt)
        have HF12:=Lib.hid (HF11.out.below hb HF11.out.lt)
        have HP12:=Lib.hid (HP11.out.below hb HP11.out.lt)
        clear hb HT11 HO11 HC11 K111 K211 K311 HF11 HP11
        have g11 : w12.cell? ⟨g,i * 12 + 11,none⟩ = some (.bool _):=HO12.out.get (j:=11) Hi11.out rfl
        have gf:=HO12.out.frozen
        have hSM:=HSM.out true (by first | rfl | (rw [← HDn.out];rfl))
        clear HSM
        go_upto_region 11 with fail
        have HTin : Hid (∀ v : Value,Blk (w12.setCell ⟨g,i * 12 + 11,none⟩ v) T 44 (tcC rs tv most at_ (.slice (some ⟨g,0,none⟩) n2 c2))):=Lib.hid fun v => HT12.out.keepT (KeepT.of_rowset HO12.out _ _) (by decide)
        have HCin : Hid (∀ v : Value,Chg T lst (.slice (some ⟨g,0,none⟩) n2 c2) w (w12.setCell ⟨g,i * 12 + 11,none⟩ v)):=Lib.hid fun v => HC12.out.trans Chg.of_row
        have HFin : Hid (∀ d : Bool,OwnK layTk (w12.setCell ⟨g,i * 12 + 11,none⟩ (.bool d)) B (.slice (some ⟨g,0,none⟩) n2 c2) (LV.set i ⟨yf,at_,true,d⟩)):=Lib.hid fun d => by
         have:=HO12.out.setTo (j:=11) (y:=⟨yf,at_,true,d⟩) (v:=.bool d) Hi11.out (by decide) rfl
         rwa [List.set_set] at this
        subst hSM
        clear HT12 HO12 HC12 K112 K212 K312 HF12 HP12 g11 gf
        go_wp2_with fail
        go_ret
        first | exact ⟨rfl,_,HTin.out _,HFin.out _,HCin.out _⟩ | exact ⟨_,rfl,HTin.out _,HFin.out _,HCin.out _⟩
      ·repeat (go_big_quiet_step (fail))
       refine wpQuiet_nil ?_
       first
        | (rintro w12 ⟨m12,hm12⟩
           have hb : Below w11.heap.size w11 w12:=by rw [hm12];exact m12.2
           clear hm12 m12)
        | (rintro ⟨w12,hb⟩
           simp only)
       clear k1 k3 t6 m1 m3 m6
       clear p11 x11 x12 mp11 mx11 mx12
       have HT12:=Lib.hid (HT11.out.below hb HT11.out.lt)
       have HO12:=Lib.hid (HO11.out.later hb)
       have HC12 : Hid (Chg T lst (.slice (some ⟨g,0,none⟩) n2 c2) w w12):=Lib.hid (HC11.out.trans (Chg.of_below hb))
       have K112:=Lib.hid (K111.out.below hb K111.out.lt)
       have K212:=Lib.hid (K211.out.below hb K211.out.lt)
       have K312:=Lib.hid (K311.out.below hb K311.out.lt)
       have HF12:=Lib.hid (HF11.out.below hb HF11.out.lt)
       have HP12:=Lib.hid (HP11.out.below hb HP11.out.lt)
       clear hb HT11 HO11 HC11 K111 K211 K311 HF11 HP11
       have g11 : w12.cell? ⟨g,i * 12 + 11,none⟩ = some (.bool _):=HO12.out.get (j:=11) Hi11.out rfl
       have gf:=HO12.out.frozen
       have hSM:=HSM.out true (by first | rfl | (rw [← HDn.out];rfl))
       clear HSM
       go_upto_region 11 with fail
       have HTin : Hid (∀ v : Value,Blk (w12.setCell ⟨g,i * 12 + 11,none⟩ v) T 44 (tcC rs tv most at_ (.slice (some ⟨g,0,none⟩) n2 c2))):=Lib.hid fun v => HT12.out.keepT (KeepT.of_rowset HO12.out _ _) (by decide)
       have HCin : Hid (∀ v : Value,Chg T lst (.slice (some ⟨g,0,none⟩) n2 c2) w (w12.setCell ⟨g,i * 12 + 11,none⟩ v)):=Lib.hid fun v => HC12.out.trans Chg.of_row
       have HFin : Hid (∀ d : Bool,OwnK layTk (w12.setCell ⟨g,i * 12 + 11,none⟩ (.bool d)) B (.slice (some ⟨g,0,none⟩) n2 c2) (LV.set i ⟨yf,at_,true,d⟩)):=Lib.hid fun d => by
        have:=HO12.out.setTo (j:=11) (y:=⟨yf,at_,true,d⟩) (v:=.bool d) Hi11.out (by decide) rfl
        rwa [List.set_set] at this
       subst hSM
       clear HT12 HO12 HC12 K112 K212 K312 HF12 HP12 g11 gf
       go_wp2_with fail
       go_ret
       first | exact ⟨rfl,_,HTin.out _,HFin.out _,HCin.out _⟩ | exact ⟨_,rfl,HTin.out _,HFin.out _,HCin.out _⟩
   ·obtain rfl : i = n2:=by omega
    have hSM : SM = (false,LV):=by
     rw [HS.out,firstI_none fun x hx => ?_]
     obtain ⟨j,hj,rfl⟩:=List.getElem_of_mem hx
     exact HN.out j _ (by rw [← HN2.out];exact hj) (List.getElem?_eq_getElem hj)
    subst hSM
    have hb:=HB.out
    have HT6:=Lib.hid (HT5.out.below hb HT5.out.lt)
    have HO6:=Lib.hid (HO5.out.later hb)
    have HC6 : Hid (Chg T lst (.slice a2 i c2) w wr):=Lib.hid (HC5.out.trans (Chg.of_below hb))
    clear hb HT5 HO5 HC5 K15 K25 K35 HF5 HS HN HB
    go_wp2_with fail
    go_ret
    first | exact ⟨_,rfl,HT6.out,HO6.out,HC6.out⟩ | exact ⟨rfl,_,HT6.out,HO6.out,HC6.out⟩
end Go.Proofs.YthebgfnaomgcnaaGreat
