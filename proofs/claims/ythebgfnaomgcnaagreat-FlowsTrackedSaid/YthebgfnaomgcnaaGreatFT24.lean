/-
  The law FlowsTracked: walked.
-/
import Derived.Test.YthebgfnaomgcnaaGreatFT23
import Derived.Test.YthebgfnaomgcnaaGreatFT5
import Derived.Test.YthebgfnaomgcnaaGreatFT6
set_option linter.unusedVariables false
set_option maxRecDepth 100000
set_option maxHeartbeats 16000000
namespace Go.Proofs.YthebgfnaomgcnaaGreat
open Go.RowKit Go
theorem Gen.toBelowK {b m : Nat} {w u v : World} (h : Gen b u v m) (hw : Below w.heap.size w u) (hb : w.heap.size ≤ b) : Below w.heap.size w v :=
 hw.trans ⟨h.g.os,h.g.tape,h.g.output,h.g.size,fun k hk => h.g.block k (Nat.lt_of_lt_of_le hk hw.size) (by intro e;injection e with e;omega)⟩
theorem newF_errs (F : List FR) (tv : TV) (most : Int) : firstE [rowsF F,timesFault tv,if outB most 1 1000 = true then 1 else 0] = newF F tv most:=by
 rw [firstE3];rfl
theorem law_FlowsTracked (ad : Option Addr) (n c : Nat) (w : World) (h : LawArg w ad n) :
  Calls Tryz.prog 3 #[.slice ad n c] w (Ret (.bool true) w):=by
 have hS:=LawArg.strm (c:=c) h
 have hB0 : Below w.heap.size w (w.alloc (.cells #[.slice ad n c, .int .i64 0] 25 (0,0))):=below_alloc (Below.refl _ _) _
 have hbs : w.heap.size < (w.alloc (.cells #[.slice ad n c, .int .i64 0] 25 (0,0))).heap.size:=by simp
 clear h
 go_enter Tryz.func3,Tryz.ntmps3
 go_upto_region 2 with fail
 generalize (w.alloc (.cells #[.slice ad n c, .int .i64 0] 25 (0,0))) = w0 at *
 obtain ⟨b,hb⟩ : ∃ b,w.heap.size = b:=⟨_,rfl⟩
 have HW : Hid (w.heap.size ≤ b):=Lib.hid (by omega)
 rw [hb] at hS hbs ⊢
 have HB0:=Lib.hid hB0
 clear hb hB0
 go_wp2_with fail
 refine (rows_gen b 0 3 _ hS (by omega) (by omega)).mono ?_
 rintro e w1 ⟨v,F,rfl,hO,hl,hu,hg⟩
 have HG1:=Lib.hid hg
 obtain ⟨a1,c1,rfl, -⟩:=hO.form
 have HU:=Lib.hid hu
 obtain ⟨ln,hln⟩ : ∃ k,F.length = k:=⟨_,rfl⟩
 have HN:=Lib.hid hln
 rw [hln] at hO hl ⊢
 have HO1:=Lib.hid hO
 clear hO hu hg hln hS
 go_wp2_with fail
 refine (times_gen b _ _ HG1.out.s (by omega)).mono ?_
 rintro e w2 ⟨tv,rfl,htv,hg⟩
 have HO2:=Lib.hid (HO1.out.gen HG1.out.s hg hbs)
 have HG2:=Lib.hid (HG1.out.trans hg)
 clear hg HG1 HO1 htv
 have HQ:=Lib.hid fun wx (hx : FlsAt wx a1 F) => rowsFault_any a1 ln c1 F wx hx HN.out (by omega) HU.out
 have HTF:=Lib.hid fun wx => timesFault_any tv wx
 have HNw:=Lib.hid fun most wx (hx : FlsAt wx a1 F) => tnew_two a1 ln c1 F tv most wx hx HN.out (by omega) HU.out
 have HErr:=Lib.hid fun most => newF_errs F tv most
 have hcs : tv.cells = #[.int .i64 tv.y, .int .i64 tv.t, .int .i64 tv.d, .int .i64 tv.o]:=rfl
 rw [hcs] at HTF HNw ⊢
 clear hcs
 have HOk : Hid (rowsF F = 0 → ∀ r ∈ F,r.Ok):=Lib.hid fun h0 => (rowsF_ok h0 HU.out).2.1
 have HNr : Hid (∀ most,newF F tv most = 0 → rowsF F = 0 ∧ 1 ≤ most ∧ most ≤ 1000):=Lib.hid fun most h => by
  unfold newF at h
  by_cases h1 : rowsF F = 0
  ·refine ⟨h1,?_⟩
   rw [if_neg (by simp [h1])] at h
   by_cases h2 : timesFault tv = 0
   ·rw [if_neg (by simp [h2])] at h
    by_cases h3 : outB most 1 1000 = true
    ·rw [if_pos h3] at h;cases h
    ·simp [outB] at h3;omega
   ·rw [if_pos h2] at h;exact absurd h h2
  ·rw [if_pos h1] at h;exact absurd h h1
 go_wp2_with fail
 refine (pick_new b _ _ 6 _ _ [1,2,3,1000,0,1001] _ HG2.out.s rfl (by omega) rfl (by decide) rfl).mono ?_
 rintro e w3 ⟨most,rfl,hmo,hg⟩
 have hmost : 0 ≤ most ∧ most ≤ 1001:=by simp at hmo;omega
 have HO3:=Lib.hid (HO2.out.gen HG2.out.s hg hbs)
 have HG3:=Lib.hid (HG2.out.trans hg)
 replace HNw:=Lib.hid (HNw.out most)
 replace HErr:=Lib.hid (HErr.out most)
 replace HNr:=Lib.hid (HNr.out most)
 obtain ⟨y1,hy1⟩ : ∃ x,tv.y = x:=⟨_,rfl⟩
 obtain ⟨y2,hy2⟩ : ∃ x,tv.t = x:=⟨_,rfl⟩
 obtain ⟨y3,hy3⟩ : ∃ x,tv.d = x:=⟨_,rfl⟩
 obtain ⟨y4,hy4⟩ : ∃ x,tv.o = x:=⟨_,rfl⟩
 have htvc : ∀ (rs lst : Value) (last : Int),tcC rs tv most last lst = #[rs, .int .i64 y1, .int .i64 y2, .int .i64 y3, .int .i64 y4, .int .i64 most,lst, .int .i64 last]:=fun rs lst last => by subst hy1 hy2 hy3 hy4;rfl
 have HTV:=Lib.hid htvc
 rw [hy1,hy2,hy3,hy4] at HTF HNw ⊢
 generalize rowsF F = RF at *
 generalize timesFault tv = TF at *
 generalize newF F tv most = NF at *
 clear hg hmo HG2 HO2 htvc hy1 hy2 hy3 hy4
 have HT4 : Hid (Blk (w3.alloc (.cells #[.int .i64 y1, .int .i64 y2, .int .i64 y3, .int .i64 y4] 29 (0,0))) w3.heap.size 29 #[.int .i64 y1, .int .i64 y2, .int .i64 y3, .int .i64 y4]):=Lib.hid (Blk.new w3 _ _)
 have HO4 : Hid (FlO (w3.alloc (.cells #[.int .i64 y1, .int .i64 y2, .int .i64 y3, .int .i64 y4] 29 (0,0))) w0.heap.size (.slice a1 ln c1) F):=Lib.hid (HO3.out.later (below_alloc (Below.refl _ _) _))
 have HG4:=Lib.hid (HG3.out.alloc (.cells #[.int .i64 y1, .int .i64 y2, .int .i64 y3, .int .i64 y4] 29 (0,0)))
 clear HO3 HG3
 go_upto_region 3 with fail
 generalize (w3.alloc (.cells #[.int .i64 y1, .int .i64 y2, .int .i64 y3, .int .i64 y4] 29 (0,0))) = w4 at *
 generalize w3.heap.size = p5 at *
 have d0:=HT4.out.cell 0
 have d1:=HT4.out.cell 1
 have d2:=HT4.out.cell 2
 have d3:=HT4.out.cell 3
 simp at d0 d1 d2 d3
 go_wp2_with fail
 refine (HNw.out _ HO4.out.at).mono ?_
 rintro e w5 ⟨px,rfl,hb,hpx⟩
 have HT5:=Lib.hid (HT4.out.below hb HT4.out.lt)
 have HG5:=Lib.hid (HG4.out.below0 hb HG4.out.s.lt)
 have HO5:=Lib.hid (HO4.out.later hb)
 have hsz4 : w0.heap.size ≤ w4.heap.size:=HG4.out.g.size
 have HPX : Hid ((NF ≠ 0 ∧ px = none) ∨ (NF = 0 ∧ ∃ T ad' c',px = some ⟨T,0,none⟩ ∧ w0.heap.size ≤ T ∧ Blk w5 T 80 (trC (.slice ad' ln c') tv most 0 (.slice none 0 0)) ∧ FwO w5 w0.heap.size (.slice ad' ln c') F)):=Lib.hid (by
  rcases hpx with h | ⟨h0,T,ad',c',h1,h2,h3,h4⟩
  ·exact .inl h
  ·exact .inr ⟨h0,T,ad',c',h1,Nat.le_trans hsz4 h2,h3,h4.weak hsz4⟩)
 clear hb hpx HT4 HG4 HO4 HNw d0 d1 d2 d3 hsz4
 go_upto_region 4 with fail
 go_cut [9] (fun s9 wx => s9 = .int .i64 NF ∧ Below w5.heap.size w5 wx)
 case first =>
  as_aux_lemma =>
   have d0:=HT5.out.cell 0
   have d1:=HT5.out.cell 1
   have d2:=HT5.out.cell 2
   have d3:=HT5.out.cell 3
   simp at d0 d1 d2 d3
   have l0:=Later.cell_of d0
   have l1:=Later.cell_of d1
   have l2:=Later.cell_of d2
   have l3:=Later.cell_of d3
   have hRF:=fun x : Later w5 => Calls.later x (HQ.out x.1 (HO5.out.later x.2).at)
   have hTF:=fun x : Later w5 => Calls.later x (HTF.out x.1)
   have hW1 : ∀ x : Later w5,Calls Tryz.prog 11 #[.bool true, .int .i64 1] x.1 fun e w'' => e = .returned (.int .i64 1) ∧ ∃ m : Later w5,w'' = m.1:=fun x => Calls.later_same x (when_any true 1 x.1)
   have hW0 : ∀ x : Later w5,Calls Tryz.prog 11 #[.bool false, .int .i64 1] x.1 fun e w'' => e = .returned (.int .i64 0) ∧ ∃ m : Later w5,w'' = m.1:=fun x => Calls.later_same x (when_any false 1 x.1)
   have hm3 : most < 1 ∨ 1000 < most ∨ (1 ≤ most ∧ most ≤ 1000):=by omega
   rcases hm3 with h0 | h0 | ⟨h0,h0'⟩
   ·have Hval : Hid (firstE [RF,TF,1] = NF):=Lib.hid (by rw [← HErr.out,show outB most 1 1000 = true by unfold outB;rw [decide_eq_true h0];rfl];rfl)
    refine wp_region_later_tail 11 (by kernel_rfl) (by kernel_rfl) ?_
    simp only [List.take_succ_cons,List.take_zero,List.drop_succ_cons,List.drop_zero]
    repeat (go_big_quiet_step (first | (go_at_call 9;exact hRF _) | (go_at_call 10;exact hTF _) | (go_at_call 11;exact hW1 _)))
    refine wpQuiet_nil ?_
    rintro w6 ⟨n6,hn6⟩
    have hb6 : Below w5.heap.size w5 w6:=by rw [hn6];exact n6.2
    clear hn6 n6 l0 l1 l2 l3 d0 d1 d2 d3 hRF hTF hW0 hW1
    go_wp2_with fail
    refine (errs_any w6.heap.size 3 3 [RF,TF,1] _ (rdInts_new w6 _ [RF,TF,1] _ rfl) (by omega)).mono ?_
    rintro e w7 ⟨rfl,rfl⟩
    rw [Hval.out]
    go_wp2_with fail
    go_meet
    case rel => exact ⟨rfl,below_alloc hb6 _⟩
   ·have h1 : ¬ most < 1:=by omega
    have Hval : Hid (firstE [RF,TF,1] = NF):=Lib.hid (by rw [← HErr.out,show outB most 1 1000 = true by unfold outB;rw [decide_eq_true h0];simp];rfl)
    refine wp_region_later_tail 11 (by kernel_rfl) (by kernel_rfl) ?_
    simp only [List.take_succ_cons,List.take_zero,List.drop_succ_cons,List.drop_zero]
    repeat (go_big_quiet_step (first | (go_at_call 9;exact hRF _) | (go_at_call 10;exact hTF _) | (go_at_call 11;exact hW1 _)))
    refine wpQuiet_nil ?_
    rintro w6 ⟨n6,hn6⟩
    have hb6 : Below w5.heap.size w5 w6:=by rw [hn6];exact n6.2
    clear hn6 n6 l0 l1 l2 l3 d0 d1 d2 d3 hRF hTF hW0 hW1
    go_wp2_with fail
    refine (errs_any w6.heap.size 3 3 [RF,TF,1] _ (rdInts_new w6 _ [RF,TF,1] _ rfl) (by omega)).mono ?_
    rintro e w7 ⟨rfl,rfl⟩
    rw [Hval.out]
    go_wp2_with fail
    go_meet
    case rel => exact ⟨rfl,below_alloc hb6 _⟩
   ·have h1 : ¬ most < 1:=by omega
    have h2 : ¬ most > 1000:=by omega
    have Hval : Hid (firstE [RF,TF,0] = NF):=Lib.hid (by rw [← HErr.out,show outB most 1 1000 = false by unfold outB;rw [decide_eq_false h1,decide_eq_false (by omega)];rfl];rfl)
    refine wp_region_later_tail 11 (by kernel_rfl) (by kernel_rfl) ?_
    simp only [List.take_succ_cons,List.take_zero,List.drop_succ_cons,List.drop_zero]
    repeat (go_big_quiet_step (first | (go_at_call 9;exact hRF _) | (go_at_call 10;exact hTF _) | (go_at_call 11;exact hW0 _)))
    refine wpQuiet_nil ?_
    rintro w6 ⟨n6,hn6⟩
    have hb6 : Below w5.heap.size w5 w6:=by rw [hn6];exact n6.2
    clear hn6 n6 l0 l1 l2 l3 d0 d1 d2 d3 hRF hTF hW0 hW1
    go_wp2_with fail
    refine (errs_any w6.heap.size 3 3 [RF,TF,0] _ (rdInts_new w6 _ [RF,TF,0] _ rfl) (by omega)).mono ?_
    rintro e w7 ⟨rfl,rfl⟩
    rw [Hval.out]
    go_wp2_with fail
    go_meet
    case rel => exact ⟨rfl,below_alloc hb6 _⟩
 case rest =>
  obtain ⟨rfl,hb⟩:=hcut
  have HT6:=Lib.hid (HT5.out.below hb HT5.out.lt)
  have HG6:=Lib.hid (HG5.out.below0 hb HG5.out.s.lt)
  have HO6:=Lib.hid (HO5.out.later hb)
  have HPX6 : Hid ((NF ≠ 0 ∧ px = none) ∨ (NF = 0 ∧ ∃ T ad' c',px = some ⟨T,0,none⟩ ∧ w0.heap.size ≤ T ∧ Blk wc T 80 (trC (.slice ad' ln c') tv most 0 (.slice none 0 0)) ∧ FwO wc w0.heap.size (.slice ad' ln c') F)):=Lib.hid (by
   rcases HPX.out with h | ⟨h0,T,ad',c',h1,h2,h3,h4⟩
   ·exact .inl h
   ·exact .inr ⟨h0,T,ad',c',h1,h2,h3.below hb h3.lt,h4.later hb⟩)
  clear hb HT5 HG5 HO5 HPX HTF HErr
  by_cases hN : NF = 0
  case neg =>
   have hpn : px = none:=by
    rcases HPX6.out with ⟨_,h⟩ | ⟨h,_⟩
    ·exact h
    ·exact absurd h hN
   subst hpn
   have hN2 : (NF != 0) = true:=by simpa using hN
   have HB:=Lib.hid (HG6.out.toBelowK HB0.out HW.out)
   clear HPX6 hN HT6 HG6 HO6 HOk HNr HQ
   go_wp2_with fail
   refine (filtered_any _).mono ?_
   rintro e w9 ⟨rfl,hb⟩
   have HB9:=Lib.hid (HB.out.trans (hb.mono HB.out.size))
   clear hb
   go_wp2_with fail
   go_ret
   exact ⟨rfl,HB9.out⟩
  case pos =>
  obtain ⟨hr0,hm1⟩:=HNr.out hN
  have HFo:=Lib.hid (HOk.out hr0)
  have HMo:=Lib.hid hm1
  have HX7 : Hid (∃ T ad' c',px = some ⟨T,0,none⟩ ∧ w0.heap.size ≤ T ∧ Blk wc T 80 (trC (.slice ad' ln c') tv most 0 (.slice none 0 0)) ∧ FwO wc w0.heap.size (.slice ad' ln c') F):=Lib.hid (by
   rcases HPX6.out with ⟨h,_⟩ | ⟨_,h⟩
   ·exact absurd hN h
   ·exact h)
  subst hN
  clear hr0 hm1 HNr HOk HPX6 HQ
  obtain ⟨T,ra,rc,rfl,hT1,hT2,hT3⟩:=HX7.out
  have HTw:=Lib.hid hT1
  have HTr:=Lib.hid hT2
  have HFw:=Lib.hid hT3
  clear hT1 hT2 hT3 HX7
  go_upto_region 9 with fail
  have d0:=HT6.out.cell 0
  have d1:=HT6.out.cell 1
  have d2:=HT6.out.cell 2
  have d3:=HT6.out.cell 3
  simp at d0 d1 d2 d3
  have HS0 : Hid (TkI b w0.heap.size w0 tv most T wc.heap.size 2000 0 0 (.slice none 0 0) (wc.alloc (.cells #[.slice a1 ln c1, .int .i64 y1, .int .i64 y2, .int .i64 y3, .int .i64 y4, .int .i64 most, .slice none 0 0, .int .i64 0] 44 (0,0)))):=Lib.hid (by
   have hb:=below_alloc (Below.refl wc.heap.size wc) (.cells #[.slice a1 ln c1, .int .i64 y1, .int .i64 y2, .int .i64 y3, .int .i64 y4, .int .i64 most, .slice none 0 0, .int .i64 0] 44 (0,0))
   refine ⟨ra,ln,rc,a1,ln,c1,0, .slice none 0 0, .slice none 0 0, [],F, [],⟨(HG6.out.alloc _).mono (by omega),HTr.out.alloc _,OwnK.nil _ _ _,HFw.out.later hb,?_,OwnK.nil _ _ _,HO6.out.later hb,OwnK.nil _ _ _,(fun k hk => by cases hk),hbs,Nat.le_refl _,HTw.out,HG6.out.g.size⟩,?_,?_,?_,HFo.out,?_,?_,rfl⟩
   ·rw [HTV.out];exact Blk.new wc _ _
   ·intro x hx;cases hx
   ·simp
   ·omega
   ·rw [HN.out];omega
   ·intro k hk;cases hk)
  clear HTr HFw HG6 HO6 HT6 HFo
  go_upto_region 10 with fail
  generalize (wc.alloc (.cells #[.slice a1 ln c1, .int .i64 y1, .int .i64 y2, .int .i64 y3, .int .i64 y4, .int .i64 most, .slice none 0 0, .int .i64 0] 44 (0,0))) = w7 at *
  generalize wc.heap.size = T2 at *
  clear d0 d1 d2 d3
  go_wp2_with fail
  refine (range_gen b _ 1 14 _ HS0.out.gen.s (by omega) (by omega) (by omega)).mono ?_
  rintro e w8 ⟨k,rfl,hk,hg⟩
  obtain ⟨nn,rfl⟩ : ∃ nn : Nat,k = (nn : Int):=⟨k.toNat,by unfold RangeRes at hk;omega⟩
  have hnn : 1 ≤ nn ∧ nn ≤ 14:=by unfold RangeRes at hk;omega
  have HS1 : Hid (TkI b w0.heap.size w0 tv most T T2 (3000 + 3000 * 0) 0 0 (.slice none 0 0) w8):=Lib.hid ((HS0.out.step hg).mono (by omega))
  clear hk hg HS0
  go_wp2_with fail
  go_loopw [11,12,81] (fun s11 s12 i wr => ∃ (j : Nat) (a : Int),j ≤ nn ∧ i = .int .i64 (j : Int) ∧ s11 = .int .i64 a ∧ (0 ≤ a ∧ a ≤ 30 * (j : Int)) ∧ Hid (TkI b w0.heap.size w0 tv most T T2 (3000 + 3000 * j) j j s12 wr)) (fun _ _ i _ => nn - (intOf i).toNat)
  case atStart => exact ⟨0,0,by omega,rfl,rfl,by omega,HS1⟩
  case round =>
   clear HS1
   obtain ⟨j,a,hj,rfl,rfl,ha,HI⟩:=hrel
   by_cases hlt : j < nn
   ·obtain ⟨xa,xn,xc,ya,yn,yc,last,lst,lst2,L,FF,P,hS,hok,hll,hla,hfo,hfl,hpk,hpl⟩:=HI.out
    have HOK:=Lib.hid hok
    have HLL:=Lib.hid hll
    have HLA:=Lib.hid hla
    have HFO:=Lib.hid hfo
    have HFL:=Lib.hid hfl
    have HPK:=Lib.hid hpk
    have HPL:=Lib.hid hpl
    obtain ⟨pa,pc,hpf,_,hpc1,hpc2⟩:=hS.p.form
    rw [hpl] at hpf hpc1
    subst hpf
    have HS:=Lib.hid hS
    clear hS hok hll hla hfo hfl hpk hpl HI
    go_wp2_with fail
    refine (pick_new b _ _ 7 _ _ [0,1,1,2,5,10,30] _ HS.out.g.s rfl (by omega) rfl (by decide) rfl).mono ?_
    rintro e w1 ⟨k1,rfl,hk1,hg⟩
    have hk1 : 0 ≤ k1 ∧ k1 ≤ 30:=by simp at hk1;omega
    have HS1:=Lib.hid (HS.out.step hg)
    clear hg HS
    have hak : 0 ≤ a + k1 ∧ a + k1 ≤ 30 * ((j : Int) + 1):=by omega
    go_wp2_with fail
    refine (packet_gen b _ _ HS1.out.g.s (by omega)).mono ?_
    rintro e w2 ⟨x,Lb,rfl,hx,hO,hL,hg⟩
    obtain ⟨k,rfl⟩:=PK.of_own hO
    have HS2:=Lib.hid (HS1.out.step hg)
    have HK:=Lib.hid hx
    clear hx hO hL hg HS1
    obtain ⟨X,hX⟩ : ∃ X,k.pv.cells = X:=⟨_,rfl⟩
    have HX:=Lib.hid hX
    have hXs : X.size = 19:=by rw [← hX];rfl
    have hXo : X.all (·.oneCell') = true:=by rw [← hX];exact k.pv.one HK.out.2.2.2.2
    rw [hX]
    clear hX
    have HP3 : Hid (Blk (w2.alloc (.cells X 52 (0,0))) w2.heap.size 52 X):=Lib.hid (Blk.new w2 _ _)
    have HS3:=Lib.hid (HS2.out.alloc (.cells X 52 (0,0)))
    have HNE : Hid ((Value.slice pa j pc).ownBlock ≠ some w2.heap.size):=Lib.hid fun e => by have:=(HS2.out.p.lt _ e).2;omega
    have HPW : Hid (w0.heap.size ≤ w2.heap.size):=Lib.hid HS2.out.g.g.size
    clear HS2
    go_upto_region 16 with (refine wpList_var X 52 Tryz.zeroValue52 rfl rfl rfl _ _ rfl _ rfl ?_ ?_ 19 size_pk hXs ?_ hXo ?_;all_goals (try rfl);try go_simp)
    generalize (w2.alloc (.cells X 52 (0,0))) = w3 at *
    generalize w2.heap.size = p3 at *
    have HXs:=Lib.hid hXs
    clear hXs hXo
    go_cut [96] (fun s96 wx => ∃ kb : Bool,s96 = .bool kb ∧ (kb = true → 0 < j) ∧ Blk wx p3 52 X ∧ TkSt b w0.heap.size (3000 + 3000 * j + 2150) w0 tv most ⟨T,xa,xn,xc,last,lst,L,FF⟩ ⟨T2,ya,yn,yc,last,lst2,L,FF⟩ (.slice pa j pc) P wx)
    case first =>
     as_aux_lemma =>
      by_cases hj0 : j = 0
      ·subst hj0
       go_wp2_with fail
       go_meet
       case rel => exact ⟨_,rfl,fun h => by simp at h,HP3.out,HS3.out.mono (by omega)⟩
      ·have hjp : 0 < j:=by omega
       clear hj0
       go_wp2_with fail
       refine (flip_gen b _ 2 _ HS3.out.g.s (by omega) (by omega)).mono ?_
       rintro e w4 ⟨kf,rfl,hg⟩
       have HS4:=Lib.hid (HS3.out.step hg)
       have HP4:=Lib.hid (Blk.keep HP3.out hg.g (by have:=HPW.out;omega))
       clear hg HS3 HP3
       go_wp2_with fail
       go_meet
       case rel => exact ⟨kf,rfl,fun _ => hjp,HP4.out,HS4.out.mono (by omega)⟩
    case rest =>
    obtain ⟨kb,rfl,hkb,hP,hS⟩:=hcut
    have HKB:=Lib.hid hkb
    clear HP3 HS3 hkb
    have HP4:=Lib.hid hP
    have HS4:=Lib.hid hS
    clear hP hS
    go_upto_if 96 with fail
    go_cut [] (fun wx => ∃ k : PK,k.pv.ok ∧ Blk wx p3 52 k.pv.cells ∧ TkSt b w0.heap.size (3000 + 3000 * j + 2200) w0 tv most ⟨T,xa,xn,xc,last,lst,L,FF⟩ ⟨T2,ya,yn,yc,last,lst2,L,FF⟩ (.slice pa j pc) P wx)
    case first =>
     as_aux_lemma =>
      cases kb
      ·go_wp2_with fail
       go_meet
       case rel => exact ⟨k,HK.out,by rw [HX.out];exact HP4.out,HS4.out.mono (by omega)⟩
      ·have hjp : 0 < j:=HKB.out rfl
       obtain ⟨g,c9,hf, -⟩:=HS4.out.p.one (by rw [HPL.out];omega)
       have hf2 : pa = some ⟨g,0,none⟩:=by injection hf
       subst hf2
       clear hf
       go_wp2_with fail
       refine (next_gen b _ (j : Int) _ HS4.out.g.s (by omega) (by omega)).mono ?_
       rintro e w5 ⟨kx,rfl,hbr,hg⟩
       obtain ⟨ix,rfl⟩ : ∃ ix : Nat,kx = (ix : Int):=⟨kx.toNat,by unfold BelowRes at hbr;omega⟩
       have hix : ix < j:=by unfold BelowRes at hbr;omega
       have HS5:=Lib.hid (HS4.out.step hg)
       have HP5:=Lib.hid (Blk.keep HP4.out hg.g (by have:=HPW.out;omega))
       clear hbr hg HS4 HP4 HX HK
       obtain ⟨y,hy⟩ : ∃ y,P[ix]? = some y:=⟨_,List.getElem?_eq_getElem (by rw [HPL.out];exact hix)⟩
       have HY:=Lib.hid (HPK.out y (List.mem_of_getElem? hy))
       have HR5 : Hid (w5.rangeAt g (ix * 19) y.pv.cells.toList):=Lib.hid (HS5.out.p.cellsAt hy)
       obtain ⟨Y,hY⟩ : ∃ Y,y.pv.cells = Y:=⟨_,rfl⟩
       have HYX:=Lib.hid hY
       have hYl : Y.toList.length = 19:=by rw [← hY];rfl
       have hYi : (Tryz.prog.info? 52).map (·.size) = some Y.size:=by rw [← hY];exact size_pk
       have hXY : X.size = Y.size:=by rw [HXs.out, ← hY];rfl
       have hYo : Y.all (·.oneCell') = true:=by rw [← hY];exact y.pv.one HY.out.2.2.2.2
       rw [hY] at HR5
       clear hY hy
       go_upto_region 18 with (first | (refine wpList_loadn rfl 52 _ rfl g (ix * 19) rfl _ _ HR5.out under_pk rfl 19 size_pk hYl ?_;try go_simp) | (refine wpList_store_row rfl 52 (.tmp 13) (.tmp 103) rfl p3 Y rfl rfl 52 X HP5.out hYi hXY hYo ?_;try go_simp))
       have HP6 : Hid (Blk (w5.setRow p3 Y) p3 52 Y):=Lib.hid (setRow_heap w5 p3 _ _ _ _ HP5.out)
       have HS6:=Lib.hid (HS5.out.chgP hbs HP5.out HPW.out HNE.out (Chg.of_setRow Y))
       generalize w5.setRow p3 Y = w6 at *
       clear HR5 HS5 HP5 hYl hYi hXY hYo
       go_wp2_with fail
       refine (flip_gen b _ 2 _ HS6.out.g.s (by omega) (by omega)).mono ?_
       rintro e w7 ⟨kf,rfl,hg⟩
       have HS7:=Lib.hid (HS6.out.step hg)
       have HP7 : Hid (Blk w7 p3 52 y.pv.cells):=Lib.hid (by rw [HYX.out];exact Blk.keep HP6.out hg.g (by have:=HPW.out;omega))
       clear hg HS6 HP6 HYX
       cases kf
       ·go_wp2_with fail
        go_meet
        case rel => exact ⟨y,HY.out,HP7.out,HS7.out.mono (by omega)⟩
       ·obtain ⟨⟨qs1,qh1,ql1,qs2,qh2,ql2,qhops,qproto,qfp,qtp,q10,q11,q12,q13,q14,q15,q16,q17,q18⟩,ypa,yn',yc'⟩:=y
        have c0 : w7.cell? ⟨p3,0,none⟩ = some (.bool qs1):=HP7.out.cell 0
        have c1' : w7.cell? ⟨p3,1,none⟩ = some (.int .u64 qh1):=HP7.out.cell 1
        have c2 : w7.cell? ⟨p3,2,none⟩ = some (.int .u64 ql1):=HP7.out.cell 2
        have c3 : w7.cell? ⟨p3,3,none⟩ = some (.bool qs2):=HP7.out.cell 3
        have c4 : w7.cell? ⟨p3,4,none⟩ = some (.int .u64 qh2):=HP7.out.cell 4
        have c5 : w7.cell? ⟨p3,5,none⟩ = some (.int .u64 ql2):=HP7.out.cell 5
        have c8 : w7.cell? ⟨p3,8,none⟩ = some (.int .i64 qfp):=HP7.out.cell 8
        have c9' : w7.cell? ⟨p3,9,none⟩ = some (.int .i64 qtp):=HP7.out.cell 9
        have f0:=HP7.out.free
        go_upto_region 19 with fail
        iterate 31 (first | go_values | go_skip | go_guarded | go_step | go_upon | (simp only [Int.not_lt,Int.not_le] at *;go_simp))
        have HP8 : Hid (Blk (((w7.setCell ⟨p3,0,none⟩ (.bool qs2)).setCell ⟨p3,1,none⟩ (.int .u64 qh2)).setCell ⟨p3,2,none⟩ (.int .u64 ql2)) p3 52 (PK.mk ⟨qs2,qh2,ql2,qs2,qh2,ql2,qhops,qproto,qfp,qtp,q10,q11,q12,q13,q14,q15,q16,q17,q18⟩ ypa yn' yc').pv.cells):=Lib.hid (((HP7.out.set 0 (.bool qs2)).set 1 (.int .u64 qh2)).set 2 (.int .u64 ql2))
        have HS8:=Lib.hid (HS7.out.chgP hbs HP7.out HPW.out HNE.out (((Chg.of_set (i:=0) (x:=.bool qs2)).trans (Chg.of_set (i:=1) (x:=.int .u64 qh2))).trans (Chg.of_set (i:=2) (x:=.int .u64 ql2))))
        generalize (((w7.setCell ⟨p3,0,none⟩ (.bool qs2)).setCell ⟨p3,1,none⟩ (.int .u64 qh2)).setCell ⟨p3,2,none⟩ (.int .u64 ql2)) = w8 at *
        clear c0 c1' c2 c3 c4 c5 c8 c9' f0 HP7 HS7
        have c3 : w8.cell? ⟨p3,3,none⟩ = some (.bool qs2):=HP8.out.cell 3
        have c4 : w8.cell? ⟨p3,4,none⟩ = some (.int .u64 qh2):=HP8.out.cell 4
        have c5 : w8.cell? ⟨p3,5,none⟩ = some (.int .u64 ql2):=HP8.out.cell 5
        have f0:=HP8.out.free
        iterate 6 (first | go_values | go_skip | go_guarded | go_step | go_upon | (simp only [Int.not_lt,Int.not_le] at *;go_simp))
        have HP9 : Hid (Blk (((w8.setCell ⟨p3,3,none⟩ (.bool qs1)).setCell ⟨p3,4,none⟩ (.int .u64 qh1)).setCell ⟨p3,5,none⟩ (.int .u64 ql1)) p3 52 (PK.mk ⟨qs2,qh2,ql2,qs1,qh1,ql1,qhops,qproto,qfp,qtp,q10,q11,q12,q13,q14,q15,q16,q17,q18⟩ ypa yn' yc').pv.cells):=Lib.hid (((HP8.out.set 3 (.bool qs1)).set 4 (.int .u64 qh1)).set 5 (.int .u64 ql1))
        have HS9:=Lib.hid (HS8.out.chgP hbs HP8.out HPW.out HNE.out (((Chg.of_set (i:=3) (x:=.bool qs1)).trans (Chg.of_set (i:=4) (x:=.int .u64 qh1))).trans (Chg.of_set (i:=5) (x:=.int .u64 ql1))))
        generalize (((w8.setCell ⟨p3,3,none⟩ (.bool qs1)).setCell ⟨p3,4,none⟩ (.int .u64 qh1)).setCell ⟨p3,5,none⟩ (.int .u64 ql1)) = w9 at *
        clear c3 c4 c5 f0 HP8 HS8
        have hc8:=HP9.out.some1 (i:=8) (by show 8 < 19;decide)
        have hf8:=HP9.out.free 8
        have hc9:=(HP9.out.set 8 (.int .i64 qtp)).some1 (i:=9) (by rw [Array.size_setIfInBounds];show 9 < 19;decide)
        have hf9:=(HP9.out.set 8 (.int .i64 qtp)).free 9
        go_wp2_with (first | (refine wpList_store1 rfl 3 (.tmp 116) (.tmp 111) rfl p3 8 (.int .i64 qtp) rfl rfl rfl hc8 hf8 size_int1 ?_) | (refine wpList_store1 rfl 3 (.tmp 117) (.tmp 113) rfl p3 9 (.int .i64 qfp) rfl rfl rfl hc9 hf9 size_int1 ?_))
        go_meet
        case rel =>
         refine ⟨(PK.mk ⟨qs2,qh2,ql2,qs1,qh1,ql1,qhops,qproto,qtp,qfp,q10,q11,q12,q13,q14,q15,q16,q17,q18⟩ ypa yn' yc'),PK.back_ok HY.out,?_,?_⟩
         ·exact (HP9.out.set 8 (.int .i64 qtp)).set 9 (.int .i64 qfp)
         ·exact (HS9.out.chgP hbs HP9.out HPW.out HNE.out ((Chg.of_set (i:=8)).trans Chg.of_set)).mono (by omega)
    case rest =>
     obtain ⟨k,hko,hP,hS⟩:=hcut
     clear HK HX HXs HP4 HS4 HKB
     have HK:=Lib.hid hko
     have HP4:=Lib.hid hP
     have HS4:=Lib.hid hS
     clear hko hP hS
     obtain ⟨X,hX⟩ : ∃ X,k.pv.cells = X:=⟨_,rfl⟩
     have HX:=Lib.hid hX
     have hXs : X.size = 19:=by rw [← hX];rfl
     have hXl : X.toList.length = 19:=by rw [← hX];rfl
     have HXe : Hid (X = (layPk.enc k).toArray):=Lib.hid (by rw [← hX];rfl)
     rw [hX] at HP4
     clear hX
     have HR4 : Hid (wc.rangeAt p3 0 X.toList):=Lib.hid (Blk.range HP4.out)
     have HPo : Hid (OwnK layPk (wc.alloc (.cells X 52 (0,0))) w0.heap.size (.slice pa j pc) P):=Lib.hid (HS4.out.p.alloc _)
     have HSrc : Hid (Src (wc.alloc (.cells X 52 (0,0))) (some ⟨wc.heap.size,0,none⟩) 1 19 (layPk.enc k)):=Lib.hid (src_new layPk wc k X 52 HXe.out)
     have HOne : Hid (∀ u ∈ layPk.enc k,u.oneCell' = true):=Lib.hid (layPk.one k)
     have HS5:=Lib.hid (HS4.out.alloc (.cells X 52 (0,0)))
     have HP5:=Lib.hid (HP4.out.alloc (.cells X 52 (0,0)))
     go_wp2_with (first | (refine wpList_loadn rfl 52 _ rfl p3 0 rfl _ _ HR4.out under_pk rfl 19 size_pk hXl ?_;try go_simp) | (refine wpList_build1 rfl 45 52 _ rfl X rfl 19 Tryz.underlying45 zero_pk hXs (by decide) (by decide) ?_;try go_simp) | (at_builtin;refine wpList_app pkE rfl (.tmp 118) (.tmp 120) rfl rfl HPo.out rfl HSrc.out HOne.out ?c1 ?c2 ?c3 ?_))
     case c1 => rw [HPL.out];unfold maxLen;omega
     case c2 => rw [HPL.out];omega
     case c3 => exact Nat.le_trans HS5.out.B1 (Nat.le_refl _)
     intro hv' w6 hO6 hG6
     have HO6 : Hid (OwnK layPk w6 w0.heap.size hv' (P ++ [k])):=Lib.hid (OwnK.snoc hO6)
     have HS6:=Lib.hid (HS5.out.pset HO6.out hG6)
     have HP6 : Hid (Blk w6 p3 52 X):=Lib.hid ((hG6.g.block p3 HP5.out.lt (fun e => HNE.out e.symm)).trans HP5.out)
     have HPL6 : Hid ((P ++ [k]).length = j + 1):=Lib.hid (by rw [List.length_append,HPL.out];rfl)
     have HPK6 : Hid (∀ q ∈ P ++ [k],q.pv.ok):=Lib.hid fun q hq => by
      rcases List.mem_append.1 hq with h | h
      ·exact HPK.out q h
      ·obtain rfl:=List.mem_singleton.1 h;exact HK.out
     clear hO6 hG6 HO6 HPo HSrc HOne HS5 HP5 HS4 HP4 HR4 HXe HPL HPK HNE
     generalize (P ++ [k]) = P6 at *
     go_wp2_with fail
     refine (flip_gen b _ 20 _ HS6.out.g.s (by omega) (by omega)).mono ?_
     rintro e w7 ⟨kf,rfl,hg⟩
     have HS7:=Lib.hid (HS6.out.step hg)
     have HP7:=Lib.hid (Blk.keep HP6.out hg.g (by have:=HPW.out;omega))
     clear hg HS6 HP6
     go_upto_if 124 with fail
     go_cut [14] (fun s14 wx => ∃ i : Int,s14 = .int .i64 i ∧ Blk wx p3 52 X ∧ TkSt b w0.heap.size (3000 + 3000 * j + 2210) w0 tv most ⟨T,xa,xn,xc,last,lst,L,FF⟩ ⟨T2,ya,yn,yc,last,lst2,L,FF⟩ hv' P6 wx)
     case first =>
      as_aux_lemma =>
       cases kf
       ·go_wp2_with fail
        go_meet
        case rel => exact ⟨_,rfl,HP7.out,HS7.out.mono (by omega)⟩
       ·go_wp2_with fail
        refine (pick_new b _ _ 3 _ _ [0, -1,345686400] _ HS7.out.g.s rfl (by omega) rfl (by decide) rfl).mono ?_
        rintro e w8 ⟨k2,rfl, -,hg⟩
        have HS8:=Lib.hid (HS7.out.step hg)
        have HP8:=Lib.hid (Blk.keep HP7.out hg.g (by have:=HPW.out;omega))
        clear hg
        go_wp2_with fail
        go_meet
        case rel => exact ⟨_,rfl,HP8.out,HS8.out.mono (by omega)⟩
     case rest =>
      obtain ⟨i,rfl,hP,hS⟩:=hcut
      clear HP7 HS7
      have HP7:=Lib.hid hP
      have HS7:=Lib.hid hS
      clear hP hS
      go_wp2_with fail
      refine (next_gen b _ 5 _ HS7.out.g.s (by omega) (by omega)).mono ?_
      rintro e w8 ⟨kc,rfl,hbr,hg⟩
      have HS8:=Lib.hid (HS7.out.step hg)
      have HP8:=Lib.hid (Blk.keep HP7.out hg.g (by have:=HPW.out;omega))
      obtain ⟨M8,hM8⟩ : ∃ M8,3000 + 3000 * j + 2210 + 1 = M8:=⟨_,rfl⟩
      rw [hM8] at HS8
      replace hM8 : M8 ≤ 3000 + 3000 * j + 2250:=by omega
      clear hg HS7 HP7
      have h5 : (kc = 0 ∨ kc = 1) ∨ (kc = 2 ∨ kc = 3) ∨ kc = 4:=by unfold BelowRes at hbr;omega
      clear hbr
      go_upto_block 2 with fail
      go_cut [] (fun wx => TkI b w0.heap.size w0 tv most T T2 (3000 + 3000 * j + 2600) (j + 1) (j + 1) hv' wx)
      case first =>
       as_aux_lemma =>
        have HR8 : Hid (w8.rangeAt p3 0 X.toList):=Lib.hid (Blk.range HP8.out)
        rcases h5 with h01 | h23 | rfl
        ·have HOKr:=Lib.hid (inR_ok (F:=FF) (tv:=tv) (most:=most) (at_:=i) (k:=k) HOK.out HLA.out)
         have HIn:=Lib.hid (tin_st HS8.out hbs HOK.out (by have:=HLL.out;show L.length ≤ 1000;omega) HMo.out k HK.out HFO.out (by have:=HFL.out;show FF.length ≤ 1000;omega) i)
         have HQn:=Lib.hid fun (wx : World) (last' : Int) (lst' : Value) (L' : List TK) (hx : TkSt b w0.heap.size M8 w0 tv most ⟨T,xa,xn,xc,last',lst',L',FF⟩ ⟨T2,ya,yn,yc,last,lst2,L,FF⟩ hv' P6 wx) => qin_st hx hbs HOK.out (by have:=HLL.out;show L.length ≤ 1000;omega) HMo.out k HK.out HFO.out (by have:=HFL.out;show FF.length ≤ 1000;omega) i
         dsimp only at HIn HQn HOKr
         rw [HX.out] at HIn HQn
         generalize inR FF tv most last i k L = R at *
         obtain ⟨⟨r1,r2⟩,la',L'⟩:=R
         dsimp only at HIn HQn HOKr
         rcases h01 with rfl | rfl
         all_goals
          go_wp2_with (refine wpList_loadn rfl 52 _ rfl p3 0 rfl _ _ HR8.out under_pk rfl 19 size_pk hXl ?_;try go_simp)
          refine HIn.out.mono ?_
          rintro e w9 ⟨lst',rfl,hS,hk⟩
          have HS9:=Lib.hid hS
          have HP9:=Lib.hid (HP8.out.keepT hk (by decide))
          have HR9 : Hid (w9.rangeAt p3 0 X.toList):=Lib.hid (Blk.range HP9.out)
          clear hS hk HS8 HP8 HR8 HIn
          go_wp2_with (refine wpList_loadn rfl 52 _ rfl p3 0 rfl _ _ HR9.out under_pk rfl 19 size_pk hXl ?_;try go_simp)
          refine (HQn.out _ _ _ _ HS9.out).mono ?_
          rintro e w10 ⟨lst2',rfl,hS,hk⟩
          have HS10:=Lib.hid hS
          clear hS hk HS9 HP9 HR9 HQn
          go_wp2_with fail
          go_meet
          case rel => exact ⟨xa,xn,xc,ya,yn,yc,la',lst',lst2',L',FF,P6,HS10.out.mono (by omega),HOKr.out.1,by have:=HOKr.out.2.1;have:=HLL.out;omega,HOKr.out.2.2,HFO.out,HFL.out,HPK6.out,HPL6.out⟩
        ·have HOKr:=Lib.hid (outR_ok (tv:=tv) (most:=most) (at_:=i) (k:=k) HOK.out HLA.out)
         have HIn:=Lib.hid fun (wx : World) (hx : TkSt b w0.heap.size M8 w0 tv most ⟨T,xa,xn,xc,last,lst,L,FF⟩ ⟨T2,ya,yn,yc,last,lst2,L,FF⟩ hv' P6 wx) => tout_st hx hbs HOK.out (by have:=HLL.out;show L.length ≤ 1000;omega) HMo.out k HK.out i
         have HQn:=Lib.hid fun (wx : World) (last' : Int) (lst' : Value) (L' : List TK) (hx : TkSt b w0.heap.size M8 w0 tv most ⟨T,xa,xn,xc,last',lst',L',FF⟩ ⟨T2,ya,yn,yc,last,lst2,L,FF⟩ hv' P6 wx) => qout_st hx hbs HOK.out (by have:=HLL.out;show L.length ≤ 1000;omega) HMo.out k HK.out i
         dsimp only at HIn HQn HOKr
         rw [HX.out] at HIn HQn
         generalize outR tv most last i k L = R at *
         obtain ⟨r,la',L'⟩:=R
         dsimp only at HIn HQn HOKr
         rcases h23 with rfl | rfl
         ·go_upto_region 40 with fail
          refine Lm.wp_region_lim 8 2 (ouR T T2 X i r) (ouC p3 X (fun wx => TkSt b w0.heap.size M8 w0 tv most ⟨T,xa,xn,xc,last,lst,L,FF⟩ ⟨T2,ya,yn,yc,last,lst2,L,FF⟩ hv' P6 wx) (fun wx => ∃ lst',TkSt b w0.heap.size M8 w0 tv most ⟨T,xa,xn,xc,la',lst',L',FF⟩ ⟨T2,ya,yn,yc,last,lst2,L,FF⟩ hv' P6 wx) (fun wx => ∃ lst' lst2',TkSt b w0.heap.size M8 w0 tv most ⟨T,xa,xn,xc,la',lst',L',FF⟩ ⟨T2,ya,yn,yc,la',lst2',L',FF⟩ hv' P6 wx)) ouS (fun q => if q = 3 then 1 else if q = 7 then 1 else 0) (fun q => if q < 4 then 0 else 1)
           (by kernel_rfl) (by kernel_rfl) (by decide) (by kernel_rfl) ouR_keep ⟨HP8.out.drewN 1,fun _ => HS8.out.below (below_drew (Below.refl _ _)),fun h => absurd h (by decide),fun h => absurd h (by decide)⟩ ?hX2
          case' hX2 => (apply Exists.intro;refine ⟨fun TT => ?hA2,?hob2,?hend2⟩)
          case hA2 =>
           simp only [setAll,List.take_succ_cons,List.take_zero,Act.put,List.setIfInBounds_toArray,List.set_cons_succ,List.set_cons_zero,Nat.reduceAdd]
           exact rfl
          case hob2 =>
           go_light
           refine ⟨?_,?_,?_,?_,?_,?_,?_,?_,trivial⟩
           all_goals (intro TT wx n0 hC hn hp;dsimp only at hn ⊢)
           ·unfold Op1;go_simp;first | exact ⟨rfl,hC,Nat.le_refl _⟩ | exact ⟨rfl,Nat.le_refl _⟩ | exact Nat.le_refl _
           ·exact Op1.loadn 52 (.tmp 13) rfl p3 0 rfl X.toList _ (Blk.range (hC.1 : Blk wx p3 52 X.toList.toArray)) under_pk rfl 19 size_pk hXl ⟨rfl,hC,Nat.le_refl _⟩
           ·unfold Op1;go_simp;first | exact ⟨rfl,hC,Nat.le_refl _⟩ | exact ⟨rfl,Nat.le_refl _⟩ | exact Nat.le_refl _
           ·obtain ⟨h0,h1,h2, -⟩:=hp
            have h0 : TT 0 = .pointer (some ⟨T,0,none⟩):=h0
            have h1 : TT 1 = .agg X:=h1
            have h2 : TT 2 = .int .i64 i:=h2
            have hn0 : n0 = 0:=by simpa using hn
            subst hn0
            unfold Op1
            go_simp
            refine (HIn.out wx (hC.2.1 rfl)).mono ?_
            rintro e w9 ⟨lst',rfl,hS,hk⟩
            exact ⟨_,rfl,⟨rfl,Nat.le_refl _⟩,⟨hC.1.keepT hk (by decide),fun h => absurd h (by decide),fun _ => ⟨lst',hS⟩,fun h => absurd h (by decide)⟩,Nat.le_succ _⟩
           ·unfold Op1;go_simp;first | exact ⟨rfl,hC,Nat.le_refl _⟩ | exact ⟨rfl,Nat.le_refl _⟩ | exact Nat.le_refl _
           ·exact Op1.loadn 52 (.tmp 13) rfl p3 0 rfl X.toList _ (Blk.range (hC.1 : Blk wx p3 52 X.toList.toArray)) under_pk rfl 19 size_pk hXl ⟨rfl,hC,Nat.le_refl _⟩
           ·unfold Op1;go_simp;first | exact ⟨rfl,hC,Nat.le_refl _⟩ | exact ⟨rfl,Nat.le_refl _⟩ | exact Nat.le_refl _
           ·obtain ⟨h0,h1,h2,h3, -⟩:=hp
            have h0 : TT 4 = .pointer (some ⟨T2,0,none⟩):=h0
            have h1 : TT 5 = .agg X:=h1
            have h2 : TT 6 = .int .i64 i:=h2
            have h3 : TT 3 = .int .i64 r ∧ 1 ≤ n0:=h3
            have hn0 : n0 = 1:=by
             have : n0 ≤ 1:=by simpa using hn
             omega
            subst hn0
            obtain ⟨lst',hS9⟩:=hC.2.2.1 rfl
            unfold Op1
            go_simp
            refine (HQn.out wx _ _ _ hS9).mono ?_
            rintro e w9 ⟨lst2',rfl,hS,hk⟩
            exact ⟨_,rfl,⟨rfl,Nat.le_refl _⟩,⟨hC.1.keepT hk (by decide),fun h => absurd h (by decide),fun h => absurd h (by decide),fun _ => ⟨lst',lst2',hS⟩⟩,Nat.le_succ _⟩
          case hend2 =>
           intro TT w9 ⟨n0,hn0,hC,hR⟩
           have e3 : TT 3 = .int .i64 r:=(hR 3 (by omega)).1
           obtain ⟨e7,hn2⟩:=hR 7 (by omega)
           have e7 : TT 7 = .int .i64 r:=e7
           obtain ⟨lst',lst2',hS⟩:=hC.2.2.2 hn2
           have HS10:=Lib.hid hS
           clear hR hC hS hn2 hn0 HIn HQn
           simp only [List.drop_succ_cons,List.drop_zero]
           go_wp2_with fail
           go_meet
           case rel => exact ⟨xa,xn,xc,ya,yn,yc,la',lst',lst2',L',FF,P6,HS10.out.mono (by omega),HOKr.out.1,by have:=HOKr.out.2.1;have:=HLL.out;omega,HOKr.out.2.2,HFO.out,HFL.out,HPK6.out,HPL6.out⟩
         ·go_upto_region 40 with fail
          refine Lm.wp_region_lim 8 2 (ouR T T2 X i r) (ouC p3 X (fun wx => TkSt b w0.heap.size M8 w0 tv most ⟨T,xa,xn,xc,last,lst,L,FF⟩ ⟨T2,ya,yn,yc,last,lst2,L,FF⟩ hv' P6 wx) (fun wx => ∃ lst',TkSt b w0.heap.size M8 w0 tv most ⟨T,xa,xn,xc,la',lst',L',FF⟩ ⟨T2,ya,yn,yc,last,lst2,L,FF⟩ hv' P6 wx) (fun wx => ∃ lst' lst2',TkSt b w0.heap.size M8 w0 tv most ⟨T,xa,xn,xc,la',lst',L',FF⟩ ⟨T2,ya,yn,yc,la',lst2',L',FF⟩ hv' P6 wx)) ouS (fun q => if q = 3 then 1 else if q = 7 then 1 else 0) (fun q => if q < 4 then 0 else 1)
           (by kernel_rfl) (by kernel_rfl) (by decide) (by kernel_rfl) ouR_keep ⟨HP8.out.drewN 1,fun _ => HS8.out.below (below_drew (Below.refl _ _)),fun h => absurd h (by decide),fun h => absurd h (by decide)⟩ ?hX3
          case' hX3 => (apply Exists.intro;refine ⟨fun TT => ?hA3,?hob3,?hend3⟩)
          case hA3 =>
           simp only [setAll,List.take_succ_cons,List.take_zero,Act.put,List.setIfInBounds_toArray,List.set_cons_succ,List.set_cons_zero,Nat.reduceAdd]
           exact rfl
          case hob3 =>
           go_light
           refine ⟨?_,?_,?_,?_,?_,?_,?_,?_,trivial⟩
           all_goals (intro TT wx n0 hC hn hp;dsimp only at hn ⊢)
           ·unfold Op1;go_simp;first | exact ⟨rfl,hC,Nat.le_refl _⟩ | exact ⟨rfl,Nat.le_refl _⟩ | exact Nat.le_refl _
           ·exact Op1.loadn 52 (.tmp 13) rfl p3 0 rfl X.toList _ (Blk.range (hC.1 : Blk wx p3 52 X.toList.toArray)) under_pk rfl 19 size_pk hXl ⟨rfl,hC,Nat.le_refl _⟩
           ·unfold Op1;go_simp;first | exact ⟨rfl,hC,Nat.le_refl _⟩ | exact ⟨rfl,Nat.le_refl _⟩ | exact Nat.le_refl _
           ·obtain ⟨h0,h1,h2, -⟩:=hp
            have h0 : TT 0 = .pointer (some ⟨T,0,none⟩):=h0
            have h1 : TT 1 = .agg X:=h1
            have h2 : TT 2 = .int .i64 i:=h2
            have hn0 : n0 = 0:=by simpa using hn
            subst hn0
            unfold Op1
            go_simp
            refine (HIn.out wx (hC.2.1 rfl)).mono ?_
            rintro e w9 ⟨lst',rfl,hS,hk⟩
            exact ⟨_,rfl,⟨rfl,Nat.le_refl _⟩,⟨hC.1.keepT hk (by decide),fun h => absurd h (by decide),fun _ => ⟨lst',hS⟩,fun h => absurd h (by decide)⟩,Nat.le_succ _⟩
           ·unfold Op1;go_simp;first | exact ⟨rfl,hC,Nat.le_refl _⟩ | exact ⟨rfl,Nat.le_refl _⟩ | exact Nat.le_refl _
           ·exact Op1.loadn 52 (.tmp 13) rfl p3 0 rfl X.toList _ (Blk.range (hC.1 : Blk wx p3 52 X.toList.toArray)) under_pk rfl 19 size_pk hXl ⟨rfl,hC,Nat.le_refl _⟩
           ·unfold Op1;go_simp;first | exact ⟨rfl,hC,Nat.le_refl _⟩ | exact ⟨rfl,Nat.le_refl _⟩ | exact Nat.le_refl _
           ·obtain ⟨h0,h1,h2,h3, -⟩:=hp
            have h0 : TT 4 = .pointer (some ⟨T2,0,none⟩):=h0
            have h1 : TT 5 = .agg X:=h1
            have h2 : TT 6 = .int .i64 i:=h2
            have h3 : TT 3 = .int .i64 r ∧ 1 ≤ n0:=h3
            have hn0 : n0 = 1:=by
             have : n0 ≤ 1:=by simpa using hn
             omega
            subst hn0
            obtain ⟨lst',hS9⟩:=hC.2.2.1 rfl
            unfold Op1
            go_simp
            refine (HQn.out wx _ _ _ hS9).mono ?_
            rintro e w9 ⟨lst2',rfl,hS,hk⟩
            exact ⟨_,rfl,⟨rfl,Nat.le_refl _⟩,⟨hC.1.keepT hk (by decide),fun h => absurd h (by decide),fun h => absurd h (by decide),fun _ => ⟨lst',lst2',hS⟩⟩,Nat.le_succ _⟩
          case hend3 =>
           intro TT w9 ⟨n0,hn0,hC,hR⟩
           have e3 : TT 3 = .int .i64 r:=(hR 3 (by omega)).1
           obtain ⟨e7,hn2⟩:=hR 7 (by omega)
           have e7 : TT 7 = .int .i64 r:=e7
           obtain ⟨lst',lst2',hS⟩:=hC.2.2.2 hn2
           have HS10:=Lib.hid hS
           clear hR hC hS hn2 hn0 HIn HQn
           simp only [List.drop_succ_cons,List.drop_zero]
           go_wp2_with fail
           go_meet
           case rel => exact ⟨xa,xn,xc,ya,yn,yc,la',lst',lst2',L',FF,P6,HS10.out.mono (by omega),HOKr.out.1,by have:=HOKr.out.2.1;have:=HLL.out;omega,HOKr.out.2.2,HFO.out,HFL.out,HPK6.out,HPL6.out⟩
        ·have HI0 : Hid (∀ wx M,M ≤ 3000 + 3000 * j + 2600 → TkSt b w0.heap.size M w0 tv most ⟨T,xa,xn,xc,last,lst,L,FF⟩ ⟨T2,ya,yn,yc,last,lst2,L,FF⟩ hv' P6 wx → TkI b w0.heap.size w0 tv most T T2 (3000 + 3000 * j + 2600) (j + 1) (j + 1) hv' wx):=Lib.hid fun wx M hM hS => ⟨xa,xn,xc,ya,yn,yc,last,lst,lst2,L,FF,P6,hS.mono hM,HOK.out,by have:=HLL.out;omega,HLA.out,HFO.out,HFL.out,HPK6.out,HPL6.out⟩
         go_wp2_with fail
         refine (flip_gen b _ 3 _ HS8.out.g.s (by omega) (by omega)).mono ?_
         rintro e w9 ⟨kf,rfl,hg⟩
         have HS9:=Lib.hid (HS8.out.step hg)
         clear hg HS8 HP8 HR8
         cases kf
         ·go_wp2_with fail
          go_meet
          case rel => exact HI0.out _ _ (by omega) HS9.out
         ·go_wp2_with fail
          refine (rows_gen b _ 2 _ HS9.out.g.s (by omega) (by omega)).mono ?_
          rintro e w10 ⟨v9,Y,rfl,hO,hl,hu,hg⟩
          have HS10:=Lib.hid (HS9.out.step hg)
          obtain ⟨a9,c9,rfl, -⟩:=hO.form
          have HU:=Lib.hid hu
          obtain ⟨ln9,hln9⟩ : ∃ q,Y.length = q:=⟨_,rfl⟩
          have HN9:=Lib.hid hln9
          rw [hln9] at hO hl ⊢
          have HO10:=Lib.hid (hO.weak HS9.out.B1)
          clear hO hu hg hln9 HS9
          go_wp2_with fail
          refine (rowsFault_any a9 ln9 c9 Y _ HO10.out.at HN9.out (by omega) HU.out).mono ?_
          rintro e w11 ⟨rfl,hb⟩
          have HS11:=Lib.hid (HS10.out.below hb)
          have HO11:=Lib.hid (HO10.out.later hb)
          have HOk9 : Hid (rowsF Y = 0 → ∀ r ∈ Y,r.Ok):=Lib.hid fun h0 => (rowsF_ok h0 HU.out).2.1
          have HSet:=Lib.hid (tset_st HS11.out hbs HO11.out HN9.out (by omega) HU.out)
          dsimp only at HSet
          generalize rowsF Y = RY at *
          clear hb HS10 HO10
          go_wp2_with fail
          refine HSet.out.mono ?_
          rintro e w12 ⟨rfl,hS1,hS2,hk⟩
          have HO12:=Lib.hid (HO11.out.keepT hk (by decide) (by decide) (by decide))
          have HS12a:=Lib.hid hS1
          have HS12b:=Lib.hid hS2
          clear hS1 hS2 hk HSet HS11 HO11
          by_cases hRY : RY = 0
          ·obtain ⟨aY,cY,hS⟩:=HS12b.out hRY
           have HS12:=Lib.hid hS
           have HOk:=Lib.hid (HOk9.out hRY)
           subst hRY
           clear hS HS12a HS12b HOk9
           have tf:=HS12.out.h2.free
           have t0:=HS12.out.h2.cell 0
           simp [tcC] at t0
           go_wp2_with fail
           go_meet
           case rel => exact ⟨aY,ln9,cY,a9,ln9,c9,last,lst,lst2,L,Y,P6,(HS12.out.rows2 hbs HO12.out).mono (by omega),HOK.out,by have:=HLL.out;omega,HLA.out,HOk.out,by rw [HN9.out];omega,HPK6.out,HPL6.out⟩
          ·have HS12:=Lib.hid (HS12a.out hRY)
           have hRY2 : (RY == 0) = false:=by simpa using hRY
           clear hRY HS12a HS12b HOk9
           go_wp2_with fail
           go_meet
           case rel => exact HI0.out _ _ (by omega) HS12.out
      case rest =>
       have HI:=Lib.hid hcut
       clear hcut HS8 HP8 HK HX HOK HLL HLA HFO HFL HPL6 HPK6 HPW hXs hXl
       obtain ⟨xa',xn',xc',ya',yn',yc',last',lst',lst2',L',FF',P',hS,hok,hll,hla,hfo,hfl,hpk,hpl⟩:=HI.out
       have HS9:=Lib.hid hS
       have HFl:=Lib.hid (tflows_st hS hok (by show L'.length < 20;omega) i)
       have HQl:=Lib.hid fun wx (hx : TkSt b w0.heap.size (3000 + 3000 * j + 2600) w0 tv most ⟨T,xa',xn',xc',last',lst',L',FF'⟩ ⟨T2,ya',yn',yc',last',lst2',L',FF'⟩ hv' P' wx) => qflows_st hx hok (by show L'.length < 20;omega) i
       have hfl20:=flowsM_len tv last' i L'
       have HEnd : Hid (∀ wx,TkSt b w0.heap.size (3000 + 3000 * j + 2600) w0 tv most ⟨T,xa',xn',xc',last',lst',L',FF'⟩ ⟨T2,ya',yn',yc',last',lst2',L',FF'⟩ hv' P' wx → TkI b w0.heap.size w0 tv most T T2 (3000 + 3000 * (j + 1)) (j + 1) (j + 1) hv' wx):=Lib.hid fun wx hx => ⟨xa',xn',xc',ya',yn',yc',last',lst',lst2',L',FF',P',hx.mono (by omega),hok,hll,hla,hfo,hfl,hpk,hpl⟩
       have hfn : (flowsM tv last' i L').length ≤ 1000000:=by omega
       clear hS hok hll hla hfo hfl hpk hpl HI hfl20
       dsimp only at HFl HQl
       generalize flowsM tv last' i L' = LF at *
       obtain ⟨NL,hNL⟩ : ∃ q,LF.length = q:=⟨_,rfl⟩
       have HNL:=Lib.hid hNL
       rw [hNL] at HFl HQl hfn
       clear hNL
       generalize momF i last' = MF at *
       go_wp2_with fail
       refine HFl.out.mono ?_
       rintro e w10 ⟨ad1,cc1,rfl,hR,hS,hb⟩
       have HR1:=Lib.hid hR
       have HS10:=Lib.hid hS
       clear hR hS hb HFl HS9
       go_wp2_with fail
       refine (HQl.out _ HS10.out).mono ?_
       rintro e w11 ⟨ad2,cc2,rfl,hR,hS,hb⟩
       have HR1b:=Lib.hid (HR1.out.below hb)
       have HR2:=Lib.hid hR
       have HS11:=Lib.hid hS
       clear hR hS hb HQl HS10 HR1
       have HEq:=Lib.hid (equalTk_any ad1 ad2 NL cc1 cc2 LF w11 HR1b.out HR2.out HNL.out hfn)
       clear HR1b HR2
       go_wp2_with fail
       refine HEq.out.mono ?_
       rintro e w12 ⟨rfl,hb⟩
       have HE12:=Lib.hid (HEnd.out _ (HS11.out.below hb))
       clear hb HEq HS11 HEnd
       go_wp2_with fail
       exact ⟨⟨j + 1,a + k1,by omega,by go_num,by go_num,by omega,HE12⟩,by simp [intOf];omega⟩
   ·obtain rfl : j = nn:=by omega
    have HB:=Lib.hid (HI.out.gen.toBelowK HB0.out HW.out)
    clear HI
    go_wp2_with fail
    refine (filtered_any _).mono ?_
    rintro e w9 ⟨rfl,hb⟩
    have HB9:=Lib.hid (HB.out.trans (hb.mono HB.out.size))
    clear hb
    go_wp2_with fail
    go_ret
    exact ⟨rfl,HB9.out⟩
end Go.Proofs.YthebgfnaomgcnaaGreat
