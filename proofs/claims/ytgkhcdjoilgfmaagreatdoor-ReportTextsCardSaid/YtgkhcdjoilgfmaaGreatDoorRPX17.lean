/-
  The reference's joined: spans of wide numbers in order, put together where they touch.
  A span of two wide numbers, built; a row of one such span.
  The reference's prefixes: the greedy blocks of spans of wide numbers.
  The reference's spansOf: the spans of prefixes, joined.
  The reference's LeastOf and SpanOf.
  The reference's SetFault.
  The text of a set: SetLines of the reference, SetText of the program.
  flow.Text. Condition: at most ten reports, each short.
-/
import Derived.Test.YtgkhcdjoilgfmaaGreatDoorRPX16
import Derived.Test.YtgkhcdjoilgfmaaGreatDoorRPX10
import Derived.Test.YtgkhcdjoilgfmaaGreatDoorRPX15
import Derived.Test.YtgkhcdjoilgfmaaGreatDoorRPX2
import Derived.Test.YtgkhcdjoilgfmaaGreatDoorRPX12
set_option linter.unusedVariables false
set_option maxRecDepth 100000
set_option maxHeartbeats 8000000
namespace Go.Proofs.YtgkhcdjoilgfmaaGreatDoor
open Go.RowKit Go
open Go.RowKit Go Go.Sort
theorem bld_later {B b:Nat} {bs:List Value} {w w':World} (h:Lib.IsBuilder 129 5 B b bs w) (hb:Below w.heap.size w w'):Lib.IsBuilder 129 5 B b bs w':=by
 have key:∀ p,Lib.BuilderAt 129 5 B b p bs w→Lib.BuilderAt 129 5 B b p bs w':=fun p hp => by
  have hlt:=hp.lt
  obtain ⟨h1,v,h2,h3,h4⟩:=hp
  exact ⟨h1,v,(hb.block b hlt).trans h2,own_later h3 hb,h4⟩
 rcases h with h | h
 ·exact .inl (key _ h)
 ·exact .inr (key _ h)
theorem wText_any (ad:Option Addr) (n c:Nat) (L:List RB) (w:World) (h:RdK layRb w ad L) (hn:L.length=n) (hs:n≤19) (hk:∀ x ∈ L,x.1.Gm) (ht:Tabs w) :
  Calls Tryz.prog 30 #[.slice ad n c] w (Ret (.tuple #[.string (if repF L=0 then strL (repsT L) else ⟨#[]⟩), .int .i64 (repF L)]) w):=by
 have H0:=Lib.hid h
 have Hn:=Lib.hid hn
 have Hk:=Lib.hid hk
 have HT:=Lib.hid ht
 have HC:=Lib.hid (flCheckR_any ad n c L w h hn (by omega))
 have HE:Hid (repsT (L.take n)=repsT L):=Lib.hid (by rw [← hn,List.take_length])
 have HZ:Hid (repsT (L.take 0)=[]):=Lib.hid rfl
 have HR0:Hid (repF L=0→(if repF L=0 then strL (repsT L) else ⟨#[]⟩)=strL (repsT L)):=Lib.hid fun h => if_pos h
 have HR1:Hid (repF L ≠ 0→(if repF L=0 then strL (repsT L) else ⟨#[]⟩)=⟨#[]⟩):=Lib.hid fun h => if_neg h
 have HAd:Hid (repF L=0→∀ x ∈ L,aFault x.1.f.s1 x.1.f.h1 x.1.f.l1=0∧aFault x.1.f.s2 x.1.f.h2 x.1.f.l2=0):=Lib.hid repF_addr
 clear h hn hk ht
 generalize (if repF L=0 then strL (repsT L) else ⟨#[]⟩)=RS at *
 generalize repsT L=ST at *
 generalize repF L=F at *
 go_enter Tryz.func30,Tryz.ntmps30
 go_wp2_with fail
 refine HC.out.mono ?_
 rintro e w1 ⟨rfl,hb⟩
 have HB1:=Lib.hid hb
 clear hb HC
 by_cases hF:F=0
 ·have HAf:=Lib.hid (HAd.out hF)
  have hRS:=HR0.out hF
  have HRS:=Lib.hid hRS
  subst hF
  clear HR0 HR1 HAd hRS
  have HBu:Hid (Lib.IsBuilder 129 5 w1.heap.size w1.heap.size (Lib.byteCells []) (w1.alloc (.cells #[.pointer none, .slice none 0 0] 129 (0,0)))):=Lib.hid (Or.inl ⟨Nat.le_refl _, .slice none 0 0,heap_alloc_new w1 _,World.ownsRow_nil _ _ _ _,by simp [Value.ownBlock]⟩)
  have HB2:Hid (Below w1.heap.size w1 (w1.alloc (.cells #[.pointer none, .slice none 0 0] 129 (0,0)))):=Lib.hid (below_alloc (Below.refl _ _) _)
  have hlt2:w1.heap.size < (w1.alloc (.cells #[.pointer none, .slice none 0 0] 129 (0,0))).heap.size:=by simp
  go_upto_region 5 with fail
  generalize w1.alloc (.cells #[.pointer none, .slice none 0 0] 129 (0,0))=w2 at *
  obtain ⟨bb,hbb⟩:∃ q,w1.heap.size=q:=⟨_,rfl⟩
  have Hbb:=Lib.hid hbb
  rw [hbb] at HBu HB2 hlt2 ⊢
  clear hbb
  go_wp2_with fail
  go_loopw [23] (fun i wr => ∃ (k:Nat),k≤n∧i=.int .i64 (k:Int)∧Hid (Lib.IsBuilder 129 5 bb bb (Lib.byteCells (repsT (L.take k))) wr)∧Hid ((repsT (L.take k)).length≤10011 * k)∧Hid (Below bb w1 wr)∧Hid (bb < wr.heap.size)) (fun i _ => n - (intOf i).toNat)
  case atStart => exact ⟨0,Nat.zero_le _,rfl,by rw [HZ.out];exact HBu,Lib.hid (by rw [HZ.out];show 0≤_;omega),HB2,Lib.hid hlt2⟩
  case round =>
   clear HBu HB2
   obtain ⟨k,hk,rfl,HU,HSz,HB,HLt⟩:=hrel
   have HBw:Hid (Below w.heap.size w wr):=Lib.hid (HB1.out.trans (HB.out.mono (by rw [← Hbb.out];exact HB1.out.size)))
   by_cases hlt:k < n
   ·have hS:k < L.length:=by rw [Hn.out];exact hlt
    obtain ⟨x,hp⟩:∃ x,L[k]?=some x:=⟨_,List.getElem?_eq_getElem hS⟩
    have hgm:=Hk.out x (List.mem_of_getElem? hp)
    have haf:=HAf.out x (List.mem_of_getElem? hp)
    have hTk:=repsT_take hp
    have hsz:=rpB_size hgm
    have hws:=rpW_short hgm
    obtain ⟨g,o,had,hg,hc⟩:=(H0.out.below HBw.out) k x hp
    subst had
    obtain ⟨⟨nd,hr,ou,⟨p,s1,h1,l1,s2,h2,l2,fp,tp⟩,pk,sz⟩,hsm⟩:=x
    obtain ⟨⟨⟨⟨bp0,bp1⟩,⟨u1,u2⟩,⟨u3,u4⟩,⟨u5,u6⟩,⟨u7,u8⟩,⟨bf0,bf1⟩,bt0,bt1⟩,bh0,bh1, -⟩, -,⟨bk0,bk1⟩,bs0,bs1⟩:=hgm
    obtain ⟨af1,af2⟩:=haf
    simp only at u1 u2 u3 u4 u5 u6 u7 u8 bp0 bp1 bf0 bf1 bt0 bt1 bh0 bh1 bk0 bk1 bs0 bs1 af1 af2
    have k0:=hc 0 _ rfl
    have k1:=hc 1 _ rfl
    have k2:=hc 2 _ rfl
    have k3:=hc 3 _ rfl
    have k4:=hc 4 _ rfl
    have k5:=hc 5 _ rfl
    have k6:=hc 6 _ rfl
    have k7:=hc 7 _ rfl
    have k8:=hc 8 _ rfl
    have k9:=hc 9 _ rfl
    have k10:=hc 10 _ rfl
    have k11:=hc 11 _ rfl
    have k12:=hc 12 _ rfl
    have k13:=hc 13 _ rfl
    simp only [show layRb.K=14 from rfl,Nat.add_zero, ← Nat.add_assoc] at k0 k1 k2 k3 k4 k5 k6 k7 k8 k9 k10 k11 k12 k13
    have HT1:=Lib.hid fun wx (hb:Below w.heap.size w wx) => aText_any s1 h1.toNat l1.toNat wx (by unfold U64N;omega) (by unfold U64N;omega) (HT.out.below hb)
    have HT2:=Lib.hid fun wx (hb:Below w.heap.size w wx) => aText_any s2 h2.toNat l2.toNat wx (by unfold U64N;omega) (by unfold U64N;omega) (HT.out.below hb)
    unfold txtR at HT1 HT2
    rw [Int.toNat_of_nonneg u1,Int.toNat_of_nonneg u3,af1,if_pos rfl] at HT1
    rw [Int.toNat_of_nonneg u5,Int.toNat_of_nonneg u7,af2,if_pos rfl] at HT2
    have HIt:=Lib.hid fun (z:Int) (h0:-9223372036854775808≤z) (h1:z≤9223372036854775807) wx (hb:Below w.heap.size w wx) => itoaI_any z h0 h1 wx (HT.out.below hb)
    have HI0:=Lib.hid (HIt.out hr (by omega) (by omega))
    have HI1:=Lib.hid (HIt.out p (by omega) (by omega))
    have HI2:=Lib.hid (HIt.out fp (by omega) (by omega))
    have HI3:=Lib.hid (HIt.out tp (by omega) (by omega))
    have HI4:=Lib.hid (HIt.out pk (by omega) (by omega))
    have HI5:=Lib.hid (HIt.out sz (by omega) (by omega))
    clear HIt
    have hWD:rpW ⟨nd,hr,ou,⟨p,s1,h1,l1,s2,h2,l2,fp,tp⟩,pk,sz⟩=[itB hr,nd,wayB ou,itB p,txtA s1 h1.toNat l1.toNat,txtA s2 h2.toNat l2.toNat,itB fp,itB tp,itB pk,itB sz]:=rfl
    unfold rpB at hTk hsz
    simp only at hTk hsz hws
    rw [hWD] at hTk hsz hws
    clear hWD
    obtain ⟨WB,hWB⟩:∃ q,wayB ou=q:=⟨_,rfl⟩
    have HWB:Hid ((ou=true→WB=⟨#[111,117,116]⟩)∧(ou=false→WB=⟨#[105,110]⟩)):=Lib.hid ⟨fun e => by rw [← hWB,e];rfl,fun e => by rw [← hWB,e];rfl⟩
    rw [hWB] at hTk hsz hws
    clear hWB
    generalize itB hr=B0 at *
    generalize itB p=B1 at *
    generalize itB fp=B2 at *
    generalize itB tp=B3 at *
    generalize itB pk=B4 at *
    generalize itB sz=B5 at *
    generalize txtA s1 h1.toNat l1.toNat=A1 at *
    generalize txtA s2 h2.toNat l2.toNat=A2 at *
    have HJ:=Lib.hid fun wx B v (hO:OwnS wx B v [B0,nd,WB,B1,A1,A2,B2,B3,B4,B5]) => join_own 32 hO (by simp) (by omega)
    obtain ⟨TX,hTX⟩:∃ q,joinS [B0,nd,WB,B1,A1,A2,B2,B3,B4,B5] ⟨#[32]⟩=q:=⟨_,rfl⟩
    rw [hTX] at HJ hTk hsz
    have HTk:=Lib.hid hTk
    clear hp hS hTX hTk hg hc hws u1 u2 u3 u4 u5 u6 u7 u8 bp0 bp1 bf0 bf1 bt0 bt1 bh0 bh1 bk0 bk1 bs0 bs1 af1 af2 hsm
    have HP1:Hid (Blk (wr.alloc (.cells #[.string nd, .int .i64 hr, .bool ou, .int .i64 p, .bool s1, .int .u64 h1, .int .u64 l1, .bool s2, .int .u64 h2, .int .u64 l2, .int .i64 fp, .int .i64 tp, .int .i64 pk, .int .i64 sz] 74 (0,0))) wr.heap.size 74 #[.string nd, .int .i64 hr, .bool ou, .int .i64 p, .bool s1, .int .u64 h1, .int .u64 l1, .bool s2, .int .u64 h2, .int .u64 l2, .int .i64 fp, .int .i64 tp, .int .i64 pk, .int .i64 sz]):=Lib.hid (Blk.new wr _ _)
    have HB3:Hid (Below bb w1 (wr.alloc (.cells #[.string nd, .int .i64 hr, .bool ou, .int .i64 p, .bool s1, .int .u64 h1, .int .u64 l1, .bool s2, .int .u64 h2, .int .u64 l2, .int .i64 fp, .int .i64 tp, .int .i64 pk, .int .i64 sz] 74 (0,0)))):=Lib.hid (Below.alloc HB.out (Nat.le_of_lt HLt.out) _)
    have HBw3:Hid (Below w.heap.size w (wr.alloc (.cells #[.string nd, .int .i64 hr, .bool ou, .int .i64 p, .bool s1, .int .u64 h1, .int .u64 l1, .bool s2, .int .u64 h2, .int .u64 l2, .int .i64 fp, .int .i64 tp, .int .i64 pk, .int .i64 sz] 74 (0,0)))):=Lib.hid (Below.alloc HBw.out HBw.out.size _)
    have HU3:Hid (Lib.IsBuilder 129 5 bb bb (Lib.byteCells (repsT (L.take k))) (wr.alloc (.cells #[.string nd, .int .i64 hr, .bool ou, .int .i64 p, .bool s1, .int .u64 h1, .int .u64 l1, .bool s2, .int .u64 h2, .int .u64 l2, .int .i64 fp, .int .i64 tp, .int .i64 pk, .int .i64 sz] 74 (0,0)))):=Lib.hid (bld_later HU.out (below_alloc (Below.refl _ _) _))
    have HLt3:Hid (bb < (wr.alloc (.cells #[.string nd, .int .i64 hr, .bool ou, .int .i64 p, .bool s1, .int .u64 h1, .int .u64 l1, .bool s2, .int .u64 h2, .int .u64 l2, .int .i64 fp, .int .i64 tp, .int .i64 pk, .int .i64 sz] 74 (0,0))).heap.size):=Lib.hid (by have:=HLt.out;simp;omega)
    have HCat:Hid (Lib.byteCells (repsT (L.take k)) ++ Lib.strCells (TX ++ ⟨#[10]⟩)=Lib.byteCells (repsT (L.take (k + 1)))):=Lib.hid (by
     rw [HTk.out]
     unfold Lib.byteCells Lib.strCells
     rw [List.map_append,List.map_append,ByteArray.data_append,Array.toList_append,List.map_append])
    have HSz2:Hid ((repsT (L.take (k + 1))).length≤10011 * (k + 1)):=Lib.hid (by
     rw [HTk.out,List.length_append,List.length_append]
     have h1:TX.data.toList.length=TX.size:=by rw [Array.length_toList];rfl
     have h2:=HSz.out
     simp only [List.length_cons,List.length_nil]
     omega)
    have HAd1:=Lib.hid fun wx => add_str TX ⟨#[10]⟩ (by omega) (by decide) wx
    have HW:=Lib.hid fun wx (hx:Lib.IsBuilder 129 5 bb bb (Lib.byteCells (repsT (L.take k))) wx) (hl:bb≤wx.heap.size) => bWrite_any bb bb (Lib.byteCells (repsT (L.take k))) (TX ++ ⟨#[10]⟩) wx hx (by rw [Lib.byteCells_length,ByteArray.size_append];have h1:(⟨#[10]⟩:ByteArray).size=1:=rfl;have h2:=HSz.out;omega) hl
    rw [HCat.out] at HW
    have HNb1:Hid (¬ 9223372036854775807 < TX.size + 1):=Lib.hid (by omega)
    clear hsz HCat HTk
    generalize Lib.byteCells (repsT (L.take k))=BC at *
    go_upto_region 8 with fail
    generalize wr.alloc (.cells #[.string nd, .int .i64 hr, .bool ou, .int .i64 p, .bool s1, .int .u64 h1, .int .u64 l1, .bool s2, .int .u64 h2, .int .u64 l2, .int .i64 fp, .int .i64 tp, .int .i64 pk, .int .i64 sz] 74 (0,0))=w3 at *
    obtain ⟨bx,hbx⟩:∃ q,wr.heap.size=q:=⟨_,rfl⟩
    rw [hbx] at HP1 ⊢
    clear hbx
    clear HB HBw HU HLt k0 k1 k2 k3 k4 k5 k6 k7 k8 k9 k10 k11 k12 k13
    have HP3:=HP1
    clear HP1
    have d0:=HP3.out.cell 0
    have d1:=HP3.out.cell 1
    have d2:=HP3.out.cell 2
    have d3:=HP3.out.cell 3
    have d4:=HP3.out.cell 4
    have d5:=HP3.out.cell 5
    have d6:=HP3.out.cell 6
    have d7:=HP3.out.cell 7
    have d8:=HP3.out.cell 8
    have d9:=HP3.out.cell 9
    have d10:=HP3.out.cell 10
    have d11:=HP3.out.cell 11
    have d12:=HP3.out.cell 12
    have d13:=HP3.out.cell 13
    simp at d0 d1 d2 d3 d4 d5 d6 d7 d8 d9 d10 d11 d12 d13
    cases ou
    case' false =>
     have hWB:=HWB.out.2 rfl
     go_upto_region 11 with fail
     rw [← hWB]
    case' true =>
     have hWB:=HWB.out.1 rfl
     go_upto_region 11 with fail
     rw [← hWB]
    all_goals
     clear hWB HWB
     go_wp2_with fail
     refine (HT1.out _ HBw3.out).mono ?_
     rintro e w4 ⟨rfl,hb⟩
     clear d0 d1 d2 d3 d4 d5 d6 d7 d8 d9 d10 d11 d12 d13 HT1
     have HP4:=Lib.hid (HP3.out.below hb HP3.out.lt)
     have HB4:=Lib.hid (HB3.out.trans (hb.mono (Nat.le_of_lt HLt3.out)))
     have HBw4:=Lib.hid (HBw3.out.trans (hb.mono HBw3.out.size))
     have HU4:=Lib.hid (bld_later HU3.out hb)
     have HLt4:Hid (bb < w4.heap.size):=Lib.hid (Nat.lt_of_lt_of_le HLt3.out hb.size)
     clear hb HP3 HB3 HBw3 HU3 HLt3
     have d0:=HP4.out.cell 0
     have d1:=HP4.out.cell 1
     have d2:=HP4.out.cell 2
     have d3:=HP4.out.cell 3
     have d4:=HP4.out.cell 4
     have d5:=HP4.out.cell 5
     have d6:=HP4.out.cell 6
     have d7:=HP4.out.cell 7
     have d8:=HP4.out.cell 8
     have d9:=HP4.out.cell 9
     have d10:=HP4.out.cell 10
     have d11:=HP4.out.cell 11
     have d12:=HP4.out.cell 12
     have d13:=HP4.out.cell 13
     simp at d0 d1 d2 d3 d4 d5 d6 d7 d8 d9 d10 d11 d12 d13
     go_wp2_with fail
     refine (HT2.out _ HBw4.out).mono ?_
     rintro e w5 ⟨rfl,hb⟩
     clear d0 d1 d2 d3 d4 d5 d6 d7 d8 d9 d10 d11 d12 d13 HT2
     have HP5:=Lib.hid (HP4.out.below hb HP4.out.lt)
     have HB5:=Lib.hid (HB4.out.trans (hb.mono (Nat.le_of_lt HLt4.out)))
     have HBw5:=Lib.hid (HBw4.out.trans (hb.mono HBw4.out.size))
     have HU5:=Lib.hid (bld_later HU4.out hb)
     have HLt5:Hid (bb < w5.heap.size):=Lib.hid (Nat.lt_of_lt_of_le HLt4.out hb.size)
     clear hb HP4 HB4 HBw4 HU4 HLt4
     have d0:=HP5.out.cell 0
     have d1:=HP5.out.cell 1
     have d3:=HP5.out.cell 3
     simp at d0 d1 d3
     have q0:=fun (m:Later w5) => Later.cell_of d0 m
     have q1:=fun (m:Later w5) => Later.cell_of d1 m
     have q3:=fun (m:Later w5) => Later.cell_of d3 m
     have HJ0:Hid (∀ m:Later w5,Calls Tryz.prog 97 #[.int .i64 hr] m.1 (Ret (.string B0) m.1)):=Lib.hid fun m => HI0.out _ (HBw5.out.trans (m.2.mono HBw5.out.size))
     have HJ1:Hid (∀ m:Later w5,Calls Tryz.prog 97 #[.int .i64 p] m.1 (Ret (.string B1) m.1)):=Lib.hid fun m => HI1.out _ (HBw5.out.trans (m.2.mono HBw5.out.size))
     clear d0 d1 d3 HI0 HI1
     go_wp2_with fail
     refine wp_region_later_tail 12 (by kernel_rfl) (by kernel_rfl) ?_
     simp only [List.take_succ_cons,List.take_zero,List.drop_succ_cons,List.drop_zero]
     repeat (go_big_quiet_step (fail))
     go_big_quiet_step ((go_at_call 97;exact Calls.later _ (HJ0.out _)))
     repeat (go_big_quiet_step (fail))
     go_big_quiet_step ((go_at_call 97;exact Calls.later _ (HJ1.out _)))
     repeat (go_big_quiet_step (fail))
     refine wpQuiet_nil ?_
     rintro w6 ⟨n2,hn2⟩
     subst hn2
     have hb:=n2.2
     obtain ⟨w6,hw6⟩:∃ w6,w6=n2.1:=⟨_,rfl⟩
     rw [← hw6] at hb ⊢
     clear hw6 n2 q0 q1 q3 HJ0 HJ1
     have HP6:=Lib.hid (HP5.out.below hb HP5.out.lt)
     have HB6:=Lib.hid (HB5.out.trans (hb.mono (Nat.le_of_lt HLt5.out)))
     have HBw6:=Lib.hid (HBw5.out.trans (hb.mono HBw5.out.size))
     have HU6:=Lib.hid (bld_later HU5.out hb)
     have HLt6:Hid (bb < w6.heap.size):=Lib.hid (Nat.lt_of_lt_of_le HLt5.out hb.size)
     clear hb HP5 HB5 HBw5 HU5 HLt5
     have HO7:Hid (OwnS (w6.alloc (.cells #[.string B0, .string nd, .string WB, .string B1, .string A1, .string A2] 9 (0,0))) w6.heap.size (.slice (some ⟨w6.heap.size,0,none⟩) 6 6) [B0,nd,WB,B1,A1,A2]):=Lib.hid (OwnS.new w6 [B0,nd,WB,B1,A1,A2] (by simp))
     have HK7:Hid (Below w6.heap.size w6 (w6.alloc (.cells #[.string B0, .string nd, .string WB, .string B1, .string A1, .string A2] 9 (0,0)))):=Lib.hid (below_alloc (Below.refl _ _) _)
     go_upto_region 14 with fail
     generalize w6.alloc (.cells #[.string B0, .string nd, .string WB, .string B1, .string A1, .string A2] 9 (0,0))=w7 at *
     obtain ⟨b6,hb6⟩:∃ q,w6.heap.size=q:=⟨_,rfl⟩
     have hp6:=HP6.out.lt
     have hl6:=HBw6.out.size
     rw [hb6] at HO7 HK7 hp6 hl6 ⊢
     have Hb6:=Lib.hid hb6
     clear hb6
     have d10:=(HP6.out.below HK7.out hp6).cell 10
     have d11:=(HP6.out.below HK7.out hp6).cell 11
     have d12:=(HP6.out.below HK7.out hp6).cell 12
     have d13:=(HP6.out.below HK7.out hp6).cell 13
     simp at d10 d11 d12 d13
     go_wp2_with fail
     refine wp_loop_rounds 5 ?_
     clear d10 d11 d12 d13
     have i0:=fun wx => idx4_0 fp tp pk sz wx
     have i1:=fun wx => idx4_1 fp tp pk sz wx
     have i2:=fun wx => idx4_2 fp tp pk sz wx
     have i3:=fun wx => idx4_3 fp tp pk sz wx
     rw [rounds_succ]
     go_wp2_with fail
     refine (HI2.out _ (HBw6.out.trans (HK7.out.mono hl6))).mono ?_
     rintro e w8 ⟨rfl,hb⟩
     have HO8:=Lib.hid (HO7.out.later hb)
     have hs7:b6≤w7.heap.size:=by have:=HK7.out.size;have:=Hb6.out;omega
     have HK8:=Lib.hid (HK7.out.trans (hb.mono hs7))
     have hs8:b6≤w8.heap.size:=Nat.le_trans hs7 hb.size
     clear hb HO7 HK7 hs7 HI2
     go_wp2_with (at_builtin;refine wpList_app strE rfl (.tmp 70) (.tmp 73) rfl rfl (World.ownsRow.alloc HO8.out _) rfl (src_one_new _ _ _) ?c1 ?c2 ?c3 ?c4 ?_)
     case c1 => first | rfl | (intro u hu;simp at hu;subst hu;rfl)
     case c2 => unfold maxLen;simp
     case c3 => simp
     case c4 => simp;omega
     intro v9 w9 hO hG
     have HO9:=Lib.hid (OwnS.snoc hO)
     have HK9:Hid (Below b6 w6 w9):=Lib.hid ((Below.alloc HK8.out hs8 _).trans (hG.below (by simp;omega) (own_base HO8.out)))
     clear hO hG HO8 HK8 hs8
     go_wp2_with fail
     rw [rounds_succ]
     go_wp2_with fail
     refine (HI3.out _ (HBw6.out.trans (HK9.out.mono hl6))).mono ?_
     rintro e w10 ⟨rfl,hb⟩
     have HO10:=Lib.hid (HO9.out.later hb)
     have hs9:b6≤w9.heap.size:=by have:=HK9.out.size;have:=Hb6.out;omega
     have HK10:=Lib.hid (HK9.out.trans (hb.mono hs9))
     have hs10:b6≤w10.heap.size:=Nat.le_trans hs9 hb.size
     clear hb HO9 HK9 hs9 HI3
     go_wp2_with (at_builtin;refine wpList_app strE rfl (.tmp 70) (.tmp 73) rfl rfl (World.ownsRow.alloc HO10.out _) rfl (src_one_new _ _ _) ?c1 ?c2 ?c3 ?c4 ?_)
     case c1 => first | rfl | (intro u hu;simp at hu;subst hu;rfl)
     case c2 => unfold maxLen;simp
     case c3 => simp
     case c4 => simp;omega
     intro v11 w11 hO hG
     have HO11:=Lib.hid (OwnS.snoc hO)
     have HK11:Hid (Below b6 w6 w11):=Lib.hid ((Below.alloc HK10.out hs10 _).trans (hG.below (by simp;omega) (own_base HO10.out)))
     clear hO hG HO10 HK10 hs10
     go_wp2_with fail
     rw [rounds_succ]
     go_wp2_with fail
     refine (HI4.out _ (HBw6.out.trans (HK11.out.mono hl6))).mono ?_
     rintro e w12 ⟨rfl,hb⟩
     have HO12:=Lib.hid (HO11.out.later hb)
     have hs11:b6≤w11.heap.size:=by have:=HK11.out.size;have:=Hb6.out;omega
     have HK12:=Lib.hid (HK11.out.trans (hb.mono hs11))
     have hs12:b6≤w12.heap.size:=Nat.le_trans hs11 hb.size
     clear hb HO11 HK11 hs11 HI4
     go_wp2_with (at_builtin;refine wpList_app strE rfl (.tmp 70) (.tmp 73) rfl rfl (World.ownsRow.alloc HO12.out _) rfl (src_one_new _ _ _) ?c1 ?c2 ?c3 ?c4 ?_)
     case c1 => first | rfl | (intro u hu;simp at hu;subst hu;rfl)
     case c2 => unfold maxLen;simp
     case c3 => simp
     case c4 => simp;omega
     intro v13 w13 hO hG
     have HO13:=Lib.hid (OwnS.snoc hO)
     have HK13:Hid (Below b6 w6 w13):=Lib.hid ((Below.alloc HK12.out hs12 _).trans (hG.below (by simp;omega) (own_base HO12.out)))
     clear hO hG HO12 HK12 hs12
     go_wp2_with fail
     rw [rounds_succ]
     go_wp2_with fail
     refine (HI5.out _ (HBw6.out.trans (HK13.out.mono hl6))).mono ?_
     rintro e w14 ⟨rfl,hb⟩
     have HO14:=Lib.hid (HO13.out.later hb)
     have hs13:b6≤w13.heap.size:=by have:=HK13.out.size;have:=Hb6.out;omega
     have HK14:=Lib.hid (HK13.out.trans (hb.mono hs13))
     have hs14:b6≤w14.heap.size:=Nat.le_trans hs13 hb.size
     clear hb HO13 HK13 hs13 HI5
     go_wp2_with (at_builtin;refine wpList_app strE rfl (.tmp 70) (.tmp 73) rfl rfl (World.ownsRow.alloc HO14.out _) rfl (src_one_new _ _ _) ?c1 ?c2 ?c3 ?c4 ?_)
     case c1 => first | rfl | (intro u hu;simp at hu;subst hu;rfl)
     case c2 => unfold maxLen;simp
     case c3 => simp
     case c4 => simp;omega
     intro v15 w15 hO hG
     have HO15:=Lib.hid (OwnS.snoc hO)
     have HK15:Hid (Below b6 w6 w15):=Lib.hid ((Below.alloc HK14.out hs14 _).trans (hG.below (by simp;omega) (own_base HO14.out)))
     clear hO hG HO14 HK14 hs14
     have HOF:Hid (OwnS w15 b6 v15 [B0,nd,WB,B1,A1,A2,B2,B3,B4,B5]):=Lib.hid HO15.out
     have hs:b6≤w15.heap.size:=by have:=HK15.out.size;have:=Hb6.out;omega
     clear HO15
     go_wp2_with fail
     rw [rounds_succ]
     go_wp2_with fail
     refine (HJ.out _ _ _ HOF.out).mono ?_
     rintro e w16 ⟨rfl,hb⟩
     have hk:=HK15.out.trans (hb.mono hs)
     rw [← Hb6.out] at hk
     have HB16:=Lib.hid (HB6.out.trans (hk.mono (Nat.le_of_lt HLt6.out)))
     have HU16:=Lib.hid (bld_later HU6.out hk)
     have HLt16:Hid (bb < w16.heap.size):=Lib.hid (Nat.lt_of_lt_of_le HLt6.out hk.size)
     clear hb hk hs HOF HK15 HB6 HU6 HLt6 HP6 HBw6 hp6 hl6 Hb6 HJ
     have nb1:=HNb1.out
     go_wp2_with fail
     refine (HW.out _ HU16.out (Nat.le_of_lt HLt16.out)).mono ?_
     rintro e w17 ⟨rfl,hbu,hb⟩
     have HB17:=Lib.hid (HB16.out.trans hb)
     have HU17:=Lib.hid (Or.inr hbu:Lib.IsBuilder 129 5 bb bb (Lib.byteCells (repsT (L.take (k + 1)))) w17)
     have HLt17:Hid (bb < w17.heap.size):=Lib.hid (Nat.lt_of_lt_of_le HLt16.out hb.size)
     clear hb hbu HB16 HU16 HLt16 nb1 HAd1 HW
     go_wp2_with fail
     exact ⟨⟨k + 1,by omega,by go_num,HU17,HSz2,HB17,HLt17⟩,by simp [intOf];omega⟩
   ·obtain rfl:k=n:=by omega
    have hz:=HSz.out
    have hbl:=Lib.byteCells_length (repsT (L.take k))
    have HLn:=Lib.hid (Tryz.Builder_Len bb bb (Lib.byteCells (repsT (L.take k))) wr HU.out)
    have HSt:=Lib.hid (Tryz.Builder_String_any bb bb (repsT (L.take k)) wr HU.out (Nat.le_of_lt HLt.out))
    rw [HE.out] at HSt
    rw [hbl] at HLn
    have hq:(repsT (L.take k)).length≤200000:=by omega
    generalize (repsT (L.take k)).length=ql at *
    clear hz hbl
    go_wp2_with fail
    refine HLn.out.mono ?_
    rintro e w5 ⟨rfl,rfl⟩
    clear HLn
    go_wp2_with fail
    refine HSt.out.mono ?_
    rintro e w6 ⟨rfl,hb⟩
    have HB6:Hid (Below w.heap.size w w6):=Lib.hid (HB1.out.trans ((HB.out.trans hb).mono (by rw [← Hbb.out];exact HB1.out.size)))
    clear hb
    go_wp2_with fail
    go_ret2
    exact ⟨by rw [HRS.out];rfl,HB6.out⟩
 ·have hRS:=HR1.out hF
  have hb1:(F != 0)=true:=by simpa using hF
  subst hRS
  clear HR0 HR1 HAd
  go_wp2_with fail
  go_ret2
  exact ⟨rfl,HB1.out⟩
end Go.Proofs.YtgkhcdjoilgfmaaGreatDoor
