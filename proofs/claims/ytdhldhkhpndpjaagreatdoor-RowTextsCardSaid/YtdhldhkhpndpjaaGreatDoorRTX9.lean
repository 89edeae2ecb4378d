/-
  span.joined: ranges in order, put together where they touch.
  span.Of: the ranges of prefixes, in any order.
  How many blocks a span has at most, plain.
  Spans.Prefixes: the greedy blocks of ranges.
  slices.Equal at rows of prefixes and of ranges.
  addr.set, checkPrefixes, Least of the program.
  addr.Least, CheckSet, Ranges of the program.
  addr.CheckSet of the program.
-/
import Derived.Test.YtdhldhkhpndpjaaGreatDoorRTX8
import Derived.Deep.Cut
import Derived.Deep.Light
import Derived.Deep.CutBlock
import Derived.Test.YtdhldhkhpndpjaaGreatDoorRTX3
set_option linter.unusedVariables false
set_option maxRecDepth 100000
set_option maxHeartbeats 4000000
namespace Go.Proofs.YtdhldhkhpndpjaaGreatDoor
open Go.RowKit Go
theorem rg_cells (p:Sp):∃ (a1:Bool) (a2 a3:Nat) (a4:Bool) (a5 a6:Nat),rgC p=[.bool a1, .int .u64 (a2:Int), .int .u64 (a3:Int), .bool a4, .int .u64 (a5:Int), .int .u64 (a6:Int)]∧aN p.1=#[.bool a1, .int .u64 (a2:Int), .int .u64 (a3:Int)]∧aN p.2=#[.bool a4, .int .u64 (a5:Int), .int .u64 (a6:Int)]∧a1=sixN p.1∧a4=sixN p.2:=⟨_,_,_,_,_,_,rfl,rfl,rfl,rfl,rfl⟩
theorem RdK.rg {w:World} {ad:Option Addr} {L:List Sp} (h:RdK layRg w ad L) {k:Nat} {p:Sp} (hp:L[k]?=some p) {a1:Bool} {a2 a3:Nat} {a4:Bool} {a5 a6:Nat} (hc:rgC p=[.bool a1, .int .u64 (a2:Int), .int .u64 (a3:Int), .bool a4, .int .u64 (a5:Int), .int .u64 (a6:Int)]) :
  ∃ g o,ad=some ⟨g,o,none⟩∧g < w.heap.size∧w.cell? ⟨g,o + k * 6,none⟩=some (.bool a1)∧w.cell? ⟨g,o + k * 6 + 1,none⟩=some (.int .u64 (a2:Int))∧w.cell? ⟨g,o + k * 6 + 2,none⟩=some (.int .u64 (a3:Int))∧w.cell? ⟨g,o + k * 6 + 3,none⟩=some (.bool a4)∧w.cell? ⟨g,o + k * 6 + 4,none⟩=some (.int .u64 (a5:Int))∧w.cell? ⟨g,o + k * 6 + 5,none⟩=some (.int .u64 (a6:Int)):=by
 obtain ⟨g,o,e,hg,h0⟩:=h k p hp
 have hE:layRg.enc p=rgC p:=rfl
 have hK:layRg.K=6:=rfl
 rw [hE,hc,hK] at h0
 exact ⟨g,o,e,hg,h0 0 _ rfl,h0 1 _ rfl,h0 2 _ rfl,h0 3 _ rfl,h0 4 _ rfl,h0 5 _ rfl⟩
theorem OwnK.rg {w:World} {B g n c:Nat} {L:List Sp} (h:OwnK layRg w B (.slice (some ⟨g,0,none⟩) n c) L) {k:Nat} {p:Sp} (hp:L[k]?=some p) {a1:Bool} {a2 a3:Nat} {a4:Bool} {a5 a6:Nat} (hc:rgC p=[.bool a1, .int .u64 (a2:Int), .int .u64 (a3:Int), .bool a4, .int .u64 (a5:Int), .int .u64 (a6:Int)]) :
  w.cell? ⟨g,k * 6,none⟩=some (.bool a1)∧w.cell? ⟨g,k * 6 + 1,none⟩=some (.int .u64 (a2:Int))∧w.cell? ⟨g,k * 6 + 2,none⟩=some (.int .u64 (a3:Int))∧w.cell? ⟨g,k * 6 + 3,none⟩=some (.bool a4)∧w.cell? ⟨g,k * 6 + 4,none⟩=some (.int .u64 (a5:Int))∧w.cell? ⟨g,k * 6 + 5,none⟩=some (.int .u64 (a6:Int)):=by
 have h0:∀ j v,(rgC p)[j]?=some v→w.cell? ⟨g,k * 6 + j,none⟩=some v:=fun j v hv => h.get (E:=layRg) hp hv
 rw [hc] at h0
 exact ⟨h0 0 _ rfl,h0 1 _ rfl,h0 2 _ rfl,h0 3 _ rfl,h0 4 _ rfl,h0 5 _ rfl⟩
theorem srt_key {S:List Sp} (hv:∀ p ∈ S,VR p) (h:S.Pairwise (fun p q => keyRg p≤keyRg q)):Srt S:=by
 refine List.Pairwise.imp_of_mem (fun {a b} ha hb h => ?_) h
 rw [(hv a ha).key.1,(hv b hb).key.1] at h
 exact h
theorem joined_any (ad:Option Addr) (n c:Nat) (L:List Sp) (w:World) (h:RdK layRg w ad L) (hn:L.length=n) (hs:n≤100000) (hv:∀ p ∈ L,VR p) :
  Calls Tryz.prog 227 #[.slice ad n c] w fun e w' => ∃ v,e=.returned v∧OwnK layRg w' w.heap.size v (jn L)∧Below w.heap.size w w':=by
 obtain ⟨R,hR⟩:∃ R,jn L=R:=⟨_,rfl⟩
 have HR:Hid (∀ S:List Sp,S.Perm L→Srt S→S.foldl stp []=R):=Lib.hid fun S hp hso => by
  rw [← hR];exact jn_of hp hso fun p hp => (hv p hp).le
 rw [hR]
 have Hv:=Lib.hid hv
 have H0:=Lib.hid h
 have Hn:=Lib.hid hn
 clear h hn hv hR
 go_enter Tryz.func227,Tryz.ntmps227
 go_wp2_with fail
 refine (clone_rg ad n c L w H0.out Hn.out (by omega)).mono ?_
 rintro e w1 ⟨v,rfl,hO,hB⟩
 obtain ⟨ad1,c1,hv1,_,_,_⟩:=hO.form
 rw [Hn.out] at hv1
 subst hv1
 have HO1:=Lib.hid hO
 have HB1:=Lib.hid hB
 clear hO hB
 go_wp2_with fail
 refine (sortRg_any w.heap.size n c1 ad1 L w1 HO1.out Hn.out (by omega) HB1.out.size).mono ?_
 rintro e w2 ⟨rfl,S,hp,hso,hO2,hB2⟩
 have hSv:∀ p ∈ S,VR p:=fun p h => Hv.out p (hp.mem_iff.1 h)
 have hSs:=srt_key hSv hso
 have HS:Hid (S.foldl stp []=R):=Lib.hid (HR.out S hp hSs)
 have Hsl:Hid (S.length=n):=Lib.hid (hp.length_eq.trans Hn.out)
 have HSv:=Lib.hid hSv
 have HVt:=Lib.hid (vr_take hSs hSv)
 have HR2:Hid (RdK layRg w2 ad1 S):=Lib.hid hO2.rd
 have HB2:Hid (Below w.heap.size w w2):=Lib.hid (HB1.out.trans hB2)
 clear hp hso hO2 hB2 HO1 HB1 HR Hv Hn hSv hSs H0
 go_wp2_with fail
 go_loopw [3,5,6,13] (fun out bx nn i wr => ∃ (k:Nat) (A:List Sp),k≤n∧i=.int .i64 k∧Hid ((S.take k).foldl stp []=A)∧Hid (OwnK layRg wr w2.heap.size out A)∧Hid (Below w2.heap.size w2 wr)) (fun _ _ _ i _ => n - (intOf i).toNat)
 case atStart => exact ⟨0, [],Nat.zero_le _,rfl,Lib.hid rfl,Lib.hid (OwnK.nil _ _ _),Lib.hid (Below.refl _ _)⟩
 case round =>
  obtain ⟨k,A,hk,rfl,HA,HO,HB⟩:=hrel
  by_cases hlt:k < n
  ·have hS:k < S.length:=by rw [Hsl.out];exact hlt
   obtain ⟨p,hp⟩:∃ p,S[k]?=some p:=⟨_,List.getElem?_eq_getElem hS⟩
   obtain ⟨a1,a2,a3,a4,a5,a6,hpc,hp1,hp2,h1s,h2s⟩:=rg_cells p
   obtain ⟨g,o,had,hg,c0,c1,c2,c3,c4,c5⟩:=(HR2.out.below HB.out).rg hp hpc
   subst had
   have hpm:p ∈ S:=List.mem_of_getElem? hp
   have HA1:Hid ((S.take (k + 1)).foldl stp []=stp A p):=Lib.hid (by
    rw [List.take_succ_eq_append_getElem hS,List.foldl_append,HA.out]
    have:S[k]=p:=by rw [List.getElem?_eq_getElem hS] at hp;injection hp
    rw [this];rfl)
   have hVA:=(HVt.out k (by omega)).1
   have hFA:=(HVt.out k (by omega)).2 k p (Nat.le_refl _) hp
   rw [HA.out] at hVA hFA
   have HVA:=Lib.hid hVA
   have HFA:=Lib.hid hFA
   have HVp:=Lib.hid (HSv.out p hpm)
   have hAl:Hid (A.length≤k):=Lib.hid (by
    have:=fold_len (S.take k) []
    rw [HA.out] at this
    simp at this;omega)
   have HPC:=Lib.hid (And.intro hpc (And.intro hp1 (And.intro hp2 (And.intro h1s h2s))))
   clear hp hpm HA hVA hFA hpc hp1 hp2 h1s h2s
   have HB1:Hid (Below w2.heap.size w2 (wr.alloc (.cells #[.bool a1, .int .u64 (a2:Int), .int .u64 (a3:Int), .bool a4, .int .u64 (a5:Int), .int .u64 (a6:Int)] 113 (0,0)))):=Lib.hid (Below.alloc HB.out HB.out.size _)
   have HP1:Hid (Blk (wr.alloc (.cells #[.bool a1, .int .u64 (a2:Int), .int .u64 (a3:Int), .bool a4, .int .u64 (a5:Int), .int .u64 (a6:Int)] 113 (0,0))) wr.heap.size 113 #[.bool a1, .int .u64 (a2:Int), .int .u64 (a3:Int), .bool a4, .int .u64 (a5:Int), .int .u64 (a6:Int)]):=Lib.hid (Blk.new wr _ _)
   have HO1:Hid (OwnK layRg (wr.alloc (.cells #[.bool a1, .int .u64 (a2:Int), .int .u64 (a3:Int), .bool a4, .int .u64 (a5:Int), .int .u64 (a6:Int)] 113 (0,0))) w2.heap.size u3 A):=Lib.hid (HO.out.alloc _)
   go_upto_region 7 with fail
   generalize wr.alloc (.cells #[.bool a1, .int .u64 (a2:Int), .int .u64 (a3:Int), .bool a4, .int .u64 (a5:Int), .int .u64 (a6:Int)] 113 (0,0))=w3 at *
   generalize wr.heap.size=bx at *
   clear HB HO c0 c1 c2 c3 c4 c5 hg
   have d0:=HP1.out.cell 0
   have d1:=HP1.out.cell 1
   have d2:=HP1.out.cell 2
   have d3:=HP1.out.cell 3
   have d4:=HP1.out.cell 4
   have d5:=HP1.out.cell 5
   simp at d0 d1 d2 d3 d4 d5
   rcases snoc_cases A with rfl | ⟨D,q,rfl⟩
   ·obtain ⟨ad3,c3,hv3,_,_,_⟩:=HO1.out.form
    rw [show ([]:List Sp).length=0 from rfl] at hv3
    subst hv3
    clear hS
    go_upto_region 8 with fail
    refine wp_region_later (by kernel_rfl) (by kernel_rfl) ?_
    repeat (go_big_quiet_step (fail))
    refine wpQuiet_nil ?_
    rintro w4 ⟨n4,hn4⟩
    have hb:Below w3.heap.size w3 w4:=by rw [hn4];exact n4.2
    clear hn4 n4 d0 d1 d2 d3 d4 d5
    have HP4:=Lib.hid (HP1.out.below hb HP1.out.lt)
    have HO4:=Lib.hid (HO1.out.later hb)
    have HB4:=Lib.hid (HB1.out.trans (hb.mono HB1.out.size))
    clear hb HP1 HO1 HB1
    have d0:=HP4.out.cell 0
    have d1:=HP4.out.cell 1
    have d2:=HP4.out.cell 2
    have d3:=HP4.out.cell 3
    have d4:=HP4.out.cell 4
    have d5:=HP4.out.cell 5
    simp at d0 d1 d2 d3 d4 d5
    go_wp2_with (at_builtin;refine wpList_app rgE rfl (.tmp 45) (.tmp 47) rfl rfl (World.ownsRow.alloc HO4.out _) rfl (src_new layRg _ p _ _ ?c0) ?c1 ?c2 ?c3 ?c4 ?_)
    case c0 => exact (congrArg List.toArray HPC.out.1).symm
    case c1 => exact layRg.one p
    case c2 => unfold maxLen;simp
    case c3 => simp
    case c4 => have:=HB4.out.size;simp;omega
    intro v' w' hO hG
    have HO':Hid (OwnK layRg w' w2.heap.size v' (stp [] p)):=Lib.hid (OwnK.snoc (L:=[]) hO)
    have HB':Hid (Below w2.heap.size w2 w'):=Lib.hid ((Below.alloc HB4.out HB4.out.size _).trans (hG.below (by have:=HB4.out.size;simp;omega) (own_base HO4.out)))
    clear hO hG
    go_wp2
    exact ⟨⟨k + 1,_,by omega,by go_num,HA1,HO',HB'⟩,by simp [intOf];omega⟩
   ·obtain ⟨g2,c2,hv3,hg2,hgl,hc1,hc2⟩:=HO1.out.one (by simp)
    rw [show (D ++ [q]).length=D.length + 1 by simp] at hv3 hc1
    subst hv3
    have hDk:D.length + 1≤k:=by have:=hAl.out;simpa using this
    have hqm:(D ++ [q])[D.length]?=some q:=by simp
    obtain ⟨b1,b2,b3,b4,b5,b6,hqc,hq1,hq2,z1s,z2s⟩:=rg_cells q
    obtain ⟨q0,q1,q2,q3,q4,q5⟩:=HO1.out.rg hqm hqc
    have hVq:=HVA.out q (by simp)
    have hqp:=HFA.out q (by simp)
    have HT:=Lib.hid fun wx => touches_any wx hVq HVp.out hqp
    rw [hqc,HPC.out.1] at HT
    have HC:=Lib.hid fun wx => spanCompareN wx hVq.b HVp.out.b
    rw [hq2,HPC.out.2.2.1] at HC
    have HM:Hid (stp (D ++ [q]) p=if p.1≤q.2 + 1 then (if q.2 < p.2 then D ++ [(q.1,p.2)] else D ++ [q]) else D ++ [q] ++ [p]):=Lib.hid (stp_snoc _ _ _)
    have HCl:=Lib.hid (cN_lt_iff q.2 p.2)
    have f0:=HO1.out.frozen
    have HL:Hid ((D ++ [q]).length=D.length + 1):=Lib.hid (by simp)
    have Hset:Hid (∀ (wx:World),OwnK layRg wx w2.heap.size (.slice (some ⟨g2,0,none⟩) (D.length + 1) c2) (D ++ [q])→p.1≤q.2 + 1→OwnK layRg (((wx.setCell ⟨g2,D.length * 6 + 3,none⟩ (.bool a4)).setCell ⟨g2,D.length * 6 + 4,none⟩ (.int .u64 (a5:Int))).setCell ⟨g2,D.length * 6 + 5,none⟩ (.int .u64 (a6:Int))) w2.heap.size (.slice (some ⟨g2,0,none⟩) (D.length + 1) c2) (D ++ [(q.1,p.2)])):=Lib.hid (by
     intro wx hO _
     have hy:layRg.enc (q.1,p.2)=(((layRg.enc q).set 3 (.bool a4)).set 4 (.int .u64 (a5:Int))).set 5 (.int .u64 (a6:Int)):=by
      have e1:layRg.enc q=rgC q:=rfl
      have e2:layRg.enc (q.1,p.2)=(aN q.1).toList ++ (aN p.2).toList:=rfl
      rw [e1,e2,hqc,hq1,HPC.out.2.2.1]
      rfl
     have h3:=hO.set3 (i:=D.length) (j:=3) (x:=q) (y:=(q.1,p.2)) (.bool a4) (.int .u64 (a5:Int)) (.int .u64 (a6:Int)) hqm (by decide) hy
     rw [show (D ++ [q]).set D.length (q.1,p.2)=D ++ [(q.1,p.2)] by simp] at h3
     exact h3)
    have hlen:((D.length + 1:Nat):Int) - 1=(D.length:Int):=by omega
    clear hAl hqm hqc hq1 hq2 z1s z2s hVq hqp hc2 hS
    generalize D.length=m at *
    have hm1:(m:Int) < ((m + 1:Nat):Int):=by omega
    have hm2:m < m + 1:=by omega
    have hm0:((m:Int) ≥ 0):=by omega
    generalize m + 1=n1 at *
    have hm3:(n1:Int)≤100000:=by omega
    have hg2l:=HO1.out.block.1
    clear hg2l
    have l0:=Later.cell_of d0
    have l1:=Later.cell_of d1
    have l2:=Later.cell_of d2
    have l3:=Later.cell_of d3
    have l4:=Later.cell_of d4
    have l5:=Later.cell_of d5
    have k0:=Later.cell_of q0
    have k1:=Later.cell_of q1
    have k2:=Later.cell_of q2
    have k3:=Later.cell_of q3
    have k4:=Later.cell_of q4
    have k5:=Later.cell_of q5
    have hT:=fun x:Later w3 => Calls.later x (HT.out x.1)
    go_upto_region 8 with fail
    by_cases hle:p.1≤q.2 + 1
    ·rw [decide_eq_true hle] at hT
     refine wp_region_later (by kernel_rfl) (by kernel_rfl) ?_
     repeat (go_big_quiet_step ((go_at_call 283;exact hT _)))
     refine wpQuiet_nil ?_
     rintro w4 ⟨n4,hn4⟩
     have hb:Below w3.heap.size w3 w4:=by rw [hn4];exact n4.2
     clear hn4 n4 d0 d1 d2 d3 d4 d5 q0 q1 q2 q3 q4 q5
     have d0:w4.cell? ⟨bx,0,none⟩=some (.bool a1):=l0 ⟨w4,hb⟩
     have d1:w4.cell? ⟨bx,1,none⟩=some (.int .u64 (a2:Int)):=l1 ⟨w4,hb⟩
     have d2:w4.cell? ⟨bx,2,none⟩=some (.int .u64 (a3:Int)):=l2 ⟨w4,hb⟩
     have d3:w4.cell? ⟨bx,3,none⟩=some (.bool a4):=l3 ⟨w4,hb⟩
     have d4:w4.cell? ⟨bx,4,none⟩=some (.int .u64 (a5:Int)):=l4 ⟨w4,hb⟩
     have d5:w4.cell? ⟨bx,5,none⟩=some (.int .u64 (a6:Int)):=l5 ⟨w4,hb⟩
     have q0:w4.cell? ⟨g2,m * 6,none⟩=some (.bool b1):=k0 ⟨w4,hb⟩
     have q1:w4.cell? ⟨g2,m * 6 + 1,none⟩=some (.int .u64 (b2:Int)):=k1 ⟨w4,hb⟩
     have q2:w4.cell? ⟨g2,m * 6 + 2,none⟩=some (.int .u64 (b3:Int)):=k2 ⟨w4,hb⟩
     have q3:w4.cell? ⟨g2,m * 6 + 3,none⟩=some (.bool b4):=k3 ⟨w4,hb⟩
     have q4:w4.cell? ⟨g2,m * 6 + 4,none⟩=some (.int .u64 (b5:Int)):=k4 ⟨w4,hb⟩
     have q5:w4.cell? ⟨g2,m * 6 + 5,none⟩=some (.int .u64 (b6:Int)):=k5 ⟨w4,hb⟩
     have HP4:=Lib.hid (HP1.out.below hb HP1.out.lt)
     have HO4:=Lib.hid (HO1.out.later hb)
     have HB4:=Lib.hid (HB1.out.trans (hb.mono HB1.out.size))
     clear l0 l1 l2 l3 l4 l5 k0 k1 k2 k3 k4 k5 hb HP1 HO1 HB1
     clear hT HT f0
     have l0:=Later.cell_of d0
     have l1:=Later.cell_of d1
     have l2:=Later.cell_of d2
     have l3:=Later.cell_of d3
     have l4:=Later.cell_of d4
     have l5:=Later.cell_of d5
     have k0:=Later.cell_of q0
     have k1:=Later.cell_of q1
     have k2:=Later.cell_of q2
     have k3:=Later.cell_of q3
     have k4:=Later.cell_of q4
     have k5:=Later.cell_of q5
     have hC:=fun x:Later w4 => Calls.later x ((HC.out x.1).mono fun _ _ h => h.ret)
     clear HC
     generalize cN q.2 p.2=C at *
     go_upto_region 9 with fail
     refine wp_region_later (by kernel_rfl) (by kernel_rfl) ?_
     repeat (go_big_quiet_step ((go_at_call 174;exact hC _)))
     refine wpQuiet_nil ?_
     rintro w5 ⟨n4,hn4⟩
     have hb:Below w4.heap.size w4 w5:=by rw [hn4];exact n4.2
     clear hn4 n4 d0 d1 d2 d3 d4 d5 q0 q1 q2 q3 q4 q5
     have d0:w5.cell? ⟨bx,0,none⟩=some (.bool a1):=l0 ⟨w5,hb⟩
     have d1:w5.cell? ⟨bx,1,none⟩=some (.int .u64 (a2:Int)):=l1 ⟨w5,hb⟩
     have d2:w5.cell? ⟨bx,2,none⟩=some (.int .u64 (a3:Int)):=l2 ⟨w5,hb⟩
     have d3:w5.cell? ⟨bx,3,none⟩=some (.bool a4):=l3 ⟨w5,hb⟩
     have d4:w5.cell? ⟨bx,4,none⟩=some (.int .u64 (a5:Int)):=l4 ⟨w5,hb⟩
     have d5:w5.cell? ⟨bx,5,none⟩=some (.int .u64 (a6:Int)):=l5 ⟨w5,hb⟩
     have q0:w5.cell? ⟨g2,m * 6,none⟩=some (.bool b1):=k0 ⟨w5,hb⟩
     have q1:w5.cell? ⟨g2,m * 6 + 1,none⟩=some (.int .u64 (b2:Int)):=k1 ⟨w5,hb⟩
     have q2:w5.cell? ⟨g2,m * 6 + 2,none⟩=some (.int .u64 (b3:Int)):=k2 ⟨w5,hb⟩
     have q3:w5.cell? ⟨g2,m * 6 + 3,none⟩=some (.bool b4):=k3 ⟨w5,hb⟩
     have q4:w5.cell? ⟨g2,m * 6 + 4,none⟩=some (.int .u64 (b5:Int)):=k4 ⟨w5,hb⟩
     have q5:w5.cell? ⟨g2,m * 6 + 5,none⟩=some (.int .u64 (b6:Int)):=k5 ⟨w5,hb⟩
     have HP5:=Lib.hid (HP4.out.below hb HP4.out.lt)
     have HO5:=Lib.hid (HO4.out.later hb)
     have HB5:=Lib.hid (HB4.out.trans (hb.mono HB4.out.size))
     clear l0 l1 l2 l3 l4 l5 k0 k1 k2 k3 k4 k5 hb HP4 HO4 HB4
     clear hC
     have f0:=HO5.out.frozen
     by_cases hlt2:q.2 < p.2
     ·have hC0:C < 0:=HCl.out.2 hlt2
      have HS6:=Lib.hid (Hset.out w5 HO5.out hle)
      have HA6:Hid ((S.take (k + 1)).foldl stp []=D ++ [(q.1,p.2)]):=Lib.hid (by rw [HA1.out,HM.out,if_pos hle,if_pos hlt2])
      have HB6:=Lib.hid (Below.setCell (p:=⟨g2,m * 6 + 5,none⟩) (Below.setCell (p:=⟨g2,m * 6 + 4,none⟩) (Below.setCell (p:=⟨g2,m * 6 + 3,none⟩) HB5.out hg2 (.bool a4)) hg2 (.int .u64 (a5:Int))) hg2 (.int .u64 (a6:Int)))
      clear Hset HA1 HM HCl HVA HFA HVp HPC HO5 HB5 HP5 HL
      go_wp2_with fail
      exact ⟨⟨k + 1,_,by omega,by go_num,HA6,HS6,HB6⟩,by simp [intOf];omega⟩
     ·have hC0:¬ C < 0:=fun h => hlt2 (HCl.out.1 h)
      have HA6:Hid ((S.take (k + 1)).foldl stp []=D ++ [q]):=Lib.hid (by rw [HA1.out,HM.out,if_pos hle,if_neg hlt2])
      clear Hset HA1 HM HCl HVA HFA HVp HPC HP5 HL
      go_wp2_with fail
      exact ⟨⟨k + 1,_,by omega,by go_num,HA6,HO5,HB5⟩,by simp [intOf];omega⟩
    ·rw [decide_eq_false hle] at hT
     refine wp_region_later (by kernel_rfl) (by kernel_rfl) ?_
     repeat (go_big_quiet_step ((go_at_call 283;exact hT _)))
     refine wpQuiet_nil ?_
     rintro w4 ⟨n4,hn4⟩
     have hb:Below w3.heap.size w3 w4:=by rw [hn4];exact n4.2
     clear hn4 n4 d0 d1 d2 d3 d4 d5 q0 q1 q2 q3 q4 q5
     have d0:w4.cell? ⟨bx,0,none⟩=some (.bool a1):=l0 ⟨w4,hb⟩
     have d1:w4.cell? ⟨bx,1,none⟩=some (.int .u64 (a2:Int)):=l1 ⟨w4,hb⟩
     have d2:w4.cell? ⟨bx,2,none⟩=some (.int .u64 (a3:Int)):=l2 ⟨w4,hb⟩
     have d3:w4.cell? ⟨bx,3,none⟩=some (.bool a4):=l3 ⟨w4,hb⟩
     have d4:w4.cell? ⟨bx,4,none⟩=some (.int .u64 (a5:Int)):=l4 ⟨w4,hb⟩
     have d5:w4.cell? ⟨bx,5,none⟩=some (.int .u64 (a6:Int)):=l5 ⟨w4,hb⟩
     have q0:w4.cell? ⟨g2,m * 6,none⟩=some (.bool b1):=k0 ⟨w4,hb⟩
     have q1:w4.cell? ⟨g2,m * 6 + 1,none⟩=some (.int .u64 (b2:Int)):=k1 ⟨w4,hb⟩
     have q2:w4.cell? ⟨g2,m * 6 + 2,none⟩=some (.int .u64 (b3:Int)):=k2 ⟨w4,hb⟩
     have q3:w4.cell? ⟨g2,m * 6 + 3,none⟩=some (.bool b4):=k3 ⟨w4,hb⟩
     have q4:w4.cell? ⟨g2,m * 6 + 4,none⟩=some (.int .u64 (b5:Int)):=k4 ⟨w4,hb⟩
     have q5:w4.cell? ⟨g2,m * 6 + 5,none⟩=some (.int .u64 (b6:Int)):=k5 ⟨w4,hb⟩
     have HP4:=Lib.hid (HP1.out.below hb HP1.out.lt)
     have HO4:=Lib.hid (HO1.out.later hb)
     have HB4:=Lib.hid (HB1.out.trans (hb.mono HB1.out.size))
     clear l0 l1 l2 l3 l4 l5 k0 k1 k2 k3 k4 k5 hb HP1 HO1 HB1
     clear hT HT f0 Hset HC HCl
     have HO5:Hid (w4.ownsRow w2.heap.size 113 6 (.slice (some ⟨g2,0,none⟩) n1 c2) n1 (layRg.all (D ++ [q]))):=Lib.hid (by have:=HO4.out;unfold OwnK at this;rw [HL.out] at this;exact this)
     go_wp2_with (at_builtin;refine wpList_app rgE rfl (.tmp 45) (.tmp 47) rfl rfl (World.ownsRow.alloc HO5.out _) rfl (src_new layRg _ p _ _ ?c0) ?c1 ?c2 ?c3 ?c4 ?_)
     case c0 => exact (congrArg List.toArray HPC.out.1).symm
     case c1 => exact layRg.one p
     case c2 => unfold maxLen;omega
     case c3 => omega
     case c4 => have:=HB4.out.size;simp;omega
     intro v' w' hO hG
     have HO':Hid (OwnK layRg w' w2.heap.size v' (D ++ [q] ++ [p])):=Lib.hid (by
      rw [← HL.out] at hO
      exact OwnK.snoc hO)
     have HA6:Hid ((S.take (k + 1)).foldl stp []=D ++ [q] ++ [p]):=Lib.hid (by rw [HA1.out,HM.out,if_neg hle])
     have HB':Hid (Below w2.heap.size w2 w'):=Lib.hid ((Below.alloc HB4.out HB4.out.size _).trans (hG.below (by have:=HB4.out.size;simp;omega) (own_base HO4.out)))
     clear hO hG HA1 HM HVA HFA HVp HPC HO5 HO4 HP4 HB4 HL
     go_wp2
     exact ⟨⟨k + 1,_,by omega,by go_num,HA6,HO',HB'⟩,by simp [intOf];omega⟩
  ·obtain rfl:k=n:=by omega
   have HF:Hid (A=R):=Lib.hid (by rw [← HA.out,List.take_of_length_le (by rw [Hsl.out];exact Nat.le_refl _)];exact HS.out)
   go_wp2_with fail
   go_ret
   exact ⟨_,rfl,by rw [← HF.out];exact HO.out.weak HB2.out.size,HB2.out.trans (HB.out.mono HB2.out.size)⟩
structure OkPf (p:Pf):Prop where
 nn:p.2.2.2=(p.2.2.2.toNat:Int)
 ok:POK p.1 p.2.1 p.2.2.1 p.2.2.2.toNat
def nuP (p:Pf):Nat:=numA p.1 p.2.1 p.2.2.1
def spP (p:Pf):Sp:=(nuP p,fil (nuP p) (LN (nuP p) - p.2.2.2.toNat))
theorem okPf_of {p:Pf} (h:pFault p.1 p.2.1 p.2.2.1 p.2.2.2=0) (h1:U64N p.2.1) (h2:U64N p.2.2.1):OkPf p:=by
 obtain ⟨n,hn,hl⟩:=pFault_nat h
 have e:p.2.2.2.toNat=n:=by rw [hn];exact Int.toNat_natCast n
 refine ⟨by rw [e];exact hn,?_⟩
 rw [e]
 rw [hn] at h
 exact pFault_pok h h1 h2
theorem OkPf.num {p:Pf} (h:OkPf p):VN (nuP p)∧sixN (nuP p)=p.1∧hiN (nuP p)=p.2.1∧loN (nuP p)=p.2.2.1:=aN_num h.ok.1
theorem OkPf.bits {p:Pf} (h:OkPf p):p.2.2.2.toNat≤LN (nuP p):=by
 rw [LN_six,h.num.2.1]
 exact h.ok.2.1
theorem OkPf.cells {p:Pf} (h:OkPf p):pfC p=(pN (nuP p) (p.2.2.2.toNat:Int)).toList:=by
 obtain ⟨_,a,b,c⟩:=h.num
 unfold pN pfC
 rw [a,b,c, ← h.nn]
theorem OkPf.clr {p:Pf} (h:OkPf p):clr (nuP p) (LN (nuP p) - p.2.2.2.toNat)=nuP p:=by
 have e:=mask_num (n:=p.2.2.2.toNat) h.ok.1
 rw [h.ok.2.2.1,h.ok.2.2.2] at e
 rw [LN_six,h.num.2.1]
 exact e.symm
theorem OkPf.sp {p:Pf} (h:OkPf p):PfxSp (spP p) (LN (nuP p) - p.2.2.2.toNat):=by
 have hd:=clr_dvd.1 h.clr
 exact ⟨Nat.sub_le _ _,hd,fil_of hd⟩
theorem OkPf.vr {p:Pf} (h:OkPf p):VR (spP p):=by
 have hv:=h.num.1
 have hs:=h.sp
 refine ⟨hv,VN_fil hv h.bits,(fil_six hv h.bits).symm,?_⟩
 rw [hs.snd];exact Nat.le_add_right _ _
theorem RdK.pf {w:World} {ad:Option Addr} {L:List Pf} (h:RdK layPf w ad L) {k:Nat} {p:Pf} (hp:L[k]?=some p) {a1:Bool} {a2 a3:Nat} {a4:Int} (hc:pfC p=[.bool a1, .int .u64 (a2:Int), .int .u64 (a3:Int), .int .i64 a4]) :
  ∃ g o,ad=some ⟨g,o,none⟩∧g < w.heap.size∧w.cell? ⟨g,o + k * 4,none⟩=some (.bool a1)∧w.cell? ⟨g,o + k * 4 + 1,none⟩=some (.int .u64 (a2:Int))∧w.cell? ⟨g,o + k * 4 + 2,none⟩=some (.int .u64 (a3:Int))∧w.cell? ⟨g,o + k * 4 + 3,none⟩=some (.int .i64 a4):=by
 obtain ⟨g,o,e,hg,h0⟩:=h k p hp
 have hE:layPf.enc p=pfC p:=rfl
 have hK:layPf.K=4:=rfl
 rw [hE,hc,hK] at h0
 exact ⟨g,o,e,hg,h0 0 _ rfl,h0 1 _ rfl,h0 2 _ rfl,h0 3 _ rfl⟩
theorem pf_cells {p:Pf} (h:OkPf p):∃ (a1:Bool) (a2 a3:Nat) (a4:Nat),pfC p=[.bool a1, .int .u64 (a2:Int), .int .u64 (a3:Int), .int .i64 (a4:Int)]∧pN (nuP p) (p.2.2.2.toNat:Int)=#[.bool a1, .int .u64 (a2:Int), .int .u64 (a3:Int), .int .i64 (a4:Int)]∧aN (nuP p)=#[.bool a1, .int .u64 (a2:Int), .int .u64 (a3:Int)] :=
 ⟨_,_,_,_,h.cells,rfl,rfl⟩
theorem src_blk {α:Type} (E:Lay α) {w:World} {B:Nat} {t:TypeId} {cs:Array Value} (x:α) (hb:Blk w B t cs) (h:cs=(E.enc x).toArray):Src w (some ⟨B,0,none⟩) 1 E.K (E.enc x):=by
 subst h
 refine ⟨by rw [E.len,Nat.one_mul],fun j u hu => ⟨_,rfl,hb.lt,?_⟩⟩
 have hadd:(⟨B,0,none⟩:Addr).add j=⟨B,j,none⟩:=by unfold Addr.add;split <;> simp_all
 rw [hadd,hb.cell j]
 simpa using hu
def spR (bx:Nat) (t:TypeId) (out:Value) (pa pf pl v6:Array Value):Nat→Value→World→Prop
 | 0,v,_ => v=out
 | 1,v,_ => v=.pointer (some ⟨bx,0,none⟩)
 | 2,v,_ => v=.agg pa
 | 3,v,_ => v=.agg pf
 | 4,v,_ => v=.agg pl
 | 5,v,_ => v=.agg v6
 | _,v,w => ∃ B,v=.slice (some ⟨B,0,none⟩) 1 1∧Blk w B t v6
theorem spR_keep {bx:Nat} {t:TypeId} {out:Value} {pa pf pl v6:Array Value} (p:Nat) (v:Value) (u w:World) (h:spR bx t out pa pf pl v6 p v u) (hb:Below u.heap.size u w):spR bx t out pa pf pl v6 p v w:=by
 rcases p with _ | _ | _ | _ | _ | _ | p
 all_goals first | exact h | (obtain ⟨B,h1,h2⟩:=h;exact ⟨B,h1,h2.below hb h2.lt⟩)
theorem spanOf_any (ad:Option Addr) (n c:Nat) (L:List Pf) (w:World) (h:RdK layPf w ad L) (hn:L.length=n) (hs:n≤100000) (hv:∀ p ∈ L,OkPf p) :
  Calls Tryz.prog 150 #[.slice ad n c] w fun e w' => ∃ v,e=.returned v∧OwnK layRg w' w.heap.size v (jn (L.map spP))∧Below w.heap.size w w':=by
 have Hv:=Lib.hid hv
 have H0:=Lib.hid h
 have Hn:=Lib.hid hn
 clear h hn hv
 go_enter Tryz.func150,Tryz.ntmps150
 go_wp2_with fail
 go_loopw [3,5,8] (fun out bx i wr => ∃ k:Nat,k≤n∧i=.int .i64 (k:Int)∧Hid (OwnK layRg wr w.heap.size out ((L.take k).map spP))∧Hid (Below w.heap.size w wr)) (fun _ _ i _ => n - (intOf i).toNat)
 case atStart => exact ⟨0,Nat.zero_le _,rfl,Lib.hid (OwnK.nil _ _ _),Lib.hid (Below.refl _ _)⟩
 case round =>
  obtain ⟨k,hk,rfl,HO,HB⟩:=hrel
  by_cases hlt:k < n
  ·have hS:k < L.length:=by rw [Hn.out];exact hlt
   obtain ⟨p,hp⟩:∃ p,L[k]?=some p:=⟨_,List.getElem?_eq_getElem hS⟩
   have hok:=Hv.out p (List.mem_of_getElem? hp)
   obtain ⟨a1,a2,a3,a4,hpc,hpn,hpa⟩:=pf_cells hok
   obtain ⟨g,o,had,hg,c0,c1,c2,c3⟩:=(H0.out.below HB.out).pf hp hpc
   subst had
   have HT1:Hid ((L.take (k + 1)).map spP=(L.take k).map spP ++ [spP p]):=Lib.hid (by
    have:L[k]=p:=by rw [List.getElem?_eq_getElem hS] at hp;injection hp
    rw [List.take_succ_eq_append_getElem hS,List.map_append,this];rfl)
   have HL:=Lib.hid fun wx => spanLastN (n:=p.2.2.2.toNat) wx hok.num.1 hok.bits
   rw [hpn] at HL
   have HE:Hid (layRg.enc (spP p)=(aN (nuP p)).toList ++ (aN (fil (nuP p) (LN (nuP p) - p.2.2.2.toNat))).toList):=Lib.hid rfl
   rw [hpa] at HE
   generalize spP p=sp at *
   have hlen:((L.take k).map spP).length=k:=by rw [List.length_map,List.length_take];omega
   have HLn:=Lib.hid hlen
   unfold aN at HL HE
   generalize sixN (fil (nuP p) (LN (nuP p) - p.2.2.2.toNat))=v1 at *
   generalize hiN (fil (nuP p) (LN (nuP p) - p.2.2.2.toNat))=v2 at *
   generalize loN (fil (nuP p) (LN (nuP p) - p.2.2.2.toNat))=v3 at *
   clear hp hS hok hpc hpn hpa hlen
   have HB1:Hid (Below w.heap.size w (wr.alloc (.cells #[.bool a1, .int .u64 (a2:Int), .int .u64 (a3:Int), .int .i64 (a4:Int)] 30 (0,0)))):=Lib.hid (Below.alloc HB.out HB.out.size _)
   have HP1:Hid (Blk (wr.alloc (.cells #[.bool a1, .int .u64 (a2:Int), .int .u64 (a3:Int), .int .i64 (a4:Int)] 30 (0,0))) wr.heap.size 30 #[.bool a1, .int .u64 (a2:Int), .int .u64 (a3:Int), .int .i64 (a4:Int)]):=Lib.hid (Blk.new wr _ _)
   have HO1:Hid (OwnK layRg (wr.alloc (.cells #[.bool a1, .int .u64 (a2:Int), .int .u64 (a3:Int), .int .i64 (a4:Int)] 30 (0,0))) w.heap.size u3 ((L.take k).map spP)):=Lib.hid (HO.out.alloc _)
   go_upto_region 5 with fail
   generalize wr.alloc (.cells #[.bool a1, .int .u64 (a2:Int), .int .u64 (a3:Int), .int .i64 (a4:Int)] 30 (0,0))=w3 at *
   generalize wr.heap.size=bx at *
   clear HB HO c0 c1 c2 c3 hg
   have d0:=HP1.out.cell 0
   have d1:=HP1.out.cell 1
   have d2:=HP1.out.cell 2
   have d3:=HP1.out.cell 3
   simp at d0 d1 d2 d3
   have l0:=Later.cell_of d0
   have l1:=Later.cell_of d1
   have l2:=Later.cell_of d2
   have l3:=Later.cell_of d3
   have hL:=fun x:Later w3 => Calls.later x (HL.out x.1)
   have HO6:=HO1
   generalize hLL:(L.take k).map spP=LL at *
   clear hLL
   refine wp_region_inv 7 0 (spR bx 113 u3 #[.bool a1, .int .u64 (a2:Int), .int .u64 (a3:Int)] #[.bool a1, .int .u64 (a2:Int), .int .u64 (a3:Int), .int .i64 (a4:Int)] #[.bool v1, .int .u64 (v2:Int), .int .u64 (v3:Int)] #[.bool a1, .int .u64 (a2:Int), .int .u64 (a3:Int), .bool v1, .int .u64 (v2:Int), .int .u64 (v3:Int)]) (fun _ w' => Below w3.heap.size w3 w') (fun u v => Below u.heap.size u v) (fun _ => 0)
    (by kernel_rfl) (by kernel_rfl) (by decide) spR_keep (below_drew (Below.refl _ _)) ?hX
   case' hX => (apply Exists.intro;refine ⟨fun T => ?hA,?hob,?hend⟩)
   case hA =>
    simp only [setAll,List.take_succ_cons,List.take_zero,Act.put,List.setIfInBounds_toArray,List.set_cons_succ,List.set_cons_zero,Nat.reduceAdd]
    exact rfl
   case hob =>
    clear HO1 HB1 HP1 HO6 d0 d1 d2 d3 HT1 HE HLn hL
    go_light
    refine ⟨?_,?_,?_,?_,?_,?_,?_,trivial⟩
    all_goals (intro T wx n0 hC hn hp;dsimp only at hn ⊢;unfold Op1)
    ·go_simp
     exact ⟨rfl,Below.refl _ _⟩
    ·go_simp
     exact ⟨rfl,Below.refl _ _⟩
    ·obtain ⟨h0, -⟩:=hp
     have h0:T 1=.pointer (some ⟨bx,0,none⟩):=h0
     have e0:=l0 ⟨wx,hC⟩
     have e1:=l1 ⟨wx,hC⟩
     have e2:=l2 ⟨wx,hC⟩
     simp only at e0 e1 e2
     go_simp
     exact ⟨rfl,Below.refl _ _⟩
    ·have e0:=l0 ⟨wx,hC⟩
     have e1:=l1 ⟨wx,hC⟩
     have e2:=l2 ⟨wx,hC⟩
     have e3:=l3 ⟨wx,hC⟩
     simp only at e0 e1 e2 e3
     go_simp
     exact ⟨rfl,Below.refl _ _⟩
    ·obtain ⟨h0, -⟩:=hp
     have h0:T 3=.agg #[.bool a1, .int .u64 (a2:Int), .int .u64 (a3:Int), .int .i64 (a4:Int)]:=h0
     go_simp
     refine (HL.out wx).mono ?_
     rintro e w5 ⟨rfl,hb⟩
     exact ⟨_,rfl,rfl,hC.trans (hb.mono hC.size),hb⟩
    ·obtain ⟨h0,h1, -⟩:=hp
     have h0:T 2=.agg #[.bool a1, .int .u64 (a2:Int), .int .u64 (a3:Int)]:=h0
     have h1:T 4=.agg #[.bool v1, .int .u64 (v2:Int), .int .u64 (v3:Int)]:=h1
     go_simp
     exact ⟨rfl,Below.refl _ _⟩
    ·obtain ⟨h0, -⟩:=hp
     have h0:T 5=.agg #[.bool a1, .int .u64 (a2:Int), .int .u64 (a3:Int), .bool v1, .int .u64 (v2:Int), .int .u64 (v3:Int)]:=h0
     go_simp
     exact ⟨⟨wx.heap.size,rfl,Blk.new wx _ _⟩,below_alloc hC _,below_alloc (Below.refl _ _) _⟩
   case hend =>
    intro T w4 ⟨n0,hn0,hb⟩ hR
    have hT0:T 0=u3:=hR 0 (by omega)
    obtain ⟨B,hT6,hBl⟩:=hR 6 (by omega)
    have HO4:=Lib.hid (HO1.out.later hb)
    have HB4:=Lib.hid (HB1.out.trans (hb.mono HB1.out.size))
    have HBl:=Lib.hid hBl
    clear hR hb hBl HO1 HB1 HP1 HO6 d0 d1 d2 d3 l0 l1 l2 l3 hL
    simp only [List.drop_succ_cons,List.drop_zero]
    refine wpList_app (c:=1) rgE rfl (.tmp 12) (.tmp 18) rfl ?hs HO4.out ?hx (src_blk layRg sp HBl.out ?c0) ?c1 ?c2 ?c3 ?c4 ?_
    case hs => exact hT0
    case hx => exact hT6
    case c0 => exact (congrArg List.toArray HE.out).symm
    case c1 => exact layRg.one sp
    case c2 => unfold maxLen;rw [HLn.out];omega
    case c3 => rw [HLn.out];omega
    case c4 => exact HB4.out.size
    intro v' w' hO hG
    have HO':Hid (OwnK layRg w' w.heap.size v' ((L.take (k + 1)).map spP)):=Lib.hid (by rw [HT1.out];exact OwnK.snoc hO)
    have HB':Hid (Below w.heap.size w w'):=Lib.hid (HB4.out.trans (hG.below HB4.out.size (own_base HO4.out)))
    clear hO hG
    go_wp2
    exact ⟨⟨k + 1,by omega,by go_num,HO',HB'⟩,by simp [intOf];omega⟩
  ·obtain rfl:k=n:=by omega
   have hT:L.take k=L:=List.take_of_length_le (by rw [Hn.out];exact Nat.le_refl _)
   have HO2:Hid (OwnK layRg wr w.heap.size u3 (L.map spP)):=Lib.hid (by have:=HO.out;rw [hT] at this;exact this)
   obtain ⟨ad2,c2,hv2,_,_,_⟩:=HO2.out.form
   rw [List.length_map,Hn.out] at hv2
   subst hv2
   have HJ:=Lib.hid (joined_any ad2 k c2 (L.map spP) wr HO2.out.rd (by rw [List.length_map,Hn.out]) (by omega) (fun p hp => by
    obtain ⟨q,hq,rfl⟩:=List.mem_map.1 hp
    exact (Hv.out q hq).vr))
   clear hT HO HO2
   go_wp2_with fail
   refine HJ.out.mono ?_
   rintro e w2 ⟨v,rfl,hO,hb⟩
   go_wp2_with fail
   go_ret
   exact ⟨_,rfl,hO.weak HB.out.size,HB.out.trans (hb.mono HB.out.size)⟩
open Go
theorem blks_down {L y:Nat}:∀ j x,j≤L→2 ^ j ∣ x→y + 1 - x < 2 ^ j→(blks L x y).length≤j
 | 0,x,_,_,h => by
   rw [blks_stop (by simp at h;omega)]
   exact Nat.le_refl _
 | j + 1,x,hj,hd,h => by
   have hd':2 ^ j ∣ x:=Nat.dvd_trans (Nat.pow_dvd_pow 2 (Nat.le_succ j)) hd
   rcases Nat.lt_or_ge (y + 1 - x) (2 ^ j) with hlt | hge
   ·exact Nat.le_succ_of_le (blks_down j x (by omega) hd' hlt)
   ·have hp:=two_pos j
    have hxy:x≤y:=by omega
    have hg:=gB_ok (L:=L) hxy
    have h1:=gB_top (L:=L) (x:=x) (y:=y) (j:=j) (by omega) hd' (by omega)
    have h2:L - gB L x y < j + 1:=by
     rcases Nat.lt_or_ge (L - gB L x y) (j + 1) with h3 | h3
     ·exact h3
     ·have:=Nat.pow_le_pow_right (n:=2) (by decide) h3
      have:=hg.fits
      omega
    have hk:L - gB L x y=j:=by omega
    rw [blks_step hxy,hk,List.length_cons]
    rw [Nat.pow_succ] at h
    exact Nat.succ_le_succ (blks_down j (x + 2 ^ j) (by omega) (Nat.dvd_add hd' (Nat.dvd_refl _)) (by omega))
theorem blks_up {L y F:Nat} (hF:y < F + 2 ^ L):∀ m j x,L - j=m→j≤L→F≤x→2 ^ j ∣ x→(blks L x y).length≤(L - j) + L + 1:=by
 intro m
 induction m using Nat.strongRecOn with
 | _ m ih =>
   intro j x hm hj hx hd
   rcases Nat.lt_or_ge (y + 1 - x) (2 ^ j) with hlt | hge
   ·have:=blks_down j x hj hd hlt;omega
   ·have hp:=two_pos j
    have hxy:x≤y:=by omega
    have hg:=gB_ok (L:=L) hxy
    have h1:=gB_top (L:=L) (x:=x) (y:=y) (j:=j) hj hd (by omega)
    have hd1:=hg.dvd
    have hf1:=hg.fits
    rw [blks_step hxy,List.length_cons]
    generalize hk:L - gB L x y=k at *
    have hkL:k≤L:=by omega
    have hp2:=two_pos k
    rcases Nat.lt_or_ge k L with hkl | hkl
    ·by_cases ha:2 ^ (k + 1) ∣ x
     ·have hnf:¬ x + (2 ^ (k + 1) - 1)≤y:=fun h => by
       have:=gB_top (L:=L) (x:=x) (y:=y) (j:=k + 1) (by omega) ha h
       omega
      rw [Nat.pow_succ] at hnf
      have:=blks_down (L:=L) (y:=y) k (x + 2 ^ k) hkL (Nat.dvd_add hd1 (Nat.dvd_refl _)) (by omega)
      omega
     ·have hd2:2 ^ (k + 1) ∣ x + 2 ^ k:=by
       obtain ⟨a,rfl⟩:=hd1
       rcases Nat.mod_two_eq_zero_or_one a with h0 | h0
       ·exfalso
        obtain ⟨b,rfl⟩:=Nat.dvd_of_mod_eq_zero h0
        exact ha ⟨b,by rw [Nat.pow_succ,Nat.mul_assoc]⟩
       ·refine ⟨(a + 1) / 2,?_⟩
        have:a + 1=2 * ((a + 1) / 2):=by omega
        rw [Nat.pow_succ,Nat.mul_assoc, ← this,Nat.mul_add,Nat.mul_one]
      have:=ih (L - (k + 1)) (by omega) (k + 1) (x + 2 ^ k) rfl (by omega) (by omega) hd2
      omega
    ·obtain rfl:k=L:=by omega
     rw [blks_stop (by omega)]
     simp
theorem blks_len {p:Sp} (h:VR p):(blks (LN p.1) p.1 p.2).length≤257:=by
 have key:∀ L F,L≤128→p.2 < F + 2 ^ L→F≤p.1→(blks L p.1 p.2).length≤257:=fun L F hL h1 h2 => by
  have:=blks_up h1 L 0 p.1 rfl (Nat.zero_le _) h2 (by rw [Nat.pow_zero];exact Nat.one_dvd _)
  omega
 unfold LN
 rcases h.a.cases with ⟨a,_,_,d⟩ | ⟨a,b,_⟩
 ·have hn:¬ 2 ^ 128≤p.1:=of_decide_eq_false a
  rw [if_neg hn]
  refine key 32 0 (by decide) ?_ (Nat.zero_le _)
  rcases h.b.cases with ⟨a',_,_,d'⟩ | ⟨a',_⟩
  ·omega
  ·rw [h.s,a'] at a;cases a
 ·have hn:2 ^ 128≤p.1:=of_decide_eq_true a
  rw [if_pos hn]
  refine key 128 (2 ^ 128) (by decide) ?_ hn
  rcases h.b with hb | ⟨_,hb⟩
  ·have:=h.le
   have:(2:Nat) ^ 32≤2 ^ 128:=by decide
   omega
  ·have:(2:Nat) ^ 129=2 ^ 128 + 2 ^ 128:=by decide
   omega
theorem allB_crude:∀ {S:List Sp},(∀ p ∈ S,VR p)→(allB S).length≤257 * S.length
 | [],_ => Nat.zero_le _
 | p :: S,h => by
   have h1:=blks_len (h p (List.mem_cons_self ..))
   have h2:=allB_crude (S:=S) fun q hq => h q (List.mem_cons_of_mem _ hq)
   unfold allB at h2 ⊢
   rw [List.flatMap_cons,List.length_append,List.length_cons]
   omega
theorem blk_vn {p:Sp} (h:VR p) {x:Nat} (h1:p.1≤x) (h2:x≤p.2):VN x∧LN x=LN p.1∧sixN x=sixN p.1:=by
 have e32:(2:Nat) ^ 32≤2 ^ 128:=by decide
 rcases h.a.cases with ⟨a,_,_,d⟩ | ⟨a,b,_⟩
 ·have hn:¬ 2 ^ 128≤p.1:=of_decide_eq_false a
  rcases h.b.cases with ⟨a',_,_,d'⟩ | ⟨a',_⟩
  ·have hx:¬ 2 ^ 128≤x:=by omega
   refine ⟨.inl (by omega),?_,?_⟩
   ·unfold LN;rw [if_neg hx,if_neg hn]
   ·rw [a];exact decide_eq_false hx
  ·rw [h.s,a'] at a;cases a
 ·have hn:2 ^ 128≤p.1:=of_decide_eq_true a
  have hx:2 ^ 128≤x:=by omega
  refine ⟨.inr ⟨hx,?_⟩,?_,?_⟩
  ·rcases h.b with hb | ⟨_,hb⟩ <;> omega
  ·unfold LN;rw [if_pos hx,if_pos hn]
  ·rw [a];exact decide_eq_true hx
def pfOf (c:Nat × Nat):Pf:=(sixN c.1,hiN c.1,loN c.1,(c.2:Int))
def pfs (S:List Sp):List Pf:=(allB S).map pfOf
def vlen:Value→Nat
 | .slice _ n _ => n
 | _ => 0
theorem OwnK.vlen {α:Type} {E:Lay α} {w:World} {B:Nat} {v:Value} {L:List α} (h:OwnK E w B v L):vlen v=L.length:=by
 obtain ⟨ad,c,rfl,_⟩:=h.form
 rfl
theorem own_far {w:World} {base:Nat} {e:TypeId} {size:Nat} {v:Value} {n:Nat} {xs:List Value} {b:Nat} {t:TypeId} {cs:Array Value} (h:w.ownsRow base e size v n xs) (hb:Blk w b t cs) (hne:e ≠ t) (i:Nat) (u:Value):(w.setCell ⟨b,i,none⟩ u).ownsRow base e size v n xs:=by
 rcases h with ⟨hl,hv | ⟨g,c,cur,rfl,hbase,hg,hc,hm,hs,ht⟩⟩
 ·exact ⟨hl, .inl hv⟩
 ·refine ⟨hl, .inr ⟨g,c,cur,rfl,hbase,?_,hc,hm,hs,ht⟩⟩
  rw [Below.heap_setCell w ⟨b,i,none⟩ u g (by
   rintro rfl
   unfold Blk at hb
   rw [hg] at hb
   injection hb with hb
   injection hb with _ hb
   exact hne hb)]
  exact hg
theorem OwnK.far {α:Type} {E:Lay α} {w:World} {B:Nat} {v:Value} {L:List α} {b:Nat} {t:TypeId} {cs:Array Value} (h:OwnK E w B v L) (hb:Blk w b t cs) (hne:E.ty ≠ t) (i:Nat) (u:Value):OwnK E (w.setCell ⟨b,i,none⟩ u) B v L:=own_far h hb hne i u
theorem Blk.grew {w w':World} {b:Nat} {t:TypeId} {cs:Array Value} {base:Nat} {e:TypeId} {size:Nat} {v v':Value} {n:Nat} {xs:List Value} (hb:Blk w b t cs) (h:w.ownsRow base e size v n xs) (hne:e ≠ t) (hG:Grew w w' v v'):Blk w' b t cs:=by
 refine (hG.g.block b hb.lt ?_).trans hb
 rcases h with ⟨hl,⟨rfl,_⟩ | ⟨g,c,cur,rfl,hbase,hg,hc,hm,hs,ht⟩⟩
 ·simp [Value.ownBlock]
 ·intro he
  have:b=g:=by simpa [Value.ownBlock] using he
  subst this
  unfold Blk at hb
  rw [hg] at hb
  injection hb with hb
  injection hb with _ hb
  exact hne hb
theorem allB_take {S:List Sp} {k:Nat} {p:Sp} (hp:S[k]?=some p):allB (S.take (k + 1))=allB (S.take k) ++ blks (LN p.1) p.1 p.2:=by
 have hlt:=(List.getElem?_eq_some_iff.1 hp).1
 have e:S[k]=p:=by rw [List.getElem?_eq_getElem hlt] at hp;injection hp
 unfold allB
 rw [List.take_succ_eq_append_getElem hlt,List.flatMap_append,e]
 simp
def remB (left:Bool) (L x y:Nat):List (Nat × Nat):=if left=true then blks L x y else []
theorem remB_stop {left:Bool} {L x y:Nat} (h:left=true→y < x):remB left L x y=[]:=by
 unfold remB
 cases left
 ·rfl
 ·rw [if_pos rfl];exact blks_stop (h rfl)
theorem remB_step {p:Sp} (h:VR p) {x:Nat} (h1:p.1≤x) (h2:x≤p.2) (F N:Nat) (hN:N=gB (LN p.1) x p.2) (hF:F=fil x (LN x - N)) :
  VN F∧N≤LN x∧remB true (LN p.1) x p.2=(x,N) :: remB (!decide (F=topN F)) (LN p.1) (if F=topN F then F else F + 1) p.2∧VN (if F=topN F then F else F + 1)∧p.1≤(if F=topN F then F else F + 1):=by
 obtain ⟨hv,hl,hsx⟩:=blk_vn h h1 h2
 have hg:=gB_ok (L:=LN p.1) h2
 rw [← hN] at hg
 have hle:N≤LN x:=by rw [hl];exact hg.le
 have hFv:VN F:=by rw [hF];exact VN_fil hv hle
 have hFx:F=x + (2 ^ (LN p.1 - N) - 1):=by rw [hF,hl];exact hg.fil
 have hp:=two_pos (LN p.1 - N)
 have hst:remB true (LN p.1) x p.2=(x,N) :: blks (LN p.1) (F + 1) p.2:=by
  show (if true=true then _ else _)=_
  rw [if_pos rfl,blks_step h2, ← hN,show x + 2 ^ (LN p.1 - N)=F + 1 by omega]
 refine ⟨hFv,hle,?_,?_,?_⟩
 ·rw [hst]
  by_cases ht:F=topN F
  ·rw [if_pos ht,decide_eq_true ht]
   have hy:p.2≤F:=by
    have h6:sixN p.2=sixN F:=by
     rw [← h.s, ← hsx,hF]
     exact (fil_six hv hle).symm
    have:=le_top h.b
    rw [six_of_le h.b hFv h6, ← ht] at this
    exact this
   rw [blks_stop (by omega)]
   rfl
  ·rw [if_neg ht,decide_eq_false ht]
   rfl
 ·by_cases ht:F=topN F
  ·rw [if_pos ht];exact hFv
  ·rw [if_neg ht];exact (next_num hFv ht).1
 ·by_cases ht:F=topN F
  ·rw [if_pos ht];omega
  ·rw [if_neg ht];omega
theorem gN_hit {L x y n:Nat} (h:clr x (L - n)=x∧fil x (L - n)≤y):gN L x y (n + 1)=gN L x y n:=by
 rw [gN,if_pos h]
theorem gN_miss {L x y n:Nat} (h:¬ (clr x (L - n)=x∧fil x (L - n)≤y)):gN L x y (n + 1)=n + 1:=by
 rw [gN,if_neg h]
theorem prefixes_any (ad:Option Addr) (n c:Nat) (S:List Sp) (w:World) (h:RdK layRg w ad S) (hn:S.length=n) (hs:n≤100000) (hv:∀ p ∈ S,VR p) :
  Calls Tryz.prog 149 #[.slice ad n c] w fun e w' => ∃ v,e=.returned v∧OwnK layPf w' w.heap.size v (pfs S)∧Below w.heap.size w w':=by
 have Hv:=Lib.hid hv
 have H0:=Lib.hid h
 have Hn:=Lib.hid hn
 have HT:=Lib.hid (allB_crude hv)
 rw [hn] at HT
 clear h hn hv
 go_enter Tryz.func149,Tryz.ntmps149
 go_wp2_with fail
 go_loopw [3,5,6,7,8,11] (fun out s5 s6 s7 s8 i wr => ∃ k:Nat,k≤n∧i=.int .i64 (k:Int)∧Hid (OwnK layPf wr w.heap.size out (pfs (S.take k)))∧Hid (Below w.heap.size w wr)) (fun _ _ _ _ _ i _ => n - (intOf i).toNat)
 case atStart => exact ⟨0,Nat.zero_le _,rfl,Lib.hid (OwnK.nil _ _ _),Lib.hid (Below.refl _ _)⟩
 case round =>
  obtain ⟨k,hk,rfl,HO,HB⟩:=hrel
  by_cases hlt:k < n
  ·have hS:k < S.length:=by rw [Hn.out];exact hlt
   obtain ⟨p,hp⟩:∃ p,S[k]?=some p:=⟨_,List.getElem?_eq_getElem hS⟩
   obtain ⟨a1,a2,a3,a4,a5,a6,hpc,hp1,hp2,h1s,h2s⟩:=rg_cells p
   obtain ⟨g,o,had,hg,c0,c1,c2,c3,c4,c5⟩:=(H0.out.below HB.out).rg hp hpc
   subst had
   have HVp:=Lib.hid (Hv.out p (List.mem_of_getElem? hp))
   have HA1:Hid (allB (S.take (k + 1))=allB (S.take k) ++ blks (LN p.1) p.1 p.2):=Lib.hid (allB_take hp)
   have HP1:=Lib.hid hp1
   have HP2:=Lib.hid hp2
   have HLn:Hid ((allB (S.take k)).length≤257 * 100000):=Lib.hid (by
    have:=allB_crude (S:=S.take k) fun q hq => Hv.out q (List.mem_of_mem_take hq)
    have h2:(S.take k).length≤k:=List.length_take_le _ _
    omega)
   have HLb:Hid ((blks (LN p.1) p.1 p.2).length≤257):=Lib.hid (blks_len HVp.out)
   clear hp hS hpc hp1 hp2 h1s h2s
   have HBr1:Hid (Blk ((wr.alloc (.cells #[.bool a1, .int .u64 (a2:Int), .int .u64 (a3:Int), .bool a4, .int .u64 (a5:Int), .int .u64 (a6:Int)] 113 (0,0))).alloc (.cells #[.bool a1, .int .u64 (a2:Int), .int .u64 (a3:Int)] 28 (0,0))) wr.heap.size 113 #[.bool a1, .int .u64 (a2:Int), .int .u64 (a3:Int), .bool a4, .int .u64 (a5:Int), .int .u64 (a6:Int)]):=Lib.hid ((Blk.new wr _ _).alloc _)
   have HBa1:Hid (Blk ((wr.alloc (.cells #[.bool a1, .int .u64 (a2:Int), .int .u64 (a3:Int), .bool a4, .int .u64 (a5:Int), .int .u64 (a6:Int)] 113 (0,0))).alloc (.cells #[.bool a1, .int .u64 (a2:Int), .int .u64 (a3:Int)] 28 (0,0))) (wr.heap.size + 1) 28 #[.bool a1, .int .u64 (a2:Int), .int .u64 (a3:Int)]):=Lib.hid (by
    have this:=Blk.new (wr.alloc (.cells #[.bool a1, .int .u64 (a2:Int), .int .u64 (a3:Int), .bool a4, .int .u64 (a5:Int), .int .u64 (a6:Int)] 113 (0,0))) 28 #[.bool a1, .int .u64 (a2:Int), .int .u64 (a3:Int)]
    rw [World.size_alloc] at this
    exact this)
   have HB1:Hid (Below w.heap.size w ((wr.alloc (.cells #[.bool a1, .int .u64 (a2:Int), .int .u64 (a3:Int), .bool a4, .int .u64 (a5:Int), .int .u64 (a6:Int)] 113 (0,0))).alloc (.cells #[.bool a1, .int .u64 (a2:Int), .int .u64 (a3:Int)] 28 (0,0)))):=Lib.hid (Below.alloc (Below.alloc HB.out HB.out.size _) (by have:=HB.out.size;simp;omega) _)
   have HO1:Hid (OwnK layPf ((wr.alloc (.cells #[.bool a1, .int .u64 (a2:Int), .int .u64 (a3:Int), .bool a4, .int .u64 (a5:Int), .int .u64 (a6:Int)] 113 (0,0))).alloc (.cells #[.bool a1, .int .u64 (a2:Int), .int .u64 (a3:Int)] 28 (0,0))) w.heap.size u3 ((allB (S.take k) ++ []).map pfOf)):=Lib.hid (by rw [List.append_nil];exact (HO.out.alloc _).alloc _)
   have hba:w.heap.size≤wr.heap.size:=HB.out.size
   go_upto_block 2 with fail
   generalize ((wr.alloc (.cells #[.bool a1, .int .u64 (a2:Int), .int .u64 (a3:Int), .bool a4, .int .u64 (a5:Int), .int .u64 (a6:Int)] 113 (0,0))).alloc (.cells #[.bool a1, .int .u64 (a2:Int), .int .u64 (a3:Int)] 28 (0,0)))=w3 at *
   generalize wr.heap.size=br at *
   clear HB HO c0 c1 c2 c3 c4 c5 hg
   go_wp2_with fail
   go_loopw [3,7,8] (fun out lf nn wx => ∃ (x:Nat) (left:Bool) (D:List (Nat × Nat)),lf=.bool left∧Hid (VN x)∧Hid (p.1≤x)∧Hid (OwnK layPf wx w.heap.size out ((allB (S.take k) ++ D).map pfOf))∧Hid (D ++ remB left (LN p.1) x p.2=blks (LN p.1) p.1 p.2)∧Hid (Blk wx br 113 #[.bool a1, .int .u64 (a2:Int), .int .u64 (a3:Int), .bool a4, .int .u64 (a5:Int), .int .u64 (a6:Int)])∧Hid (Blk wx (br + 1) 28 (aN x))∧Hid (Below w.heap.size w wx)) (fun out _ _ _ => (allB (S.take k)).length + 257 - vlen out)
   case atStart => exact ⟨p.1,true, [],rfl,Lib.hid HVp.out.a,Lib.hid (Nat.le_refl _),HO1,Lib.hid rfl,HBr1,Lib.hid (by rw [HP1.out];exact HBa1.out),HB1⟩
   case round =>
    clear HO1 HBr1 HBa1 HB1
    obtain ⟨x,left,D,rfl,HVx,Hx1,HO,HD,HBr,HBa,HB⟩:=hrel
    have HC:=Lib.hid fun wx => spanCompareN wx HVx.out HVp.out.b
    have HCl:=Lib.hid (cN_le x p.2)
    have HLe:=Lib.hid fun wx => lengthN x wx
    have HE:Hid (aN x=#[.bool (sixN x), .int .u64 ((hiN x:Nat):Int), .int .u64 ((loN x:Nat):Int)]):=Lib.hid rfl
    generalize sixN x=x1 at *
    generalize hiN x=x2 at *
    generalize loN x=x3 at *
    rw [HE.out] at HC HLe HBa
    rw [HP2.out] at HC
    have hFin:∀ out wx,OwnK layPf wx w.heap.size out ((allB (S.take k) ++ D).map pfOf)→remB left (LN p.1) x p.2=[]→OwnK layPf wx w.heap.size out (pfs (S.take (k + 1))):=fun out wx h1 h2 => by
     have e:=HD.out
     rw [h2,List.append_nil] at e
     unfold pfs
     rw [HA1.out, ← e]
     exact h1
    have HFin:=Lib.hid hFin
    clear hFin
    have p0:=HBa.out.cell 0
    have p1:=HBa.out.cell 1
    have p2:=HBa.out.cell 2
    simp at p0 p1 p2
    have r3:=HBr.out.cell 3
    have r4:=HBr.out.cell 4
    have r5:=HBr.out.cell 5
    simp at r3 r4 r5
    cases left
    ·have HO2:=Lib.hid (HFin.out _ _ HO.out rfl)
     clear HFin HC HCl HLe HE
     go_wp2_with fail
     exact ⟨⟨k + 1,by omega,by go_num,HO2,HB⟩,by simp [intOf];omega⟩
    ·generalize cN x p.2=C at *
     go_wp2_with fail
     refine (HC.out _).mono ?_
     rintro e w4 ⟨rfl,hb⟩
     have HBr4:=Lib.hid (HBr.out.below hb.b HBr.out.lt)
     have HBa4:=Lib.hid (HBa.out.below hb.b HBa.out.lt)
     have HO4:=Lib.hid (HO.out.later hb.b)
     have HB4:=Lib.hid (HB.out.trans (hb.b.mono HB.out.size))
     clear hb HC HBr HBa HO HB p0 p1 p2 r3 r4 r5
     by_cases hle:x≤p.2
     ·have hC0:C≤0:=HCl.out.2 hle
      have HLen:=Lib.hid (blk_vn HVp.out Hx1.out hle).2.1
      have HM:=Lib.hid fun m wx (hm:m≤LN x) => maskedN (n:=m) wx HVx.out hm
      have HF:=Lib.hid fun m wx (hm:m≤LN x) => filledN (n:=m) wx HVx.out hm
      have HEq:=Lib.hid fun m (hm:m≤LN x) wx => aN_eql (VN_clr HVx.out hm) HVx.out wx
      have HCF:=Lib.hid fun m wx (hm:m≤LN x) => spanCompareN wx (VN_fil HVx.out hm) HVp.out.b
      rw [HE.out] at HM HF HEq
      rw [HP2.out] at HCF
      have q0:=HBa4.out.cell 0
      have q1:=HBa4.out.cell 1
      have q2:=HBa4.out.cell 2
      simp at q0 q1 q2
      go_upto_region 7 with fail
      go_wp2_with fail
      refine (HLe.out _).mono ?_
      rintro e w5 ⟨rfl,hb⟩
      have HBr5:=Lib.hid (HBr4.out.below hb HBr4.out.lt)
      have HBa5:=Lib.hid (HBa4.out.below hb HBa4.out.lt)
      have HO5:=Lib.hid (HO4.out.later hb)
      have HB5:=Lib.hid (HB4.out.trans (hb.mono HB4.out.size))
      clear hb HBr4 HBa4 HO4 HB4 q0 q1 q2 HLe
      go_upto_block 4 with fail
      go_cut [8] (fun nn wx => nn=.int .i64 ((gB (LN x) x p.2:Nat):Int)∧Below w5.heap.size w5 wx)
      case first =>
       as_aux_lemma =>
        clear HFin HO5 HB5 HD HLb HLn HT
        go_wp2_with fail
        go_loopw [8] (fun nn wx => ∃ m:Nat,m≤LN x∧nn=.int .i64 (m:Int)∧Hid (gN (LN x) x p.2 m=gB (LN x) x p.2)∧Hid (Below w5.heap.size w5 wx)) (fun nn _ => (intOf nn).toNat)
        case atStart => exact ⟨LN x,Nat.le_refl _,rfl,Lib.hid rfl,Lib.hid (Below.refl _ _)⟩
        case round =>
         obtain ⟨m,hm,rfl,HG,HBx⟩:=hrel
         have HBr6:=Lib.hid (HBr5.out.below HBx.out HBr5.out.lt)
         have HBa6:=Lib.hid (HBa5.out.below HBx.out HBa5.out.lt)
         have q0:=HBa6.out.cell 0
         have q1:=HBa6.out.cell 1
         have q2:=HBa6.out.cell 2
         simp at q0 q1 q2
         have r3:=HBr6.out.cell 3
         have r4:=HBr6.out.cell 4
         have r5:=HBr6.out.cell 5
         simp at r3 r4 r5
         have l0:=Later.cell_of q0
         have l1:=Later.cell_of q1
         have l2:=Later.cell_of q2
         have l3:=Later.cell_of r3
         have l4:=Later.cell_of r4
         have l5:=Later.cell_of r5
         by_cases hm0:m=0
         ·subst hm0
          have HG2:Hid (0=gB (LN x) x p.2):=Lib.hid HG.out
          have z0:((0:Nat):Int)=0:=rfl
          rw [z0]
          go_wp2_with fail
          refine wp_region_later (by kernel_rfl) (by kernel_rfl) ?_
          repeat (go_big_quiet_step (fail))
          refine wpQuiet_nil ?_
          rintro w6 ⟨n6,hn6⟩
          have hb:Below wr.heap.size wr w6:=by rw [hn6];exact n6.2
          clear hn6 n6
          have HBy:=Lib.hid (HBx.out.trans (hb.mono HBx.out.size))
          clear hb
          go_wp2_with fail
          go_meet
          case rel => exact ⟨by rw [← HG2.out];rfl,HBy.out⟩
         ·obtain ⟨j,hj⟩:∃ j,m=j + 1:=⟨m - 1,by omega⟩
          have hjL:j≤LN x:=by omega
          have e1:(m:Int) - 1=(j:Int):=by omega
          have g1:decide (0 < m)=true:=decide_eq_true (by omega)
          have g2:(m:Int)≤128:=by
           have:LN x≤128:=by rw [LN_six];exact lenN_le _
           omega
          have HGm:Hid (gN (LN x) x p.2 (j + 1)=gB (LN x) x p.2):=Lib.hid (by rw [← hj];exact HG.out)
          have HJm:=Lib.hid hj
          have hM:=fun X:Later wr => Calls.later X (HM.out j X.1 hjL)
          have hEq:=HEq.out j hjL
          have hF:=fun X:Later wr => Calls.later X (HF.out j X.1 hjL)
          have hCF:=fun X:Later wr => Calls.later X ((HCF.out j X.1 hjL).mono fun _ _ h => h.ret)
          have HCl2:=Lib.hid (cN_le (fil x (LN x - j)) p.2)
          clear hj HG hm0 hm
          by_cases hc1:clr x (LN x - j)=x
          ·have Hc1:=Lib.hid hc1
           rw [decide_eq_true hc1] at hEq
           clear hc1
           generalize aN (clr x (LN x - j))=CV at *
           by_cases hc2:fil x (LN x - j)≤p.2
           ·have hC2:cN (fil x (LN x - j)) p.2≤0:=HCl2.out.2 hc2
            have HG2:Hid (gN (LN x) x p.2 j=gB (LN x) x p.2):=Lib.hid (by rw [← HGm.out,gN_hit ⟨Hc1.out,hc2⟩])
            clear hc2 HCl2 HGm Hc1
            generalize cN (fil x (LN x - j)) p.2=C2 at *
            generalize aN (fil x (LN x - j))=FW at *
            go_wp2_with fail
            refine wp_region_later (by kernel_rfl) (by kernel_rfl) ?_
            repeat (go_big_quiet_step (first | (go_at_call 162;exact hM _) | (go_at_call 224;exact hF _) | (go_at_call 174;exact hCF _)))
            refine wpQuiet_nil ?_
            rintro w6 ⟨n6,hn6⟩
            have hb:Below wr.heap.size wr w6:=by rw [hn6];exact n6.2
            clear hn6 n6
            have HBy:=Lib.hid (HBx.out.trans (hb.mono HBx.out.size))
            clear hb
            clear hM hEq hF hCF l0 l1 l2 l3 l4 l5 q0 q1 q2 r3 r4 r5
            go_wp2_with fail
            exact ⟨⟨j,hjL,rfl,HG2,HBy⟩,by simp [intOf];omega⟩
           ·have hC2:¬ cN (fil x (LN x - j)) p.2≤0:=fun h => hc2 (HCl2.out.1 h)
            have HG2:Hid (m=gB (LN x) x p.2):=Lib.hid (by rw [← HGm.out,gN_miss (fun h => hc2 h.2),HJm.out])
            clear hc2 HCl2 HGm Hc1
            generalize cN (fil x (LN x - j)) p.2=C2 at *
            generalize aN (fil x (LN x - j))=FW at *
            go_wp2_with fail
            refine wp_region_later (by kernel_rfl) (by kernel_rfl) ?_
            repeat (go_big_quiet_step (first | (go_at_call 162;exact hM _) | (go_at_call 224;exact hF _) | (go_at_call 174;exact hCF _)))
            refine wpQuiet_nil ?_
            rintro w6 ⟨n6,hn6⟩
            have hb:Below wr.heap.size wr w6:=by rw [hn6];exact n6.2
            clear hn6 n6
            have HBy:=Lib.hid (HBx.out.trans (hb.mono HBx.out.size))
            clear hb
            clear hM hEq hF hCF l0 l1 l2 l3 l4 l5 q0 q1 q2 r3 r4 r5
            go_wp2_with fail
            go_meet
            case rel => exact ⟨by rw [← HG2.out],HBy.out⟩
          ·have HG2:Hid (m=gB (LN x) x p.2):=Lib.hid (by rw [← HGm.out,gN_miss (fun h => hc1 h.1),HJm.out])
           rw [decide_eq_false hc1] at hEq
           clear hc1 HGm HCl2
           generalize aN (clr x (LN x - j))=CV at *
           go_wp2_with fail
           refine wp_region_later (by kernel_rfl) (by kernel_rfl) ?_
           repeat (go_big_quiet_step (first | (go_at_call 162;exact hM _) | (go_at_call 224;exact hF _) | (go_at_call 174;exact hCF _)))
           refine wpQuiet_nil ?_
           rintro w6 ⟨n6,hn6⟩
           have hb:Below wr.heap.size wr w6:=by rw [hn6];exact n6.2
           clear hn6 n6
           have HBy:=Lib.hid (HBx.out.trans (hb.mono HBx.out.size))
           clear hb
           clear hM hEq hF hCF l0 l1 l2 l3 l4 l5 q0 q1 q2 r3 r4 r5
           go_wp2_with fail
           go_meet
           case rel => exact ⟨by rw [← HG2.out],HBy.out⟩
      case rest =>
       as_aux_lemma =>
        obtain ⟨rfl,hb⟩:=hcut
        have HBr6:=Lib.hid (HBr5.out.below hb HBr5.out.lt)
        have HBa6:=Lib.hid (HBa5.out.below hb HBa5.out.lt)
        have HO6:=Lib.hid (HO5.out.later hb)
        have HB6:=Lib.hid (HB5.out.trans (hb.mono HB5.out.size))
        clear hb HBr5 HBa5 HO5 HB5 HM HEq HCF HFin HCl hC0
        obtain ⟨N,hN⟩:∃ N,gB (LN x) x p.2=N:=⟨_,rfl⟩
        have hst:=remB_step HVp.out Hx1.out hle (fil x (LN x - N)) N (by rw [← hN,HLen.out]) rfl
        rw [hN]
        clear hN
        obtain ⟨hFv,hNl,hRm,hV',hx'⟩:=hst
        have HFi:=Lib.hid fun wx => HF.out N wx hNl
        have HNx:=Lib.hid fun wx => nextN wx hFv
        obtain ⟨x',hxe⟩:∃ x',(if fil x (LN x - N)=topN (fil x (LN x - N)) then fil x (LN x - N) else fil x (LN x - N) + 1)=x':=⟨_,rfl⟩
        rw [hxe] at HNx hRm hV' hx'
        obtain ⟨left',hle'⟩:∃ left',(!decide (fil x (LN x - N)=topN (fil x (LN x - N))))=left':=⟨_,rfl⟩
        rw [hle'] at HNx hRm
        have HRm:=Lib.hid hRm
        have HV':=Lib.hid hV'
        have Hx':=Lib.hid hx'
        have HE':Hid (aN x'=#[.bool (sixN x'), .int .u64 ((hiN x':Nat):Int), .int .u64 ((loN x':Nat):Int)]):=Lib.hid rfl
        generalize aN (fil x (LN x - N))=FA at *
        have hNb:N≤128:=Nat.le_trans hNl (by rw [LN_six];exact lenN_le _)
        clear hFv hNl hRm hV' hx' hxe hle' HF hle
        generalize sixN x'=v1 at *
        generalize hiN x'=v2 at *
        generalize loN x'=v3 at *
        rw [HE'.out] at HNx
        have HDl:Hid (D.length + 1≤257):=Lib.hid (by
         have e:=congrArg List.length HD.out
         rw [HRm.out,List.length_append,List.length_cons] at e
         have:=HLb.out
         omega)
        obtain ⟨LL,hLL⟩:∃ LL,(allB (S.take k) ++ D).map pfOf=LL:=⟨_,rfl⟩
        have hLn:LL.length=(allB (S.take k)).length + D.length:=by rw [← hLL,List.length_map,List.length_append]
        rw [hLL] at HO6
        have HLL:=Lib.hid hLL
        have HLn2:=Lib.hid hLn
        have HOl:=Lib.hid HO6.out.vlen
        clear hLL hLn
        have q0:=HBa6.out.cell 0
        have q1:=HBa6.out.cell 1
        have q2:=HBa6.out.cell 2
        simp at q0 q1 q2
        go_wp2_with (at_builtin;refine wpList_app pfE rfl (.tmp 49) (.tmp 53) rfl rfl (World.ownsRow.alloc HO6.out _) rfl (src_new layPf _ (pfOf (x,N)) _ _ ?c0) ?c1 ?c2 ?c3 ?c4 ?_)
        case c0 =>
         show _=((aN x).toList ++ [Value.int .i64 (N:Int)]).toArray
         rw [HE.out]
         rfl
        case c1 => exact layPf.one _
        case c2 => unfold maxLen;have:=HLn.out;have:=HDl.out;rw [HLn2.out];omega
        case c3 => have:=HLn.out;have:=HDl.out;rw [HLn2.out];omega
        case c4 => have:=HB6.out.size;simp;omega
        intro v' w7 hO hG
        have HO7:Hid (OwnK layPf w7 w.heap.size v' ((allB (S.take k) ++ (D ++ [(x,N)])).map pfOf)):=Lib.hid (by
         have:=OwnK.snoc hO
         rw [show (allB (S.take k) ++ (D ++ [(x,N)])).map pfOf=(allB (S.take k) ++ D).map pfOf ++ [pfOf (x,N)] by simp,HLL.out]
         exact this)
        have HBr7:=Lib.hid ((HBr6.out.alloc (.cells #[.bool x1, .int .u64 (x2:Int), .int .u64 (x3:Int), .int .i64 (N:Int)] 30 (0,0))).grew (World.ownsRow.alloc HO6.out _) (by decide) hG)
        have HBa7:=Lib.hid ((HBa6.out.alloc (.cells #[.bool x1, .int .u64 (x2:Int), .int .u64 (x3:Int), .int .i64 (N:Int)] 30 (0,0))).grew (World.ownsRow.alloc HO6.out _) (by decide) hG)
        have HB7:Hid (Below w.heap.size w w7):=Lib.hid ((Below.alloc HB6.out HB6.out.size _).trans (hG.below (by have:=HB6.out.size;simp;omega) (own_base HO6.out)))
        clear hO hG HO6 HBr6 HBa6 HB6 q0 q1 q2
        have q0:=HBa7.out.cell 0
        have q1:=HBa7.out.cell 1
        have q2:=HBa7.out.cell 2
        simp at q0 q1 q2
        go_wp2_with fail
        refine (HFi.out _).mono ?_
        rintro e w8 ⟨rfl,hb⟩
        have HBr8:=Lib.hid (HBr7.out.below hb HBr7.out.lt)
        have HBa8:=Lib.hid (HBa7.out.below hb HBa7.out.lt)
        have HO8:=Lib.hid (HO7.out.later hb)
        have HB8:=Lib.hid (HB7.out.trans (hb.mono HB7.out.size))
        clear hb HO7 HBr7 HBa7 HB7 q0 q1 q2 HFi
        go_wp2_with fail
        refine (HNx.out _).mono ?_
        rintro e w9 ⟨rfl,hb⟩
        have HBr9:=Lib.hid (HBr8.out.below hb HBr8.out.lt)
        have HBa9:=Lib.hid (HBa8.out.below hb HBa8.out.lt)
        have HO9:=Lib.hid (HO8.out.later hb)
        have HB9:=Lib.hid (HB8.out.trans (hb.mono HB8.out.size))
        clear hb HO8 HBr8 HBa8 HB8 HNx
        have q0:=HBa9.out.cell 0
        have q1:=HBa9.out.cell 1
        have q2:=HBa9.out.cell 2
        simp at q0 q1 q2
        have qf:=HBa9.out.free
        have HS:=Lib.hid (And.intro (((HBr9.out.far (show br ≠ br + 1 by omega) 0 (.bool v1)).far (show br ≠ br + 1 by omega) 1 (.int .u64 (v2:Int))).far (show br ≠ br + 1 by omega) 2 (.int .u64 (v3:Int))) (And.intro (((HBa9.out.set 0 (.bool v1)).set 1 (.int .u64 (v2:Int))).set 2 (.int .u64 (v3:Int))) (And.intro (((HO9.out.far HBa9.out (by decide) 0 (.bool v1)).far (HBa9.out.set 0 (.bool v1)) (by decide) 1 (.int .u64 (v2:Int))).far ((HBa9.out.set 0 (.bool v1)).set 1 (.int .u64 (v2:Int))) (by decide) 2 (.int .u64 (v3:Int))) (((HB9.out.setCell (p:=⟨br + 1,0,none⟩) (by simp only;omega) (.bool v1)).setCell (p:=⟨br + 1,1,none⟩) (by simp only;omega) (.int .u64 (v2:Int))).setCell (p:=⟨br + 1,2,none⟩) (by simp only;omega) (.int .u64 (v3:Int))))))
        have HD':Hid ((D ++ [(x,N)]) ++ remB left' (LN p.1) x' p.2=blks (LN p.1) p.1 p.2):=Lib.hid (by
         rw [List.append_assoc, ← HD.out,HRm.out]
         rfl)
        have HVl:=Lib.hid HO9.out.vlen
        clear HBr9 HBa9 HO9 HB9 HD HRm
        go_wp2_with fail
        refine ⟨⟨x',left',D ++ [(x,N)],rfl,HV',Hx',Lib.hid HS.out.2.2.1,HD',Lib.hid HS.out.1,Lib.hid (by rw [HE'.out];exact HS.out.2.1),Lib.hid HS.out.2.2.2⟩,?_⟩
        have m1:=HVl.out
        rw [List.length_map,List.length_append,List.length_append,List.length_singleton] at m1
        have m2:=HOl.out
        rw [HLn2.out] at m2
        have m3:=HDl.out
        simp
        omega
     ·have hC0:¬ C≤0:=fun h => hle (HCl.out.1 h)
      have HO5:=Lib.hid (HFin.out _ _ HO4.out (remB_stop fun _ => by omega))
      clear HFin HCl HLe HE
      go_wp2_with fail
      exact ⟨⟨k + 1,by omega,by go_num,HO5,HB4⟩,by simp [intOf];omega⟩
  ·obtain rfl:k=n:=by omega
   have hT:S.take k=S:=List.take_of_length_le (by rw [Hn.out];exact Nat.le_refl _)
   have HO2:Hid (OwnK layPf wr w.heap.size u3 (pfs S)):=Lib.hid (by have:=HO.out;rw [hT] at this;exact this)
   clear hT HO
   go_wp2_with fail
   go_ret
   exact ⟨_,rfl,HO2.out,HB.out⟩
theorem pf_ext (x y:Pf):(((x.1,((x.2.1:Nat):Int),((x.2.2.1:Nat):Int),x.2.2.2):Bool × Int × Int × Int)=(y.1,((y.2.1:Nat):Int),((y.2.2.1:Nat):Int),y.2.2.2)) ↔ x=y:=by
 constructor
 ·intro h
  have h1:=congrArg (·.1) h
  have h2:((x.2.1:Nat):Int)=((y.2.1:Nat):Int):=congrArg (·.2.1) h
  have h3:((x.2.2.1:Nat):Int)=((y.2.2.1:Nat):Int):=congrArg (·.2.2.1) h
  have h4:=congrArg (·.2.2.2) h
  exact Prod.ext h1 (Prod.ext (by show x.2.1=y.2.1;omega) (Prod.ext (by show x.2.2.1=y.2.2.1;omega) h4))
 ·rintro rfl;rfl
theorem pf_neq (x y:Pf) (w:World):(binOp .neq 30 (.agg #[.bool x.1, .int .u64 ((x.2.1:Nat):Int), .int .u64 ((x.2.2.1:Nat):Int), .int .i64 x.2.2.2]) (.agg #[.bool y.1, .int .u64 ((y.2.1:Nat):Int), .int .u64 ((y.2.2.1:Nat):Int), .int .i64 y.2.2.2])).run Tryz.prog w=.ok (.bool (!decide (x=y))) w:=by
 rw [pfx_neq,decide_eq_decide.2 (pf_ext x y)]
theorem equal_pf (a1 a2:Option Addr) (c1 c2:Nat) (xs ys:List Pf) (w:World) (h1:RdK layPf w a1 xs) (h2:RdK layPf w a2 ys) (hs1:xs.length≤1000000000) :
  Calls Tryz.prog 15 #[.slice a1 xs.length c1, .slice a2 ys.length c2] w fun e w' => e=.returned (.bool (decide (xs=ys)))∧∃ n,w'=w.drewN n:=by
 generalize hn:xs.length=n
 rw [hn] at hs1
 have H1:=Lib.hid h1
 have H2:=Lib.hid h2
 clear h1 h2
 by_cases hl:xs.length=ys.length
 ·rw [← hl,hn]
  have Hn:=Lib.hid hn
  have Hl:=Lib.hid hl
  clear hn hl
  go_enter Tryz.func15,Tryz.ntmps15
  go_wp2
  go_loopw [13] (fun i wr => ∃ (k q:Nat),k≤n∧i=.int .i64 k∧Hid (xs.take k=ys.take k)∧wr=w.drewN q) (fun i _ => n - (intOf i).toNat)
  case atStart => exact ⟨0,0,Nat.zero_le _,rfl,Lib.hid rfl,rfl⟩
  case round =>
   obtain ⟨k,q,hk,rfl,Heq,rfl⟩:=hrel
   by_cases hlt:k < n
   ·have hkx:k < xs.length:=by rw [Hn.out];exact hlt
    have hky:k < ys.length:=by rw [← Hl.out];exact hkx
    obtain ⟨x,hxk⟩:∃ x,xs[k]?=some x:=⟨_,List.getElem?_eq_getElem hkx⟩
    obtain ⟨y,hyk⟩:∃ y,ys[k]?=some y:=⟨_,List.getElem?_eq_getElem hky⟩
    have hx:xs.take (k + 1)=xs.take k ++ [x]:=by
     have e:xs[k]=x:=by rw [List.getElem?_eq_getElem hkx] at hxk;injection hxk
     rw [List.take_succ_eq_append_getElem hkx,e]
    have hy:ys.take (k + 1)=ys.take k ++ [y]:=by
     have e:ys[k]=y:=by rw [List.getElem?_eq_getElem hky] at hyk;injection hyk
     rw [List.take_succ_eq_append_getElem hky,e]
    have hne:xs=ys→x=y:=by
     rintro rfl
     rw [hxk] at hyk
     injection hyk
    have Hx:=Lib.hid hx
    have Hy:=Lib.hid hy
    have Hne:=Lib.hid hne
    obtain ⟨g1,o1,e1,hg1,c10,c11,c12,c13⟩:=H1.out.pf hxk rfl
    obtain ⟨g2,o2,e2,hg2,c20,c21,c22,c23⟩:=H2.out.pf hyk rfl
    have np:=fun w => pf_neq x y w
    subst e1 e2
    clear hx hy hne hkx hky hxk hyk hg1 hg2
    generalize x.1=x0 at *
    generalize x.2.1=x1 at *
    generalize x.2.2.1=x2 at *
    generalize x.2.2.2=x3 at *
    generalize y.1=y0 at *
    generalize y.2.1=y1 at *
    generalize y.2.2.1=y2 at *
    generalize y.2.2.2=y3 at *
    by_cases hxy:x=y
    ·rw [decide_eq_true hxy] at np
     have Hxy:=Lib.hid hxy
     clear hxy
     go_wp2_with fail
     go_quiet (fail)
     go_wp2_with fail
     refine ⟨⟨k + 1,_,by omega,by go_num,Lib.hid ?_,rfl⟩,by simp [intOf];omega⟩
     rw [Hx.out,Hy.out,Heq.out,Hxy.out]
    ·rw [decide_eq_false hxy] at np
     have Hxy:Hid (decide (xs=ys)=false):=Lib.hid (decide_eq_false fun e => hxy (Hne.out e))
     clear hxy
     go_wp2_with fail
     go_quiet (fail)
     go_wp2_with fail
     go_ret
     exact ⟨by rw [Hxy.out];rfl,q + nq,by rw [World.drewN_drewN]⟩
   ·obtain rfl:k=n:=by omega
    have hxy:xs=ys:=by
     have:=Heq.out
     rwa [List.take_of_length_le (by rw [Hn.out];exact Nat.le_refl _),List.take_of_length_le (by rw [← Hl.out,Hn.out];exact Nat.le_refl _)] at this
    have Hxy:=Lib.hid hxy
    clear hxy
    go_wp2
    go_ret
    exact ⟨by simp [Hxy.out],_,rfl⟩
 ·have hxy:xs ≠ ys:=fun e => hl (by rw [e])
  have Hxy:=Lib.hid hxy
  have hnb:((n:Int) != (ys.length:Int))=true:=by rw [bne_iff_ne];omega
  have hnb2:n ≠ ys.length:=by omega
  clear hxy hn hl
  go_enter Tryz.func15,Tryz.ntmps15
  go_wp2
  go_ret
  exact ⟨by simp [Hxy.out],0,rfl⟩
def firstN (f:Nat→Int) (n:Nat):Int:=(((List.range n).map f).find? (· != 0)).getD 0
theorem firstN_hit (f:Nat→Int):∀ (n k:Nat),k < n→(∀ j,j < k→f j=0)→f k ≠ 0→firstN f n=f k:=by
 intro n
 induction n with
 | zero => intro k hk;omega
 | succ n ih =>
   intro k hk h0 hne
   unfold firstN at ih ⊢
   rw [List.range_succ,List.map_append,List.find?_append]
   rcases Nat.lt_or_ge k n with hlt | hge
   ·have:=ih k hlt h0 hne
    cases hf:((List.range n).map f).find? (· != 0) with
    | none => rw [hf] at this;exact absurd this.symm hne
    | some x => rw [hf] at this;simpa using this
   ·obtain rfl:k=n:=by omega
    have hf:((List.range k).map f).find? (· != 0)=none:=by
     rw [List.find?_eq_none]
     intro x hx
     obtain ⟨j,hj,rfl⟩:=List.mem_map.1 hx
     simp [h0 j (List.mem_range.1 hj)]
    rw [hf]
    simp [hne]
theorem firstN_none (f:Nat→Int) (n:Nat) (h0:∀ j,j < n→f j=0):firstN f n=0:=by
 unfold firstN
 have hf:((List.range n).map f).find? (· != 0)=none:=by
  rw [List.find?_eq_none]
  intro x hx
  obtain ⟨j,hj,rfl⟩:=List.mem_map.1 hx
  simp [h0 j (List.mem_range.1 hj)]
 rw [hf]
 rfl
theorem firstN_zero {f:Nat→Int} {n:Nat} (h:firstN f n=0):∀ j,j < n→f j=0:=by
 intro j
 induction j using Nat.strongRecOn with
 | _ j ih =>
   intro hj
   rcases Classical.em (f j=0) with h0 | h0
   ·exact h0
   ·rw [firstN_hit f n j hj (fun i hi => ih i hi (by omega)) h0] at h
    exact absurd h h0
def pfF (p:Pf):Int:=pFault p.1 p.2.1 p.2.2.1 p.2.2.2
def zPf:Pf:=(false,0,0,0)
def U4 (L:List Pf):Prop:=∀ p ∈ L,U64N p.2.1∧U64N p.2.2.1
def lst (L:List Pf):List Pf:=pfs (jn (L.map spP))
theorem jn_vr {L:List Sp} (hv:∀ p ∈ L,VR p):∀ p ∈ jn L,VR p:=by
 have hs:=jn_srt L
 have hp:=jn_perm L
 have:=(vr_take hs (fun p h => hv p (hp.mem_iff.1 h)) _ (Nat.le_refl _)).1
 rw [List.take_length] at this
 exact this
theorem sps_vr {L:List Pf} (hv:∀ p ∈ L,OkPf p):∀ p ∈ jn (L.map spP),VR p:=jn_vr fun p hp => by
 obtain ⟨q,hq,rfl⟩:=List.mem_map.1 hp
 exact (hv q hq).vr
theorem jn_len (L:List Sp):(jn L).length≤L.length:=by
 unfold jn joinL
 have:=fold_len (L.mergeSort fun p q => decide (p.1≤q.1)) []
 rw [(jn_perm L).length_eq] at this
 simpa using this
theorem lst_len {L:List Pf} (hv:∀ p ∈ L,OkPf p):(lst L).length≤L.length:=by
 have hvr:∀ p ∈ L.map spP,VR p:=fun p hp => by
  obtain ⟨q,hq,rfl⟩:=List.mem_map.1 hp
  exact (hv q hq).vr
 have:=allB_len (jn_joined fun p hp => (hvr p hp).le) (fun p hp => by
  obtain ⟨q,hq,rfl⟩:=List.mem_map.1 hp
  exact ⟨_,(hv q hq).sp⟩) (fun c hc => by
  have:=jn_vr hvr c hc
  rw [LN_six,LN_six,this.s])
 rw [List.length_map] at this
 unfold lst pfs
 rw [List.length_map]
 exact this
def fAt (L:List Pf) (i:Nat):Int:=if pfF (L.getD i zPf) ≠ 0 then pfF (L.getD i zPf) else if 0 < i∧nuP (L.getD i zPf)≤nuP (L.getD (i - 1) zPf) then 7 else 0
theorem fAt_zero {L:List Pf} {i:Nat} (h:fAt L i=0):pfF (L.getD i zPf)=0:=by
 unfold fAt at h
 by_cases h1:pfF (L.getD i zPf) ≠ 0
 ·rw [if_pos h1] at h;exact h
 ·simpa using h1
def scanF (L:List Pf):Int:=firstN (fAt L) L.length
def setF (L:List Pf):Int:=if 1000 < L.length then 2 else if scanF L ≠ 0 then scanF L else if lst L=L then 0 else 16
theorem checkSet_any (ad:Option Addr) (n c:Nat) (L:List Pf) (w:World) (h:RdK layPf w ad L) (hn:L.length=n) (hs:n≤100000) (hu:U4 L) :
  Calls Tryz.prog 181 #[.slice ad n c] w (Ret (.int .i64 (setF L)) w):=by
 by_cases hb:1000 < n
 ·have e:setF L=2:=by unfold setF;rw [hn,if_pos hb]
  rw [e]
  have hb2:(n:Int) > 1000:=by omega
  clear h hu hn e
  go_enter Tryz.func181,Tryz.ntmps181
  go_wp2_with fail
  go_ret
  exact ⟨rfl,Below.refl _ _⟩
 ·have hb2:¬ (n:Int) > 1000:=by omega
  have H0:=Lib.hid h
  have Hn:=Lib.hid hn
  have Hu:=Lib.hid hu
  have HF:Hid (∀ k,k < n→(∀ j,j < k→fAt L j=0)→fAt L k ≠ 0→setF L=fAt L k):=Lib.hid fun k hk h1 h2 => by
   have e:=firstN_hit (fAt L) n k hk h1 h2
   unfold setF scanF
   rw [hn,if_neg hb,if_pos (by rw [e];exact h2),e]
  have HZ:Hid ((∀ j,j < n→fAt L j=0)→(∀ p ∈ L,OkPf p)∧(lst L=L→setF L=0)∧(lst L ≠ L→setF L=16)):=Lib.hid fun h1 => by
   have e:=firstN_none (fAt L) n h1
   refine ⟨fun p hp => ?_,fun h2 => ?_,fun h2 => ?_⟩
   ·obtain ⟨i,hi,rfl⟩:=List.getElem_of_mem hp
    have:=fAt_zero (h1 i (by omega))
    simp only [List.getD,List.getElem?_eq_getElem hi,Option.getD_some] at this
    obtain ⟨u1,u2⟩:=hu _ (List.getElem_mem hi)
    exact okPf_of this u1 u2
   ·unfold setF scanF
    rw [hn,if_neg hb,e,if_neg (by decide),if_pos h2]
   ·unfold setF scanF
    rw [hn,if_neg hb,e,if_neg (by decide),if_neg h2]
  obtain ⟨af,haf⟩:∃ z,setF L=z:=⟨_,rfl⟩
  rw [haf] at HF HZ ⊢
  clear haf h hn hu hb
  go_enter Tryz.func181,Tryz.ntmps181
  go_wp2_with fail
  go_loopw [3,4,5,11] (fun iv bx ev i wr => ∃ (k:Nat),k≤n∧i=.int .i64 k∧Hid (∀ j,j < k→fAt L j=0)∧Hid (Below w.heap.size w wr)) (fun _ _ _ i _ => n - (intOf i).toNat)
  case atStart => exact ⟨0,Nat.zero_le _,rfl,Lib.hid fun j hj => absurd hj (Nat.not_lt_zero _),Lib.hid (Below.refl _ _)⟩
  case round =>
   obtain ⟨k,hk,rfl,HX,HB⟩:=hrel
   by_cases hlt:k < n
   ·have hS:k < L.length:=by rw [Hn.out];exact hlt
    obtain ⟨p,hp⟩:∃ p,L[k]?=some p:=⟨_,List.getElem?_eq_getElem hS⟩
    have hpd:L.getD k zPf=p:=by simp [List.getD,hp]
    have HU:=Lib.hid (Hu.out p (List.mem_of_getElem? hp))
    obtain ⟨g,o,had,hg,c0,c1,c2,c3⟩:=(H0.out.below HB.out).pf hp rfl
    subst had
    have HP:=Lib.hid fun wx => checkPrefix_any p.1 p.2.1 p.2.2.1 p.2.2.2 wx HU.out.1 HU.out.2
    have HFk:=Lib.hid (HF.out k hlt HX.out)
    have HXk:Hid (fAt L k=0→∀ j,j < k + 1→fAt L j=0):=Lib.hid fun e j hj => by
     rcases Nat.lt_or_ge j k with h1 | h1
     ·exact HX.out j h1
     ·obtain rfl:j=k:=by omega
      exact e
    have HA:Hid (fAt L k=if pfF p ≠ 0 then pfF p else if 0 < k∧nuP p≤nuP (L.getD (k - 1) zPf) then 7 else 0):=Lib.hid (by unfold fAt;rw [hpd])
    have HNu:Hid (nuP p=numA p.1 p.2.1 p.2.2.1):=Lib.hid rfl
    unfold pfF at HA
    skip
    clear hp hS hpd hg HX
    generalize hFe:pFault p.1 p.2.1 p.2.2.1 p.2.2.2=F at *
    clear hFe
    generalize p.1=a1 at *
    generalize p.2.1=a2 at *
    generalize p.2.2.1=a3 at *
    generalize p.2.2.2=a4 at *
    have HB1:Hid (Below w.heap.size w (wr.alloc (.cells #[.bool a1, .int .u64 (a2:Int), .int .u64 (a3:Int), .int .i64 a4] 30 (0,0)))):=Lib.hid (Below.alloc HB.out HB.out.size _)
    have HP1:Hid (Blk (wr.alloc (.cells #[.bool a1, .int .u64 (a2:Int), .int .u64 (a3:Int), .int .i64 a4] 30 (0,0))) wr.heap.size 30 #[.bool a1, .int .u64 (a2:Int), .int .u64 (a3:Int), .int .i64 a4]):=Lib.hid (Blk.new wr _ _)
    go_upto_region 6 with fail
    generalize wr.alloc (.cells #[.bool a1, .int .u64 (a2:Int), .int .u64 (a3:Int), .int .i64 a4] 30 (0,0))=w3 at *
    generalize wr.heap.size=bx at *
    clear HB c0 c1 c2 c3
    have d0:=HP1.out.cell 0
    have d1:=HP1.out.cell 1
    have d2:=HP1.out.cell 2
    have d3:=HP1.out.cell 3
    simp at d0 d1 d2 d3
    go_wp2_with fail
    refine (HP.out _).mono ?_
    rintro e w4 ⟨rfl,hb⟩
    have HB4:=Lib.hid (HB1.out.trans (hb.mono HB1.out.size))
    have HP4:=Lib.hid (HP1.out.below hb HP1.out.lt)
    clear hb HB1 HP1 HP d0 d1 d2 d3
    by_cases hF0:F=0
    ·rcases Nat.eq_zero_or_pos k with hk0 | hk0
     ·have HX2:=Lib.hid (HXk.out (by rw [HA.out,if_neg (by simp [hF0]),if_neg (by omega)]))
      subst hF0 hk0
      have z0:((0:Nat):Int)=0:=rfl
      simp only [z0]
      clear HFk HXk HA HNu HU
      go_wp2_with fail
      refine wp_region_later (by kernel_rfl) (by kernel_rfl) ?_
      repeat (go_big_quiet_step (fail))
      refine wpQuiet_nil ?_
      rintro w5 ⟨n5,hn5⟩
      have hb:Below w4.heap.size w4 w5:=by rw [hn5];exact n5.2
      clear hn5 n5
      have HB5:=Lib.hid (HB4.out.trans (hb.mono HB4.out.size))
      clear hb
      go_wp2_with fail
      exact ⟨⟨1,by omega,by first | rfl | go_num,HX2,HB5⟩,by simp [intOf];omega⟩
     ·obtain ⟨j,hj⟩:∃ j,k=j + 1:=⟨k - 1,by omega⟩
      have hjS:j < L.length:=by rw [Hn.out];omega
      obtain ⟨q,hq⟩:∃ q,L[j]?=some q:=⟨_,List.getElem?_eq_getElem hjS⟩
      have hqd:L.getD (k - 1) zPf=q:=by rw [hj];simp [List.getD,hq]
      obtain ⟨hu3,hu4⟩:=Hu.out q (List.mem_of_getElem? hq)
      obtain ⟨g',o',had,hg',b0,b1,b2,b3⟩:=(H0.out.below HB4.out).pf hq rfl
      injection had with had
      injection had with had1 had2
      subst had1 had2
      have HO:=Lib.hid fun wx => aCompare_any q.1 q.2.1 q.2.2.1 a1 a2 a3 wx hu3 hu4 HU.out.1 HU.out.2
      have HA2:Hid (fAt L k=if nuP p≤nuP q then 7 else 0):=Lib.hid (by
       rw [HA.out,if_neg (by simp [hF0]),hqd]
       by_cases h1:nuP p≤nuP q
       ·rw [if_pos h1,if_pos ⟨hk0,h1⟩]
       ·rw [if_neg h1,if_neg (fun h => h1 h.2)])
      have HCg:=Lib.hid (cN_ge_iff (nuP q) (nuP p))
      have HNq:Hid (nuP q=numA q.1 q.2.1 q.2.2.1):=Lib.hid rfl
      rw [← HNq.out, ← HNu.out] at HO
      clear hq hqd hjS hu3 hu4 HA HNu HNq hg'
      generalize nuP q=nq at *
      generalize nuP p=np at *
      generalize q.1=e1 at *
      generalize q.2.1=e2 at *
      generalize q.2.2.1=e3 at *
      generalize q.2.2.2=e4 at *
      have i1:(k:Int) - 1=(j:Int):=by omega
      have i2:decide (0 < k)=true:=decide_eq_true hk0
      have i3:(j:Int) < (n:Int):=by omega
      have i4:(0:Int)≤(j:Int):=by omega
      have i5:(k:Int)≤1000:=by omega
      have Hj:=Lib.hid hj
      clear hj hk0
      have d0:=HP4.out.cell 0
      have d1:=HP4.out.cell 1
      have d2:=HP4.out.cell 2
      have d3:=HP4.out.cell 3
      simp at d0 d1 d2 d3
      have l0:=Later.cell_of d0
      have l1:=Later.cell_of d1
      have l2:=Later.cell_of d2
      have k0:=Later.cell_of b0
      have k1:=Later.cell_of b1
      have k2:=Later.cell_of b2
      have hO:=fun x:Later w4 => Calls.later x (HO.out x.1)
      subst hF0
      generalize cN nq np=C at *
      go_upto_region 9 with fail
      refine wp_region_later (by kernel_rfl) (by kernel_rfl) ?_
      repeat (go_big_quiet_step ((go_at_call 85;exact hO _)))
      refine wpQuiet_nil ?_
      rintro w5 ⟨n5,hn5⟩
      have hb:Below w4.heap.size w4 w5:=by rw [hn5];exact n5.2
      clear hn5 n5 hO HO l0 l1 l2 k0 k1 k2 d0 d1 d2 d3 b0 b1 b2 b3
      have HB5:=Lib.hid (HB4.out.trans (hb.mono HB4.out.size))
      clear hb HP4 HB4
      by_cases hnn:np≤nq
      ·have hC0:C ≥ 0:=HCg.out.2 hnn
       have HE:=Lib.hid (HFk.out (by rw [HA2.out,if_pos hnn];decide))
       have HE2:Hid (af=7):=Lib.hid (by rw [HE.out,HA2.out,if_pos hnn])
       clear HFk HXk HA2 HE HU
       go_wp2_with fail
       go_ret
       exact ⟨by rw [HE2.out];rfl,HB5.out⟩
      ·have hC0:¬ C ≥ 0:=fun h => hnn (HCg.out.1 h)
       have HX2:=Lib.hid (HXk.out (by rw [HA2.out,if_neg hnn]))
       clear HFk HXk HA2 HU
       go_wp2_with fail
       exact ⟨⟨k + 1,by omega,by go_num,HX2,HB5⟩,by simp [intOf];omega⟩
    ·have hF2:(F != 0)=true:=by simpa using hF0
     have hFA:fAt L k=F:=by rw [HA.out,if_pos hF0]
     have HE:Hid (af=F):=Lib.hid (by rw [HFk.out (by rw [hFA];exact hF0),hFA])
     clear HFk HXk hF0 HA hFA HU
     go_wp2_with fail
     go_ret
     exact ⟨by rw [HE.out];rfl,HB4.out⟩
   ·obtain rfl:k=n:=by omega
    obtain ⟨hok,hz0,hz1⟩:=HZ.out HX.out
    have HR:=Lib.hid (H0.out.below HB.out)
    have HZ0:=Lib.hid hz0
    have HZ1:=Lib.hid hz1
    have HS:=Lib.hid (spanOf_any ad k c L wr HR.out Hn.out hs hok)
    have HJv:=Lib.hid (sps_vr hok)
    have HJl:=Lib.hid (jn_len (L.map spP))
    have HLl:=Lib.hid (lst_len hok)
    have Hlst:Hid (pfs (jn (L.map spP))=lst L):=Lib.hid rfl
    clear hok hz0 hz1 HZ HF HX Hu
    generalize jn (L.map spP)=J at *
    go_wp2_with fail
    refine HS.out.mono ?_
    rintro e w3 ⟨v,rfl,hO,hB⟩
    obtain ⟨ad3,c3,rfl,_⟩:=hO.form
    have HT:=Lib.hid (prefixes_any ad3 J.length c3 J w3 hO.rd rfl (by have:=HJl.out;rw [List.length_map,Hn.out] at this;omega) HJv.out)
    rw [Hlst.out] at HT
    have HB3:=Lib.hid (HB.out.trans (hB.mono HB.out.size))
    have HR3:=Lib.hid (HR.out.below hB)
    clear hO hB HB HS HJl HJv Hlst HR
    generalize J.length=jl at *
    go_wp2_with fail
    refine HT.out.mono ?_
    rintro e w4 ⟨v,rfl,hO,hB⟩
    obtain ⟨ad4,c4,rfl,_⟩:=hO.form
    have HQ:=Lib.hid (equal_pf ad4 ad c4 c (lst L) L w4 hO.rd (HR3.out.below hB) (by have:=HLl.out;rw [Hn.out] at this;omega))
    rw [Hn.out] at HQ
    have HB4:=Lib.hid (HB3.out.trans (hB.mono HB3.out.size))
    clear hO hB HB3 HR3 HT HLl
    generalize (lst L).length=ll at *
    go_wp2_with fail
    refine HQ.out.mono ?_
    rintro e w5 ⟨rfl,q5,rfl⟩
    have HB5:=Lib.hid (below_drewN HB4.out q5)
    by_cases hq:lst L=L
    ·have HE:=Lib.hid (HZ0.out hq)
     rw [decide_eq_true hq]
     clear hq HQ HZ0 HZ1
     go_wp2_with fail
     go_ret
     exact ⟨by rw [HE.out];rfl,HB5.out⟩
    ·have HE:=Lib.hid (HZ1.out hq)
     rw [decide_eq_false hq]
     clear hq HQ HZ0 HZ1
     go_wp2_with fail
     go_ret
     exact ⟨by rw [HE.out];rfl,HB5.out⟩
end Go.Proofs.YtdhldhkhpndpjaaGreatDoor
