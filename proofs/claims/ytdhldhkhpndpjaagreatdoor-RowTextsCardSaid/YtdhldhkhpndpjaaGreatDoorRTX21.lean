/-
  A packet: its cells, its block, the fields set one by one; what a generator keeps of it.
  Packets: CheckPacket and the reference's PacketFault are the same function of the packet.
  Check of rows, of the program and of the reference.
  filter.Decides.
  The generator of a row (lanemake's Row).
  The generator of right rows (lanemake's RightRows).
  The generator of rows (lanemake's Rows).
  The generator RowString: a string of at most 150000 bytes.
-/
import Derived.Test.YtdhldhkhpndpjaaGreatDoorRTX20
import Derived.Test.YtdhldhkhpndpjaaGreatDoorRTX1
import Derived.Laws.Tables
import Derived.Test.YtdhldhkhpndpjaaGreatDoorRTX7
import Derived.BigQuiet
import Derived.Test.YtdhldhkhpndpjaaGreatDoorRTX10
import Derived.Test.YtdhldhkhpndpjaaGreatDoorRTX18
import Derived.Test.YtdhldhkhpndpjaaGreatDoorRTX19
import Derived.Test.YtdhldhkhpndpjaaGreatDoorRTX16
import Derived.Deep.Cut
import Derived.Deep.CutRange
import Derived.Test.YtdhldhkhpndpjaaGreatDoorRTX15
set_option linter.unusedVariables false
set_option maxRecDepth 100000
set_option maxHeartbeats 16000000
namespace Go.Proofs.YtdhldhkhpndpjaaGreatDoor
open Go.RowKit Go
structure PV where
 s1:Bool
 h1:Int
 l1:Int
 s2:Bool
 h2:Int
 l2:Int
 hops:Int
 proto:Int
 fp:Int
 tp:Int
 syn:Bool
 fin:Bool
 rst:Bool
 has:Bool
 seq:Int
 ack:Int
 reply:Bool
 id:Int
 pay:Value
def PV.cells (x:PV):Array Value:=#[.bool x.s1, .int .u64 x.h1, .int .u64 x.l1, .bool x.s2, .int .u64 x.h2, .int .u64 x.l2, .int .i64 x.hops, .int .i64 x.proto, .int .i64 x.fp, .int .i64 x.tp, .bool x.syn, .bool x.fin, .bool x.rst, .bool x.has, .int .i64 x.seq, .int .i64 x.ack, .bool x.reply, .int .i64 x.id,x.pay]
def PV.ok (x:PV):Prop:=U64 x.h1∧U64 x.l1∧U64 x.h2∧U64 x.l2∧x.pay.oneCell'=true
def PV.zero:PV:=⟨false,0,0,false,0,0,0,0,0,0,false,false,false,false,0,0,false,0, .slice none 0 0⟩
theorem fhasPorts_any (p:Int) (w:World):Calls Tryz.prog 183 #[.int .i64 p] w fun e w' => e=.returned (.bool (hasPorts p))∧w=w':=by
 go_enter Tryz.func183,Tryz.ntmps183
 go_wp2
 all_goals (go_ret;exact ⟨by simp_all [hasPorts],rfl⟩)
structure FR.Un (r:FR):Prop where
 u1:U4 r.src
 u2:U4 r.dst
 l1:r.src.length≤100000
 l2:r.dst.length≤100000
 l3:r.po.length≤100000
theorem rowF_len (r:FR) {n1 n2 n3:Nat} (l1:r.src.length=n1) (l2:r.dst.length=n2) (l3:r.po.length=n3) :
  rowF r=if outB r.p 0 255=true then 1 else if setF r.src ≠ 0 then setF r.src else if setF r.dst ≠ 0 then setF r.dst else if n1=0 ∨ n2=0 ∨ n3=0 then 3 else if portsG r.po ≠ 0 then portsG r.po else if r.p ≠ 0∧hasPorts r.p=false∧decide (r.po=[(0,65535)])=false then 16 else 0:=by
 have e1:(r.src=[])=(n1=0):=by rw [← l1,List.length_eq_zero_iff]
 have e2:(r.dst=[])=(n2=0):=by rw [← l2,List.length_eq_zero_iff]
 have e3:(r.po=[])=(n3=0):=by rw [← l3,List.length_eq_zero_iff]
 unfold rowF
 simp only [e1,e2,e3,decide_eq_false_iff_not,ne_eq]
theorem rdP_all {w:World} {g:Nat} (hg:g < w.heap.size) (h0:w.cell? ⟨g,0,none⟩=some (.int .i64 0)) (h1:w.cell? ⟨g,1,none⟩=some (.int .i64 65535)):RdP w (some ⟨g,0,none⟩) [(0,65535)] :=
 ⟨by simp,fun i hi => by
  obtain rfl:i=0:=by simpa using hi
  exact ⟨g,0,rfl,hg,h0,h1⟩⟩
theorem fCheck_any (ad:Option Addr) (n c:Nat) (L:List FR) (w:World) (h:FlsAt w ad L) (hn:L.length=n) (hs:n≤100000) (hu:∀ r ∈ L,r.Un) :
  Calls Tryz.prog 102 #[.slice ad n c] w (Ret (.int .i64 (rowsF L)) w):=by
 by_cases hb:300 < n
 ·have e:rowsF L=2:=by unfold rowsF;rw [hn,if_pos hb]
  rw [e]
  have hb2:(n:Int) > 300:=by omega
  clear h hu hn e
  go_enter Tryz.func102,Tryz.ntmps102
  go_wp2_with fail
  go_ret
  exact ⟨rfl,Below.refl _ _⟩
 ·have hb2:¬ (n:Int) > 300:=by omega
  have H0:=Lib.hid h
  have Hn:=Lib.hid hn
  have Hu:=Lib.hid hu
  have HE:Hid (rowsF L=rowsF1 L):=Lib.hid (by unfold rowsF;rw [hn,if_neg hb])
  rw [HE.out]
  clear h hn hu
  go_enter Tryz.func102,Tryz.ntmps102
  go_wp2_with fail
  go_loopw [2,4,6,7,8,14,26] (fun s2 s4 s6 s7 s8 i s26 wr => ∃ k:Nat,k≤n∧i=.int .i64 (k:Int)∧Hid (rowsF1 (L.take k)=0)∧Hid (Below w.heap.size w wr)) (fun _ _ _ _ _ i _ _ => n - (intOf i).toNat)
  case atStart => exact ⟨0,Nat.zero_le _,rfl,Lib.hid rfl,Lib.hid (Below.refl _ _)⟩
  case round =>
   obtain ⟨k,hk,rfl,HN,HB⟩:=hrel
   by_cases hlt:k < n
   ·have hS:k < L.length:=by rw [Hn.out];exact hlt
    obtain ⟨r,hr⟩:∃ r,L[k]?=some r:=⟨_,List.getElem?_eq_getElem hS⟩
    have hun:=Hu.out r (List.mem_of_getElem? hr)
    obtain ⟨g,o,s1,s2,s3,n1,n2,n3,c1,c2,c3,had,hg,k0,k1,k2,k3,hA,m1,m2,m3⟩:=H0.out k r hr
    subst had
    replace k0:=(HB.out.cell (p:=⟨g,o + k * 4,none⟩) hg).trans k0
    replace k1:=(HB.out.cell (p:=⟨g,o + k * 4 + 1,none⟩) hg).trans k1
    replace k2:=(HB.out.cell (p:=⟨g,o + k * 4 + 2,none⟩) hg).trans k2
    replace k3:=(HB.out.cell (p:=⟨g,o + k * 4 + 3,none⟩) hg).trans k3
    have HFr:=Lib.hid (fun h => rowsF1_at L k r HN.out hr h)
    have HNr:=Lib.hid (fun h => rowsF1_next HN.out hr h)
    have HRF:=Lib.hid (rowF_len r hA.l1 hA.l2 hA.l3)
    have HS1:=Lib.hid fun wx (hb:Below w.heap.size w wx) => checkSet_any s1 n1 c1 r.src wx (hA.r1.below hb) hA.l1 (by have:=hun.l1;rw [hA.l1] at this;exact this) hun.u1
    have HS2:=Lib.hid fun wx (hb:Below w.heap.size w wx) => checkSet_any s2 n2 c2 r.dst wx (hA.r2.below hb) hA.l2 (by have:=hun.l2;rw [hA.l2] at this;exact this) hun.u2
    have HPo:=Lib.hid fun wx (hb:Below w.heap.size w wx) => checkPortsG s3 n3 c3 r.po wx (hA.r3.below hb) hA.l3 m3
    have HAl:=Lib.hid fun wx (hb:Below w.heap.size w wx) => isAll_any s3 n3 c3 r.po wx (hA.r3.below hb) hA.l3 m3
    have HHp:=Lib.hid fun wx => fhasPorts_any r.p wx
    have HOu:=Lib.hid fun wx => outside_any r.p 0 255 wx
    clear hr hS hun hA m1 m2 m3 hg HN
    generalize rowF r=R at *
    generalize rowsF1 L=RL at *
    generalize outB r.p 0 255=A1 at *
    generalize setF r.src=S1 at *
    generalize setF r.dst=S2 at *
    generalize portsG r.po=P1 at *
    generalize decide (r.po=[(0,65535)])=A2 at *
    generalize hasPorts r.p=A3 at *
    generalize r.p=rp at *
    have HP1:Hid (Blk (wr.alloc (.cells #[.int .i64 rp, .slice s1 n1 c1, .slice s2 n2 c2, .slice s3 n3 c3] 129 (0,0))) wr.heap.size 129 #[.int .i64 rp, .slice s1 n1 c1, .slice s2 n2 c2, .slice s3 n3 c3]):=Lib.hid (Blk.new wr _ _)
    have HB1:Hid (Below w.heap.size w (wr.alloc (.cells #[.int .i64 rp, .slice s1 n1 c1, .slice s2 n2 c2, .slice s3 n3 c3] 129 (0,0)))):=Lib.hid (Below.alloc HB.out HB.out.size _)
    go_upto_region 6 with fail
    generalize wr.alloc (.cells #[.int .i64 rp, .slice s1 n1 c1, .slice s2 n2 c2, .slice s3 n3 c3] 129 (0,0))=w3 at *
    generalize wr.heap.size=bx at *
    clear HB k0 k1 k2 k3
    have d0:=HP1.out.cell 0
    have d1:=HP1.out.cell 1
    have d2:=HP1.out.cell 2
    simp at d0 d1 d2
    go_wp2_with fail
    refine (HOu.out _).mono ?_
    rintro e w4 ⟨rfl,rfl⟩
    clear HOu
    cases A1
    case true =>
     have HV:Hid (RL=1):=Lib.hid (by
      have e1:=HRF.out
      rw [if_pos rfl] at e1
      rw [HFr.out (by rw [e1];decide),e1])
     clear HFr HNr HRF HS1 HS2 HPo HAl HHp
     go_wp2_with fail
     go_ret
     exact ⟨by rw [HV.out];rfl,HB1.out⟩
    replace HRF:=Lib.hid (HRF.out.trans (if_neg (by decide)))
    have i0:∀ wz,(Instr.index 206 (.agg #[.slice s1 n1 c1, .slice s2 n2 c2]) (.int .i64 0)).run Tryz.prog wz=.ok (.slice s1 n1 c1) wz:=fun wz => by kernel_rfl
    have i1:∀ wz,(Instr.index 206 (.agg #[.slice s1 n1 c1, .slice s2 n2 c2]) (.int .i64 1)).run Tryz.prog wz=.ok (.slice s2 n2 c2) wz:=fun wz => by kernel_rfl
    go_wp2_with fail
    clear d0 d1 d2
    refine wp_loop_rounds 3 ?_
    rw [rounds_succ]
    go_wp2_with fail
    refine (HS1.out _ HB1.out).mono ?_
    rintro e w4 ⟨rfl,hb⟩
    have HB4:=Lib.hid (HB1.out.trans (hb.mono HB1.out.size))
    have HP4:=Lib.hid (HP1.out.below hb HP1.out.lt)
    clear hb HB1 HP1 HS1
    by_cases hF:S1=0
    case neg =>
     have hF2:(S1 != 0)=true:=by simpa using hF
     have HV:Hid (RL=S1):=Lib.hid (by
      have e1:=HRF.out
      rw [if_pos hF] at e1
      rw [HFr.out (by rw [e1];exact hF),e1])
     clear HFr HNr HRF HS2 HPo HAl HHp hF
     go_wp2_with fail
     go_ret
     exact ⟨by rw [HV.out];rfl,HB4.out⟩
    replace HRF:=Lib.hid (HRF.out.trans (if_neg (by simp [hF])))
    subst hF
    go_wp2_with (rw [rounds_succ])
    refine (HS2.out _ HB4.out).mono ?_
    rintro e w5 ⟨rfl,hb⟩
    have HB5:=Lib.hid (HB4.out.trans (hb.mono HB4.out.size))
    have HP5:=Lib.hid (HP4.out.below hb HP4.out.lt)
    clear hb HB4 HP4 HS2
    by_cases hF:S2=0
    case neg =>
     have hF2:(S2 != 0)=true:=by simpa using hF
     have HV:Hid (RL=S2):=Lib.hid (by
      have e1:=HRF.out
      rw [if_pos hF] at e1
      rw [HFr.out (by rw [e1];exact hF),e1])
     clear HFr HNr HRF HPo HAl HHp hF
     go_wp2_with fail
     go_ret
     exact ⟨by rw [HV.out];rfl,HB5.out⟩
    replace HRF:=Lib.hid (HRF.out.trans (if_neg (by simp [hF])))
    subst hF
    have d0:=HP5.out.cell 0
    have d1:=HP5.out.cell 1
    have d2:=HP5.out.cell 2
    have d3:=HP5.out.cell 3
    simp at d0 d1 d2 d3
    by_cases hE:n1=0 ∨ n2=0 ∨ n3=0
    case pos =>
     have HV:Hid (RL=3):=Lib.hid (by
      have e1:=HRF.out
      rw [if_pos hE] at e1
      rw [HFr.out (by rw [e1];decide),e1])
     clear HFr HNr HRF HPo HAl HHp
     by_cases z1:((n1:Int) == 0)=true
     ·clear hE
      go_wp2_with (rw [rounds_succ])
      go_ret
      exact ⟨by rw [HV.out];rfl,HB5.out⟩
     ·by_cases z2:((n2:Int) == 0)=true
      ·clear hE
       replace z1:=Bool.eq_false_iff.2 z1
       go_wp2_with (rw [rounds_succ])
       go_ret
       exact ⟨by rw [HV.out];rfl,HB5.out⟩
      ·have z3:((n3:Int) == 0)=true:=by simp at z1 z2 ⊢;omega
       clear hE
       replace z1:=Bool.eq_false_iff.2 z1
       replace z2:=Bool.eq_false_iff.2 z2
       go_wp2_with (rw [rounds_succ])
       go_ret
       exact ⟨by rw [HV.out];rfl,HB5.out⟩
    replace HRF:=Lib.hid (HRF.out.trans (if_neg hE))
    have z1:((n1:Int) == 0)=false:=by simp;omega
    have z2:((n2:Int) == 0)=false:=by simp;omega
    have z3:((n3:Int) == 0)=false:=by simp;omega
    clear hE
    go_wp2_with (rw [rounds_succ])
    refine (HPo.out _ HB5.out).mono ?_
    rintro e w6 ⟨rfl,hb⟩
    have HB6:=Lib.hid (HB5.out.trans (hb.mono HB5.out.size))
    have HP6:=Lib.hid (HP5.out.below hb HP5.out.lt)
    clear hb HB5 HP5 HPo d0 d1 d2 d3 z1 z2 z3
    by_cases hF:P1=0
    case neg =>
     have hF2:(P1 != 0)=true:=by simpa using hF
     have HV:Hid (RL=P1):=Lib.hid (by
      have e1:=HRF.out
      rw [if_pos hF] at e1
      rw [HFr.out (by rw [e1];exact hF),e1])
     clear HFr HNr HRF HAl HHp hF
     go_wp2_with fail
     go_ret
     exact ⟨by rw [HV.out];rfl,HB6.out⟩
    replace HRF:=Lib.hid (HRF.out.trans (if_neg (by simp [hF])))
    subst hF
    have d0:=HP6.out.cell 0
    have d3:=HP6.out.cell 3
    simp at d0 d3
    by_cases hC:rp ≠ 0∧A3=false
    case neg =>
     have HN2:=Lib.hid (HNr.out (by rw [HRF.out,if_neg (fun h => hC ⟨h.1,h.2.1⟩)]))
     clear HFr HNr HRF HAl
     by_cases h0:rp=0
     ·clear hC HHp
      go_wp2_with fail
      exact ⟨⟨k + 1,by omega,by first | rfl | go_num,HN2,HB6⟩,by simp [intOf];omega⟩
     ·obtain rfl:A3=true:=by cases A3;exact absurd ⟨h0,rfl⟩ hC;rfl
      clear hC
      go_wp2_with fail
      refine (HHp.out _).mono ?_
      rintro e w7 ⟨rfl,rfl⟩
      go_wp2_with fail
      exact ⟨⟨k + 1,by omega,by first | rfl | go_num,HN2,HB6⟩,by simp [intOf];omega⟩
    have HQ:Hid (A2=true→rowsF1 (L.take (k + 1))=0):=Lib.hid fun h => HNr.out (by rw [HRF.out,if_neg (fun h2 => by rw [h] at h2;exact absurd h2.2.2 (by decide))])
    have HV:Hid (A2=false→RL=16):=Lib.hid fun h => by
     have e1:=HRF.out
     rw [if_pos ⟨hC.1,hC.2,h⟩] at e1
     rw [HFr.out (by rw [e1];decide),e1]
    clear HFr HNr HRF
    obtain ⟨h0,h1⟩:=hC
    subst h1
    have h0':¬ rp=0:=h0
    clear h0
    go_wp2_with fail
    refine (HHp.out _).mono ?_
    rintro e w7 ⟨rfl,rfl⟩
    go_wp2_with fail
    refine (HAl.out _ HB6.out).mono ?_
    rintro e w8 ⟨rfl,hb⟩
    have HB8:=Lib.hid (HB6.out.trans (hb.mono HB6.out.size))
    clear hb
    cases A2
    ·have HV2:=Lib.hid (HV.out rfl)
     clear HV HQ
     go_wp2_with fail
     go_ret
     exact ⟨by rw [HV2.out];rfl,HB8.out⟩
    ·have HN2:=Lib.hid (HQ.out rfl)
     clear HV HQ
     go_wp2_with fail
     exact ⟨⟨k + 1,by omega,by first | rfl | go_num,HN2,HB8⟩,by simp [intOf];omega⟩
   ·obtain rfl:k=n:=by omega
    have HT:Hid (rowsF1 L=0):=Lib.hid (by have:=HN.out;rwa [List.take_of_length_le (by have:=Hn.out;omega)] at this)
    go_wp2_with fail
    go_ret
    exact ⟨by rw [HT.out];rfl,HB.out⟩
theorem rowsFault_any (ad:Option Addr) (n c:Nat) (L:List FR) (w:World) (h:FlsAt w ad L) (hn:L.length=n) (hs:n≤100000) (hu:∀ r ∈ L,r.Un) :
  Calls Tryz.prog 31 #[.slice ad n c] w (Ret (.int .i64 (rowsF L)) w):=by
 by_cases hb:300 < n
 ·have e:rowsF L=2:=by unfold rowsF;rw [hn,if_pos hb]
  rw [e]
  have hb2:(n:Int) > 300:=by omega
  clear h hu hn e
  go_enter Tryz.func31,Tryz.ntmps31
  go_wp2_with fail
  go_ret
  exact ⟨rfl,Below.refl _ _⟩
 ·have hb2:¬ (n:Int) > 300:=by omega
  have H0:=Lib.hid h
  have Hn:=Lib.hid hn
  have Hu:=Lib.hid hu
  have HE:Hid (rowsF L=rowsF1 L):=Lib.hid (by unfold rowsF;rw [hn,if_neg hb])
  rw [HE.out]
  clear h hn hu
  go_enter Tryz.func31,Tryz.ntmps31
  go_wp2_with fail
  go_loopw [2,4,6,7,8,14,28] (fun s2 s4 s6 s7 s8 i s26 wr => ∃ k:Nat,k≤n∧i=.int .i64 (k:Int)∧Hid (rowsF1 (L.take k)=0)∧Hid (Below w.heap.size w wr)) (fun _ _ _ _ _ i _ _ => n - (intOf i).toNat)
  case atStart => exact ⟨0,Nat.zero_le _,rfl,Lib.hid rfl,Lib.hid (Below.refl _ _)⟩
  case round =>
   obtain ⟨k,hk,rfl,HN,HB⟩:=hrel
   by_cases hlt:k < n
   ·have hS:k < L.length:=by rw [Hn.out];exact hlt
    obtain ⟨r,hr⟩:∃ r,L[k]?=some r:=⟨_,List.getElem?_eq_getElem hS⟩
    have hun:=Hu.out r (List.mem_of_getElem? hr)
    obtain ⟨g,o,s1,s2,s3,n1,n2,n3,c1,c2,c3,had,hg,k0,k1,k2,k3,hA,m1,m2,m3⟩:=H0.out k r hr
    subst had
    replace k0:=(HB.out.cell (p:=⟨g,o + k * 4,none⟩) hg).trans k0
    replace k1:=(HB.out.cell (p:=⟨g,o + k * 4 + 1,none⟩) hg).trans k1
    replace k2:=(HB.out.cell (p:=⟨g,o + k * 4 + 2,none⟩) hg).trans k2
    replace k3:=(HB.out.cell (p:=⟨g,o + k * 4 + 3,none⟩) hg).trans k3
    have HFr:=Lib.hid (fun h => rowsF1_at L k r HN.out hr h)
    have HNr:=Lib.hid (fun h => rowsF1_next HN.out hr h)
    have HRF:=Lib.hid (rowF_len r hA.l1 hA.l2 hA.l3)
    have HS1:=Lib.hid fun wx (hb:Below w.heap.size w wx) => setFault_any s1 n1 c1 r.src wx (hA.r1.below hb) hA.l1 (by have:=hun.l1;rw [hA.l1] at this;exact this) hun.u1
    have HS2:=Lib.hid fun wx (hb:Below w.heap.size w wx) => setFault_any s2 n2 c2 r.dst wx (hA.r2.below hb) hA.l2 (by have:=hun.l2;rw [hA.l2] at this;exact this) hun.u2
    have HPo:=Lib.hid fun wx (hb:Below w.heap.size w wx) => qPortsG s3 n3 c3 r.po wx (hA.r3.below hb) hA.l3 m3
    have HAl:Hid (∀ (wx:World) (gx cx:Nat),Below w.heap.size w wx→gx < wx.heap.size→wx.cell? ⟨gx,0,none⟩=some (.int .i64 0)→wx.cell? ⟨gx,1,none⟩=some (.int .i64 65535)→Calls Tryz.prog 110 #[.slice s3 n3 c3, .slice (some ⟨gx,0,none⟩) (1:Nat) cx] wx fun e w' => e=.returned (.bool (decide (r.po=[(0,65535)])))∧∃ q,w'=wx.drewN q):=Lib.hid fun wx gx cx hb hgx h0 h1 => equal_allG s3 n3 c3 r.po wx (hA.r3.below hb) hA.l3 m3 gx cx (rdP_all hgx h0 h1)
    have HHp:=Lib.hid fun wx => qhasPorts_any r.p wx
    have HOu:=Lib.hid fun wx => in_any r.p 0 255 wx
    have HOB:Hid (inB r.p 0 255=!outB r.p 0 255):=Lib.hid (by rw [inB_out])
    clear hr hS hun hA m1 m2 m3 hg HN
    rw [HOB.out] at HOu
    clear HOB
    generalize rowF r=R at *
    generalize rowsF1 L=RL at *
    generalize outB r.p 0 255=A1 at *
    generalize setF r.src=S1 at *
    generalize setF r.dst=S2 at *
    generalize portsG r.po=P1 at *
    generalize decide (r.po=[(0,65535)])=A2 at *
    generalize hasPorts r.p=A3 at *
    generalize r.p=rp at *
    have HP1:Hid (Blk (wr.alloc (.cells #[.int .i64 rp, .slice s1 n1 c1, .slice s2 n2 c2, .slice s3 n3 c3] 129 (0,0))) wr.heap.size 129 #[.int .i64 rp, .slice s1 n1 c1, .slice s2 n2 c2, .slice s3 n3 c3]):=Lib.hid (Blk.new wr _ _)
    have HB1:Hid (Below w.heap.size w (wr.alloc (.cells #[.int .i64 rp, .slice s1 n1 c1, .slice s2 n2 c2, .slice s3 n3 c3] 129 (0,0)))):=Lib.hid (Below.alloc HB.out HB.out.size _)
    go_upto_region 6 with fail
    generalize wr.alloc (.cells #[.int .i64 rp, .slice s1 n1 c1, .slice s2 n2 c2, .slice s3 n3 c3] 129 (0,0))=w3 at *
    generalize wr.heap.size=bx at *
    clear HB k0 k1 k2 k3
    have d0:=HP1.out.cell 0
    have d1:=HP1.out.cell 1
    have d2:=HP1.out.cell 2
    simp at d0 d1 d2
    go_wp2_with fail
    refine (HOu.out _).mono ?_
    rintro e w4 ⟨rfl,rfl⟩
    clear HOu
    cases A1
    case true =>
     have HV:Hid (RL=1):=Lib.hid (by
      have e1:=HRF.out
      rw [if_pos rfl] at e1
      rw [HFr.out (by rw [e1];decide),e1])
     clear HFr HNr HRF HS1 HS2 HPo HAl HHp
     go_wp2_with fail
     go_ret
     exact ⟨by rw [HV.out];rfl,HB1.out⟩
    replace HRF:=Lib.hid (HRF.out.trans (if_neg (by decide)))
    have HQ1:Hid (Blk (w3.alloc (.cells #[.slice s1 n1 c1, .slice s2 n2 c2] 31 (0,0))) w3.heap.size 31 #[.slice s1 n1 c1, .slice s2 n2 c2]):=Lib.hid (Blk.new w3 _ _)
    replace HB1:Hid (Below w.heap.size w (w3.alloc (.cells #[.slice s1 n1 c1, .slice s2 n2 c2] 31 (0,0)))):=Lib.hid (Below.alloc HB1.out HB1.out.size _)
    replace HP1:Hid (Blk (w3.alloc (.cells #[.slice s1 n1 c1, .slice s2 n2 c2] 31 (0,0))) bx 129 #[.int .i64 rp, .slice s1 n1 c1, .slice s2 n2 c2, .slice s3 n3 c3]):=Lib.hid (HP1.out.alloc _)
    go_wp2_with fail
    generalize w3.alloc (.cells #[.slice s1 n1 c1, .slice s2 n2 c2] 31 (0,0))=w3 at *
    generalize w3.heap.size=g3 at *
    clear d0 d1 d2
    have q0:=HQ1.out.cell 0
    simp at q0
    refine wp_loop_rounds 3 ?_
    rw [rounds_succ]
    go_wp2_with fail
    refine (HS1.out _ HB1.out).mono ?_
    rintro e w4 ⟨rfl,hb⟩
    have HB4:=Lib.hid (HB1.out.trans (hb.mono HB1.out.size))
    have HP4:=Lib.hid (HP1.out.below hb HP1.out.lt)
    have HQ4:=Lib.hid (HQ1.out.below hb HQ1.out.lt)
    clear q0 HQ1
    clear hb HB1 HP1 HS1
    by_cases hF:S1=0
    case neg =>
     have hF2:(S1 != 0)=true:=by simpa using hF
     have HV:Hid (RL=S1):=Lib.hid (by
      have e1:=HRF.out
      rw [if_pos hF] at e1
      rw [HFr.out (by rw [e1];exact hF),e1])
     clear HFr HNr HRF HS2 HPo HAl HHp hF
     go_wp2_with fail
     go_ret
     exact ⟨by rw [HV.out];rfl,HB4.out⟩
    replace HRF:=Lib.hid (HRF.out.trans (if_neg (by simp [hF])))
    subst hF
    have q1:=HQ4.out.cell 1
    simp at q1
    go_wp2_with (rw [rounds_succ])
    refine (HS2.out _ HB4.out).mono ?_
    rintro e w5 ⟨rfl,hb⟩
    have HB5:=Lib.hid (HB4.out.trans (hb.mono HB4.out.size))
    have HP5:=Lib.hid (HP4.out.below hb HP4.out.lt)
    clear q1 HQ4
    clear hb HB4 HP4 HS2
    by_cases hF:S2=0
    case neg =>
     have hF2:(S2 != 0)=true:=by simpa using hF
     have HV:Hid (RL=S2):=Lib.hid (by
      have e1:=HRF.out
      rw [if_pos hF] at e1
      rw [HFr.out (by rw [e1];exact hF),e1])
     clear HFr HNr HRF HPo HAl HHp hF
     go_wp2_with fail
     go_ret
     exact ⟨by rw [HV.out];rfl,HB5.out⟩
    replace HRF:=Lib.hid (HRF.out.trans (if_neg (by simp [hF])))
    subst hF
    have d0:=HP5.out.cell 0
    have d1:=HP5.out.cell 1
    have d2:=HP5.out.cell 2
    have d3:=HP5.out.cell 3
    simp at d0 d1 d2 d3
    by_cases hE:n1=0 ∨ n2=0 ∨ n3=0
    case pos =>
     have HV:Hid (RL=3):=Lib.hid (by
      have e1:=HRF.out
      rw [if_pos hE] at e1
      rw [HFr.out (by rw [e1];decide),e1])
     clear HFr HNr HRF HPo HAl HHp
     by_cases z1:((n1:Int) == 0)=true
     ·clear hE
      go_wp2_with (rw [rounds_succ])
      go_ret
      exact ⟨by rw [HV.out];rfl,HB5.out⟩
     ·by_cases z2:((n2:Int) == 0)=true
      ·clear hE
       replace z1:=Bool.eq_false_iff.2 z1
       go_wp2_with (rw [rounds_succ])
       go_ret
       exact ⟨by rw [HV.out];rfl,HB5.out⟩
      ·have z3:((n3:Int) == 0)=true:=by simp at z1 z2 ⊢;omega
       clear hE
       replace z1:=Bool.eq_false_iff.2 z1
       replace z2:=Bool.eq_false_iff.2 z2
       go_wp2_with (rw [rounds_succ])
       go_ret
       exact ⟨by rw [HV.out];rfl,HB5.out⟩
    replace HRF:=Lib.hid (HRF.out.trans (if_neg hE))
    have z1:((n1:Int) == 0)=false:=by simp;omega
    have z2:((n2:Int) == 0)=false:=by simp;omega
    have z3:((n3:Int) == 0)=false:=by simp;omega
    clear hE
    go_wp2_with (rw [rounds_succ])
    refine (HPo.out _ HB5.out).mono ?_
    rintro e w6 ⟨rfl,hb⟩
    have HB6:=Lib.hid (HB5.out.trans (hb.mono HB5.out.size))
    have HP6:=Lib.hid (HP5.out.below hb HP5.out.lt)
    clear hb HB5 HP5 HPo d0 d1 d2 d3 z1 z2 z3
    by_cases hF:P1=0
    case neg =>
     have hF2:(P1 != 0)=true:=by simpa using hF
     have HV:Hid (RL=P1):=Lib.hid (by
      have e1:=HRF.out
      rw [if_pos hF] at e1
      rw [HFr.out (by rw [e1];exact hF),e1])
     clear HFr HNr HRF HAl HHp hF
     go_wp2_with fail
     go_ret
     exact ⟨by rw [HV.out];rfl,HB6.out⟩
    replace HRF:=Lib.hid (HRF.out.trans (if_neg (by simp [hF])))
    subst hF
    have d0:=HP6.out.cell 0
    have d3:=HP6.out.cell 3
    simp at d0 d3
    by_cases hC:rp ≠ 0∧A3=false
    case neg =>
     have HN2:=Lib.hid (HNr.out (by rw [HRF.out,if_neg (fun h => hC ⟨h.1,h.2.1⟩)]))
     clear HFr HNr HRF HAl
     have hD:(decide (rp=0) || A3)=true:=by
      by_cases h0:rp=0
      ·simp [h0]
      ·have:¬ A3=false:=fun h => hC ⟨h0,h⟩
       cases A3
       ·exact absurd rfl this
       ·simp
     rw [hD] at HHp
     clear hC hD
     go_wp2_with fail
     refine (HHp.out _).mono ?_
     rintro e w7 ⟨rfl,rfl⟩
     go_wp2_with fail
     exact ⟨⟨k + 1,by omega,by first | rfl | go_num,HN2,HB6⟩,by simp [intOf];omega⟩
    have hD:(decide (rp=0) || A3)=false:=by simp [hC.1,hC.2]
    rw [hD] at HHp
    have HQ:Hid (A2=true→rowsF1 (L.take (k + 1))=0):=Lib.hid fun h => HNr.out (by rw [HRF.out,if_neg (fun h2 => by rw [h] at h2;exact absurd h2.2.2 (by decide))])
    have HV:Hid (A2=false→RL=16):=Lib.hid fun h => by
     have e1:=HRF.out
     rw [if_pos ⟨hC.1,hC.2,h⟩] at e1
     rw [HFr.out (by rw [e1];decide),e1]
    clear HFr HNr HRF hC hD
    go_wp2_with fail
    refine (HHp.out _).mono ?_
    rintro e w7 ⟨rfl,rfl⟩
    have HG:Hid (Blk (w6.alloc (.cells #[.int .i64 0, .int .i64 65535] 132 (0,0))) w6.heap.size 132 #[.int .i64 0, .int .i64 65535]):=Lib.hid (Blk.new w6 _ _)
    have HB7:Hid (Below w.heap.size w (w6.alloc (.cells #[.int .i64 0, .int .i64 65535] 132 (0,0)))):=Lib.hid (Below.alloc HB6.out HB6.out.size _)
    go_wp2_with fail
    refine (HAl.out _ _ _ HB7.out HG.out.lt (HG.out.cell 0) (HG.out.cell 1)).mono ?_
    rintro e w8 ⟨rfl,q8,rfl⟩
    have HB8:=Lib.hid (below_drewN HB7.out q8)
    cases A2
    ·have HV2:=Lib.hid (HV.out rfl)
     clear HV HQ
     go_wp2_with fail
     go_ret
     exact ⟨by rw [HV2.out];rfl,HB8.out⟩
    ·have HN2:=Lib.hid (HQ.out rfl)
     clear HV HQ
     go_wp2_with fail
     exact ⟨⟨k + 1,by omega,by first | rfl | go_num,HN2,HB8⟩,by simp [intOf];omega⟩
   ·obtain rfl:k=n:=by omega
    have HT:Hid (rowsF1 L=0):=Lib.hid (by have:=HN.out;rwa [List.take_of_length_le (by have:=Hn.out;omega)] at this)
    go_wp2_with fail
    go_ret
    exact ⟨by rw [HT.out];rfl,HB.out⟩
theorem setF_okR {L:List Pf} (h:setF L=0) (hu:U4 L):(∀ p ∈ L,OkPf p)∧L.length≤1000:=by
 unfold setF at h
 by_cases h1:1000 < L.length
 ·rw [if_pos h1] at h;cases h
 ·rw [if_neg h1] at h
  by_cases h2:scanF L ≠ 0
  ·rw [if_pos h2] at h;exact absurd h h2
  ·have h2:scanF L=0:=by simpa using h2
   refine ⟨fun p hp => ?_,by omega⟩
   obtain ⟨i,hi,rfl⟩:=List.getElem_of_mem hp
   have:=fAt_zero (firstN_zero h2 i hi)
   simp only [List.getD,List.getElem?_eq_getElem hi,Option.getD_some] at this
   obtain ⟨u1,u2⟩:=hu _ (List.getElem_mem hi)
   exact okPf_of this u1 u2
theorem rowF_ok {r:FR} (h:rowF r=0) (hu:r.Un):r.Ok∧(r.src.length≤1000∧r.dst.length≤1000∧r.po.length≤1000):=by
 unfold rowF at h
 by_cases h1:outB r.p 0 255=true
 ·rw [if_pos h1] at h;exact absurd h (by decide)
 rw [if_neg h1] at h
 by_cases h2:setF r.src ≠ 0
 ·rw [if_pos h2] at h;exact absurd h h2
 rw [if_neg h2] at h
 by_cases h3:setF r.dst ≠ 0
 ·rw [if_pos h3] at h;exact absurd h h3
 rw [if_neg h3] at h
 by_cases h4:r.src=[] ∨ r.dst=[] ∨ r.po=[]
 ·rw [if_pos h4] at h;exact absurd h (by decide)
 rw [if_neg h4] at h
 by_cases h5:portsG r.po ≠ 0
 ·rw [if_pos h5] at h;exact absurd h h5
 have k2:=setF_okR (by simpa using h2) hu.u1
 have k3:=setF_okR (by simpa using h3) hu.u2
 have k4:r.po.length≤1000:=by
  unfold portsG at h5
  by_cases h6:1000 < r.po.length
  ·rw [if_pos h6] at h5;exact absurd (by decide) h5
  ·omega
 exact ⟨⟨k2.1,k3.1⟩,k2.2,k3.2,k4⟩
theorem rowsF1_zero:∀ {L:List FR},rowsF1 L=0→∀ r ∈ L,rowF r=0
 | [],_,r,h => by simp at h
 | a :: L,h,r,hr => by
   unfold rowsF1 at h
   by_cases ha:rowF a ≠ 0
   ·rw [if_pos ha] at h;exact absurd h ha
   ·rw [if_neg ha] at h
    rcases List.mem_cons.1 hr with rfl | hr
    ·simpa using ha
    ·exact rowsF1_zero h r hr
theorem rowsF_zero {L:List FR} (h:rowsF L=0):L.length≤300∧∀ r ∈ L,rowF r=0:=by
 unfold rowsF at h
 by_cases h1:300 < L.length
 ·rw [if_pos h1] at h;exact absurd h (by decide)
 ·rw [if_neg h1] at h
  exact ⟨by omega,rowsF1_zero h⟩
theorem rowsF_ok {L:List FR} (h:rowsF L=0) (hu:∀ r ∈ L,r.Un):L.length≤300∧(∀ r ∈ L,r.Ok)∧∀ r ∈ L,r.src.length≤1000∧r.dst.length≤1000∧r.po.length≤1000 :=
 ⟨(rowsF_zero h).1,fun r hr => (rowF_ok ((rowsF_zero h).2 r hr) (hu r hr)).1,fun r hr => (rowF_ok ((rowsF_zero h).2 r hr) (hu r hr)).2⟩
theorem mrgR_len (A:List (Nat × Nat)) (p:Nat × Nat):(mrg A p).length≤A.length + 1:=by
 rcases List.eq_nil_or_concat A with rfl | ⟨D,q,rfl⟩
 ·show [p].length≤_
  simp
 ·rw [List.concat_eq_append]
  have e:mrg (D ++ [q]) p=if p.1≤q.2 + 1 then D ++ [(q.1,max q.2 p.2)] else D ++ [q] ++ [p]:=by simp [mrg]
  rw [e]
  split <;> simp
theorem foldlR_len:∀ (S A:List (Nat × Nat)),(S.foldl mrg A).length≤A.length + S.length
 | [],A => by simp
 | p :: S,A => by
   have h1:=foldlR_len S (mrg A p)
   have h2:=mrgR_len A p
   simp only [List.foldl_cons,List.length_cons]
   omega
theorem scan_short {L:List (Nat × Nat)} {n:Nat} (hv:∀ p,p ∈ L→p.1≤p.2∧p.2 < n):(scan (inRow L) n).length≤L.length:=by
 have hp:(L.mergeSort (fun p q => decide (p.1≤q.1))).Perm L:=List.mergeSort_perm _ _
 have hs:(L.mergeSort (fun p q => decide (p.1≤q.1))).Pairwise (fun p q => p.1≤q.1):=by
  have:=List.pairwise_mergeSort (le:=fun (p q:Nat × Nat) => decide (p.1≤q.1)) (fun a b c h1 h2 => by simp at *;omega) (fun a b => by simp;omega) L
  exact this.imp fun h => by simpa using h
 rw [← least_eq (fun p => hp.mem_iff) hs hv]
 have:=foldlR_len (L.mergeSort (fun p q => decide (p.1≤q.1))) []
 rw [hp.length_eq] at this
 simpa using this
theorem ownP_K {w:World} {B:Nat} {v:Value} {L:List (Int × Int)} (h:OwnP w B v L):OwnK layPo w B v L:=h
theorem KeepT.set4 {S:List TypeId} {w:World} {B:Nat} {t:TypeId} {cs:Array Value} (h:Blk w B t cs) (ht:t ∈ S) (a b c d:Value):KeepT S w ((((w.setCell ⟨B,0,none⟩ a).setCell ⟨B,1,none⟩ b).setCell ⟨B,2,none⟩ c).setCell ⟨B,3,none⟩ d) :=
 (((KeepT.of_set h ht).trans (KeepT.of_set (h.set 0 a) ht)).trans (KeepT.of_set ((h.set 0 a).set 1 b) ht)).trans (KeepT.of_set (((h.set 0 a).set 1 b).set 2 c) ht)
theorem canon_le:∀ {M:List (Nat × Nat)} {lo:Nat},canonFrom lo M→∀ p ∈ M,p.1≤p.2
 | [],lo,_,p,hp => by cases hp
 | q :: M,lo,h,p,hp => by
   rcases List.mem_cons.1 hp with rfl | hp
   ·exact h.2.1
   ·exact canon_le h.2.2 p hp
theorem pi_ok (P:Nat→Bool):∀ p ∈ PI (scan P 65536),PoOk p:=fun p hp => by
 obtain ⟨q,hq,rfl⟩:=List.mem_map.1 hp
 obtain ⟨h1,h2, -⟩:=scan_spec P 65536
 have h3:=canon_le h1 q hq
 have h4:=((h2 q.2).1 ⟨q,hq,h3,Nat.le_refl _⟩).1
 exact ⟨by show -9223372036854775808≤(q.1:Int);omega,by show (q.1:Int)≤_;omega,by show -9223372036854775808≤(q.2:Int);omega,by show (q.2:Int)≤_;omega⟩
structure FR.Sm (r:FR):Prop where
 ok:r.Ok
 l1:r.src.length≤30
 l2:r.dst.length≤30
 l3:r.po.length≤30
 p0:0≤r.p
 p1:r.p≤255
 po:∀ p ∈ r.po,PoOk p
theorem FR.Sm.un {r:FR} (h:r.Sm):r.Un:=⟨u4_ok h.ok.v1,u4_ok h.ok.v2,by have:=h.l1;omega,by have:=h.l2;omega,by have:=h.l3;omega⟩
theorem row_gen (b m:Nat) (w:World) (h:Strm w b m) (hm:m + 100 < 1099511627776) :
  Calls Tryz.prog 179 #[.pointer (some ⟨b,0,none⟩)] w fun e w' => ∃ (r:FR) (c:FC),e=.returned (.agg (fcC c).toArray)∧FlcT w' r c∧r.Sm∧Gen b w w' (m + 30):=by
 have hblt:=h.lt
 obtain ⟨w0,hw0⟩:∃ w0,(w.alloc (.cells #[.pointer (some ⟨b,0,none⟩)] 23 (0,0))).alloc (.cells #[.int .i64 0, .slice none 0 0, .slice none 0 0, .slice none 0 0] 129 (0,0))=w0:=⟨_,rfl⟩
 have HG0:Hid (Gen b w w0 m):=Lib.hid (by rw [← hw0];exact ((Gen.start h).alloc _).alloc _)
 have HX0:Hid (Blk w0 w.heap.size 23 #[.pointer (some ⟨b,0,none⟩)]):=Lib.hid (by rw [← hw0];exact (Blk.new w _ _).alloc _)
 have HZ0:Hid (Blk w0 (w.heap.size + 1) 129 #[.int .i64 0, .slice none 0 0, .slice none 0 0, .slice none 0 0]):=Lib.hid (by
  rw [← hw0]
  have this:=Blk.new (w.alloc (.cells #[.pointer (some ⟨b,0,none⟩)] 23 (0,0))) 129 #[.int .i64 0, .slice none 0 0, .slice none 0 0, .slice none 0 0]
  rw [World.size_alloc] at this
  exact this)
 have hxb:w.heap.size ≠ b:=by omega
 clear h
 go_enter Tryz.func179,Tryz.ntmps179
 go_upto_region 1 with fail
 clear hw0
 have x0:=HX0.out.cell 0
 simp at x0
 go_wp2_with fail
 refine (pick_new b m _ _ _ _ [0,0,6,6,17,1] _ HG0.out.s rfl (by omega) rfl (by decide) rfl).mono ?_
 rintro e w1 ⟨x,rfl,hx,hg⟩
 have hx4:x=0 ∨ x=6 ∨ x=17 ∨ x=1:=by simp at hx;omega
 have HX4:=Lib.hid hx4
 have HG1:Hid (Gen b w w1 (m + 1)):=Lib.hid (HG0.out.trans hg)
 have HX1:=Lib.hid (HX0.out.keep hg.g hxb)
 have HZ1:=Lib.hid (HZ0.out.keep hg.g (by omega))
 have hR1:=HZ1.out.lt
 have HR2:Hid (Blk (w1.alloc (.cells #[.int .i64 x, .slice none 0 0, .slice none 0 0, .slice none 0 0] 129 (0,0))) w1.heap.size 129 #[.int .i64 x, .slice none 0 0, .slice none 0 0, .slice none 0 0]):=Lib.hid (Blk.new w1 _ _)
 have HG2:=Lib.hid (HG1.out.alloc (.cells #[.int .i64 x, .slice none 0 0, .slice none 0 0, .slice none 0 0] 129 (0,0)))
 have HX2:=Lib.hid (HX1.out.alloc (.cells #[.int .i64 x, .slice none 0 0, .slice none 0 0, .slice none 0 0] 129 (0,0)))
 have HZ2:=Lib.hid (HZ1.out.alloc (.cells #[.int .i64 x, .slice none 0 0, .slice none 0 0, .slice none 0 0] 129 (0,0)))
 clear hx hx4 hg HG0 HX0 HZ0 x0 HG1 HX1 HZ1
 go_upto_region 2 with fail
 generalize w1.alloc (.cells #[.int .i64 x, .slice none 0 0, .slice none 0 0, .slice none 0 0] 129 (0,0))=w2 at *
 generalize w1.heap.size=R at *
 go_wp2_with fail
 refine (rowPart_gen b (m + 1) w.heap.size _ HG2.out.s HX2.out hxb (by omega)).mono ?_
 rintro e w3 ⟨v1,L1,rfl,hO,hl,hk,hg⟩
 have HG3:=Lib.hid (HG2.out.trans hg)
 have HX3:=Lib.hid (HX2.out.keep hg.g hxb)
 have HZ3:=Lib.hid (HZ2.out.keep hg.g (by omega))
 have HR3:=Lib.hid (HR2.out.keep hg.g (by omega))
 have HO3:=Lib.hid hO
 have HL1:=Lib.hid (And.intro hl hk)
 have hs2:=HG2.out.s.lt
 clear hO hl hk hg HG2 HX2 HZ2 HR2
 go_wp2_with fail
 refine (rowPart_gen b (m + 1 + 9) w.heap.size _ HG3.out.s HX3.out hxb (by omega)).mono ?_
 rintro e w4 ⟨v2,L2,rfl,hO,hl,hk,hg⟩
 have HG4:=Lib.hid (HG3.out.trans hg)
 have HX4':=Lib.hid (HX3.out.keep hg.g hxb)
 have HZ4:=Lib.hid (HZ3.out.keep hg.g (by omega))
 have HR4:=Lib.hid (HR3.out.keep hg.g (by omega))
 obtain ⟨a1,c1,rfl, -⟩:=(HO3.out.gen hg hs2).form
 obtain ⟨a2,c2,rfl, -⟩:=hO.form
 have HT1:=Lib.hid (HO3.out.gen hg hs2).rdT
 have HT2:=Lib.hid hO.rdT
 have HL2:=Lib.hid (And.intro hl hk)
 clear hO hl hk hg HG3 HX3 HZ3 HR3 HO3
 obtain ⟨n1,hn1⟩:∃ n,L1.length=n:=⟨_,rfl⟩
 obtain ⟨n2,hn2⟩:∃ n,L2.length=n:=⟨_,rfl⟩
 have HN:=Lib.hid (And.intro hn1 hn2)
 rw [hn1,hn2]
 clear hn1 hn2
 have f4:=HR4.out.free
 have r0:=HR4.out.cell 0
 have r1:=HR4.out.cell 1
 have r2:=HR4.out.cell 2
 have r3:=HR4.out.cell 3
 simp at r0 r1 r2 r3
 go_upto_region 4 with fail
 have HR5:Hid (Blk ((w4.setCell ⟨R,1,none⟩ (.slice a1 n1 c1)).setCell ⟨R,2,none⟩ (.slice a2 n2 c2)) R 129 #[.int .i64 x, .slice a1 n1 c1, .slice a2 n2 c2, .slice none 0 0]):=Lib.hid ((HR4.out.set 1 _).set 2 _)
 have HX5:Hid (Blk ((w4.setCell ⟨R,1,none⟩ (.slice a1 n1 c1)).setCell ⟨R,2,none⟩ (.slice a2 n2 c2)) w.heap.size 23 #[.pointer (some ⟨b,0,none⟩)]):=Lib.hid ((HX4'.out.far (by omega) 1 _).far (by omega) 2 _)
 have HZ5:Hid (Blk ((w4.setCell ⟨R,1,none⟩ (.slice a1 n1 c1)).setCell ⟨R,2,none⟩ (.slice a2 n2 c2)) (w.heap.size + 1) 129 #[.int .i64 0, .slice none 0 0, .slice none 0 0, .slice none 0 0]):=Lib.hid ((HZ4.out.far (by omega) 1 _).far (by omega) 2 _)
 have HG5:Hid (Gen b w ((w4.setCell ⟨R,1,none⟩ (.slice a1 n1 c1)).setCell ⟨R,2,none⟩ (.slice a2 n2 c2)) (m + 1 + 9 + 9)):=Lib.hid ((HG4.out.setCell ⟨R,1,none⟩ _ (show w.heap.size≤R by omega) (show b < R by omega)).setCell ⟨R,2,none⟩ _ (show w.heap.size≤R by omega) (show b < R by omega))
 have HK5:Hid (KeepT [129] w4 ((w4.setCell ⟨R,1,none⟩ (.slice a1 n1 c1)).setCell ⟨R,2,none⟩ (.slice a2 n2 c2))):=Lib.hid ((KeepT.of_set HR4.out (by simp)).trans (KeepT.of_set (HR4.out.set 1 _) (by simp)))
 have HT15:=Lib.hid (HT1.out.keep HK5.out (by decide))
 have HT25:=Lib.hid (HT2.out.keep HK5.out (by decide))
 generalize ((w4.setCell ⟨R,1,none⟩ (.slice a1 n1 c1)).setCell ⟨R,2,none⟩ (.slice a2 n2 c2))=w5 at *
 clear HR4 HX4' HZ4 HG4 HK5 HT1 HT2 f4 r0 r1 r2 r3
 have HA6:Hid (Blk (w5.alloc (.cells #[.int .i64 0, .int .i64 65535] 132 (0,0))) w5.heap.size 132 #[.int .i64 0, .int .i64 65535]):=Lib.hid (Blk.new w5 _ _)
 have hR5:=HR5.out.lt
 have HR6:=Lib.hid (HR5.out.alloc (.cells #[.int .i64 0, .int .i64 65535] 132 (0,0)))
 have f6:=HR6.out.free
 have r3:=HR6.out.cell 3
 simp at r3
 go_upto_region 5 with fail
 have HR7:Hid (Blk ((w5.setCell ⟨R,3,none⟩ (.slice (some ⟨w5.heap.size,0,none⟩) 1 1)).alloc (.cells #[.int .i64 0, .int .i64 65535] 132 (0,0))) R 129 #[.int .i64 x, .slice a1 n1 c1, .slice a2 n2 c2, .slice (some ⟨w5.heap.size,0,none⟩) 1 1]):=Lib.hid ((HR5.out.set 3 _).alloc _)
 have HA7:Hid (Blk ((w5.setCell ⟨R,3,none⟩ (.slice (some ⟨w5.heap.size,0,none⟩) 1 1)).alloc (.cells #[.int .i64 0, .int .i64 65535] 132 (0,0))) w5.heap.size 132 #[.int .i64 0, .int .i64 65535]):=Lib.hid (by
  have this:=Blk.new (w5.setCell ⟨R,3,none⟩ (.slice (some ⟨w5.heap.size,0,none⟩) 1 1)) 132 #[.int .i64 0, .int .i64 65535]
  rw [World.size_setCell] at this
  exact this)
 have HX7:Hid (Blk ((w5.setCell ⟨R,3,none⟩ (.slice (some ⟨w5.heap.size,0,none⟩) 1 1)).alloc (.cells #[.int .i64 0, .int .i64 65535] 132 (0,0))) w.heap.size 23 #[.pointer (some ⟨b,0,none⟩)]):=Lib.hid ((HX5.out.far (by omega) 3 _).alloc _)
 have HZ7:Hid (Blk ((w5.setCell ⟨R,3,none⟩ (.slice (some ⟨w5.heap.size,0,none⟩) 1 1)).alloc (.cells #[.int .i64 0, .int .i64 65535] 132 (0,0))) (w.heap.size + 1) 129 #[.int .i64 0, .slice none 0 0, .slice none 0 0, .slice none 0 0]):=Lib.hid ((HZ5.out.far (by omega) 3 _).alloc _)
 have HG7:Hid (Gen b w ((w5.setCell ⟨R,3,none⟩ (.slice (some ⟨w5.heap.size,0,none⟩) 1 1)).alloc (.cells #[.int .i64 0, .int .i64 65535] 132 (0,0))) (m + 1 + 9 + 9)):=Lib.hid ((HG5.out.setCell ⟨R,3,none⟩ _ (show w.heap.size≤R by omega) (show b < R by omega)).alloc _)
 have HK7:Hid (KeepT [129] w5 ((w5.setCell ⟨R,3,none⟩ (.slice (some ⟨w5.heap.size,0,none⟩) 1 1)).alloc (.cells #[.int .i64 0, .int .i64 65535] 132 (0,0)))):=Lib.hid ((KeepT.of_set HR5.out (by simp)).alloc _)
 have HT17:=Lib.hid (HT15.out.keep HK7.out (by decide))
 have HT27:=Lib.hid (HT25.out.keep HK7.out (by decide))
 have hbA:b < w5.heap.size:=by omega
 generalize ((w5.setCell ⟨R,3,none⟩ (.slice (some ⟨w5.heap.size,0,none⟩) 1 1)).alloc (.cells #[.int .i64 0, .int .i64 65535] 132 (0,0)))=w7 at *
 generalize w5.heap.size=A5 at *
 clear HR5 HX5 HZ5 HG5 HK7 HT15 HT25 f6 r3 HA6 HR6
 have hx:=HX4.out
 have HS1:Hid (L1.length=n1∧n1≤4):=Lib.hid ⟨HN.out.1,by have:=HL1.out.1;rw [HN.out.1] at this;exact this⟩
 have HS2:Hid (L2.length=n2∧n2≤4):=Lib.hid ⟨HN.out.2,by have:=HL2.out.1;rw [HN.out.2] at this;exact this⟩
 have HKL1:=Lib.hid HL1.out.2
 have HKL2:=Lib.hid HL2.out.2
 have HXp:Hid (0≤x∧x≤255):=Lib.hid (by have:=HX4.out;omega)
 clear HX4 HN HL1 HL2
 have r0:=HR7.out.cell 0
 simp at r0
 rcases hx with h | h | h | h
 rotate_right
 ·go_upto_region 12 with fail
  have HF9:Hid (FlcT w7 ⟨x,L1,L2, [(0,65535)]⟩ (x,(a1,n1,c1),(a2,n2,c2),(some ⟨A5,0,none⟩,1,1))):=Lib.hid ⟨rfl,HT17.out,HT27.out,⟨RdK.blk layPo (x:=(0,65535)) HA7.out rfl,fun a ha => by
   injection ha with ha
   subst ha
   exact ⟨_,_,HA7.out⟩⟩,HS1.out.1,HS2.out.1,rfl,by have:=HS1.out.2;simp;omega,by have:=HS2.out.2;simp;omega,by simp⟩
  have HSm:Hid (FR.Sm ⟨x,L1,L2, [(0,65535)]⟩):=Lib.hid ⟨⟨HKL1.out,HKL2.out⟩,by have:=HS1.out;show L1.length≤30;omega,by have:=HS2.out;show L2.length≤30;omega,by simp,by have:=HXp.out;show 0≤x;omega,by have:=HXp.out;show x≤255;omega,fun p hp => by
   have hp:p=(0,65535):=by simpa using hp
   subst hp
   exact ⟨by decide,by decide,by decide,by decide⟩⟩
  have HR9:=HR7
  have HZ9:=HZ7
  have HG9:=Lib.hid (HG7.out.mono (show m + 1 + 9 + 9≤m + 30 by omega))
  clear h HR7 HZ7 HG7 HT17 HT27 HA7 HX7 HS1 HS2 HKL1 HKL2 r0
  have z0:=HZ9.out.cell 0
  have z1:=HZ9.out.cell 1
  have z2:=HZ9.out.cell 2
  have z3:=HZ9.out.cell 3
  have zf:=HZ9.out.free
  have y0:=HR9.out.cell 0
  have y1:=HR9.out.cell 1
  have y2:=HR9.out.cell 2
  have y3:=HR9.out.cell 3
  simp at z0 z1 z2 z3 y0 y1 y2 y3
  go_wp2_with fail
  refine bodyPost_ret (v:=.agg (fcC (x,(a1,n1,c1),(a2,n2,c2),(some ⟨A5,0,none⟩,1,1))).toArray) (by simp [results,Tryz.results179,go_sem,z0,z1,z2,z3,fcC]) rfl ⟨⟨x,L1,L2, [(0,65535)]⟩,(x,(a1,n1,c1),(a2,n2,c2),(some ⟨A5,0,none⟩,1,1)),rfl,?_,HSm.out,?_⟩
  ·have hk:=KeepT.set4 (S:=[129]) HZ9.out (by simp) (.int .i64 x) (.slice a1 n1 c1) (.slice a2 n2 c2) (.slice (some ⟨A5,0,none⟩) 1 1)
   exact HF9.out.keep hk (by decide) (by decide)
  ·repeat refine Gen.setCell ?_ _ _ (Nat.le_succ _) (Nat.lt_succ_of_lt hblt)
   exact HG9.out
 all_goals
  go_upto_region 6 with fail
  clear h r0 HA7
  have x0:=HX7.out.cell 0
  simp at x0
  go_wp2_with fail
  refine (pick_new b (m + 1 + 9 + 9) _ _ _ _ [1,1,2] _ HG7.out.s rfl (by omega) rfl (by decide) rfl).mono ?_
  rintro e w8 ⟨y,rfl,hy,hg⟩
  have hyb:0≤y∧y≤2:=by simp at hy;omega
  obtain ⟨K,rfl⟩:=Int.eq_ofNat_of_zero_le hyb.1
  have hK:K≤2:=by omega
  have HG8:Hid (Gen b w w8 (m + 1 + 9 + 9 + 1)):=Lib.hid (HG7.out.trans hg)
  have HX8:=Lib.hid (HX7.out.keep hg.g hxb)
  have HZ8:=Lib.hid (HZ7.out.keep hg.g (by omega))
  have HR8:=Lib.hid (HR7.out.keep hg.g (by omega))
  have HK8:Hid (KeepT [25,132] w7 w8):=Lib.hid ((KeepT.of_gen HG7.out.s hg).mono (by simp))
  have hw8:w.heap.size + 1 < w8.heap.size:=HZ8.out.lt
  clear hy hyb hg HG7 HX7 HZ7 HR7 x0
  go_wp2_with fail
  go_loopw [5,36] (fun out i wr => ∃ (j:Nat) (M:List (Nat × Nat)),j≤K∧i=.int .i64 (j:Int)∧Hid (OwnP wr w8.heap.size out (PI M))∧Hid (M.length=j)∧Hid (∀ p ∈ M,p.1≤p.2∧p.2 < 65536)∧Hid (Gen b w8 wr (m + 1 + 9 + 9 + 1 + 3 * j))∧Hid (KeepT [25,132] w8 wr)) (fun _ i _ => K - (intOf i).toNat)
  case atStart => exact ⟨0, [],Nat.zero_le _,rfl,Lib.hid (OwnP.nil _ _),Lib.hid rfl,Lib.hid (by simp),Lib.hid (Gen.start HG8.out.s),Lib.hid (KeepT.refl _ _)⟩
  case round =>
   obtain ⟨j,M,hj,rfl,HO,HL,HK,HG,HKT⟩:=hrel
   by_cases hlt:j < K
   ·have x0:=(HX8.out.keep HG.out.g hxb).cell 0
    simp at x0
    go_wp2_with fail
    refine (portRange_ok b (m + 1 + 9 + 9 + 1 + 3 * j) _ HG.out.s (by omega)).mono ?_
    rintro e w2' ⟨f,t,rfl,hf,ht,hg⟩
    obtain ⟨f',rfl⟩:=Int.eq_ofNat_of_zero_le hf.1
    obtain ⟨t',rfl⟩:=Int.eq_ofNat_of_zero_le ht.1
    have hbw8:=HG8.out.s.lt
    have HO2:Hid (OwnP w2' w8.heap.size u5 (PI M)):=Lib.hid (HO.out.gen hg hbw8)
    have HG2:Hid (Gen b w8 w2' (m + 1 + 9 + 9 + 1 + 3 * (j + 1))):=Lib.hid ((HG.out.trans hg).mono (by omega))
    have HKT2:Hid (KeepT [25,132] w8 w2'):=Lib.hid (HKT.out.trans ((KeepT.of_gen HG.out.s hg).mono (by simp)))
    have HK2:Hid (∀ p ∈ M ++ [(f',t')],p.1≤p.2∧p.2 < 65536):=Lib.hid (fun p hp => by
     rcases List.mem_append.1 hp with hp | hp
     ·exact HK.out p hp
     ·rw [List.mem_singleton.1 hp];exact ⟨by have:=hf.2;omega,by have:=ht.2;omega⟩)
    have HPl:Hid ((PI M).length=j):=Lib.hid (by rw [PI_len];exact HL.out)
    clear hf ht hg HO HG HKT HK x0
    go_wp2_with (at_builtin;refine wpList_app portE rfl (.tmp 38) (.tmp 41) rfl rfl (World.ownsRow.alloc HO2.out _) rfl (src_two_new w2' (.int .i64 (f':Int)) (.int .i64 (t':Int)) _) ?d1 ?d2 ?d3 ?d4 ?_)
    case d1 => intro u hu;simp at hu;rcases hu with rfl | rfl <;> rfl
    case d2 => have:=HPl.out;unfold maxLen;omega
    case d3 => have:=HPl.out;omega
    case d4 => have:=HG2.out.g.size;simp;omega
    intro v' w' hO hG
    have HO':Hid (OwnP w' w8.heap.size v' (PI (M ++ [(f',t')]))):=Lib.hid (by rw [PI_append];exact OwnP.snoc hO)
    have HG':Hid (Gen b w8 w' (m + 1 + 9 + 9 + 1 + 3 * (j + 1))):=Lib.hid (HG2.out.below (hG.allocFirst.below HG2.out.g.size (own_base HO2.out)) (Nat.le_refl _) hbw8)
    have HKT':Hid (KeepT [25,132] w8 w'):=Lib.hid (HKT2.out.trans (KeepT.of_grew (E:=layPo) (ownP_K HO2.out) hG.allocFirst (by simp [layPo])))
    clear hO hG HO2 HG2 HKT2
    go_wp2
    exact ⟨⟨j + 1,M ++ [(f',t')],by omega,by go_num,HO',Lib.hid (by rw [List.length_append,HL.out];rfl),HK2,HG',HKT'⟩,by simp [intOf];omega⟩
   ·obtain rfl:j=K:=by omega
    obtain ⟨a6,c6,rfl, -⟩:=HO.out.form
    have hbw8:=HG8.out.s.lt
    have HLe:=Lib.hid (leastPortsOf_any a6 M.length c6 M wr (HO.out.rd (by rw [PI_len,HL.out];omega)) rfl HK.out)
    have HSc:Hid ((PI (scan (inRow M) 65536)).length≤2):=Lib.hid (by rw [PI_len];have:=scan_short HK.out;rw [HL.out] at this;omega)
    have HPl:Hid ((PI M).length=M.length):=Lib.hid (PI_len M)
    rw [HPl.out]
    have HG8':=HG8
    have HR5:Hid (Blk wr R 129 #[.int .i64 x, .slice a1 n1 c1, .slice a2 n2 c2, .slice (some ⟨A5,0,none⟩) 1 1]):=Lib.hid (HR8.out.keep HG.out.g (by omega))
    have HZ5:Hid (Blk wr (w.heap.size + 1) 129 #[.int .i64 0, .slice none 0 0, .slice none 0 0, .slice none 0 0]):=Lib.hid (HZ8.out.keep HG.out.g (by omega))
    have HGr:Hid (Gen b w wr (m + 29)):=Lib.hid ((HG8.out.trans HG.out).mono (by omega))
    have HKr:Hid (KeepT [25,132] w7 wr):=Lib.hid (HK8.out.trans HKT.out)
    have HSp:Hid (∀ p ∈ PI (scan (inRow M) 65536),PoOk p):=Lib.hid (pi_ok _)
    generalize PI (scan (inRow M) 65536)=P3 at *
    clear HO HL HK HG HKT HG8 HG8' HX8 HZ8 HR8 HK8
    generalize M.length=ml at *
    go_wp2_with fail
    refine HLe.out.mono ?_
    rintro e w10 ⟨v,rfl,hO,hb⟩
    have hO:=ownP_K hO
    obtain ⟨a7,c7,rfl, -⟩:=hO.form
    have HP3:=Lib.hid hO.rdT
    have hwr:=HZ5.out.lt
    have HR10:=Lib.hid (HR5.out.below hb HR5.out.lt)
    have HZ10:=Lib.hid (HZ5.out.below hb HZ5.out.lt)
    have HG10:Hid (Gen b w w10 (m + 29)):=Lib.hid (HGr.out.below0 hb HGr.out.s.lt)
    have HK10:Hid (KeepT [25,132] w7 w10):=Lib.hid (HKr.out.trans (KeepT.of_below hb))
    clear hO hb HLe HR5 HZ5 HGr HKr
    obtain ⟨n7,hn7⟩:∃ n,P3.length=n:=⟨_,rfl⟩
    have HN7:=Lib.hid hn7
    rw [hn7]
    clear hn7
    have s3:=HR10.out.cell 3
    have sf:=HR10.out.free
    simp at s3
    go_upto_region 12 with fail
    have HR9:Hid (Blk (w10.setCell ⟨R,3,none⟩ (.slice a7 n7 c7)) R 129 #[.int .i64 x, .slice a1 n1 c1, .slice a2 n2 c2, .slice a7 n7 c7]):=Lib.hid (HR10.out.set 3 _)
    have HZ9:Hid (Blk (w10.setCell ⟨R,3,none⟩ (.slice a7 n7 c7)) (w.heap.size + 1) 129 #[.int .i64 0, .slice none 0 0, .slice none 0 0, .slice none 0 0]):=Lib.hid (HZ10.out.far (by omega) 3 _)
    have HG9:Hid (Gen b w (w10.setCell ⟨R,3,none⟩ (.slice a7 n7 c7)) (m + 30)):=Lib.hid ((HG10.out.setCell ⟨R,3,none⟩ _ (show w.heap.size≤R by omega) (show b < R by omega)).mono (by omega))
    have hKf:KeepT [129] w10 (w10.setCell ⟨R,3,none⟩ (.slice a7 n7 c7)):=KeepT.of_set HR10.out (by simp)
    have hK9:KeepT [25,132,129] w7 (w10.setCell ⟨R,3,none⟩ (.slice a7 n7 c7)):=(HK10.out.mono (by simp)).trans (hKf.mono (by simp))
    have HF9:Hid (FlcT (w10.setCell ⟨R,3,none⟩ (.slice a7 n7 c7)) ⟨x,L1,L2,P3⟩ (x,(a1,n1,c1),(a2,n2,c2),(a7,n7,c7))):=Lib.hid ⟨rfl,HT17.out.keep hK9 (by decide),HT27.out.keep hK9 (by decide),HP3.out.keep hKf (by decide),HS1.out.1,HS2.out.1,HN7.out,by have:=HS1.out.2;simp;omega,by have:=HS2.out.2;simp;omega,by have:=HSc.out;rw [HN7.out] at this;simp;omega⟩
    have HSm:Hid (FR.Sm ⟨x,L1,L2,P3⟩):=Lib.hid ⟨⟨HKL1.out,HKL2.out⟩,by have:=HS1.out;show L1.length≤30;omega,by have:=HS2.out;show L2.length≤30;omega,by have:=HSc.out;show P3.length≤30;omega,by have:=HXp.out;show 0≤x;omega,by have:=HXp.out;show x≤255;omega,HSp.out⟩
    generalize w10.setCell ⟨R,3,none⟩ (.slice a7 n7 c7)=w11 at *
    clear hKf hK9 HK10 HP3 HR10 HZ10 HG10 HT17 HT27 HS1 HS2 HKL1 HKL2 HN7 HSc s3 sf
    have z0:=HZ9.out.cell 0
    have z1:=HZ9.out.cell 1
    have z2:=HZ9.out.cell 2
    have z3:=HZ9.out.cell 3
    have zf:=HZ9.out.free
    have y0:=HR9.out.cell 0
    have y1:=HR9.out.cell 1
    have y2:=HR9.out.cell 2
    have y3:=HR9.out.cell 3
    simp at z0 z1 z2 z3 y0 y1 y2 y3
    go_wp2_with fail
    refine bodyPost_ret (v:=.agg (fcC (x,(a1,n1,c1),(a2,n2,c2),(a7,n7,c7))).toArray) (by simp [results,Tryz.results179,go_sem,z0,z1,z2,z3,fcC]) rfl ⟨⟨x,L1,L2,P3⟩,(x,(a1,n1,c1),(a2,n2,c2),(a7,n7,c7)),rfl,?_,HSm.out,?_⟩
    ·have hk:=KeepT.set4 (S:=[129]) HZ9.out (by simp) (.int .i64 x) (.slice a1 n1 c1) (.slice a2 n2 c2) (.slice (a7) n7 c7)
     exact HF9.out.keep hk (by decide) (by decide)
    ·repeat refine Gen.setCell ?_ _ _ (Nat.le_succ _) (Nat.lt_succ_of_lt hblt)
     exact HG9.out
section
variable {α:Type} {E:Lay α}
theorem OwnK.setFar {w:World} {B:Nat} {v:Value} {L:List α} (h:OwnK E w B v L) {C:Nat} (hne:∀ k,v.ownBlock=some k→k < C) (i:Nat) (x:Value):OwnK E (w.setCell ⟨C,i,none⟩ x) B v L:=by
 refine ⟨h.1,?_⟩
 rcases h.2 with h2 | ⟨g,cap,cur,hv,hg,hh,r⟩
 ·exact .inl h2
 ·refine .inr ⟨g,cap,cur,hv,hg,?_,r⟩
  have hlt:=hne g (by rw [hv];rfl)
  exact (Below.heap_setCell w ⟨C,i,none⟩ x g (show g ≠ C by omega)).trans hh
end
theorem FlO.own_lt {w:World} {B:Nat} {v:Value} {L:List FR} (h:FlO w B v L):∀ k,v.ownBlock=some k→k < w.heap.size:=by
 obtain ⟨C,hO,_⟩:=h
 exact Go.Proofs.YtdhldhkhpndpjaaGreatDoor.own_lt hO
theorem FlO.gen {w w':World} {b B m m':Nat} {v:Value} {L:List FR} (h:FlO w B v L) (hs:Strm w b m) (hg:Gen b w w' m') (hb:b < B):FlO w' B v L:=by
 obtain ⟨C,hO,hl,hc⟩:=h
 exact ⟨C,hO.gen hg hb,hl,fun k c r h1 h2 => (hc k c r h1 h2).keep (KeepT.of_gen hs hg) (by decide) (by decide)⟩
theorem FlO.setFar {w:World} {B:Nat} {v:Value} {L:List FR} (h:FlO w B v L) {C:Nat} {cs:Array Value} (hC:Blk w C 129 cs) (hne:∀ k,v.ownBlock=some k→k < C) (i:Nat) (x:Value):FlO (w.setCell ⟨C,i,none⟩ x) B v L:=by
 obtain ⟨D,hO,hl,hc⟩:=h
 exact ⟨D,hO.setFar hne i x,hl,fun k c r h1 h2 => (hc k c r h1 h2).keep (S:=[129]) (KeepT.of_set hC (by simp)) (by decide) (by decide)⟩
theorem flsAt_one {w:World} {g:Nat} {r:FR} {c:FC} (hb:Blk w g 129 (fcC c).toArray) (ht:FlcT w r c):FlsAt w (some ⟨g,0,none⟩) [r]:=fun k r' hr => by
 have hk:k=0:=by
  rcases k with _ | k
  ·rfl
  ·simp at hr
 subst hk
 have hr:r=r':=by simpa using hr
 subst hr
 obtain ⟨xp,⟨a1,n1,c1⟩,⟨a2,n2,c2⟩,⟨a3,n3,c3⟩⟩:=c
 have hp:=ht.e
 simp only at hp
 subst hp
 exact ⟨g,0,a1,a2,a3,n1,n2,n3,c1,c2,c3,rfl,hb.lt,hb.cell 0,hb.cell 1,hb.cell 2,hb.cell 3,⟨ht.t1.rd,ht.t2.rd,ht.t3.rd,ht.l1,ht.l2,ht.l3⟩,Nat.le_trans ht.m1 (by decide),Nat.le_trans ht.m2 (by decide),Nat.le_trans ht.m3 (by decide)⟩
theorem FlO.set4 {w:World} {B:Nat} {v:Value} {L:List FR} (h:FlO w B v L) {C:Nat} {cs:Array Value} (hC:Blk w C 129 cs) (hne:∀ k,v.ownBlock=some k→k < C) (a b c d:Value):FlO ((((w.setCell ⟨C,0,none⟩ a).setCell ⟨C,1,none⟩ b).setCell ⟨C,2,none⟩ c).setCell ⟨C,3,none⟩ d) B v L :=
 (((h.setFar hC hne 0 a).setFar (hC.set 0 a) hne 1 b).setFar ((hC.set 0 a).set 1 b) hne 2 c).setFar (((hC.set 0 a).set 1 b).set 2 c) hne 3 d
theorem rightRows_gen (b m most:Nat) (w:World) (h:Strm w b m) (hmo:most≤100) (hm:m + 10000 < 1099511627776) :
  Calls Tryz.prog 99 #[.pointer (some ⟨b,0,none⟩), .int .i64 (most:Int)] w fun e w' => ∃ v L,e=.returned v∧FlO w' w.heap.size v L∧L.length≤most∧(∀ r ∈ L,r.Sm)∧Gen b w w' (m + 1 + 40 * most):=by
 have hblt:=h.lt
 have HG0:Hid (Gen b w w m):=Lib.hid (Gen.start h)
 clear h
 go_enter Tryz.func99,Tryz.ntmps99
 go_wp2_with fail
 refine (range_gen b m _ _ _ HG0.out.s (by omega) (by omega) (by omega)).mono ?_
 rintro e w1 ⟨y,rfl,⟨hy0,hy1⟩,hg⟩
 obtain ⟨K,rfl⟩:=Int.eq_ofNat_of_zero_le hy0
 have hK:K≤most:=by omega
 have HG1:=Lib.hid (HG0.out.trans hg)
 clear hg HG0 hy0 hy1
 go_wp2_with fail
 go_loopw [5,6,7,11] (fun out s6 s7 i wr => ∃ (j:Nat) (L:List FR),j≤K∧i=.int .i64 (j:Int)∧Hid (FlO wr w.heap.size out L)∧Hid (L.length≤j)∧Hid (∀ r ∈ L,r.Sm)∧Hid (Gen b w wr (m + 1 + 40 * j))) (fun _ _ _ i _ => K - (intOf i).toNat)
 case atStart => exact ⟨0, [],Nat.zero_le _,rfl,Lib.hid (FlO.nil _ _),Lib.hid (Nat.le_refl _),Lib.hid (by simp),HG1⟩
 case round =>
  obtain ⟨j,L,hj,rfl,HO,HL,HK,HG⟩:=hrel
  by_cases hlt:j < K
  ·go_wp2_with fail
   refine (row_gen b (m + 1 + 40 * j) _ HG.out.s (by omega)).mono ?_
   rintro e w2 ⟨r,c,rfl,hf,hsm,hg⟩
   obtain ⟨x,⟨a1,n1,c1⟩,⟨a2,n2,c2⟩,⟨a3,n3,c3⟩⟩:=c
   simp only [fcC]
   have HO2:=Lib.hid (HO.out.gen HG.out.s hg hblt)
   have HG2:Hid (Gen b w w2 (m + 1 + 40 * j + 30)):=Lib.hid (HG.out.trans hg)
   have HF2:=Lib.hid hf
   have HS2:=Lib.hid hsm
   obtain ⟨ad,c,rfl, -⟩:=HO.out.form
   have HW2:=Lib.hid HO2.out.own_lt
   clear hf hsm hg HO HG
   have HR3:Hid (Blk (w2.alloc (.cells #[.int .i64 x, .slice a1 n1 c1, .slice a2 n2 c2, .slice a3 n3 c3] 129 (0,0))) w2.heap.size 129 #[.int .i64 x, .slice a1 n1 c1, .slice a2 n2 c2, .slice a3 n3 c3]):=Lib.hid (Blk.new w2 _ _)
   have HO3:Hid (FlO (w2.alloc (.cells #[.int .i64 x, .slice a1 n1 c1, .slice a2 n2 c2, .slice a3 n3 c3] 129 (0,0))) w.heap.size (.slice ad L.length c) L):=Lib.hid (HO2.out.later (below_alloc (Below.refl _ _) _))
   have HG3:Hid (Gen b w (w2.alloc (.cells #[.int .i64 x, .slice a1 n1 c1, .slice a2 n2 c2, .slice a3 n3 c3] 129 (0,0))) (m + 1 + 40 * j + 30)):=Lib.hid (HG2.out.alloc _)
   have HF3:Hid (FlcT (w2.alloc (.cells #[.int .i64 x, .slice a1 n1 c1, .slice a2 n2 c2, .slice a3 n3 c3] 129 (0,0))) r (x,(a1,n1,c1),(a2,n2,c2),(a3,n3,c3))):=Lib.hid (HF2.out.keep (S:=[]) (KeepT.of_below (below_alloc (Below.refl _ _) _)) (by simp) (by simp))
   have hwR:=HG2.out.g.size
   obtain ⟨ln,hln⟩:∃ n,L.length=n:=⟨_,rfl⟩
   have HN:=Lib.hid hln
   rw [hln] at HO3 HL ⊢
   clear HO2 HG2 HF2 hln
   go_upto_region 5 with fail
   generalize w2.alloc (.cells #[.int .i64 x, .slice a1 n1 c1, .slice a2 n2 c2, .slice a3 n3 c3] 129 (0,0))=w3 at *
   generalize w2.heap.size=R at *
   go_cut [21] from 12 to 83 (fun s wx => ∃ fl:Bool,s=.bool fl∧(fl=true→1≤ln)∧Gen b w3 wx (m + 1 + 40 * j + 31))
   case first =>
    go_wp2_with fail
    ·refine (flip_gen b (m + 1 + 40 * j + 30) _ _ HG3.out.s (by omega) (by omega)).mono ?_
     rintro e w4 ⟨fl,rfl,hg⟩
     have hl0:1≤ln:=by omega
     have HGx:=Lib.hid hg
     clear hg
     go_wp2_with fail
     go_meet
     case rel => exact ⟨fl,rfl,fun _ => hl0,HGx.out⟩
    ·go_meet
     case rel => exact ⟨false,rfl,by simp,(Gen.start HG3.out.s).mono (by omega)⟩
   case rest =>
    obtain ⟨fl,rfl,h1,hg⟩:=hcut
    generalize wc=w4 at *
    have HG4:Hid (Gen b w w4 (m + 1 + 40 * j + 31)):=Lib.hid (HG3.out.trans hg)
    have HR4:=Lib.hid (HR3.out.keep hg.g (by omega))
    have HO4:=Lib.hid (HO3.out.gen HG3.out.s hg hblt)
    have HF4:=Lib.hid (HF3.out.keep (KeepT.of_gen HG3.out.s hg) (by decide) (by decide))
    rw [HN.out] at HW2
    clear hg HG3 HR3 HO3 HF3
    go_upto_if 21 with fail
    go_cut [] from 12 to 83 (fun wx => ∃ (r2:FR) (cq:FC),Blk wx R 129 (fcC cq).toArray∧FlcT wx r2 cq∧r2.Sm∧FlO wx w.heap.size (.slice ad ln c) L∧Gen b w wx (m + 1 + 40 * j + 33))
    case first =>
     cases fl
     ·go_wp2_with fail
      go_meet
      case rel => exact ⟨r,(x,(a1,n1,c1),(a2,n2,c2),(a3,n3,c3)),HR4.out,HF4.out,HS2.out,HO4.out,HG4.out.mono (by omega)⟩
     ·have hl1:=h1 rfl
      clear h1
      go_wp2_with fail
      refine (next_gen b (m + 1 + 40 * j + 31) _ _ HG4.out.s (by omega) (by have:=HL.out;omega)).mono ?_
      rintro e w5 ⟨q,rfl,⟨hq0,hq1⟩,hg⟩
      obtain ⟨q,rfl⟩:=Int.eq_ofNat_of_zero_le hq0
      have hq:q < ln:=by omega
      have HG5:Hid (Gen b w w5 (m + 1 + 40 * j + 32)):=Lib.hid (HG4.out.trans hg)
      have HR5:=Lib.hid (HR4.out.keep hg.g (by omega))
      have HO5:=Lib.hid (HO4.out.gen HG4.out.s hg hblt)
      have HF5:=Lib.hid (HF4.out.keep (KeepT.of_gen HG4.out.s hg) (by decide) (by decide))
      clear hg HG4 HR4 HO4 HF4 hq0 hq1
      have hqL:q < L.length:=by rw [HN.out];exact hq
      obtain ⟨D,hD,hDl,hDc⟩:=HO5.out
      have hqD:q < D.length:=by omega
      obtain ⟨ro,hro⟩:∃ ro,L[q]?=some ro:=⟨_,List.getElem?_eq_getElem hqL⟩
      obtain ⟨co,hco⟩:∃ co,D[q]?=some co:=⟨_,List.getElem?_eq_getElem hqD⟩
      have HFo:=Lib.hid (hDc q co ro hco hro)
      have HSo:=Lib.hid (HK.out ro (List.mem_of_getElem? hro))
      obtain ⟨g,o,had,hgl,k⟩:=hD.rd q co hco
      obtain ⟨y,⟨b1,p1,d1⟩,⟨b2,p2,d2⟩,⟨b3,p3,d3⟩⟩:=co
      have hE:layFl.enc (y,(b1,p1,d1),(b2,p2,d2),(b3,p3,d3))=[.int .i64 y, .slice b1 p1 d1, .slice b2 p2 d2, .slice b3 p3 d3]:=rfl
      have hKK:layFl.K=4:=rfl
      rw [hE,hKK] at k
      have k0:w5.cell? ⟨g,o + q * 4,none⟩=_:=k 0 _ rfl
      have k1:w5.cell? ⟨g,o + q * 4 + 1,none⟩=_:=k 1 _ rfl
      have k2:w5.cell? ⟨g,o + q * 4 + 2,none⟩=_:=k 2 _ rfl
      have k3:w5.cell? ⟨g,o + q * 4 + 3,none⟩=_:=k 3 _ rfl
      subst had
      have hRl:=HR5.out.lt
      have HQ6:Hid (Blk (w5.alloc (.cells #[.int .i64 y, .slice b1 p1 d1, .slice b2 p2 d2, .slice b3 p3 d3] 129 (0,0))) w5.heap.size 129 #[.int .i64 y, .slice b1 p1 d1, .slice b2 p2 d2, .slice b3 p3 d3]):=Lib.hid (Blk.new w5 _ _)
      have HR6:=Lib.hid (HR5.out.alloc (.cells #[.int .i64 y, .slice b1 p1 d1, .slice b2 p2 d2, .slice b3 p3 d3] 129 (0,0)))
      have HO6:Hid (FlO (w5.alloc (.cells #[.int .i64 y, .slice b1 p1 d1, .slice b2 p2 d2, .slice b3 p3 d3] 129 (0,0))) w.heap.size (.slice (some ⟨g,o,none⟩) ln c) L):=Lib.hid (HO5.out.later (below_alloc (Below.refl _ _) _))
      have HG6:=Lib.hid (HG5.out.alloc (.cells #[.int .i64 y, .slice b1 p1 d1, .slice b2 p2 d2, .slice b3 p3 d3] 129 (0,0)))
      have HF6:Hid (FlcT (w5.alloc (.cells #[.int .i64 y, .slice b1 p1 d1, .slice b2 p2 d2, .slice b3 p3 d3] 129 (0,0))) r (x,(a1,n1,c1),(a2,n2,c2),(a3,n3,c3))):=Lib.hid (HF5.out.keep (S:=[]) (KeepT.of_below (below_alloc (Below.refl _ _) _)) (by simp) (by simp))
      have HFo6:Hid (FlcT (w5.alloc (.cells #[.int .i64 y, .slice b1 p1 d1, .slice b2 p2 d2, .slice b3 p3 d3] 129 (0,0))) ro (y,(b1,p1,d1),(b2,p2,d2),(b3,p3,d3))):=Lib.hid (HFo.out.keep (S:=[]) (KeepT.of_below (below_alloc (Below.refl _ _) _)) (by simp) (by simp))
      clear hD hDl hDc hqL hqD hro hco hgl k hE hKK HG5 HR5 HO5 HF5 HFo
      go_upto_region 7 with fail
      generalize w5.alloc (.cells #[.int .i64 y, .slice b1 p1 d1, .slice b2 p2 d2, .slice b3 p3 d3] 129 (0,0))=w6 at *
      generalize w5.heap.size=O at *
      clear k0 k1 k2 k3
      go_wp2_with fail
      refine (next_gen b (m + 1 + 40 * j + 32) _ _ HG6.out.s (by omega) (by omega)).mono ?_
      rintro e w7 ⟨z,rfl,⟨hz0,hz1⟩,hg⟩
      have HG7:Hid (Gen b w w7 (m + 1 + 40 * j + 33)):=Lib.hid (HG6.out.trans hg)
      have HR7:=Lib.hid (HR6.out.keep hg.g (by omega))
      have HQ7:=Lib.hid (HQ6.out.keep hg.g (by omega))
      have HO7:=Lib.hid (HO6.out.gen HG6.out.s hg hblt)
      have HF7:=Lib.hid (HF6.out.keep (KeepT.of_gen HG6.out.s hg) (by decide) (by decide))
      have HFo7:=Lib.hid (HFo6.out.keep (KeepT.of_gen HG6.out.s hg) (by decide) (by decide))
      have HW7:Hid (∀ k,(Value.slice (some ⟨g,o,none⟩) ln c).ownBlock=some k→k < O):=Lib.hid fun k hk => Nat.lt_trans (HW2.out k hk) hRl
      clear hg HG6 HR6 HQ6 HO6 HF6 HFo6
      obtain rfl | rfl | rfl | rfl:z=0 ∨ z=1 ∨ z=2 ∨ z=3:=by omega
      ·have r1:=HR7.out.cell 1
       simp at r1
       have qf:=HQ7.out.free
       have q1:=HQ7.out.cell 1
       simp at q1
       go_upto_region 17 with fail
       have HR8:=Lib.hid (HR7.out.far (show R ≠ O by omega) 1 (.slice a1 n1 c1))
       have HO8:=Lib.hid (HO7.out.setFar HQ7.out HW7.out 1 (.slice a1 n1 c1))
       have HG8:=Lib.hid (HG7.out.setCell ⟨O,1,none⟩ (.slice a1 n1 c1) (show w.heap.size≤O by omega) (show b < O by omega))
       have hKs:KeepT [129] w7 (w7.setCell ⟨O,1,none⟩ (.slice a1 n1 c1)):=KeepT.of_set HQ7.out (by simp)
       have HP8:Hid (∃ (r2:FR) (cq:FC),Blk (w7.setCell ⟨O,1,none⟩ (.slice a1 n1 c1)) O 129 (fcC cq).toArray∧FlcT (w7.setCell ⟨O,1,none⟩ (.slice a1 n1 c1)) r2 cq∧r2.Sm):=Lib.hid (by
        have k1:=HF7.out.keep hKs (by decide) (by decide)
        have k2:=HFo7.out.keep hKs (by decide) (by decide)
        refine ⟨⟨ro.p,r.src,ro.dst,ro.po⟩,(y,(a1,n1,c1),(b2,p2,d2),(b3,p3,d3)),HQ7.out.set 1 _,⟨k2.e,k1.t1,k2.t2,k2.t3,k1.l1,k2.l2,k2.l3,k1.m1,k2.m2,k2.m3⟩,⟨⟨HS2.out.ok.v1,HSo.out.ok.v2⟩,HS2.out.l1,HSo.out.l2,HSo.out.l3,HSo.out.p0,HSo.out.p1,HSo.out.po⟩⟩)
       generalize (w7.setCell ⟨O,1,none⟩ (.slice a1 n1 c1))=w8 at *
       clear r1 qf q1 hKs HQ7 HR7 HO7 HG7 HF7 HFo7
       obtain ⟨rn,⟨z0,⟨e1,f1,g1⟩,⟨e2,f2,g2⟩,⟨e3,f3,g3⟩⟩,hP,hFn,hSn⟩:=HP8.out
       have HPk:=Lib.hid hP
       have HFn:=Lib.hid hFn
       have HSn:=Lib.hid hSn
       clear hP hFn hSn HP8
       have q0:=HPk.out.cell 0
       have q1:=HPk.out.cell 1
       have q2:=HPk.out.cell 2
       have q3:=HPk.out.cell 3
       have r0:=HR8.out.cell 0
       have r1:=HR8.out.cell 1
       have r2:=HR8.out.cell 2
       have r3:=HR8.out.cell 3
       simp [fcC] at q0 q1 q2 q3 r0 r1 r2 r3
       have rf:=HR8.out.free
       go_upto_region 18 with fail
       have HR9:Hid (Blk ((((w8.setCell ⟨R,0,none⟩ (.int .i64 z0)).setCell ⟨R,1,none⟩ (.slice e1 f1 g1)).setCell ⟨R,2,none⟩ (.slice e2 f2 g2)).setCell ⟨R,3,none⟩ (.slice e3 f3 g3)) R 129 #[.int .i64 z0, .slice e1 f1 g1, .slice e2 f2 g2, .slice e3 f3 g3]):=Lib.hid ((((HR8.out.set 0 (.int .i64 z0)).set 1 (.slice e1 f1 g1)).set 2 (.slice e2 f2 g2)).set 3 (.slice e3 f3 g3))
       have HO9:=Lib.hid (HO8.out.set4 HR8.out HW2.out (.int .i64 z0) (.slice e1 f1 g1) (.slice e2 f2 g2) (.slice e3 f3 g3))
       have HG9:Hid (Gen b w ((((w8.setCell ⟨R,0,none⟩ (.int .i64 z0)).setCell ⟨R,1,none⟩ (.slice e1 f1 g1)).setCell ⟨R,2,none⟩ (.slice e2 f2 g2)).setCell ⟨R,3,none⟩ (.slice e3 f3 g3)) (m + 1 + 40 * j + 33)):=Lib.hid (by
        repeat refine Gen.setCell ?_ _ _ hwR (Nat.lt_of_lt_of_le hblt hwR)
        exact HG8.out)
       have HFn9:=Lib.hid (HFn.out.keep (KeepT.set4 (S:=[129]) HR8.out (by simp) (.int .i64 z0) (.slice e1 f1 g1) (.slice e2 f2 g2) (.slice e3 f3 g3)) (by decide) (by decide))
       generalize ((((w8.setCell ⟨R,0,none⟩ (.int .i64 z0)).setCell ⟨R,1,none⟩ (.slice e1 f1 g1)).setCell ⟨R,2,none⟩ (.slice e2 f2 g2)).setCell ⟨R,3,none⟩ (.slice e3 f3 g3))=w9 at *
       clear q0 q1 q2 q3 r0 r1 r2 r3 rf HPk HR8 HO8 HG8 HFn
       have r0:=HR9.out.cell 0
       have r1:=HR9.out.cell 1
       have r2:=HR9.out.cell 2
       have r3:=HR9.out.cell 3
       simp at r0 r1 r2 r3
       have HA10:Hid (Blk (w9.alloc (.cells #[.int .i64 z0, .slice e1 f1 g1, .slice e2 f2 g2, .slice e3 f3 g3] 129 (0,0))) w9.heap.size 129 #[.int .i64 z0, .slice e1 f1 g1, .slice e2 f2 g2, .slice e3 f3 g3]):=Lib.hid (Blk.new w9 _ _)
       have HR10:=Lib.hid (HR9.out.alloc (.cells #[.int .i64 z0, .slice e1 f1 g1, .slice e2 f2 g2, .slice e3 f3 g3] 129 (0,0)))
       have HO10:Hid (FlO (w9.alloc (.cells #[.int .i64 z0, .slice e1 f1 g1, .slice e2 f2 g2, .slice e3 f3 g3] 129 (0,0))) w.heap.size (.slice (some ⟨g,o,none⟩) ln c) L):=Lib.hid (HO9.out.later (below_alloc (Below.refl _ _) _))
       have HG10:=Lib.hid (HG9.out.alloc (.cells #[.int .i64 z0, .slice e1 f1 g1, .slice e2 f2 g2, .slice e3 f3 g3] 129 (0,0)))
       have HFn10:Hid (FlcT (w9.alloc (.cells #[.int .i64 z0, .slice e1 f1 g1, .slice e2 f2 g2, .slice e3 f3 g3] 129 (0,0))) rn (z0,(e1,f1,g1),(e2,f2,g2),(e3,f3,g3))):=Lib.hid (HFn9.out.keep (S:=[]) (KeepT.of_below (below_alloc (Below.refl _ _) _)) (by simp) (by simp))
       have HC:=Lib.hid (rowsFault_any (some ⟨w9.heap.size,0,none⟩) 1 1 [rn] (w9.alloc (.cells #[.int .i64 z0, .slice e1 f1 g1, .slice e2 f2 g2, .slice e3 f3 g3] 129 (0,0))) (flsAt_one (c:=(z0,(e1,f1,g1),(e2,f2,g2),(e3,f3,g3))) HA10.out HFn10.out) rfl (by decide) (fun r hr => by rw [List.mem_singleton.1 hr];exact HSn.out.un))
       clear HR9 HO9 HG9 HFn9 HA10
       go_wp2_with fail
       refine HC.out.mono ?_
       rintro e w11 ⟨rfl,hb⟩
       have HR11:=Lib.hid (HR10.out.below hb HR10.out.lt)
       have HO11:=Lib.hid (HO10.out.later hb)
       have HG11:Hid (Gen b w w11 (m + 1 + 40 * j + 33)):=Lib.hid (HG10.out.below0 hb HG10.out.s.lt)
       have HFn11:=Lib.hid (HFn10.out.keep (S:=[]) (KeepT.of_below hb) (by simp) (by simp))
       clear hb HC HR10 HO10 HG10 HFn10 r0 r1 r2 r3
       generalize rowsF [rn]=F at *
       by_cases hF:F=0
       ·subst hF
        go_wp2_with fail
        go_meet
        case rel => exact ⟨rn,(z0,(e1,f1,g1),(e2,f2,g2),(e3,f3,g3)),HR11.out,HFn11.out,HSn.out,HO11.out,HG11.out⟩
       ·have hF2:(F != 0)=true:=by simpa using hF
        clear hF
        go_wp2_with fail
        exact ⟨⟨j + 1,L,by omega,by go_num,HO11,Lib.hid (by have:=HL.out;rw [HN.out];omega),HK,Lib.hid (HG11.out.mono (by omega))⟩,by simp [intOf];omega⟩
      ·have r2:=HR7.out.cell 2
       simp at r2
       have qf:=HQ7.out.free
       have q2:=HQ7.out.cell 2
       simp at q2
       go_upto_region 17 with fail
       have HR8:=Lib.hid (HR7.out.far (show R ≠ O by omega) 2 (.slice a2 n2 c2))
       have HO8:=Lib.hid (HO7.out.setFar HQ7.out HW7.out 2 (.slice a2 n2 c2))
       have HG8:=Lib.hid (HG7.out.setCell ⟨O,2,none⟩ (.slice a2 n2 c2) (show w.heap.size≤O by omega) (show b < O by omega))
       have hKs:KeepT [129] w7 (w7.setCell ⟨O,2,none⟩ (.slice a2 n2 c2)):=KeepT.of_set HQ7.out (by simp)
       have HP8:Hid (∃ (r2:FR) (cq:FC),Blk (w7.setCell ⟨O,2,none⟩ (.slice a2 n2 c2)) O 129 (fcC cq).toArray∧FlcT (w7.setCell ⟨O,2,none⟩ (.slice a2 n2 c2)) r2 cq∧r2.Sm):=Lib.hid (by
        have k1:=HF7.out.keep hKs (by decide) (by decide)
        have k2:=HFo7.out.keep hKs (by decide) (by decide)
        refine ⟨⟨ro.p,ro.src,r.dst,ro.po⟩,(y,(b1,p1,d1),(a2,n2,c2),(b3,p3,d3)),HQ7.out.set 2 _,⟨k2.e,k2.t1,k1.t2,k2.t3,k2.l1,k1.l2,k2.l3,k2.m1,k1.m2,k2.m3⟩,⟨⟨HSo.out.ok.v1,HS2.out.ok.v2⟩,HSo.out.l1,HS2.out.l2,HSo.out.l3,HSo.out.p0,HSo.out.p1,HSo.out.po⟩⟩)
       generalize (w7.setCell ⟨O,2,none⟩ (.slice a2 n2 c2))=w8 at *
       clear r2 qf q2 hKs HQ7 HR7 HO7 HG7 HF7 HFo7
       obtain ⟨rn,⟨z0,⟨e1,f1,g1⟩,⟨e2,f2,g2⟩,⟨e3,f3,g3⟩⟩,hP,hFn,hSn⟩:=HP8.out
       have HPk:=Lib.hid hP
       have HFn:=Lib.hid hFn
       have HSn:=Lib.hid hSn
       clear hP hFn hSn HP8
       have q0:=HPk.out.cell 0
       have q1:=HPk.out.cell 1
       have q2:=HPk.out.cell 2
       have q3:=HPk.out.cell 3
       have r0:=HR8.out.cell 0
       have r1:=HR8.out.cell 1
       have r2:=HR8.out.cell 2
       have r3:=HR8.out.cell 3
       simp [fcC] at q0 q1 q2 q3 r0 r1 r2 r3
       have rf:=HR8.out.free
       go_upto_region 18 with fail
       have HR9:Hid (Blk ((((w8.setCell ⟨R,0,none⟩ (.int .i64 z0)).setCell ⟨R,1,none⟩ (.slice e1 f1 g1)).setCell ⟨R,2,none⟩ (.slice e2 f2 g2)).setCell ⟨R,3,none⟩ (.slice e3 f3 g3)) R 129 #[.int .i64 z0, .slice e1 f1 g1, .slice e2 f2 g2, .slice e3 f3 g3]):=Lib.hid ((((HR8.out.set 0 (.int .i64 z0)).set 1 (.slice e1 f1 g1)).set 2 (.slice e2 f2 g2)).set 3 (.slice e3 f3 g3))
       have HO9:=Lib.hid (HO8.out.set4 HR8.out HW2.out (.int .i64 z0) (.slice e1 f1 g1) (.slice e2 f2 g2) (.slice e3 f3 g3))
       have HG9:Hid (Gen b w ((((w8.setCell ⟨R,0,none⟩ (.int .i64 z0)).setCell ⟨R,1,none⟩ (.slice e1 f1 g1)).setCell ⟨R,2,none⟩ (.slice e2 f2 g2)).setCell ⟨R,3,none⟩ (.slice e3 f3 g3)) (m + 1 + 40 * j + 33)):=Lib.hid (by
        repeat refine Gen.setCell ?_ _ _ hwR (Nat.lt_of_lt_of_le hblt hwR)
        exact HG8.out)
       have HFn9:=Lib.hid (HFn.out.keep (KeepT.set4 (S:=[129]) HR8.out (by simp) (.int .i64 z0) (.slice e1 f1 g1) (.slice e2 f2 g2) (.slice e3 f3 g3)) (by decide) (by decide))
       generalize ((((w8.setCell ⟨R,0,none⟩ (.int .i64 z0)).setCell ⟨R,1,none⟩ (.slice e1 f1 g1)).setCell ⟨R,2,none⟩ (.slice e2 f2 g2)).setCell ⟨R,3,none⟩ (.slice e3 f3 g3))=w9 at *
       clear q0 q1 q2 q3 r0 r1 r2 r3 rf HPk HR8 HO8 HG8 HFn
       have r0:=HR9.out.cell 0
       have r1:=HR9.out.cell 1
       have r2:=HR9.out.cell 2
       have r3:=HR9.out.cell 3
       simp at r0 r1 r2 r3
       have HA10:Hid (Blk (w9.alloc (.cells #[.int .i64 z0, .slice e1 f1 g1, .slice e2 f2 g2, .slice e3 f3 g3] 129 (0,0))) w9.heap.size 129 #[.int .i64 z0, .slice e1 f1 g1, .slice e2 f2 g2, .slice e3 f3 g3]):=Lib.hid (Blk.new w9 _ _)
       have HR10:=Lib.hid (HR9.out.alloc (.cells #[.int .i64 z0, .slice e1 f1 g1, .slice e2 f2 g2, .slice e3 f3 g3] 129 (0,0)))
       have HO10:Hid (FlO (w9.alloc (.cells #[.int .i64 z0, .slice e1 f1 g1, .slice e2 f2 g2, .slice e3 f3 g3] 129 (0,0))) w.heap.size (.slice (some ⟨g,o,none⟩) ln c) L):=Lib.hid (HO9.out.later (below_alloc (Below.refl _ _) _))
       have HG10:=Lib.hid (HG9.out.alloc (.cells #[.int .i64 z0, .slice e1 f1 g1, .slice e2 f2 g2, .slice e3 f3 g3] 129 (0,0)))
       have HFn10:Hid (FlcT (w9.alloc (.cells #[.int .i64 z0, .slice e1 f1 g1, .slice e2 f2 g2, .slice e3 f3 g3] 129 (0,0))) rn (z0,(e1,f1,g1),(e2,f2,g2),(e3,f3,g3))):=Lib.hid (HFn9.out.keep (S:=[]) (KeepT.of_below (below_alloc (Below.refl _ _) _)) (by simp) (by simp))
       have HC:=Lib.hid (rowsFault_any (some ⟨w9.heap.size,0,none⟩) 1 1 [rn] (w9.alloc (.cells #[.int .i64 z0, .slice e1 f1 g1, .slice e2 f2 g2, .slice e3 f3 g3] 129 (0,0))) (flsAt_one (c:=(z0,(e1,f1,g1),(e2,f2,g2),(e3,f3,g3))) HA10.out HFn10.out) rfl (by decide) (fun r hr => by rw [List.mem_singleton.1 hr];exact HSn.out.un))
       clear HR9 HO9 HG9 HFn9 HA10
       go_wp2_with fail
       refine HC.out.mono ?_
       rintro e w11 ⟨rfl,hb⟩
       have HR11:=Lib.hid (HR10.out.below hb HR10.out.lt)
       have HO11:=Lib.hid (HO10.out.later hb)
       have HG11:Hid (Gen b w w11 (m + 1 + 40 * j + 33)):=Lib.hid (HG10.out.below0 hb HG10.out.s.lt)
       have HFn11:=Lib.hid (HFn10.out.keep (S:=[]) (KeepT.of_below hb) (by simp) (by simp))
       clear hb HC HR10 HO10 HG10 HFn10 r0 r1 r2 r3
       generalize rowsF [rn]=F at *
       by_cases hF:F=0
       ·subst hF
        go_wp2_with fail
        go_meet
        case rel => exact ⟨rn,(z0,(e1,f1,g1),(e2,f2,g2),(e3,f3,g3)),HR11.out,HFn11.out,HSn.out,HO11.out,HG11.out⟩
       ·have hF2:(F != 0)=true:=by simpa using hF
        clear hF
        go_wp2_with fail
        exact ⟨⟨j + 1,L,by omega,by go_num,HO11,Lib.hid (by have:=HL.out;rw [HN.out];omega),HK,Lib.hid (HG11.out.mono (by omega))⟩,by simp [intOf];omega⟩
      ·have q0:=HQ7.out.cell 0
       simp at q0
       by_cases hpr:y=0 ∨ y=6 ∨ y=17
       ·rcases hpr with hpr | hpr | hpr
        all_goals
         go_upto_region 16 with fail
         clear hpr q0
         have r3:=HR7.out.cell 3
         simp at r3
         have qf:=HQ7.out.free
         have q3:=HQ7.out.cell 3
         simp at q3
         go_upto_region 17 with fail
         have HR8:=Lib.hid (HR7.out.far (show R ≠ O by omega) 3 (.slice a3 n3 c3))
         have HO8:=Lib.hid (HO7.out.setFar HQ7.out HW7.out 3 (.slice a3 n3 c3))
         have HG8:=Lib.hid (HG7.out.setCell ⟨O,3,none⟩ (.slice a3 n3 c3) (show w.heap.size≤O by omega) (show b < O by omega))
         have hKs:KeepT [129] w7 (w7.setCell ⟨O,3,none⟩ (.slice a3 n3 c3)):=KeepT.of_set HQ7.out (by simp)
         have HP8:Hid (∃ (r2:FR) (cq:FC),Blk (w7.setCell ⟨O,3,none⟩ (.slice a3 n3 c3)) O 129 (fcC cq).toArray∧FlcT (w7.setCell ⟨O,3,none⟩ (.slice a3 n3 c3)) r2 cq∧r2.Sm):=Lib.hid (by
          have k1:=HF7.out.keep hKs (by decide) (by decide)
          have k2:=HFo7.out.keep hKs (by decide) (by decide)
          refine ⟨⟨ro.p,ro.src,ro.dst,r.po⟩,(y,(b1,p1,d1),(b2,p2,d2),(a3,n3,c3)),HQ7.out.set 3 _,⟨k2.e,k2.t1,k2.t2,k1.t3,k2.l1,k2.l2,k1.l3,k2.m1,k2.m2,k1.m3⟩,⟨⟨HSo.out.ok.v1,HSo.out.ok.v2⟩,HSo.out.l1,HSo.out.l2,HS2.out.l3,HSo.out.p0,HSo.out.p1,HS2.out.po⟩⟩)
         generalize (w7.setCell ⟨O,3,none⟩ (.slice a3 n3 c3))=w8 at *
         clear r3 qf q3 hKs HQ7 HR7 HO7 HG7 HF7 HFo7
         obtain ⟨rn,⟨z0,⟨e1,f1,g1⟩,⟨e2,f2,g2⟩,⟨e3,f3,g3⟩⟩,hP,hFn,hSn⟩:=HP8.out
         have HPk:=Lib.hid hP
         have HFn:=Lib.hid hFn
         have HSn:=Lib.hid hSn
         clear hP hFn hSn HP8
         have q0:=HPk.out.cell 0
         have q1:=HPk.out.cell 1
         have q2:=HPk.out.cell 2
         have q3:=HPk.out.cell 3
         have r0:=HR8.out.cell 0
         have r1:=HR8.out.cell 1
         have r2:=HR8.out.cell 2
         have r3:=HR8.out.cell 3
         simp [fcC] at q0 q1 q2 q3 r0 r1 r2 r3
         have rf:=HR8.out.free
         go_upto_region 18 with fail
         have HR9:Hid (Blk ((((w8.setCell ⟨R,0,none⟩ (.int .i64 z0)).setCell ⟨R,1,none⟩ (.slice e1 f1 g1)).setCell ⟨R,2,none⟩ (.slice e2 f2 g2)).setCell ⟨R,3,none⟩ (.slice e3 f3 g3)) R 129 #[.int .i64 z0, .slice e1 f1 g1, .slice e2 f2 g2, .slice e3 f3 g3]):=Lib.hid ((((HR8.out.set 0 (.int .i64 z0)).set 1 (.slice e1 f1 g1)).set 2 (.slice e2 f2 g2)).set 3 (.slice e3 f3 g3))
         have HO9:=Lib.hid (HO8.out.set4 HR8.out HW2.out (.int .i64 z0) (.slice e1 f1 g1) (.slice e2 f2 g2) (.slice e3 f3 g3))
         have HG9:Hid (Gen b w ((((w8.setCell ⟨R,0,none⟩ (.int .i64 z0)).setCell ⟨R,1,none⟩ (.slice e1 f1 g1)).setCell ⟨R,2,none⟩ (.slice e2 f2 g2)).setCell ⟨R,3,none⟩ (.slice e3 f3 g3)) (m + 1 + 40 * j + 33)):=Lib.hid (by
          repeat refine Gen.setCell ?_ _ _ hwR (Nat.lt_of_lt_of_le hblt hwR)
          exact HG8.out)
         have HFn9:=Lib.hid (HFn.out.keep (KeepT.set4 (S:=[129]) HR8.out (by simp) (.int .i64 z0) (.slice e1 f1 g1) (.slice e2 f2 g2) (.slice e3 f3 g3)) (by decide) (by decide))
         generalize ((((w8.setCell ⟨R,0,none⟩ (.int .i64 z0)).setCell ⟨R,1,none⟩ (.slice e1 f1 g1)).setCell ⟨R,2,none⟩ (.slice e2 f2 g2)).setCell ⟨R,3,none⟩ (.slice e3 f3 g3))=w9 at *
         clear q0 q1 q2 q3 r0 r1 r2 r3 rf HPk HR8 HO8 HG8 HFn
         have r0:=HR9.out.cell 0
         have r1:=HR9.out.cell 1
         have r2:=HR9.out.cell 2
         have r3:=HR9.out.cell 3
         simp at r0 r1 r2 r3
         have HA10:Hid (Blk (w9.alloc (.cells #[.int .i64 z0, .slice e1 f1 g1, .slice e2 f2 g2, .slice e3 f3 g3] 129 (0,0))) w9.heap.size 129 #[.int .i64 z0, .slice e1 f1 g1, .slice e2 f2 g2, .slice e3 f3 g3]):=Lib.hid (Blk.new w9 _ _)
         have HR10:=Lib.hid (HR9.out.alloc (.cells #[.int .i64 z0, .slice e1 f1 g1, .slice e2 f2 g2, .slice e3 f3 g3] 129 (0,0)))
         have HO10:Hid (FlO (w9.alloc (.cells #[.int .i64 z0, .slice e1 f1 g1, .slice e2 f2 g2, .slice e3 f3 g3] 129 (0,0))) w.heap.size (.slice (some ⟨g,o,none⟩) ln c) L):=Lib.hid (HO9.out.later (below_alloc (Below.refl _ _) _))
         have HG10:=Lib.hid (HG9.out.alloc (.cells #[.int .i64 z0, .slice e1 f1 g1, .slice e2 f2 g2, .slice e3 f3 g3] 129 (0,0)))
         have HFn10:Hid (FlcT (w9.alloc (.cells #[.int .i64 z0, .slice e1 f1 g1, .slice e2 f2 g2, .slice e3 f3 g3] 129 (0,0))) rn (z0,(e1,f1,g1),(e2,f2,g2),(e3,f3,g3))):=Lib.hid (HFn9.out.keep (S:=[]) (KeepT.of_below (below_alloc (Below.refl _ _) _)) (by simp) (by simp))
         have HC:=Lib.hid (rowsFault_any (some ⟨w9.heap.size,0,none⟩) 1 1 [rn] (w9.alloc (.cells #[.int .i64 z0, .slice e1 f1 g1, .slice e2 f2 g2, .slice e3 f3 g3] 129 (0,0))) (flsAt_one (c:=(z0,(e1,f1,g1),(e2,f2,g2),(e3,f3,g3))) HA10.out HFn10.out) rfl (by decide) (fun r hr => by rw [List.mem_singleton.1 hr];exact HSn.out.un))
         clear HR9 HO9 HG9 HFn9 HA10
         go_wp2_with fail
         refine HC.out.mono ?_
         rintro e w11 ⟨rfl,hb⟩
         have HR11:=Lib.hid (HR10.out.below hb HR10.out.lt)
         have HO11:=Lib.hid (HO10.out.later hb)
         have HG11:Hid (Gen b w w11 (m + 1 + 40 * j + 33)):=Lib.hid (HG10.out.below0 hb HG10.out.s.lt)
         have HFn11:=Lib.hid (HFn10.out.keep (S:=[]) (KeepT.of_below hb) (by simp) (by simp))
         clear hb HC HR10 HO10 HG10 HFn10 r0 r1 r2 r3
         generalize rowsF [rn]=F at *
         by_cases hF:F=0
         ·subst hF
          go_wp2_with fail
          go_meet
          case rel => exact ⟨rn,(z0,(e1,f1,g1),(e2,f2,g2),(e3,f3,g3)),HR11.out,HFn11.out,HSn.out,HO11.out,HG11.out⟩
         ·have hF2:(F != 0)=true:=by simpa using hF
          clear hF
          go_wp2_with fail
          exact ⟨⟨j + 1,L,by omega,by go_num,HO11,Lib.hid (by have:=HL.out;rw [HN.out];omega),HK,Lib.hid (HG11.out.mono (by omega))⟩,by simp [intOf];omega⟩
       ·have y1:(y == 0)=false:=by simp;exact fun h => hpr (.inl h)
        have y2:(y == 6)=false:=by simp;exact fun h => hpr (.inr (.inl h))
        have y3:(y == 17)=false:=by simp;exact fun h => hpr (.inr (.inr h))
        clear hpr
        go_upto_region 17 with fail
        clear y1 y2 y3 q0
        have HR8:=HR7
        have HO8:=HO7
        have HG8:=HG7
        have HP8:Hid (∃ (r2:FR) (cq:FC),Blk w7 O 129 (fcC cq).toArray∧FlcT w7 r2 cq∧r2.Sm):=Lib.hid ⟨ro,(y,(b1,p1,d1),(b2,p2,d2),(b3,p3,d3)),HQ7.out,HFo7.out,HSo.out⟩
        clear HQ7 HR7 HO7 HG7 HF7 HFo7
        generalize w7=w8 at *
        obtain ⟨rn,⟨z0,⟨e1,f1,g1⟩,⟨e2,f2,g2⟩,⟨e3,f3,g3⟩⟩,hP,hFn,hSn⟩:=HP8.out
        have HPk:=Lib.hid hP
        have HFn:=Lib.hid hFn
        have HSn:=Lib.hid hSn
        clear hP hFn hSn HP8
        have q0:=HPk.out.cell 0
        have q1:=HPk.out.cell 1
        have q2:=HPk.out.cell 2
        have q3:=HPk.out.cell 3
        have r0:=HR8.out.cell 0
        have r1:=HR8.out.cell 1
        have r2:=HR8.out.cell 2
        have r3:=HR8.out.cell 3
        simp [fcC] at q0 q1 q2 q3 r0 r1 r2 r3
        have rf:=HR8.out.free
        go_upto_region 18 with fail
        have HR9:Hid (Blk ((((w8.setCell ⟨R,0,none⟩ (.int .i64 z0)).setCell ⟨R,1,none⟩ (.slice e1 f1 g1)).setCell ⟨R,2,none⟩ (.slice e2 f2 g2)).setCell ⟨R,3,none⟩ (.slice e3 f3 g3)) R 129 #[.int .i64 z0, .slice e1 f1 g1, .slice e2 f2 g2, .slice e3 f3 g3]):=Lib.hid ((((HR8.out.set 0 (.int .i64 z0)).set 1 (.slice e1 f1 g1)).set 2 (.slice e2 f2 g2)).set 3 (.slice e3 f3 g3))
        have HO9:=Lib.hid (HO8.out.set4 HR8.out HW2.out (.int .i64 z0) (.slice e1 f1 g1) (.slice e2 f2 g2) (.slice e3 f3 g3))
        have HG9:Hid (Gen b w ((((w8.setCell ⟨R,0,none⟩ (.int .i64 z0)).setCell ⟨R,1,none⟩ (.slice e1 f1 g1)).setCell ⟨R,2,none⟩ (.slice e2 f2 g2)).setCell ⟨R,3,none⟩ (.slice e3 f3 g3)) (m + 1 + 40 * j + 33)):=Lib.hid (by
         repeat refine Gen.setCell ?_ _ _ hwR (Nat.lt_of_lt_of_le hblt hwR)
         exact HG8.out)
        have HFn9:=Lib.hid (HFn.out.keep (KeepT.set4 (S:=[129]) HR8.out (by simp) (.int .i64 z0) (.slice e1 f1 g1) (.slice e2 f2 g2) (.slice e3 f3 g3)) (by decide) (by decide))
        generalize ((((w8.setCell ⟨R,0,none⟩ (.int .i64 z0)).setCell ⟨R,1,none⟩ (.slice e1 f1 g1)).setCell ⟨R,2,none⟩ (.slice e2 f2 g2)).setCell ⟨R,3,none⟩ (.slice e3 f3 g3))=w9 at *
        clear q0 q1 q2 q3 r0 r1 r2 r3 rf HPk HR8 HO8 HG8 HFn
        have r0:=HR9.out.cell 0
        have r1:=HR9.out.cell 1
        have r2:=HR9.out.cell 2
        have r3:=HR9.out.cell 3
        simp at r0 r1 r2 r3
        have HA10:Hid (Blk (w9.alloc (.cells #[.int .i64 z0, .slice e1 f1 g1, .slice e2 f2 g2, .slice e3 f3 g3] 129 (0,0))) w9.heap.size 129 #[.int .i64 z0, .slice e1 f1 g1, .slice e2 f2 g2, .slice e3 f3 g3]):=Lib.hid (Blk.new w9 _ _)
        have HR10:=Lib.hid (HR9.out.alloc (.cells #[.int .i64 z0, .slice e1 f1 g1, .slice e2 f2 g2, .slice e3 f3 g3] 129 (0,0)))
        have HO10:Hid (FlO (w9.alloc (.cells #[.int .i64 z0, .slice e1 f1 g1, .slice e2 f2 g2, .slice e3 f3 g3] 129 (0,0))) w.heap.size (.slice (some ⟨g,o,none⟩) ln c) L):=Lib.hid (HO9.out.later (below_alloc (Below.refl _ _) _))
        have HG10:=Lib.hid (HG9.out.alloc (.cells #[.int .i64 z0, .slice e1 f1 g1, .slice e2 f2 g2, .slice e3 f3 g3] 129 (0,0)))
        have HFn10:Hid (FlcT (w9.alloc (.cells #[.int .i64 z0, .slice e1 f1 g1, .slice e2 f2 g2, .slice e3 f3 g3] 129 (0,0))) rn (z0,(e1,f1,g1),(e2,f2,g2),(e3,f3,g3))):=Lib.hid (HFn9.out.keep (S:=[]) (KeepT.of_below (below_alloc (Below.refl _ _) _)) (by simp) (by simp))
        have HC:=Lib.hid (rowsFault_any (some ⟨w9.heap.size,0,none⟩) 1 1 [rn] (w9.alloc (.cells #[.int .i64 z0, .slice e1 f1 g1, .slice e2 f2 g2, .slice e3 f3 g3] 129 (0,0))) (flsAt_one (c:=(z0,(e1,f1,g1),(e2,f2,g2),(e3,f3,g3))) HA10.out HFn10.out) rfl (by decide) (fun r hr => by rw [List.mem_singleton.1 hr];exact HSn.out.un))
        clear HR9 HO9 HG9 HFn9 HA10
        go_wp2_with fail
        refine HC.out.mono ?_
        rintro e w11 ⟨rfl,hb⟩
        have HR11:=Lib.hid (HR10.out.below hb HR10.out.lt)
        have HO11:=Lib.hid (HO10.out.later hb)
        have HG11:Hid (Gen b w w11 (m + 1 + 40 * j + 33)):=Lib.hid (HG10.out.below0 hb HG10.out.s.lt)
        have HFn11:=Lib.hid (HFn10.out.keep (S:=[]) (KeepT.of_below hb) (by simp) (by simp))
        clear hb HC HR10 HO10 HG10 HFn10 r0 r1 r2 r3
        generalize rowsF [rn]=F at *
        by_cases hF:F=0
        ·subst hF
         go_wp2_with fail
         go_meet
         case rel => exact ⟨rn,(z0,(e1,f1,g1),(e2,f2,g2),(e3,f3,g3)),HR11.out,HFn11.out,HSn.out,HO11.out,HG11.out⟩
        ·have hF2:(F != 0)=true:=by simpa using hF
         clear hF
         go_wp2_with fail
         exact ⟨⟨j + 1,L,by omega,by go_num,HO11,Lib.hid (by have:=HL.out;rw [HN.out];omega),HK,Lib.hid (HG11.out.mono (by omega))⟩,by simp [intOf];omega⟩
      ·have q3:=HQ7.out.cell 3
       simp at q3
       by_cases hp3:p3=1
       ·obtain ⟨po,hpo⟩:∃ po,ro.po=[po]:=by
         have:=HFo7.out.l3
         rw [hp3] at this
         rcases hq:ro.po with _ | ⟨a,_ | ⟨b,l⟩⟩
         ·rw [hq] at this;simp at this
         ·exact ⟨a,rfl⟩
         ·rw [hq] at this;simp at this
        obtain ⟨pu,pv⟩:=po
        have ht3:RdT layPo w7 b3 ro.po:=HFo7.out.t3
        rw [hpo] at ht3
        obtain ⟨g3,o3,hb3,hg3,t0,t1⟩:=ht3.rd.po (k:=0) (p:=(pu,pv)) rfl
        have q3':w7.cell? ⟨O,3,none⟩=some (.slice (some ⟨g3,o3,none⟩) 1 d3):=by rw [q3,hb3,hp3]
        simp at t0 t1
        clear hpo ht3 hg3 hb3 hp3 q3
        by_cases hu:pu=0
        ·subst hu
         by_cases hv:pv=65535
         ·subst hv
          go_upto_region 9 with fail
          clear t0 t1 q3'
          have r0:=HR7.out.cell 0
          simp at r0
          have qf:=HQ7.out.free
          have q0:=HQ7.out.cell 0
          simp at q0
          go_upto_region 17 with fail
          have HR8:=Lib.hid (HR7.out.far (show R ≠ O by omega) 0 (.int .i64 x))
          have HO8:=Lib.hid (HO7.out.setFar HQ7.out HW7.out 0 (.int .i64 x))
          have HG8:=Lib.hid (HG7.out.setCell ⟨O,0,none⟩ (.int .i64 x) (show w.heap.size≤O by omega) (show b < O by omega))
          have hKs:KeepT [129] w7 (w7.setCell ⟨O,0,none⟩ (.int .i64 x)):=KeepT.of_set HQ7.out (by simp)
          have HP8:Hid (∃ (r2:FR) (cq:FC),Blk (w7.setCell ⟨O,0,none⟩ (.int .i64 x)) O 129 (fcC cq).toArray∧FlcT (w7.setCell ⟨O,0,none⟩ (.int .i64 x)) r2 cq∧r2.Sm):=Lib.hid (by
           have k1:=HF7.out.keep hKs (by decide) (by decide)
           have k2:=HFo7.out.keep hKs (by decide) (by decide)
           refine ⟨⟨r.p,ro.src,ro.dst,ro.po⟩,(x,(b1,p1,d1),(b2,p2,d2),(b3,p3,d3)),HQ7.out.set 0 _,⟨k1.e,k2.t1,k2.t2,k2.t3,k2.l1,k2.l2,k2.l3,k2.m1,k2.m2,k2.m3⟩,⟨⟨HSo.out.ok.v1,HSo.out.ok.v2⟩,HSo.out.l1,HSo.out.l2,HSo.out.l3,HS2.out.p0,HS2.out.p1,HSo.out.po⟩⟩)
          generalize (w7.setCell ⟨O,0,none⟩ (.int .i64 x))=w8 at *
          clear r0 qf q0 hKs HQ7 HR7 HO7 HG7 HF7 HFo7
          obtain ⟨rn,⟨z0,⟨e1,f1,g1⟩,⟨e2,f2,g2⟩,⟨e3,f3,g3⟩⟩,hP,hFn,hSn⟩:=HP8.out
          have HPk:=Lib.hid hP
          have HFn:=Lib.hid hFn
          have HSn:=Lib.hid hSn
          clear hP hFn hSn HP8
          have q0:=HPk.out.cell 0
          have q1:=HPk.out.cell 1
          have q2:=HPk.out.cell 2
          have q3:=HPk.out.cell 3
          have r0:=HR8.out.cell 0
          have r1:=HR8.out.cell 1
          have r2:=HR8.out.cell 2
          have r3:=HR8.out.cell 3
          simp [fcC] at q0 q1 q2 q3 r0 r1 r2 r3
          have rf:=HR8.out.free
          go_upto_region 18 with fail
          have HR9:Hid (Blk ((((w8.setCell ⟨R,0,none⟩ (.int .i64 z0)).setCell ⟨R,1,none⟩ (.slice e1 f1 g1)).setCell ⟨R,2,none⟩ (.slice e2 f2 g2)).setCell ⟨R,3,none⟩ (.slice e3 f3 g3)) R 129 #[.int .i64 z0, .slice e1 f1 g1, .slice e2 f2 g2, .slice e3 f3 g3]):=Lib.hid ((((HR8.out.set 0 (.int .i64 z0)).set 1 (.slice e1 f1 g1)).set 2 (.slice e2 f2 g2)).set 3 (.slice e3 f3 g3))
          have HO9:=Lib.hid (HO8.out.set4 HR8.out HW2.out (.int .i64 z0) (.slice e1 f1 g1) (.slice e2 f2 g2) (.slice e3 f3 g3))
          have HG9:Hid (Gen b w ((((w8.setCell ⟨R,0,none⟩ (.int .i64 z0)).setCell ⟨R,1,none⟩ (.slice e1 f1 g1)).setCell ⟨R,2,none⟩ (.slice e2 f2 g2)).setCell ⟨R,3,none⟩ (.slice e3 f3 g3)) (m + 1 + 40 * j + 33)):=Lib.hid (by
           repeat refine Gen.setCell ?_ _ _ hwR (Nat.lt_of_lt_of_le hblt hwR)
           exact HG8.out)
          have HFn9:=Lib.hid (HFn.out.keep (KeepT.set4 (S:=[129]) HR8.out (by simp) (.int .i64 z0) (.slice e1 f1 g1) (.slice e2 f2 g2) (.slice e3 f3 g3)) (by decide) (by decide))
          generalize ((((w8.setCell ⟨R,0,none⟩ (.int .i64 z0)).setCell ⟨R,1,none⟩ (.slice e1 f1 g1)).setCell ⟨R,2,none⟩ (.slice e2 f2 g2)).setCell ⟨R,3,none⟩ (.slice e3 f3 g3))=w9 at *
          clear q0 q1 q2 q3 r0 r1 r2 r3 rf HPk HR8 HO8 HG8 HFn
          have r0:=HR9.out.cell 0
          have r1:=HR9.out.cell 1
          have r2:=HR9.out.cell 2
          have r3:=HR9.out.cell 3
          simp at r0 r1 r2 r3
          have HA10:Hid (Blk (w9.alloc (.cells #[.int .i64 z0, .slice e1 f1 g1, .slice e2 f2 g2, .slice e3 f3 g3] 129 (0,0))) w9.heap.size 129 #[.int .i64 z0, .slice e1 f1 g1, .slice e2 f2 g2, .slice e3 f3 g3]):=Lib.hid (Blk.new w9 _ _)
          have HR10:=Lib.hid (HR9.out.alloc (.cells #[.int .i64 z0, .slice e1 f1 g1, .slice e2 f2 g2, .slice e3 f3 g3] 129 (0,0)))
          have HO10:Hid (FlO (w9.alloc (.cells #[.int .i64 z0, .slice e1 f1 g1, .slice e2 f2 g2, .slice e3 f3 g3] 129 (0,0))) w.heap.size (.slice (some ⟨g,o,none⟩) ln c) L):=Lib.hid (HO9.out.later (below_alloc (Below.refl _ _) _))
          have HG10:=Lib.hid (HG9.out.alloc (.cells #[.int .i64 z0, .slice e1 f1 g1, .slice e2 f2 g2, .slice e3 f3 g3] 129 (0,0)))
          have HFn10:Hid (FlcT (w9.alloc (.cells #[.int .i64 z0, .slice e1 f1 g1, .slice e2 f2 g2, .slice e3 f3 g3] 129 (0,0))) rn (z0,(e1,f1,g1),(e2,f2,g2),(e3,f3,g3))):=Lib.hid (HFn9.out.keep (S:=[]) (KeepT.of_below (below_alloc (Below.refl _ _) _)) (by simp) (by simp))
          have HC:=Lib.hid (rowsFault_any (some ⟨w9.heap.size,0,none⟩) 1 1 [rn] (w9.alloc (.cells #[.int .i64 z0, .slice e1 f1 g1, .slice e2 f2 g2, .slice e3 f3 g3] 129 (0,0))) (flsAt_one (c:=(z0,(e1,f1,g1),(e2,f2,g2),(e3,f3,g3))) HA10.out HFn10.out) rfl (by decide) (fun r hr => by rw [List.mem_singleton.1 hr];exact HSn.out.un))
          clear HR9 HO9 HG9 HFn9 HA10
          go_wp2_with fail
          refine HC.out.mono ?_
          rintro e w11 ⟨rfl,hb⟩
          have HR11:=Lib.hid (HR10.out.below hb HR10.out.lt)
          have HO11:=Lib.hid (HO10.out.later hb)
          have HG11:Hid (Gen b w w11 (m + 1 + 40 * j + 33)):=Lib.hid (HG10.out.below0 hb HG10.out.s.lt)
          have HFn11:=Lib.hid (HFn10.out.keep (S:=[]) (KeepT.of_below hb) (by simp) (by simp))
          clear hb HC HR10 HO10 HG10 HFn10 r0 r1 r2 r3
          generalize rowsF [rn]=F at *
          by_cases hF:F=0
          ·subst hF
           go_wp2_with fail
           go_meet
           case rel => exact ⟨rn,(z0,(e1,f1,g1),(e2,f2,g2),(e3,f3,g3)),HR11.out,HFn11.out,HSn.out,HO11.out,HG11.out⟩
          ·have hF2:(F != 0)=true:=by simpa using hF
           clear hF
           go_wp2_with fail
           exact ⟨⟨j + 1,L,by omega,by go_num,HO11,Lib.hid (by have:=HL.out;rw [HN.out];omega),HK,Lib.hid (HG11.out.mono (by omega))⟩,by simp [intOf];omega⟩
         ·have hv':(pv == 65535)=false:=by simpa using hv
          go_upto_region 17 with fail
          clear t0 t1 q3' hv hv'
          have HR8:=HR7
          have HO8:=HO7
          have HG8:=HG7
          have HP8:Hid (∃ (r2:FR) (cq:FC),Blk w7 O 129 (fcC cq).toArray∧FlcT w7 r2 cq∧r2.Sm):=Lib.hid ⟨ro,(y,(b1,p1,d1),(b2,p2,d2),(b3,p3,d3)),HQ7.out,HFo7.out,HSo.out⟩
          clear HQ7 HR7 HO7 HG7 HF7 HFo7
          generalize w7=w8 at *
          obtain ⟨rn,⟨z0,⟨e1,f1,g1⟩,⟨e2,f2,g2⟩,⟨e3,f3,g3⟩⟩,hP,hFn,hSn⟩:=HP8.out
          have HPk:=Lib.hid hP
          have HFn:=Lib.hid hFn
          have HSn:=Lib.hid hSn
          clear hP hFn hSn HP8
          have q0:=HPk.out.cell 0
          have q1:=HPk.out.cell 1
          have q2:=HPk.out.cell 2
          have q3:=HPk.out.cell 3
          have r0:=HR8.out.cell 0
          have r1:=HR8.out.cell 1
          have r2:=HR8.out.cell 2
          have r3:=HR8.out.cell 3
          simp [fcC] at q0 q1 q2 q3 r0 r1 r2 r3
          have rf:=HR8.out.free
          go_upto_region 18 with fail
          have HR9:Hid (Blk ((((w8.setCell ⟨R,0,none⟩ (.int .i64 z0)).setCell ⟨R,1,none⟩ (.slice e1 f1 g1)).setCell ⟨R,2,none⟩ (.slice e2 f2 g2)).setCell ⟨R,3,none⟩ (.slice e3 f3 g3)) R 129 #[.int .i64 z0, .slice e1 f1 g1, .slice e2 f2 g2, .slice e3 f3 g3]):=Lib.hid ((((HR8.out.set 0 (.int .i64 z0)).set 1 (.slice e1 f1 g1)).set 2 (.slice e2 f2 g2)).set 3 (.slice e3 f3 g3))
          have HO9:=Lib.hid (HO8.out.set4 HR8.out HW2.out (.int .i64 z0) (.slice e1 f1 g1) (.slice e2 f2 g2) (.slice e3 f3 g3))
          have HG9:Hid (Gen b w ((((w8.setCell ⟨R,0,none⟩ (.int .i64 z0)).setCell ⟨R,1,none⟩ (.slice e1 f1 g1)).setCell ⟨R,2,none⟩ (.slice e2 f2 g2)).setCell ⟨R,3,none⟩ (.slice e3 f3 g3)) (m + 1 + 40 * j + 33)):=Lib.hid (by
           repeat refine Gen.setCell ?_ _ _ hwR (Nat.lt_of_lt_of_le hblt hwR)
           exact HG8.out)
          have HFn9:=Lib.hid (HFn.out.keep (KeepT.set4 (S:=[129]) HR8.out (by simp) (.int .i64 z0) (.slice e1 f1 g1) (.slice e2 f2 g2) (.slice e3 f3 g3)) (by decide) (by decide))
          generalize ((((w8.setCell ⟨R,0,none⟩ (.int .i64 z0)).setCell ⟨R,1,none⟩ (.slice e1 f1 g1)).setCell ⟨R,2,none⟩ (.slice e2 f2 g2)).setCell ⟨R,3,none⟩ (.slice e3 f3 g3))=w9 at *
          clear q0 q1 q2 q3 r0 r1 r2 r3 rf HPk HR8 HO8 HG8 HFn
          have r0:=HR9.out.cell 0
          have r1:=HR9.out.cell 1
          have r2:=HR9.out.cell 2
          have r3:=HR9.out.cell 3
          simp at r0 r1 r2 r3
          have HA10:Hid (Blk (w9.alloc (.cells #[.int .i64 z0, .slice e1 f1 g1, .slice e2 f2 g2, .slice e3 f3 g3] 129 (0,0))) w9.heap.size 129 #[.int .i64 z0, .slice e1 f1 g1, .slice e2 f2 g2, .slice e3 f3 g3]):=Lib.hid (Blk.new w9 _ _)
          have HR10:=Lib.hid (HR9.out.alloc (.cells #[.int .i64 z0, .slice e1 f1 g1, .slice e2 f2 g2, .slice e3 f3 g3] 129 (0,0)))
          have HO10:Hid (FlO (w9.alloc (.cells #[.int .i64 z0, .slice e1 f1 g1, .slice e2 f2 g2, .slice e3 f3 g3] 129 (0,0))) w.heap.size (.slice (some ⟨g,o,none⟩) ln c) L):=Lib.hid (HO9.out.later (below_alloc (Below.refl _ _) _))
          have HG10:=Lib.hid (HG9.out.alloc (.cells #[.int .i64 z0, .slice e1 f1 g1, .slice e2 f2 g2, .slice e3 f3 g3] 129 (0,0)))
          have HFn10:Hid (FlcT (w9.alloc (.cells #[.int .i64 z0, .slice e1 f1 g1, .slice e2 f2 g2, .slice e3 f3 g3] 129 (0,0))) rn (z0,(e1,f1,g1),(e2,f2,g2),(e3,f3,g3))):=Lib.hid (HFn9.out.keep (S:=[]) (KeepT.of_below (below_alloc (Below.refl _ _) _)) (by simp) (by simp))
          have HC:=Lib.hid (rowsFault_any (some ⟨w9.heap.size,0,none⟩) 1 1 [rn] (w9.alloc (.cells #[.int .i64 z0, .slice e1 f1 g1, .slice e2 f2 g2, .slice e3 f3 g3] 129 (0,0))) (flsAt_one (c:=(z0,(e1,f1,g1),(e2,f2,g2),(e3,f3,g3))) HA10.out HFn10.out) rfl (by decide) (fun r hr => by rw [List.mem_singleton.1 hr];exact HSn.out.un))
          clear HR9 HO9 HG9 HFn9 HA10
          go_wp2_with fail
          refine HC.out.mono ?_
          rintro e w11 ⟨rfl,hb⟩
          have HR11:=Lib.hid (HR10.out.below hb HR10.out.lt)
          have HO11:=Lib.hid (HO10.out.later hb)
          have HG11:Hid (Gen b w w11 (m + 1 + 40 * j + 33)):=Lib.hid (HG10.out.below0 hb HG10.out.s.lt)
          have HFn11:=Lib.hid (HFn10.out.keep (S:=[]) (KeepT.of_below hb) (by simp) (by simp))
          clear hb HC HR10 HO10 HG10 HFn10 r0 r1 r2 r3
          generalize rowsF [rn]=F at *
          by_cases hF:F=0
          ·subst hF
           go_wp2_with fail
           go_meet
           case rel => exact ⟨rn,(z0,(e1,f1,g1),(e2,f2,g2),(e3,f3,g3)),HR11.out,HFn11.out,HSn.out,HO11.out,HG11.out⟩
          ·have hF2:(F != 0)=true:=by simpa using hF
           clear hF
           go_wp2_with fail
           exact ⟨⟨j + 1,L,by omega,by go_num,HO11,Lib.hid (by have:=HL.out;rw [HN.out];omega),HK,Lib.hid (HG11.out.mono (by omega))⟩,by simp [intOf];omega⟩
        ·have hu':(pu == 0)=false:=by simpa using hu
         go_upto_region 17 with fail
         clear t0 t1 q3' hu hu'
         have HR8:=HR7
         have HO8:=HO7
         have HG8:=HG7
         have HP8:Hid (∃ (r2:FR) (cq:FC),Blk w7 O 129 (fcC cq).toArray∧FlcT w7 r2 cq∧r2.Sm):=Lib.hid ⟨ro,(y,(b1,p1,d1),(b2,p2,d2),(b3,p3,d3)),HQ7.out,HFo7.out,HSo.out⟩
         clear HQ7 HR7 HO7 HG7 HF7 HFo7
         generalize w7=w8 at *
         obtain ⟨rn,⟨z0,⟨e1,f1,g1⟩,⟨e2,f2,g2⟩,⟨e3,f3,g3⟩⟩,hP,hFn,hSn⟩:=HP8.out
         have HPk:=Lib.hid hP
         have HFn:=Lib.hid hFn
         have HSn:=Lib.hid hSn
         clear hP hFn hSn HP8
         have q0:=HPk.out.cell 0
         have q1:=HPk.out.cell 1
         have q2:=HPk.out.cell 2
         have q3:=HPk.out.cell 3
         have r0:=HR8.out.cell 0
         have r1:=HR8.out.cell 1
         have r2:=HR8.out.cell 2
         have r3:=HR8.out.cell 3
         simp [fcC] at q0 q1 q2 q3 r0 r1 r2 r3
         have rf:=HR8.out.free
         go_upto_region 18 with fail
         have HR9:Hid (Blk ((((w8.setCell ⟨R,0,none⟩ (.int .i64 z0)).setCell ⟨R,1,none⟩ (.slice e1 f1 g1)).setCell ⟨R,2,none⟩ (.slice e2 f2 g2)).setCell ⟨R,3,none⟩ (.slice e3 f3 g3)) R 129 #[.int .i64 z0, .slice e1 f1 g1, .slice e2 f2 g2, .slice e3 f3 g3]):=Lib.hid ((((HR8.out.set 0 (.int .i64 z0)).set 1 (.slice e1 f1 g1)).set 2 (.slice e2 f2 g2)).set 3 (.slice e3 f3 g3))
         have HO9:=Lib.hid (HO8.out.set4 HR8.out HW2.out (.int .i64 z0) (.slice e1 f1 g1) (.slice e2 f2 g2) (.slice e3 f3 g3))
         have HG9:Hid (Gen b w ((((w8.setCell ⟨R,0,none⟩ (.int .i64 z0)).setCell ⟨R,1,none⟩ (.slice e1 f1 g1)).setCell ⟨R,2,none⟩ (.slice e2 f2 g2)).setCell ⟨R,3,none⟩ (.slice e3 f3 g3)) (m + 1 + 40 * j + 33)):=Lib.hid (by
          repeat refine Gen.setCell ?_ _ _ hwR (Nat.lt_of_lt_of_le hblt hwR)
          exact HG8.out)
         have HFn9:=Lib.hid (HFn.out.keep (KeepT.set4 (S:=[129]) HR8.out (by simp) (.int .i64 z0) (.slice e1 f1 g1) (.slice e2 f2 g2) (.slice e3 f3 g3)) (by decide) (by decide))
         generalize ((((w8.setCell ⟨R,0,none⟩ (.int .i64 z0)).setCell ⟨R,1,none⟩ (.slice e1 f1 g1)).setCell ⟨R,2,none⟩ (.slice e2 f2 g2)).setCell ⟨R,3,none⟩ (.slice e3 f3 g3))=w9 at *
         clear q0 q1 q2 q3 r0 r1 r2 r3 rf HPk HR8 HO8 HG8 HFn
         have r0:=HR9.out.cell 0
         have r1:=HR9.out.cell 1
         have r2:=HR9.out.cell 2
         have r3:=HR9.out.cell 3
         simp at r0 r1 r2 r3
         have HA10:Hid (Blk (w9.alloc (.cells #[.int .i64 z0, .slice e1 f1 g1, .slice e2 f2 g2, .slice e3 f3 g3] 129 (0,0))) w9.heap.size 129 #[.int .i64 z0, .slice e1 f1 g1, .slice e2 f2 g2, .slice e3 f3 g3]):=Lib.hid (Blk.new w9 _ _)
         have HR10:=Lib.hid (HR9.out.alloc (.cells #[.int .i64 z0, .slice e1 f1 g1, .slice e2 f2 g2, .slice e3 f3 g3] 129 (0,0)))
         have HO10:Hid (FlO (w9.alloc (.cells #[.int .i64 z0, .slice e1 f1 g1, .slice e2 f2 g2, .slice e3 f3 g3] 129 (0,0))) w.heap.size (.slice (some ⟨g,o,none⟩) ln c) L):=Lib.hid (HO9.out.later (below_alloc (Below.refl _ _) _))
         have HG10:=Lib.hid (HG9.out.alloc (.cells #[.int .i64 z0, .slice e1 f1 g1, .slice e2 f2 g2, .slice e3 f3 g3] 129 (0,0)))
         have HFn10:Hid (FlcT (w9.alloc (.cells #[.int .i64 z0, .slice e1 f1 g1, .slice e2 f2 g2, .slice e3 f3 g3] 129 (0,0))) rn (z0,(e1,f1,g1),(e2,f2,g2),(e3,f3,g3))):=Lib.hid (HFn9.out.keep (S:=[]) (KeepT.of_below (below_alloc (Below.refl _ _) _)) (by simp) (by simp))
         have HC:=Lib.hid (rowsFault_any (some ⟨w9.heap.size,0,none⟩) 1 1 [rn] (w9.alloc (.cells #[.int .i64 z0, .slice e1 f1 g1, .slice e2 f2 g2, .slice e3 f3 g3] 129 (0,0))) (flsAt_one (c:=(z0,(e1,f1,g1),(e2,f2,g2),(e3,f3,g3))) HA10.out HFn10.out) rfl (by decide) (fun r hr => by rw [List.mem_singleton.1 hr];exact HSn.out.un))
         clear HR9 HO9 HG9 HFn9 HA10
         go_wp2_with fail
         refine HC.out.mono ?_
         rintro e w11 ⟨rfl,hb⟩
         have HR11:=Lib.hid (HR10.out.below hb HR10.out.lt)
         have HO11:=Lib.hid (HO10.out.later hb)
         have HG11:Hid (Gen b w w11 (m + 1 + 40 * j + 33)):=Lib.hid (HG10.out.below0 hb HG10.out.s.lt)
         have HFn11:=Lib.hid (HFn10.out.keep (S:=[]) (KeepT.of_below hb) (by simp) (by simp))
         clear hb HC HR10 HO10 HG10 HFn10 r0 r1 r2 r3
         generalize rowsF [rn]=F at *
         by_cases hF:F=0
         ·subst hF
          go_wp2_with fail
          go_meet
          case rel => exact ⟨rn,(z0,(e1,f1,g1),(e2,f2,g2),(e3,f3,g3)),HR11.out,HFn11.out,HSn.out,HO11.out,HG11.out⟩
         ·have hF2:(F != 0)=true:=by simpa using hF
          clear hF
          go_wp2_with fail
          exact ⟨⟨j + 1,L,by omega,by go_num,HO11,Lib.hid (by have:=HL.out;rw [HN.out];omega),HK,Lib.hid (HG11.out.mono (by omega))⟩,by simp [intOf];omega⟩
       ·have hp':((p3:Int) == 1)=false:=by simp;omega
        go_upto_region 17 with fail
        clear q3 hp' hp3
        have HR8:=HR7
        have HO8:=HO7
        have HG8:=HG7
        have HP8:Hid (∃ (r2:FR) (cq:FC),Blk w7 O 129 (fcC cq).toArray∧FlcT w7 r2 cq∧r2.Sm):=Lib.hid ⟨ro,(y,(b1,p1,d1),(b2,p2,d2),(b3,p3,d3)),HQ7.out,HFo7.out,HSo.out⟩
        clear HQ7 HR7 HO7 HG7 HF7 HFo7
        generalize w7=w8 at *
        obtain ⟨rn,⟨z0,⟨e1,f1,g1⟩,⟨e2,f2,g2⟩,⟨e3,f3,g3⟩⟩,hP,hFn,hSn⟩:=HP8.out
        have HPk:=Lib.hid hP
        have HFn:=Lib.hid hFn
        have HSn:=Lib.hid hSn
        clear hP hFn hSn HP8
        have q0:=HPk.out.cell 0
        have q1:=HPk.out.cell 1
        have q2:=HPk.out.cell 2
        have q3:=HPk.out.cell 3
        have r0:=HR8.out.cell 0
        have r1:=HR8.out.cell 1
        have r2:=HR8.out.cell 2
        have r3:=HR8.out.cell 3
        simp [fcC] at q0 q1 q2 q3 r0 r1 r2 r3
        have rf:=HR8.out.free
        go_upto_region 18 with fail
        have HR9:Hid (Blk ((((w8.setCell ⟨R,0,none⟩ (.int .i64 z0)).setCell ⟨R,1,none⟩ (.slice e1 f1 g1)).setCell ⟨R,2,none⟩ (.slice e2 f2 g2)).setCell ⟨R,3,none⟩ (.slice e3 f3 g3)) R 129 #[.int .i64 z0, .slice e1 f1 g1, .slice e2 f2 g2, .slice e3 f3 g3]):=Lib.hid ((((HR8.out.set 0 (.int .i64 z0)).set 1 (.slice e1 f1 g1)).set 2 (.slice e2 f2 g2)).set 3 (.slice e3 f3 g3))
        have HO9:=Lib.hid (HO8.out.set4 HR8.out HW2.out (.int .i64 z0) (.slice e1 f1 g1) (.slice e2 f2 g2) (.slice e3 f3 g3))
        have HG9:Hid (Gen b w ((((w8.setCell ⟨R,0,none⟩ (.int .i64 z0)).setCell ⟨R,1,none⟩ (.slice e1 f1 g1)).setCell ⟨R,2,none⟩ (.slice e2 f2 g2)).setCell ⟨R,3,none⟩ (.slice e3 f3 g3)) (m + 1 + 40 * j + 33)):=Lib.hid (by
         repeat refine Gen.setCell ?_ _ _ hwR (Nat.lt_of_lt_of_le hblt hwR)
         exact HG8.out)
        have HFn9:=Lib.hid (HFn.out.keep (KeepT.set4 (S:=[129]) HR8.out (by simp) (.int .i64 z0) (.slice e1 f1 g1) (.slice e2 f2 g2) (.slice e3 f3 g3)) (by decide) (by decide))
        generalize ((((w8.setCell ⟨R,0,none⟩ (.int .i64 z0)).setCell ⟨R,1,none⟩ (.slice e1 f1 g1)).setCell ⟨R,2,none⟩ (.slice e2 f2 g2)).setCell ⟨R,3,none⟩ (.slice e3 f3 g3))=w9 at *
        clear q0 q1 q2 q3 r0 r1 r2 r3 rf HPk HR8 HO8 HG8 HFn
        have r0:=HR9.out.cell 0
        have r1:=HR9.out.cell 1
        have r2:=HR9.out.cell 2
        have r3:=HR9.out.cell 3
        simp at r0 r1 r2 r3
        have HA10:Hid (Blk (w9.alloc (.cells #[.int .i64 z0, .slice e1 f1 g1, .slice e2 f2 g2, .slice e3 f3 g3] 129 (0,0))) w9.heap.size 129 #[.int .i64 z0, .slice e1 f1 g1, .slice e2 f2 g2, .slice e3 f3 g3]):=Lib.hid (Blk.new w9 _ _)
        have HR10:=Lib.hid (HR9.out.alloc (.cells #[.int .i64 z0, .slice e1 f1 g1, .slice e2 f2 g2, .slice e3 f3 g3] 129 (0,0)))
        have HO10:Hid (FlO (w9.alloc (.cells #[.int .i64 z0, .slice e1 f1 g1, .slice e2 f2 g2, .slice e3 f3 g3] 129 (0,0))) w.heap.size (.slice (some ⟨g,o,none⟩) ln c) L):=Lib.hid (HO9.out.later (below_alloc (Below.refl _ _) _))
        have HG10:=Lib.hid (HG9.out.alloc (.cells #[.int .i64 z0, .slice e1 f1 g1, .slice e2 f2 g2, .slice e3 f3 g3] 129 (0,0)))
        have HFn10:Hid (FlcT (w9.alloc (.cells #[.int .i64 z0, .slice e1 f1 g1, .slice e2 f2 g2, .slice e3 f3 g3] 129 (0,0))) rn (z0,(e1,f1,g1),(e2,f2,g2),(e3,f3,g3))):=Lib.hid (HFn9.out.keep (S:=[]) (KeepT.of_below (below_alloc (Below.refl _ _) _)) (by simp) (by simp))
        have HC:=Lib.hid (rowsFault_any (some ⟨w9.heap.size,0,none⟩) 1 1 [rn] (w9.alloc (.cells #[.int .i64 z0, .slice e1 f1 g1, .slice e2 f2 g2, .slice e3 f3 g3] 129 (0,0))) (flsAt_one (c:=(z0,(e1,f1,g1),(e2,f2,g2),(e3,f3,g3))) HA10.out HFn10.out) rfl (by decide) (fun r hr => by rw [List.mem_singleton.1 hr];exact HSn.out.un))
        clear HR9 HO9 HG9 HFn9 HA10
        go_wp2_with fail
        refine HC.out.mono ?_
        rintro e w11 ⟨rfl,hb⟩
        have HR11:=Lib.hid (HR10.out.below hb HR10.out.lt)
        have HO11:=Lib.hid (HO10.out.later hb)
        have HG11:Hid (Gen b w w11 (m + 1 + 40 * j + 33)):=Lib.hid (HG10.out.below0 hb HG10.out.s.lt)
        have HFn11:=Lib.hid (HFn10.out.keep (S:=[]) (KeepT.of_below hb) (by simp) (by simp))
        clear hb HC HR10 HO10 HG10 HFn10 r0 r1 r2 r3
        generalize rowsF [rn]=F at *
        by_cases hF:F=0
        ·subst hF
         go_wp2_with fail
         go_meet
         case rel => exact ⟨rn,(z0,(e1,f1,g1),(e2,f2,g2),(e3,f3,g3)),HR11.out,HFn11.out,HSn.out,HO11.out,HG11.out⟩
        ·have hF2:(F != 0)=true:=by simpa using hF
         clear hF
         go_wp2_with fail
         exact ⟨⟨j + 1,L,by omega,by go_num,HO11,Lib.hid (by have:=HL.out;rw [HN.out];omega),HK,Lib.hid (HG11.out.mono (by omega))⟩,by simp [intOf];omega⟩
    case rest =>
     clear HR4 HO4 HF4 HG4 HS2 h1
     obtain ⟨rn,⟨z0,⟨e1,f1,g1⟩,⟨e2,f2,g2⟩,⟨e3,f3,g3⟩⟩,hR,hF,hS,hO,hG⟩:=hcut
     simp only [fcC] at hR
     generalize wc=w5 at *
     have HR5:=Lib.hid hR
     have HF5:=Lib.hid hF
     have HS5:=Lib.hid hS
     have HO5:=Lib.hid hO
     have HG5:=Lib.hid hG
     clear hR hF hS hO hG
     have r0:=HR5.out.cell 0
     have r1:=HR5.out.cell 1
     have r2:=HR5.out.cell 2
     have r3:=HR5.out.cell 3
     simp at r0 r1 r2 r3
     have HO6:Hid (FlO (w5.alloc (.cells #[.int .i64 z0, .slice e1 f1 g1, .slice e2 f2 g2, .slice e3 f3 g3] 129 (0,0))) w.heap.size (.slice ad ln c) L):=Lib.hid (HO5.out.later (below_alloc (Below.refl _ _) _))
     have HF6:Hid (FlcT (w5.alloc (.cells #[.int .i64 z0, .slice e1 f1 g1, .slice e2 f2 g2, .slice e3 f3 g3] 129 (0,0))) rn (z0,(e1,f1,g1),(e2,f2,g2),(e3,f3,g3))):=Lib.hid (HF5.out.keep (S:=[]) (KeepT.of_below (below_alloc (Below.refl _ _) _)) (by simp) (by simp))
     have HG6:=Lib.hid (HG5.out.alloc (.cells #[.int .i64 z0, .slice e1 f1 g1, .slice e2 f2 g2, .slice e3 f3 g3] 129 (0,0)))
     obtain ⟨D,hD,hDl,hDc⟩:=HO6.out
     have HD:=Lib.hid hD
     have HDl:=Lib.hid hDl
     have HDc:=Lib.hid hDc
     have HDn:Hid (D.length=ln):=Lib.hid (hDl.trans HN.out)
     clear hD hDl hDc HO5 HG5 HF5 HO6
     go_wp2_with (at_builtin;refine wpList_app flE rfl (.tmp 79) (.tmp 81) rfl rfl HD.out rfl (src_new layFl w5 (z0,(e1,f1,g1),(e2,f2,g2),(e3,f3,g3)) _ _ ?c0) ?c1 ?c2 ?c3 ?c4 ?_)
     case c0 => rfl
     case c1 => exact layFl.one _
     case c2 => have:=HL.out;unfold maxLen;rw [HDn.out];omega
     case c3 => have:=HL.out;rw [HDn.out];omega
     case c4 => exact HG6.out.g.size
     intro v' w' hO hG
     have HO':Hid (FlO w' w.heap.size v' (L ++ [rn])):=Lib.hid (FlO.snoc HD.out HDl.out HDc.out HF6.out hG (OwnK.snoc hO))
     have HG':Hid (Gen b w w' (m + 1 + 40 * j + 33)):=Lib.hid (HG6.out.below (hG.below HG6.out.g.size (own_base HD.out)) (Nat.le_refl _) hblt)
     have HK':Hid (∀ r ∈ L ++ [rn],r.Sm):=Lib.hid fun q hq => by
      rcases List.mem_append.1 hq with hq | hq
      ·exact HK.out q hq
      ·rw [List.mem_singleton.1 hq];exact HS5.out
     clear hO hG HD HDl HDc HG6 HF6 r0 r1 r2 r3
     go_wp2
     exact ⟨⟨j + 1,L ++ [rn],by omega,by go_num,HO',Lib.hid (by have:=HL.out;rw [List.length_append,HN.out];simp;omega),HK',Lib.hid (HG'.out.mono (by omega))⟩,by simp [intOf];omega⟩
  ·obtain rfl:j=K:=by omega
   go_wp2_with fail
   go_ret
   exact ⟨_,L,rfl,HO.out,by have:=HL.out;omega,HK.out,HG.out.mono (by omega)⟩
theorem FlO.setTo {w:World} {B g c n k j:Nat} {L:List FR} {C:List FC} {r:FR} {x y:FC} {v:Value} (hO:OwnK layFl w B (.slice (some ⟨g,0,none⟩) n c) C) (hl:C.length=L.length) (hc:∀ (k:Nat) (c:FC) (r:FR),C[k]?=some c→L[k]?=some r→FlcT w r c)
  (hx:C[k]?=some x) (hj:j < 4) (hy:fcC y=(fcC x).set j v) (hr:FlcT w r y):FlO (w.setCell ⟨g,k * 4 + j,none⟩ v) B (.slice (some ⟨g,0,none⟩) n c) (L.set k r):=by
 obtain ⟨_,_,_,_,cur,hb,_⟩:=hO.block
 have hkt:KeepT [129] w (w.setCell ⟨g,k * 4 + j,none⟩ v):=KeepT.of_set (cs:=cur) hb (by simp [layFl])
 refine ⟨C.set k y,hO.setTo hx hj hy,by simp [hl],fun i c2 r2 h1 h2 => FlcT.keep (w:=w) ?_ hkt (by decide) (by decide)⟩
 by_cases e:i=k
 ·subst e
  rw [List.getElem?_set_self (List.getElem?_eq_some_iff.1 hx).1] at h1
  rw [List.getElem?_set_self (by rw [← hl];exact (List.getElem?_eq_some_iff.1 hx).1)] at h2
  injection h1 with h1
  injection h2 with h2
  subst h1 h2
  exact hr
 ·rw [List.getElem?_set_ne (Ne.symm e)] at h1
  rw [List.getElem?_set_ne (Ne.symm e)] at h2
  exact hc i c2 r2 h1 h2
structure FR.Us (r:FR):Prop where
 un:r.Un
 s1:r.src.length≤30
 s2:r.dst.length≤30
 s3:r.po.length≤30
theorem FR.Sm.us {r:FR} (h:r.Sm):r.Us:=⟨h.un,h.l1,h.l2,h.l3⟩
theorem un_set {L:List FR} {k:Nat} {r:FR} (h:∀ r ∈ L,r.Sm) (hr:r.Us):∀ q ∈ L.set k r,q.Us:=fun q hq => by
 rcases List.mem_or_eq_of_mem_set hq with hq | rfl
 ·exact (h q hq).us
 ·exact hr
theorem Blk.newAt (w:World) (t:TypeId) (cs:Array Value) {g:Nat} (h:w.heap.size=g):Blk (w.alloc (.cells cs t (0,0))) g t cs:=h ▸ Blk.new w t cs
theorem Blk.rdT {α:Type} (E:Lay α) {w:World} {A:Nat} {cs:Array Value} (L:List α) (hb:Blk w A E.ty cs) (h:cs=(E.all L).toArray):RdT E w (some ⟨A,0,none⟩) L:=by
 subst h
 refine ⟨fun i x hx => ⟨A,0,rfl,hb.lt,fun j v hv => ?_⟩,fun a ha => ?_⟩
 ·have hj:j < E.K:=by rw [← E.len x];exact (List.getElem?_eq_some_iff.1 hv).1
  rw [hb.cell (0 + (i * E.K + j)),Nat.zero_add,List.getElem?_toArray,E.all_get L i j x hx hj,hv]
 ·injection ha with ha
  subst ha
  exact ⟨_,_,hb⟩
theorem rowsS_gen (b m most:Nat) (w:World) (h:Strm w b m) (hmo:most≤100) (hm:m + 20000 < 1099511627776) :
  Calls Tryz.prog 29 #[.pointer (some ⟨b,0,none⟩), .int .i64 (most:Int)] w fun e w' => ∃ v L,e=.returned v∧FlO w' w.heap.size v L∧L.length≤most∧(∀ r ∈ L,r.Us)∧Gen b w w' (m + 200 + 40 * most):=by
 have hblt:=h.lt
 have HG0:Hid (Gen b w w m):=Lib.hid (Gen.start h)
 clear h
 go_enter Tryz.func29,Tryz.ntmps29
 go_wp2_with fail
 refine (rightRows_gen b m most _ HG0.out.s hmo (by omega)).mono ?_
 rintro e w1 ⟨v,L,rfl,hO,hl,hs,hg⟩
 have HG1:Hid (Gen b w w1 (m + 1 + 40 * most)):=Lib.hid (HG0.out.trans hg)
 have HO1:=Lib.hid hO
 have HS1:=Lib.hid hs
 obtain ⟨ad,c,rfl, -⟩:=hO.form
 obtain ⟨ln,hln⟩:∃ n,L.length=n:=⟨_,rfl⟩
 have HN:=Lib.hid hln
 have hw1:=hg.g.size
 rw [hln] at HO1 hl ⊢
 clear hO hs hg HG0 hln
 go_wp2_with fail
 ·refine (flip_gen b (m + 1 + 40 * most) _ _ HG1.out.s (by omega) (by omega)).mono ?_
  rintro e w2 ⟨fl,rfl,hg⟩
  have hl0:1≤ln:=by omega
  have HG2:Hid (Gen b w w2 (m + 1 + 40 * most + 1)):=Lib.hid (HG1.out.trans hg)
  have HO2:=Lib.hid (HO1.out.gen HG1.out.s hg hblt)
  clear hg HG1 HO1
  cases fl
  ·go_wp2_with fail
   go_ret
   exact ⟨_,L,rfl,by first | exact HO2.out | (rw [HN.out];exact HO2.out),by rw [HN.out];exact hl,fun r hr => (HS1.out r hr).us,HG2.out.mono (by omega)⟩
  ·go_wp2_with fail
   refine (next_gen b (m + 1 + 40 * most + 1) _ _ HG2.out.s (by omega) (by omega)).mono ?_
   rintro e w3 ⟨q,rfl,⟨hq0,hq1⟩,hg⟩
   obtain ⟨q,rfl⟩:=Int.eq_ofNat_of_zero_le hq0
   have hq:q < ln:=by omega
   have HG3:Hid (Gen b w w3 (m + 1 + 40 * most + 2)):=Lib.hid (HG2.out.trans hg)
   have HO3:=Lib.hid (HO2.out.gen HG2.out.s hg hblt)
   clear hg HG2 HO2 hq0 hq1
   obtain ⟨D,hD,hDl,hDc⟩:=HO3.out
   have hlD:D.length=ln:=hDl.trans HN.out
   obtain ⟨g,c',hv,hgw, -⟩:=hD.one (by omega)
   injection hv with hv e1 e2
   subst hv
   clear e1 e2 HO3
   have HD3:=Lib.hid hD
   have HDl:=Lib.hid hDl
   have HDc3:=Lib.hid hDc
   have HlD:=Lib.hid hlD
   have hqL:q < L.length:=by rw [HN.out];exact hq
   obtain ⟨ro,hro⟩:∃ ro,L[q]?=some ro:=⟨_,List.getElem?_eq_getElem hqL⟩
   obtain ⟨⟨y,⟨b1,p1,d1⟩,⟨b2,p2,d2⟩,⟨b3,p3,d3⟩⟩,hco⟩:∃ co,D[q]?=some co:=⟨_,List.getElem?_eq_getElem (by omega)⟩
   have Hro:=Lib.hid hro
   have Hco:=Lib.hid hco
   have HSo:=Lib.hid (HS1.out ro (List.mem_of_getElem? hro))
   clear hD hDl hDc hlD hqL hro hco
   go_wp2_with fail
   refine (next_gen b (m + 1 + 40 * most + 2) _ _ HG3.out.s (by omega) (by omega)).mono ?_
   rintro e w4 ⟨z,rfl,⟨hz0,hz1⟩,hg⟩
   have HG4:Hid (Gen b w w4 (m + 1 + 40 * most + 3)):=Lib.hid (HG3.out.trans hg)
   have HD4:=Lib.hid (HD3.out.gen hg hblt)
   have HDc4:Hid (∀ (k:Nat) (c:FC) (r:FR),D[k]?=some c→L[k]?=some r→FlcT w4 r c):=Lib.hid fun k c r h1 h2 => (HDc3.out k c r h1 h2).keep (KeepT.of_gen HG3.out.s hg) (by decide) (by decide)
   clear hg HG3 HD3 HDc3
   have h4:z=0 ∨ z=1 ∨ z=2 ∨ z=3:=by omega
   clear hz0 hz1
   rcases h4 with rfl | rfl | rfl | rfl
   ·go_wp2_with fail
    refine (odd_gen b (m + 1 + 40 * most + 3) _ _ _ HG4.out.s (by omega) (by omega) (by omega)).mono ?_
    rintro e w5 ⟨x,rfl, -,hg⟩
    have HG5:Hid (Gen b w w5 (m + 1 + 40 * most + 5)):=Lib.hid (HG4.out.trans hg)
    have HD5:=Lib.hid (HD4.out.gen hg hblt)
    have HDc5:Hid (∀ (k:Nat) (c:FC) (r:FR),D[k]?=some c→L[k]?=some r→FlcT w5 r c):=Lib.hid fun k c r h1 h2 => (HDc4.out k c r h1 h2).keep (KeepT.of_gen HG4.out.s hg) (by decide) (by decide)
    have HY:Hid (FlcT w5 ⟨x,ro.src,ro.dst,ro.po⟩ (x,(b1,p1,d1),(b2,p2,d2),(b3,p3,d3))):=Lib.hid (by
     have:=HDc5.out q _ _ Hco.out Hro.out
     exact ⟨rfl,this.t1,this.t2,this.t3,this.l1,this.l2,this.l3,this.m1,this.m2,this.m3⟩)
    clear hg HG4 HD4 HDc4
    have HF:=Lib.hid (FlO.setTo (k:=q) (j:=0) (r:=⟨x,ro.src,ro.dst,ro.po⟩) (y:=(x,(b1,p1,d1),(b2,p2,d2),(b3,p3,d3))) (v:=.int .i64 x) HD5.out HDl.out HDc5.out Hco.out (by decide) rfl HY.out)
    have HU:=Lib.hid (un_set (k:=q) (r:=⟨x,ro.src,ro.dst,ro.po⟩) HS1.out (let u:=HSo.out.un;⟨⟨u.u1,u.u2,u.l1,u.l2,u.l3⟩,by first | exact HSo.out.l1 | (simp;done) | (have:=HU5.out.1;show S.length≤30;omega),by first | exact HSo.out.l2 | (simp;done),by first | exact HSo.out.l3 | (simp;done)⟩))
    have HGz:Hid (Gen b w (w5.setCell ⟨g,q * 4,none⟩ (.int .i64 x)) (m + 200 + 40 * most)):=Lib.hid ((HG5.out.setCell ⟨g,_,none⟩ _ hgw (Nat.lt_of_lt_of_le hblt hgw)).mono (by omega))
    have kf:∀ i,w5.frozen? ⟨g,i,none⟩=false:=HD5.out.frozen
    have kc:w5.cell? ⟨g,q * 4,none⟩=some _:=HD5.out.get (j:=0) Hco.out rfl
    clear HD5 HDc5 HG5 HY
    go_wp2_with fail
    go_ret
    exact ⟨_,_,rfl,HF.out,by rw [List.length_set,HN.out];exact hl,HU.out,HGz.out⟩
   ·go_wp2_with fail
    refine (set_gen b (m + 1 + 40 * most + 3) _ HG4.out.s (by omega)).mono ?_
    rintro e w5 ⟨v,S,rfl,hO,hsl,hsu,hg⟩
    have HG5:Hid (Gen b w w5 (m + 1 + 40 * most + 53)):=Lib.hid (HG4.out.trans hg)
    have HD5:=Lib.hid (HD4.out.gen hg hblt)
    have HDc5:Hid (∀ (k:Nat) (c:FC) (r:FR),D[k]?=some c→L[k]?=some r→FlcT w5 r c):=Lib.hid fun k c r h1 h2 => (HDc4.out k c r h1 h2).keep (KeepT.of_gen HG4.out.s hg) (by decide) (by decide)
    obtain ⟨a5,c5,rfl, -⟩:=hO.form
    obtain ⟨n5,hn5⟩:∃ n,S.length=n:=⟨_,rfl⟩
    have HU5:=Lib.hid (And.intro hsl hsu)
    have HY:Hid (FlcT w5 ⟨ro.p,S,ro.dst,ro.po⟩ (y,(a5,n5,c5),(b2,p2,d2),(b3,p3,d3))):=Lib.hid (by
     have:=HDc5.out q _ _ Hco.out Hro.out
     exact ⟨this.e,hO.rdT,this.t2,this.t3,hn5,this.l2,this.l3,by simp;omega,this.m2,this.m3⟩)
    rw [hn5]
    clear hg HG4 HD4 HDc4 hO hsl hsu hn5
    have HF:=Lib.hid (FlO.setTo (k:=q) (j:=1) (r:=⟨ro.p,S,ro.dst,ro.po⟩) (y:=(y,(a5,n5,c5),(b2,p2,d2),(b3,p3,d3))) (v:=.slice a5 n5 c5) HD5.out HDl.out HDc5.out Hco.out (by decide) rfl HY.out)
    have HU:=Lib.hid (un_set (k:=q) (r:=⟨ro.p,S,ro.dst,ro.po⟩) HS1.out (let u:=HSo.out.un;⟨⟨HU5.out.2,u.u2,(by have:=HU5.out.1;show S.length≤100000;omega),u.l2,u.l3⟩,by first | exact HSo.out.l1 | (simp;done) | (have:=HU5.out.1;show S.length≤30;omega),by first | exact HSo.out.l2 | (simp;done),by first | exact HSo.out.l3 | (simp;done)⟩))
    have HGz:Hid (Gen b w (w5.setCell ⟨g,q * 4 + 1,none⟩ (.slice a5 n5 c5)) (m + 200 + 40 * most)):=Lib.hid ((HG5.out.setCell ⟨g,_,none⟩ _ hgw (Nat.lt_of_lt_of_le hblt hgw)).mono (by omega))
    have kf:∀ i,w5.frozen? ⟨g,i,none⟩=false:=HD5.out.frozen
    have kc:w5.cell? ⟨g,q * 4 + 1,none⟩=some _:=HD5.out.get (j:=1) Hco.out rfl
    clear HD5 HDc5 HG5 HY
    go_wp2_with fail
    go_ret
    exact ⟨_,_,rfl,HF.out,by rw [List.length_set,HN.out];exact hl,HU.out,HGz.out⟩
   ·have HY:Hid (FlcT w4 ⟨ro.p,ro.src, [],ro.po⟩ (y,(b1,p1,d1),(none,0,0),(b3,p3,d3))):=Lib.hid (by
     have:=HDc4.out q _ _ Hco.out Hro.out
     exact ⟨this.e,this.t1,RdT.nil _,this.t3,this.l1,rfl,this.l3,this.m1,by simp,this.m3⟩)
    have HF:=Lib.hid (FlO.setTo (k:=q) (j:=2) (r:=⟨ro.p,ro.src, [],ro.po⟩) (y:=(y,(b1,p1,d1),(none,0,0),(b3,p3,d3))) (v:=.slice none 0 0) HD4.out HDl.out HDc4.out Hco.out (by decide) rfl HY.out)
    have HU:=Lib.hid (un_set (k:=q) (r:=⟨ro.p,ro.src, [],ro.po⟩) HS1.out (let u:=HSo.out.un;⟨⟨u.u1,(fun p hp => by cases hp),u.l1,(by simp),u.l3⟩,by first | exact HSo.out.l1 | (simp;done) | (have:=HU5.out.1;show S.length≤30;omega),by first | exact HSo.out.l2 | (simp;done),by first | exact HSo.out.l3 | (simp;done)⟩))
    have HGz:Hid (Gen b w (w4.setCell ⟨g,q * 4 + 2,none⟩ (.slice none 0 0)) (m + 200 + 40 * most)):=Lib.hid ((HG4.out.setCell ⟨g,_,none⟩ _ hgw (Nat.lt_of_lt_of_le hblt hgw)).mono (by omega))
    have kf:∀ i,w4.frozen? ⟨g,i,none⟩=false:=HD4.out.frozen
    have kc:w4.cell? ⟨g,q * 4 + 2,none⟩=some _:=HD4.out.get (j:=2) Hco.out rfl
    clear HD4 HDc4 HG4 HY
    go_wp2_with fail
    go_ret
    exact ⟨_,_,rfl,HF.out,by rw [List.length_set,HN.out];exact hl,HU.out,HGz.out⟩
   ·obtain ⟨W5,hW5⟩:∃ W5,(((((w4.alloc (.cells #[.int .i64 5, .int .i64 9, .int .i64 10, .int .i64 12] 132 (0,0))).alloc (.cells #[.int .i64 9, .int .i64 5] 132 (0,0))).alloc (.cells #[.int .i64 5, .int .i64 9, .int .i64 1, .int .i64 2] 132 (0,0))).alloc (.cells #[.int .i64 0, .int .i64 65536] 132 (0,0))).alloc (.cells #[.slice none 0 0, .slice (some ⟨w4.heap.size,0,none⟩) 2 2, .slice (some ⟨w4.heap.size + 1,0,none⟩) 1 1, .slice (some ⟨w4.heap.size + 1 + 1,0,none⟩) 2 2, .slice (some ⟨w4.heap.size + 1 + 1 + 1,0,none⟩) 1 1] 127 (0,0)))=W5:=⟨_,rfl⟩
    have HA0:Hid (Blk W5 (w4.heap.size) 132 #[.int .i64 5, .int .i64 9, .int .i64 10, .int .i64 12]):=Lib.hid (by rw [← hW5];exact ((((Blk.newAt w4 132 #[.int .i64 5, .int .i64 9, .int .i64 10, .int .i64 12] (by simp)).alloc _).alloc _).alloc _).alloc _)
    have HA1:Hid (Blk W5 (w4.heap.size + 1) 132 #[.int .i64 9, .int .i64 5]):=Lib.hid (by rw [← hW5];exact (((Blk.newAt (w4.alloc (.cells #[.int .i64 5, .int .i64 9, .int .i64 10, .int .i64 12] 132 (0,0))) 132 #[.int .i64 9, .int .i64 5] (by simp [World.size_alloc])).alloc _).alloc _).alloc _)
    have HA2:Hid (Blk W5 (w4.heap.size + 1 + 1) 132 #[.int .i64 5, .int .i64 9, .int .i64 1, .int .i64 2]):=Lib.hid (by rw [← hW5];exact ((Blk.newAt ((w4.alloc (.cells #[.int .i64 5, .int .i64 9, .int .i64 10, .int .i64 12] 132 (0,0))).alloc (.cells #[.int .i64 9, .int .i64 5] 132 (0,0))) 132 #[.int .i64 5, .int .i64 9, .int .i64 1, .int .i64 2] (by simp [World.size_alloc])).alloc _).alloc _)
    have HA3:Hid (Blk W5 (w4.heap.size + 1 + 1 + 1) 132 #[.int .i64 0, .int .i64 65536]):=Lib.hid (by rw [← hW5];exact (Blk.newAt (((w4.alloc (.cells #[.int .i64 5, .int .i64 9, .int .i64 10, .int .i64 12] 132 (0,0))).alloc (.cells #[.int .i64 9, .int .i64 5] 132 (0,0))).alloc (.cells #[.int .i64 5, .int .i64 9, .int .i64 1, .int .i64 2] 132 (0,0))) 132 #[.int .i64 0, .int .i64 65536] (by simp [World.size_alloc])).alloc _)
    have HA4:Hid (Blk W5 (w4.heap.size + 1 + 1 + 1 + 1) 127 #[.slice none 0 0, .slice (some ⟨w4.heap.size,0,none⟩) 2 2, .slice (some ⟨w4.heap.size + 1,0,none⟩) 1 1, .slice (some ⟨w4.heap.size + 1 + 1,0,none⟩) 2 2, .slice (some ⟨w4.heap.size + 1 + 1 + 1,0,none⟩) 1 1]):=Lib.hid (by rw [← hW5];exact Blk.newAt ((((w4.alloc (.cells #[.int .i64 5, .int .i64 9, .int .i64 10, .int .i64 12] 132 (0,0))).alloc (.cells #[.int .i64 9, .int .i64 5] 132 (0,0))).alloc (.cells #[.int .i64 5, .int .i64 9, .int .i64 1, .int .i64 2] 132 (0,0))).alloc (.cells #[.int .i64 0, .int .i64 65536] 132 (0,0))) 127 #[.slice none 0 0, .slice (some ⟨w4.heap.size,0,none⟩) 2 2, .slice (some ⟨w4.heap.size + 1,0,none⟩) 1 1, .slice (some ⟨w4.heap.size + 1 + 1,0,none⟩) 2 2, .slice (some ⟨w4.heap.size + 1 + 1 + 1,0,none⟩) 1 1] (by simp [World.size_alloc]))
    have hb5:Below w4.heap.size w4 W5:=by rw [← hW5];exact below_alloc (below_alloc (below_alloc (below_alloc (below_alloc (Below.refl _ _) _) _) _) _) _
    have hbw4:=HG4.out.s.lt
    have HG5:Hid (Gen b w W5 (m + 1 + 40 * most + 3)):=Lib.hid (HG4.out.below0 hb5 hbw4)
    have HD5:=Lib.hid (HD4.out.later hb5)
    have HDc5:Hid (∀ (k:Nat) (c:FC) (r:FR),D[k]?=some c→L[k]?=some r→FlcT W5 r c):=Lib.hid fun k c r h1 h2 => (HDc4.out k c r h1 h2).keep (S:=[]) (KeepT.of_below hb5) (by simp) (by simp)
    have HE:Hid (W5=(((((w4.alloc (.cells #[.int .i64 5, .int .i64 9, .int .i64 10, .int .i64 12] 132 (0,0))).alloc (.cells #[.int .i64 9, .int .i64 5] 132 (0,0))).alloc (.cells #[.int .i64 5, .int .i64 9, .int .i64 1, .int .i64 2] 132 (0,0))).alloc (.cells #[.int .i64 0, .int .i64 65536] 132 (0,0))).alloc (.cells #[.slice none 0 0, .slice (some ⟨w4.heap.size,0,none⟩) 2 2, .slice (some ⟨w4.heap.size + 1,0,none⟩) 1 1, .slice (some ⟨w4.heap.size + 1 + 1,0,none⟩) 2 2, .slice (some ⟨w4.heap.size + 1 + 1 + 1,0,none⟩) 1 1] 127 (0,0)))):=Lib.hid hW5.symm
    clear HG4 HD4 HDc4 hb5
    go_wp2_with fail
    generalize w4.heap.size=s at *
    clear hW5 HE
    refine (next_gen b (m + 1 + 40 * most + 3) _ _ HG5.out.s (by omega) (by omega)).mono ?_
    rintro e w6 ⟨z,rfl,⟨hz0,hz1⟩,hg⟩
    have HG6:Hid (Gen b w w6 (m + 1 + 40 * most + 4)):=Lib.hid (HG5.out.trans hg)
    have HD6:=Lib.hid (HD5.out.gen hg hblt)
    have HDc6:Hid (∀ (k:Nat) (c:FC) (r:FR),D[k]?=some c→L[k]?=some r→FlcT w6 r c):=Lib.hid fun k c r h1 h2 => (HDc5.out k c r h1 h2).keep (KeepT.of_gen HG5.out.s hg) (by decide) (by decide)
    have hA0:=HA0.out.keep hg.g (by omega)
    have hA1:=HA1.out.keep hg.g (by omega)
    have hA2:=HA2.out.keep hg.g (by omega)
    have hA3:=HA3.out.keep hg.g (by omega)
    have hA4:=HA4.out.keep hg.g (by omega)
    have HT0:=Lib.hid (Blk.rdT layPo [(5,9),(10,12)] hA0 rfl)
    have HT1:=Lib.hid (Blk.rdT layPo [(9,5)] hA1 rfl)
    have HT2:=Lib.hid (Blk.rdT layPo [(5,9),(1,2)] hA2 rfl)
    have HT3:=Lib.hid (Blk.rdT layPo [(0,65536)] hA3 rfl)
    have x0:=hA4.cell 0
    have x1:=hA4.cell 1
    have x2:=hA4.cell 2
    have x3:=hA4.cell 3
    have x4:=hA4.cell 4
    simp at x0 x1 x2 x3 x4
    have h5:z=0 ∨ z=1 ∨ z=2 ∨ z=3 ∨ z=4:=by omega
    clear hz0 hz1 hg HG5 HD5 HDc5 hA0 hA1 hA2 hA3 hA4 HA0 HA1 HA2 HA3 HA4
    rcases h5 with rfl | rfl | rfl | rfl | rfl
    ·have HY:Hid (FlcT w6 ⟨ro.p,ro.src,ro.dst, []⟩ (y,(b1,p1,d1),(b2,p2,d2),(none,0,0))):=Lib.hid (by
      have:=HDc6.out q _ _ Hco.out Hro.out
      exact ⟨this.e,this.t1,this.t2,RdT.nil _,this.l1,this.l2,rfl,this.m1,this.m2,by simp⟩)
     clear HT0 HT1 HT2 HT3
     have HF:=Lib.hid (FlO.setTo (k:=q) (j:=3) (r:=⟨ro.p,ro.src,ro.dst, []⟩) (y:=(y,(b1,p1,d1),(b2,p2,d2),(none,0,0))) (v:=.slice none 0 0) HD6.out HDl.out HDc6.out Hco.out (by decide) rfl HY.out)
     have HU:=Lib.hid (un_set (k:=q) (r:=⟨ro.p,ro.src,ro.dst, []⟩) HS1.out (let u:=HSo.out.un;⟨⟨u.u1,u.u2,u.l1,u.l2,(by simp)⟩,by first | exact HSo.out.l1 | (simp;done) | (have:=HU5.out.1;show S.length≤30;omega),by first | exact HSo.out.l2 | (simp;done),by first | exact HSo.out.l3 | (simp;done)⟩))
     have HGz:Hid (Gen b w (w6.setCell ⟨g,q * 4 + 3,none⟩ (.slice none 0 0)) (m + 200 + 40 * most)):=Lib.hid ((HG6.out.setCell ⟨g,_,none⟩ _ hgw (Nat.lt_of_lt_of_le hblt hgw)).mono (by omega))
     have kf:∀ i,w6.frozen? ⟨g,i,none⟩=false:=HD6.out.frozen
     have kc:w6.cell? ⟨g,q * 4 + 3,none⟩=some _:=HD6.out.get (j:=3) Hco.out rfl
     clear HD6 HDc6 HG6 HY
     go_wp2_with fail
     go_ret
     exact ⟨_,_,rfl,HF.out,by rw [List.length_set,HN.out];exact hl,HU.out,HGz.out⟩
    ·have HY:Hid (FlcT w6 ⟨ro.p,ro.src,ro.dst, [(5,9),(10,12)]⟩ (y,(b1,p1,d1),(b2,p2,d2),(some ⟨s,0,none⟩,2,2))):=Lib.hid (by
      have:=HDc6.out q _ _ Hco.out Hro.out
      exact ⟨this.e,this.t1,this.t2,HT0.out,this.l1,this.l2,rfl,this.m1,this.m2,by simp⟩)
     clear HT0 HT1 HT2 HT3
     have HF:=Lib.hid (FlO.setTo (k:=q) (j:=3) (r:=⟨ro.p,ro.src,ro.dst, [(5,9),(10,12)]⟩) (y:=(y,(b1,p1,d1),(b2,p2,d2),(some ⟨s,0,none⟩,2,2))) (v:=.slice (some ⟨s,0,none⟩) 2 2) HD6.out HDl.out HDc6.out Hco.out (by decide) rfl HY.out)
     have HU:=Lib.hid (un_set (k:=q) (r:=⟨ro.p,ro.src,ro.dst, [(5,9),(10,12)]⟩) HS1.out (let u:=HSo.out.un;⟨⟨u.u1,u.u2,u.l1,u.l2,(by simp)⟩,by first | exact HSo.out.l1 | (simp;done) | (have:=HU5.out.1;show S.length≤30;omega),by first | exact HSo.out.l2 | (simp;done),by first | exact HSo.out.l3 | (simp;done)⟩))
     have HGz:Hid (Gen b w (w6.setCell ⟨g,q * 4 + 3,none⟩ (.slice (some ⟨s,0,none⟩) 2 2)) (m + 200 + 40 * most)):=Lib.hid ((HG6.out.setCell ⟨g,_,none⟩ _ hgw (Nat.lt_of_lt_of_le hblt hgw)).mono (by omega))
     have kf:∀ i,w6.frozen? ⟨g,i,none⟩=false:=HD6.out.frozen
     have kc:w6.cell? ⟨g,q * 4 + 3,none⟩=some _:=HD6.out.get (j:=3) Hco.out rfl
     clear HD6 HDc6 HG6 HY
     go_wp2_with fail
     go_ret
     exact ⟨_,_,rfl,HF.out,by rw [List.length_set,HN.out];exact hl,HU.out,HGz.out⟩
    ·have HY:Hid (FlcT w6 ⟨ro.p,ro.src,ro.dst, [(9,5)]⟩ (y,(b1,p1,d1),(b2,p2,d2),(some ⟨s + 1,0,none⟩,1,1))):=Lib.hid (by
      have:=HDc6.out q _ _ Hco.out Hro.out
      exact ⟨this.e,this.t1,this.t2,HT1.out,this.l1,this.l2,rfl,this.m1,this.m2,by simp⟩)
     clear HT0 HT1 HT2 HT3
     have HF:=Lib.hid (FlO.setTo (k:=q) (j:=3) (r:=⟨ro.p,ro.src,ro.dst, [(9,5)]⟩) (y:=(y,(b1,p1,d1),(b2,p2,d2),(some ⟨s + 1,0,none⟩,1,1))) (v:=.slice (some ⟨s + 1,0,none⟩) 1 1) HD6.out HDl.out HDc6.out Hco.out (by decide) rfl HY.out)
     have HU:=Lib.hid (un_set (k:=q) (r:=⟨ro.p,ro.src,ro.dst, [(9,5)]⟩) HS1.out (let u:=HSo.out.un;⟨⟨u.u1,u.u2,u.l1,u.l2,(by simp)⟩,by first | exact HSo.out.l1 | (simp;done) | (have:=HU5.out.1;show S.length≤30;omega),by first | exact HSo.out.l2 | (simp;done),by first | exact HSo.out.l3 | (simp;done)⟩))
     have HGz:Hid (Gen b w (w6.setCell ⟨g,q * 4 + 3,none⟩ (.slice (some ⟨s + 1,0,none⟩) 1 1)) (m + 200 + 40 * most)):=Lib.hid ((HG6.out.setCell ⟨g,_,none⟩ _ hgw (Nat.lt_of_lt_of_le hblt hgw)).mono (by omega))
     have kf:∀ i,w6.frozen? ⟨g,i,none⟩=false:=HD6.out.frozen
     have kc:w6.cell? ⟨g,q * 4 + 3,none⟩=some _:=HD6.out.get (j:=3) Hco.out rfl
     clear HD6 HDc6 HG6 HY
     go_wp2_with fail
     go_ret
     exact ⟨_,_,rfl,HF.out,by rw [List.length_set,HN.out];exact hl,HU.out,HGz.out⟩
    ·have HY:Hid (FlcT w6 ⟨ro.p,ro.src,ro.dst, [(5,9),(1,2)]⟩ (y,(b1,p1,d1),(b2,p2,d2),(some ⟨s + 1 + 1,0,none⟩,2,2))):=Lib.hid (by
      have:=HDc6.out q _ _ Hco.out Hro.out
      exact ⟨this.e,this.t1,this.t2,HT2.out,this.l1,this.l2,rfl,this.m1,this.m2,by simp⟩)
     clear HT0 HT1 HT2 HT3
     have HF:=Lib.hid (FlO.setTo (k:=q) (j:=3) (r:=⟨ro.p,ro.src,ro.dst, [(5,9),(1,2)]⟩) (y:=(y,(b1,p1,d1),(b2,p2,d2),(some ⟨s + 1 + 1,0,none⟩,2,2))) (v:=.slice (some ⟨s + 1 + 1,0,none⟩) 2 2) HD6.out HDl.out HDc6.out Hco.out (by decide) rfl HY.out)
     have HU:=Lib.hid (un_set (k:=q) (r:=⟨ro.p,ro.src,ro.dst, [(5,9),(1,2)]⟩) HS1.out (let u:=HSo.out.un;⟨⟨u.u1,u.u2,u.l1,u.l2,(by simp)⟩,by first | exact HSo.out.l1 | (simp;done) | (have:=HU5.out.1;show S.length≤30;omega),by first | exact HSo.out.l2 | (simp;done),by first | exact HSo.out.l3 | (simp;done)⟩))
     have HGz:Hid (Gen b w (w6.setCell ⟨g,q * 4 + 3,none⟩ (.slice (some ⟨s + 1 + 1,0,none⟩) 2 2)) (m + 200 + 40 * most)):=Lib.hid ((HG6.out.setCell ⟨g,_,none⟩ _ hgw (Nat.lt_of_lt_of_le hblt hgw)).mono (by omega))
     have kf:∀ i,w6.frozen? ⟨g,i,none⟩=false:=HD6.out.frozen
     have kc:w6.cell? ⟨g,q * 4 + 3,none⟩=some _:=HD6.out.get (j:=3) Hco.out rfl
     clear HD6 HDc6 HG6 HY
     go_wp2_with fail
     go_ret
     exact ⟨_,_,rfl,HF.out,by rw [List.length_set,HN.out];exact hl,HU.out,HGz.out⟩
    ·have HY:Hid (FlcT w6 ⟨ro.p,ro.src,ro.dst, [(0,65536)]⟩ (y,(b1,p1,d1),(b2,p2,d2),(some ⟨s + 1 + 1 + 1,0,none⟩,1,1))):=Lib.hid (by
      have:=HDc6.out q _ _ Hco.out Hro.out
      exact ⟨this.e,this.t1,this.t2,HT3.out,this.l1,this.l2,rfl,this.m1,this.m2,by simp⟩)
     clear HT0 HT1 HT2 HT3
     have HF:=Lib.hid (FlO.setTo (k:=q) (j:=3) (r:=⟨ro.p,ro.src,ro.dst, [(0,65536)]⟩) (y:=(y,(b1,p1,d1),(b2,p2,d2),(some ⟨s + 1 + 1 + 1,0,none⟩,1,1))) (v:=.slice (some ⟨s + 1 + 1 + 1,0,none⟩) 1 1) HD6.out HDl.out HDc6.out Hco.out (by decide) rfl HY.out)
     have HU:=Lib.hid (un_set (k:=q) (r:=⟨ro.p,ro.src,ro.dst, [(0,65536)]⟩) HS1.out (let u:=HSo.out.un;⟨⟨u.u1,u.u2,u.l1,u.l2,(by simp)⟩,by first | exact HSo.out.l1 | (simp;done) | (have:=HU5.out.1;show S.length≤30;omega),by first | exact HSo.out.l2 | (simp;done),by first | exact HSo.out.l3 | (simp;done)⟩))
     have HGz:Hid (Gen b w (w6.setCell ⟨g,q * 4 + 3,none⟩ (.slice (some ⟨s + 1 + 1 + 1,0,none⟩) 1 1)) (m + 200 + 40 * most)):=Lib.hid ((HG6.out.setCell ⟨g,_,none⟩ _ hgw (Nat.lt_of_lt_of_le hblt hgw)).mono (by omega))
     have kf:∀ i,w6.frozen? ⟨g,i,none⟩=false:=HD6.out.frozen
     have kc:w6.cell? ⟨g,q * 4 + 3,none⟩=some _:=HD6.out.get (j:=3) Hco.out rfl
     clear HD6 HDc6 HG6 HY
     go_wp2_with fail
     go_ret
     exact ⟨_,_,rfl,HF.out,by rw [List.length_set,HN.out];exact hl,HU.out,HGz.out⟩
 ·go_ret
  exact ⟨_,L,rfl,by first | exact HO1.out | (rw [HN.out];exact HO1.out),by rw [HN.out];exact hl,fun r hr => (HS1.out r hr).us,HG1.out.mono (by omega)⟩
open Go.RowKit Go Go.Sort
theorem FR.Sm.wr {r:FR} (h:r.Sm):r.Wr:=⟨h.ok,by have:=h.l1;omega,by have:=h.l2;omega,by have:=h.l3;omega,h.p0,h.p1,h.po⟩
theorem rowString_gen (b m:Nat) (w:World) (h:Strm w b m) (hm:m + 20000 < 1099511627776) (htb:∀ w',(∃ k,Gen b w w' k)→Tabs w') :
  Calls Tryz.prog 33 #[.pointer (some ⟨b,0,none⟩)] w fun e w' => ∃ S:ByteArray,e=.returned (.string S)∧S.size≤150000∧Gen b w w' (m + 200):=by
 have HTb:=Lib.hid htb
 clear htb
 go_enter Tryz.func33,Tryz.ntmps33
 go_wp2_with fail
 refine (rightRows_gen b m 3 _ h (by omega) (by omega)).mono ?_
 rintro e w2 ⟨v,L,rfl,hO,hl,hok,hg⟩
 have hwr:∀ r ∈ L,r.Wr:=fun r hr => (hok r hr).wr
 have HG2:=Lib.hid hg
 obtain ⟨ad,c,hv, -⟩:=hO.form
 subst hv
 have HTx:=Lib.hid (rowLines_any ad L.length c L w2 hO.at rfl (by omega) hwr (fun r hr => (hwr r hr).size (hok r hr).l1 (hok r hr).l2 (hok r hr).l3) (HTb.out w2 ⟨_,HG2.out⟩))
 have hsz:(strL (rowsT L)).size≤148935:=by
  rw [strL_size]
  have:=rowsT_len (fun r hr => (hwr r hr).size (hok r hr).l1 (hok r hr).l2 (hok r hr).l3)
  omega
 generalize strL (rowsT L)=TX at *
 generalize L.length=n0 at *
 clear hg h hO hok hl hwr
 go_wp2_with fail
 refine HTx.out.mono ?_
 rintro e w3 ⟨rfl,hb⟩
 have HG3:=Lib.hid (HG2.out.below hb HG2.out.g.size HG2.out.s.lt)
 clear hb HG2 HTx
 go_wp2_with fail
 refine (pick_gen b (m + 121) w3.heap.size 0 4 4 [0,0,1,2] _ (HG3.out.s.alloc _) (by omega) (by omega) (rdInts_new w3 _ _ _ rfl) (by have:=HG3.out.s.lt;omega)).mono ?_
 rintro e w4 ⟨k4,rfl,hk4,hg⟩
 have HG4:=Lib.hid ((HG3.out.alloc _).trans hg)
 obtain ⟨n,rfl,hn⟩:∃ n:Nat,k4=(n:Int)∧n≤2:=by
  have:k4=0 ∨ k4=1 ∨ k4=2:=by simpa using hk4
  rcases this with rfl | rfl | rfl
  ·exact ⟨0,rfl,by omega⟩
  ·exact ⟨1,rfl,by omega⟩
  ·exact ⟨2,rfl,by omega⟩
 clear hg HG3 hk4
 have HCh:=Lib.hid fun m T wx (h:Strm wx b m) (hm:m + 3 < 1099511627776) (hT:T.size≤150000) => changed_gen b m T ⟨#[32,44,45,47,46,10,48,45,57,97,110,121]⟩ wx h hm (by omega) (by decide) (by decide +kernel)
 go_wp2_with fail
 go_loopw [3,10] (fun v i wr => ∃ (k:Nat) (S:ByteArray),k≤n∧i=.int .i64 (k:Int)∧v=.string S∧Hid (S.size≤148935 + 100 * k)∧Hid (Gen b w wr (m + 126 + 3 * k))) (fun _ i _ => n - (intOf i).toNat)
 case atStart => exact ⟨0,TX,Nat.zero_le _,rfl,rfl,Lib.hid (by omega),Lib.hid (HG4.out.mono (by omega))⟩
 case round =>
  clear HG4
  obtain ⟨k,S,hk,rfl,rfl,HS,HG⟩:=hrel
  by_cases hlt:k < n
  ·have hss:=HS.out
   have HCx:=Lib.hid (HCh.out (m + 126 + 3 * k) S wr HG.out.s (by omega) (by omega))
   clear HCh
   go_wp2_with fail
   refine HCx.out.mono ?_
   rintro e w5 ⟨S2,rfl,hs2,hg⟩
   have HG5:Hid (Gen b w w5 (m + 126 + 3 * (k + 1))):=Lib.hid ((HG.out.trans hg).mono (by omega))
   have HS5:Hid (S2.size≤148935 + 100 * (k + 1)):=Lib.hid (by omega)
   clear hg HG HCx hs2
   go_wp2_with fail
   exact ⟨⟨k + 1,S2,by omega,by go_num,rfl,HS5,HG5⟩,by simp [intOf];omega⟩
  ·obtain rfl:k=n:=by omega
   have hss:=HS.out
   go_wp2_with fail
   go_ret
   exact ⟨S,rfl,by omega,HG.out.mono (by omega)⟩
end Go.Proofs.YtdhldhkhpndpjaaGreatDoor
