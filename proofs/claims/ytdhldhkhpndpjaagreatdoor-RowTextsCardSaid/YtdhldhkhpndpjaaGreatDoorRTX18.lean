/-
  The reference's SetFault.
  The first fault of a list of ranges that is to be least: program and reference.
  The fault of rows.
  A number, written: plain, and the walk of strconv.Itoa; strings.Join of an own row of strings.
  Plain law: the text of rows, written and read.
  A builder of strings: WriteString (where the laid contract falls), walked as the kit's library walks it.
  The generator of right prefixes: what it returns is a right prefix.
  The generator PrefixString: a string of at most 1100 bytes.
-/
import Derived.Test.YtdhldhkhpndpjaaGreatDoorRTX17
import Derived.Test.YtdhldhkhpndpjaaGreatDoorRTX16
import Derived.Test.YtdhldhkhpndpjaaGreatDoorRTX3
import Derived.Test.YtdhldhkhpndpjaaGreatDoorRTX12
import Derived.Lib.ItoaLen
import Derived.Test.YtdhldhkhpndpjaaGreatDoorRTX15
import Derived.Test.YtdhldhkhpndpjaaGreatDoorRTX10
import Derived.Test.YtdhldhkhpndpjaaGreatDoorRTX4
import Derived.Shelf.Strings.Builder1
import Derived.Test.YtdhldhkhpndpjaaGreatDoorRTX5
import Derived.Test.YtdhldhkhpndpjaaGreatDoorRTX9
import Derived.Test.YtdhldhkhpndpjaaGreatDoorRTX6
set_option linter.unusedVariables false
set_option maxRecDepth 100000
set_option maxHeartbeats 4000000
namespace Go.Proofs.YtdhldhkhpndpjaaGreatDoor
open Go.RowKit Go
theorem setFault_any (ad:Option Addr) (n c:Nat) (L:List Pf) (w:World) (h:RdK layPf w ad L) (hn:L.length=n) (hs:n≤100000) (hu:U4 L) :
  Calls Tryz.prog 107 #[.slice ad n c] w (Ret (.int .i64 (setF L)) w):=by
 by_cases hb:1000 < n
 ·have e:setF L=2:=by unfold setF;rw [hn,if_pos hb]
  rw [e]
  have hb2:(n:Int) > 1000:=by omega
  clear h hu hn e
  go_enter Tryz.func107,Tryz.ntmps107
  go_wp2_with fail
  go_ret
  exact ⟨rfl,Below.refl _ _⟩
 ·have hb2:¬ (n:Int) > 1000:=by omega
  have H0:=Lib.hid h
  have Hn:=Lib.hid hn
  have Hu:=Lib.hid hu
  have HF:Hid (∀ k,k < n→(∀ j,j < k→fAt L j=0)→fAt L k ≠ 0→setF L=fAt L k):=Lib.hid fun k hk h1 h2 => by
   have e:=firstN_hit (fAt L) n k hk h1 h2
   unfold setF scanF
   rw [hn,if_neg hb,if_pos (by rw [e];exact h2),e]
  have HZ:Hid ((∀ j,j < n→fAt L j=0)→(∀ p ∈ L,OkPf p)∧(lst L=L→setF L=0)∧(lst L ≠ L→setF L=16)):=Lib.hid fun h1 => by
   have e:=firstN_none (fAt L) n h1
   refine ⟨fun p hp => ?_,fun h2 => ?_,fun h2 => ?_⟩
   ·obtain ⟨i,hi,rfl⟩:=List.getElem_of_mem hp
    have:=fAt_zero (h1 i (by omega))
    simp only [List.getD,List.getElem?_eq_getElem hi,Option.getD_some] at this
    obtain ⟨u1,u2⟩:=hu _ (List.getElem_mem hi)
    exact okPf_of this u1 u2
   ·unfold setF scanF
    rw [hn,if_neg hb,e,if_neg (by decide),if_pos h2]
   ·unfold setF scanF
    rw [hn,if_neg hb,e,if_neg (by decide),if_neg h2]
  obtain ⟨af,haf⟩:∃ z,setF L=z:=⟨_,rfl⟩
  rw [haf] at HF HZ ⊢
  clear haf h hn hu hb
  go_enter Tryz.func107,Tryz.ntmps107
  go_wp2_with fail
  go_loopw [3,4,5,11] (fun iv bx ev i wr => ∃ (k:Nat),k≤n∧i=.int .i64 k∧Hid (∀ j,j < k→fAt L j=0)∧Hid (Below w.heap.size w wr)) (fun _ _ _ i _ => n - (intOf i).toNat)
  case atStart => exact ⟨0,Nat.zero_le _,rfl,Lib.hid fun j hj => absurd hj (Nat.not_lt_zero _),Lib.hid (Below.refl _ _)⟩
  case round =>
   obtain ⟨k,hk,rfl,HX,HB⟩:=hrel
   by_cases hlt:k < n
   ·have hS:k < L.length:=by rw [Hn.out];exact hlt
    obtain ⟨p,hp⟩:∃ p,L[k]?=some p:=⟨_,List.getElem?_eq_getElem hS⟩
    have hpd:L.getD k zPf=p:=by simp [List.getD,hp]
    have HU:=Lib.hid (Hu.out p (List.mem_of_getElem? hp))
    obtain ⟨g,o,had,hg,c0,c1,c2,c3⟩:=(H0.out.below HB.out).pf hp rfl
    subst had
    have HP:=Lib.hid fun wx => prefixFault_any p.1 p.2.1 p.2.2.1 p.2.2.2 wx HU.out.1 HU.out.2
    have HFk:=Lib.hid (HF.out k hlt HX.out)
    have HXk:Hid (fAt L k=0→∀ j,j < k + 1→fAt L j=0):=Lib.hid fun e j hj => by
     rcases Nat.lt_or_ge j k with h1 | h1
     ·exact HX.out j h1
     ·obtain rfl:j=k:=by omega
      exact e
    have HA:Hid (fAt L k=if pfF p ≠ 0 then pfF p else if 0 < k∧nuP p≤nuP (L.getD (k - 1) zPf) then 7 else 0):=Lib.hid (by unfold fAt;rw [hpd])
    have HNu:Hid (nuP p=numA p.1 p.2.1 p.2.2.1):=Lib.hid rfl
    unfold pfF at HA
    unfold vP at HP
    clear hp hS hpd hg HX
    generalize hFe:pFault p.1 p.2.1 p.2.2.1 p.2.2.2=F at *
    clear hFe
    generalize p.1=a1 at *
    generalize p.2.1=a2 at *
    generalize p.2.2.1=a3 at *
    generalize p.2.2.2=a4 at *
    have HB1:Hid (Below w.heap.size w (wr.alloc (.cells #[.bool a1, .int .u64 (a2:Int), .int .u64 (a3:Int), .int .i64 a4] 30 (0,0)))):=Lib.hid (Below.alloc HB.out HB.out.size _)
    have HP1:Hid (Blk (wr.alloc (.cells #[.bool a1, .int .u64 (a2:Int), .int .u64 (a3:Int), .int .i64 a4] 30 (0,0))) wr.heap.size 30 #[.bool a1, .int .u64 (a2:Int), .int .u64 (a3:Int), .int .i64 a4]):=Lib.hid (Blk.new wr _ _)
    go_upto_region 6 with fail
    generalize wr.alloc (.cells #[.bool a1, .int .u64 (a2:Int), .int .u64 (a3:Int), .int .i64 a4] 30 (0,0))=w3 at *
    generalize wr.heap.size=bx at *
    clear HB c0 c1 c2 c3
    have d0:=HP1.out.cell 0
    have d1:=HP1.out.cell 1
    have d2:=HP1.out.cell 2
    have d3:=HP1.out.cell 3
    simp at d0 d1 d2 d3
    go_wp2_with fail
    refine (HP.out _).mono ?_
    rintro e w4 ⟨rfl,hb⟩
    have HB4:=Lib.hid (HB1.out.trans (hb.mono HB1.out.size))
    have HP4:=Lib.hid (HP1.out.below hb HP1.out.lt)
    clear hb HB1 HP1 HP d0 d1 d2 d3
    by_cases hF0:F=0
    ·rcases Nat.eq_zero_or_pos k with hk0 | hk0
     ·have HX2:=Lib.hid (HXk.out (by rw [HA.out,if_neg (by simp [hF0]),if_neg (by omega)]))
      subst hF0 hk0
      have z0:((0:Nat):Int)=0:=rfl
      simp only [z0]
      clear HFk HXk HA HNu HU
      go_wp2_with fail
      refine wp_region_later (by kernel_rfl) (by kernel_rfl) ?_
      repeat (go_big_quiet_step (fail))
      refine wpQuiet_nil ?_
      rintro w5 ⟨n5,hn5⟩
      have hb:Below w4.heap.size w4 w5:=by rw [hn5];exact n5.2
      clear hn5 n5
      have HB5:=Lib.hid (HB4.out.trans (hb.mono HB4.out.size))
      clear hb
      go_wp2_with fail
      exact ⟨⟨1,by omega,by first | rfl | go_num,HX2,HB5⟩,by simp [intOf];omega⟩
     ·obtain ⟨j,hj⟩:∃ j,k=j + 1:=⟨k - 1,by omega⟩
      have hjS:j < L.length:=by rw [Hn.out];omega
      obtain ⟨q,hq⟩:∃ q,L[j]?=some q:=⟨_,List.getElem?_eq_getElem hjS⟩
      have hqd:L.getD (k - 1) zPf=q:=by rw [hj];simp [List.getD,hq]
      obtain ⟨hu3,hu4⟩:=Hu.out q (List.mem_of_getElem? hq)
      obtain ⟨g',o',had,hg',b0,b1,b2,b3⟩:=(H0.out.below HB4.out).pf hq rfl
      injection had with had
      injection had with had1 had2
      subst had1 had2
      have HO:=Lib.hid fun wx => order_any q.1 q.2.1 q.2.2.1 a1 a2 a3 wx hu3 hu4 HU.out.1 HU.out.2
      have HA2:Hid (fAt L k=if nuP p≤nuP q then 7 else 0):=Lib.hid (by
       rw [HA.out,if_neg (by simp [hF0]),hqd]
       by_cases h1:nuP p≤nuP q
       ·rw [if_pos h1,if_pos ⟨hk0,h1⟩]
       ·rw [if_neg h1,if_neg (fun h => h1 h.2)])
      have HCg:=Lib.hid (cN_ge_iff (nuP q) (nuP p))
      have HNq:Hid (nuP q=numA q.1 q.2.1 q.2.2.1):=Lib.hid rfl
      rw [← HNq.out, ← HNu.out] at HO
      clear hq hqd hjS hu3 hu4 HA HNu HNq hg'
      generalize nuP q=nq at *
      generalize nuP p=np at *
      generalize q.1=e1 at *
      generalize q.2.1=e2 at *
      generalize q.2.2.1=e3 at *
      generalize q.2.2.2=e4 at *
      have i1:(k:Int) - 1=(j:Int):=by omega
      have i2:decide (0 < k)=true:=decide_eq_true hk0
      have i3:(j:Int) < (n:Int):=by omega
      have i4:(0:Int)≤(j:Int):=by omega
      have i5:(k:Int)≤1000:=by omega
      have Hj:=Lib.hid hj
      clear hj hk0
      have d0:=HP4.out.cell 0
      have d1:=HP4.out.cell 1
      have d2:=HP4.out.cell 2
      have d3:=HP4.out.cell 3
      simp at d0 d1 d2 d3
      have l0:=Later.cell_of d0
      have l1:=Later.cell_of d1
      have l2:=Later.cell_of d2
      have k0:=Later.cell_of b0
      have k1:=Later.cell_of b1
      have k2:=Later.cell_of b2
      have hO:=fun x:Later w4 => Calls.later x (HO.out x.1)
      subst hF0
      generalize cN nq np=C at *
      go_upto_region 9 with fail
      refine wp_region_later (by kernel_rfl) (by kernel_rfl) ?_
      repeat (go_big_quiet_step ((go_at_call 188;exact hO _)))
      refine wpQuiet_nil ?_
      rintro w5 ⟨n5,hn5⟩
      have hb:Below w4.heap.size w4 w5:=by rw [hn5];exact n5.2
      clear hn5 n5 hO HO l0 l1 l2 k0 k1 k2 d0 d1 d2 d3 b0 b1 b2 b3
      have HB5:=Lib.hid (HB4.out.trans (hb.mono HB4.out.size))
      clear hb HP4 HB4
      by_cases hnn:np≤nq
      ·have hC0:C ≥ 0:=HCg.out.2 hnn
       have HE:=Lib.hid (HFk.out (by rw [HA2.out,if_pos hnn];decide))
       have HE2:Hid (af=7):=Lib.hid (by rw [HE.out,HA2.out,if_pos hnn])
       clear HFk HXk HA2 HE HU
       go_wp2_with fail
       go_ret
       exact ⟨by rw [HE2.out];rfl,HB5.out⟩
      ·have hC0:¬ C ≥ 0:=fun h => hnn (HCg.out.1 h)
       have HX2:=Lib.hid (HXk.out (by rw [HA2.out,if_neg hnn]))
       clear HFk HXk HA2 HU
       go_wp2_with fail
       exact ⟨⟨k + 1,by omega,by go_num,HX2,HB5⟩,by simp [intOf];omega⟩
    ·have hF2:(F != 0)=true:=by simpa using hF0
     have hFA:fAt L k=F:=by rw [HA.out,if_pos hF0]
     have HE:Hid (af=F):=Lib.hid (by rw [HFk.out (by rw [hFA];exact hF0),hFA])
     clear HFk HXk hF0 HA hFA HU
     go_wp2_with fail
     go_ret
     exact ⟨by rw [HE.out];rfl,HB4.out⟩
   ·obtain rfl:k=n:=by omega
    obtain ⟨hok,hz0,hz1⟩:=HZ.out HX.out
    have HR:=Lib.hid (H0.out.below HB.out)
    have HZ0:=Lib.hid hz0
    have HZ1:=Lib.hid hz1
    have HS:=Lib.hid (leastOf_any ad k c L wr HR.out Hn.out hs hok)
    have HLl:=Lib.hid (lst_len hok)
    clear hok hz0 hz1 HZ HF HX Hu
    go_wp2_with fail
    refine HS.out.mono ?_
    rintro e w4 ⟨v,rfl,hO,hB⟩
    obtain ⟨ad4,c4,rfl,_⟩:=hO.form
    have HQ:=Lib.hid (equal_pf ad4 ad c4 c (lst L) L w4 hO.rd (HR.out.below hB) (by have:=HLl.out;rw [Hn.out] at this;omega))
    rw [Hn.out] at HQ
    have HB4:=Lib.hid (HB.out.trans (hB.mono HB.out.size))
    clear hO hB HB HR HS HLl
    generalize (lst L).length=ll at *
    go_wp2_with fail
    refine HQ.out.mono ?_
    rintro e w5 ⟨rfl,q5,rfl⟩
    have HB5:=Lib.hid (below_drewN HB4.out q5)
    by_cases hq:lst L=L
    ·have HE:=Lib.hid (HZ0.out hq)
     rw [decide_eq_true hq]
     clear hq HQ HZ0 HZ1
     go_wp2_with fail
     go_ret
     exact ⟨by rw [HE.out];rfl,HB5.out⟩
    ·have HE:=Lib.hid (HZ1.out hq)
     rw [decide_eq_false hq]
     clear hq HQ HZ0 HZ1
     go_wp2_with fail
     go_ret
     exact ⟨by rw [HE.out];rfl,HB5.out⟩
def faultAt (L:List (Int × Int)) (i:Nat):Int :=
 if badP (L.getD i (0,0))=true then 1 else if i=0 then 0 else if (L.getD i (0,0)).1≤(L.getD (i - 1) (0,0)).1 then 7 else if (L.getD i (0,0)).1≤(L.getD (i - 1) (0,0)).2 + 1 then 16 else 0
def portsF (L:List (Int × Int)):Int:=(((List.range L.length).map (faultAt L)).find? (· != 0)).getD 0
theorem find_first (f:Nat→Int):∀ (n k:Nat),k < n→(∀ j,j < k→f j=0)→f k ≠ 0→(((List.range n).map f).find? (· != 0)).getD 0=f k
 | 0,k,h,_,_ => by omega
 | n + 1,k,h,h0,hk => by
   rw [List.range_succ,List.map_append,List.find?_append]
   rcases Nat.lt_or_ge k n with hl | hl
   ·have ih:=find_first f n k hl h0 hk
    cases hq:((List.range n).map f).find? (· != 0) with
    | some v => rw [hq] at ih;simpa using ih
    | none =>
      rw [hq] at ih
      simp at ih
      exact absurd ih.symm hk
   ·obtain rfl:k=n:=by omega
    have hq:((List.range k).map f).find? (· != 0)=none:=by
     rw [List.find?_eq_none]
     intro x hx
     obtain ⟨j,hj,rfl⟩:=List.mem_map.1 hx
     simp [h0 j (List.mem_range.1 hj)]
    rw [hq]
    simp [hk]
theorem portsF_hit {L:List (Int × Int)} {k:Nat} (hk:k < L.length) (h0:∀ j,j < k→faultAt L j=0) {r:Int} (hr:faultAt L k=r) (hn:r ≠ 0):portsF L=r:=by
 unfold portsF
 rw [find_first (faultAt L) L.length k hk h0 (by rw [hr];exact hn),hr]
theorem portsF_none {L:List (Int × Int)} (h0:∀ j,j < L.length→faultAt L j=0):portsF L=0:=by
 unfold portsF
 have hq:((List.range L.length).map (faultAt L)).find? (· != 0)=none:=by
  rw [List.find?_eq_none]
  intro x hx
  obtain ⟨j,hj,rfl⟩:=List.mem_map.1 hx
  simp [h0 j (List.mem_range.1 hj)]
 rw [hq]
 rfl
theorem not_bad {f t:Int} (h:badP (f,t)=false):0≤f∧f≤t∧t≤65535:=by
 rw [badP_in] at h
 unfold inB at h
 simp at h
 omega
theorem fault_not_bad {L:List (Int × Int)} {i:Nat} (h:faultAt L i=0):badP (L.getD i (0,0))=false:=by
 unfold faultAt at h
 split at h
 ·cases h
 ·rename_i h1;simpa using h1
theorem checkPorts (ad:Option Addr) (n c:Nat) (L:List (Int × Int)) (w:World) (h:RdP w ad L) (hn:L.length=n):Calls Tryz.prog 182 #[.slice ad n c] w (Ret (.int .i64 (portsF L)) w):=by
 have hs:=h.small
 rw [hn] at hs
 have H0:=Lib.hid h
 have Hn:=Lib.hid hn
 obtain ⟨af,haf⟩:∃ z,portsF L=z:=⟨_,rfl⟩
 rw [haf]
 have Haf:=Lib.hid haf
 have hs2:¬ ((n:Int) > 1000):=by omega
 clear haf h hn
 go_enter Tryz.func182,Tryz.ntmps182
 go_wp2
 go_loopw [3,4,5,11] (fun iv bx ev i wr => ∃ (k:Nat),k≤n∧i=.int .i64 k∧Hid (∀ j,j < k→faultAt L j=0)∧Hid (Below w.heap.size w wr)) (fun _ _ _ i _ => n - (intOf i).toNat)
 case atStart => exact ⟨0,Nat.zero_le _,rfl,Lib.hid fun j hj => absurd hj (Nat.not_lt_zero _),Lib.hid (Below.refl _ _)⟩
 case round =>
  obtain ⟨k,hk,rfl,HX,HB⟩:=hrel
  by_cases hlt:k < n
  ·obtain ⟨g,o,had,hg,c0,c1⟩:=(H0.out.below HB.out).cell k (by rw [Hn.out];exact hlt)
   subst had
   have Hkl:Hid (k < L.length):=Lib.hid (by rw [Hn.out];exact hlt)
   obtain ⟨p,hp⟩:∃ p,L.getD k (0,0)=p:=⟨_,rfl⟩
   rw [hp] at c0 c1
   have Hp:=Lib.hid hp
   clear hp
   obtain ⟨f,t⟩:=p
   simp only at c0 c1
   have Hpf:=Lib.hid (portsFault_any f t)
   have hpk:(portF (f,t)=1∧badP (f,t)=true) ∨ (portF (f,t)=0∧badP (f,t)=false):=by unfold portF;cases badP (f,t) <;> simp
   rcases hpk with ⟨e1,e2⟩ | ⟨e1,e2⟩
   ·rw [e1] at Hpf
    have Hbad:Hid (af=1):=Lib.hid (by rw [← Haf.out];exact portsF_hit Hkl.out HX.out (by unfold faultAt;rw [Hp.out,if_pos e2]) (by decide))
    clear e1 e2
    go_wp2_with fail
    refine (Hpf.out _).mono ?_
    rintro e w' ⟨rfl,hb⟩
    have HB2:=Lib.hid hb
    clear hb
    go_wp2_with fail
    go_ret
    exact ⟨by rw [Hbad.out];rfl,(below_alloc HB.out _).trans (HB2.out.mono (by have:=HB.out.size;simp;omega))⟩
   ·rw [e1] at Hpf
    have Hnb:=Lib.hid e2
    clear e1 e2
    go_wp2_with fail
    refine (Hpf.out _).mono ?_
    rintro e w' ⟨rfl,hb⟩
    have HB2:Hid (Below w.heap.size w w'):=Lib.hid ((below_alloc HB.out (.cells #[.int .i64 f, .int .i64 t] 132 (0,0))).trans (hb.mono (by have:=HB.out.size;simp;omega)))
    have HBx:Hid (Blk w' wr.heap.size 132 #[.int .i64 f, .int .i64 t]):=Lib.hid (Blk.below (Blk.new wr 132 #[.int .i64 f, .int .i64 t]) hb (by simp))
    clear hb c0 c1
    generalize wr.heap.size=bx at *
    have d0:=HBx.out.cell 0
    simp at d0
    rcases Nat.eq_zero_or_pos k with hk0 | hk0
    ·subst hk0
     have Hf0:Hid (faultAt L 0=0):=Lib.hid (by unfold faultAt;rw [Hp.out,if_neg (by rw [Hnb.out];decide),if_pos rfl])
     go_wp2_with fail
     refine ⟨⟨1,by omega,by go_num,Lib.hid fun j hj => ?_,HB2⟩,by simp [intOf];omega⟩
     obtain rfl:j=0:=by omega
     exact Hf0.out
    ·obtain ⟨j,rfl⟩:∃ j,k=j + 1:=⟨k - 1,by omega⟩
     obtain ⟨g',o',e9,hg',q0,q1⟩:=(H0.out.below HB2.out).cell j (by rw [Hn.out];omega)
     injection e9 with e9
     injection e9 with e10 e11 _
     subst e10 e11
     have hnb:=fault_not_bad (HX.out j (by omega))
     obtain ⟨p,hp⟩:∃ p,L.getD j (0,0)=p:=⟨_,rfl⟩
     rw [hp] at q0 q1 hnb
     have Hp':=Lib.hid hp
     clear hp
     obtain ⟨f',t'⟩:=p
     simp only at q0 q1
     obtain ⟨b1,b2,b3⟩:=not_bad hnb
     obtain ⟨b4,b5,b6⟩:=not_bad Hnb.out
     have hji:¬ (((j + 1:Nat):Int)=0):=by omega
     have Hfa:Hid (faultAt L (j + 1)=if f≤f' then 7 else if f≤t' + 1 then 16 else 0):=Lib.hid (by
      unfold faultAt
      rw [Nat.add_sub_cancel,Hp.out,Hp'.out,if_neg (by rw [Hnb.out];decide),if_neg (by omega)])
     clear hnb
     go_upto_region 10 with fail
     by_cases h7:f≤f'
     ·have Hbad:Hid (af=7):=Lib.hid (by rw [← Haf.out];exact portsF_hit Hkl.out HX.out (by rw [Hfa.out,if_pos h7]) (by decide))
      go_quiet (fail)
      go_wp2_with fail
      go_ret
      exact ⟨by rw [Hbad.out];rfl,below_drewN HB2.out _⟩
     ·go_quiet (fail)
      go_upto_region 12 with fail
      by_cases h16:f≤t' + 1
      ·have Hbad:Hid (af=16):=Lib.hid (by rw [← Haf.out];exact portsF_hit Hkl.out HX.out (by rw [Hfa.out,if_neg h7,if_pos h16]) (by decide))
       go_quiet (fail)
       go_wp2_with fail
       go_ret
       exact ⟨by rw [Hbad.out];rfl,below_drewN HB2.out _⟩
      ·have Hgood:Hid (faultAt L (j + 1)=0):=Lib.hid (by rw [Hfa.out,if_neg h7,if_neg h16])
       go_quiet (fail)
       go_wp2_with fail
       refine ⟨⟨j + 1 + 1,by omega,by first | go_num | rfl,Lib.hid fun i hi => ?_,Lib.hid (below_drewN HB2.out _)⟩,by simp [intOf];omega⟩
       rcases Nat.lt_or_ge i (j + 1) with h | h
       ·exact HX.out i h
       ·obtain rfl:i=j + 1:=by omega
        exact Hgood.out
  ·obtain rfl:k=n:=by omega
   go_wp2
   go_ret
   exact ⟨by rw [← Haf.out,portsF_none fun j hj => HX.out j (by rw [← Hn.out];exact hj)];rfl,HB.out⟩
theorem qPorts (ad:Option Addr) (n c:Nat) (L:List (Int × Int)) (w:World) (h:RdP w ad L) (hn:L.length=n):Calls Tryz.prog 108 #[.slice ad n c] w (Ret (.int .i64 (portsF L)) w):=by
 have hs:=h.small
 rw [hn] at hs
 have H0:=Lib.hid h
 have Hn:=Lib.hid hn
 obtain ⟨af,haf⟩:∃ z,portsF L=z:=⟨_,rfl⟩
 rw [haf]
 have Haf:=Lib.hid haf
 have hs2:¬ ((n:Int) > 1000):=by omega
 clear haf h hn
 go_enter Tryz.func108,Tryz.ntmps108
 go_wp2
 go_loopw [3,4,10] (fun iv bx i wr => ∃ (k:Nat),k≤n∧i=.int .i64 k∧Hid (∀ j,j < k→faultAt L j=0)∧Hid (Below w.heap.size w wr)) (fun _ _ i _ => n - (intOf i).toNat)
 case atStart => exact ⟨0,Nat.zero_le _,rfl,Lib.hid fun j hj => absurd hj (Nat.not_lt_zero _),Lib.hid (Below.refl _ _)⟩
 case round =>
  obtain ⟨k,hk,rfl,HX,HB⟩:=hrel
  by_cases hlt:k < n
  ·obtain ⟨g,o,had,hg,c0,c1⟩:=(H0.out.below HB.out).cell k (by rw [Hn.out];exact hlt)
   subst had
   have Hkl:Hid (k < L.length):=Lib.hid (by rw [Hn.out];exact hlt)
   obtain ⟨p,hp⟩:∃ p,L.getD k (0,0)=p:=⟨_,rfl⟩
   rw [hp] at c0 c1
   have Hp:=Lib.hid hp
   clear hp
   obtain ⟨f,t⟩:=p
   simp only at c0 c1
   have Hbp:=Lib.hid (badP_in f t)
   have Hin:=Lib.hid (in_any f 0 t)
   generalize inB f 0 t=ib at *
   by_cases ht:(65535:Int) < t
   ·have Hbad:Hid (af=1):=Lib.hid (by rw [← Haf.out];exact portsF_hit Hkl.out HX.out (by unfold faultAt;rw [Hp.out,if_pos (by rw [Hbp.out,decide_eq_true ht];simp)]) (by decide))
    cases ib
    all_goals
     go_wp2_with fail
     refine (Hin.out _).mono ?_
     rintro e w' ⟨rfl,rfl⟩
     go_wp2_with fail
     go_ret
     exact ⟨by rw [Hbad.out];rfl,by repeat (first | (refine below_set ?_ HB.out.size _ _) | exact below_alloc HB.out _)⟩
   ·cases ib
    ·have Hbad:Hid (af=1):=Lib.hid (by rw [← Haf.out];exact portsF_hit Hkl.out HX.out (by unfold faultAt;rw [Hp.out,if_pos (by rw [Hbp.out];rfl)]) (by decide))
     go_wp2_with fail
     refine (Hin.out _).mono ?_
     rintro e w' ⟨rfl,rfl⟩
     go_wp2_with fail
     go_ret
     exact ⟨by rw [Hbad.out];rfl,by repeat (first | (refine below_set ?_ HB.out.size _ _) | exact below_alloc HB.out _)⟩
    ·have Hnb:Hid (badP (f,t)=false):=Lib.hid (by rw [Hbp.out,decide_eq_false ht];rfl)
     go_wp2_with fail
     refine (Hin.out _).mono ?_
     rintro e w' ⟨rfl,rfl⟩
     have HB2:Hid (Below w.heap.size w (wr.alloc (.cells #[.int .i64 f, .int .i64 t] 132 (0,0)))):=Lib.hid (below_alloc HB.out (.cells #[.int .i64 f, .int .i64 t] 132 (0,0)))
     go_upto_region 8 with fail
     have HBx:Hid (Blk (wr.alloc (.cells #[.int .i64 f, .int .i64 t] 132 (0,0))) wr.heap.size 132 #[.int .i64 f, .int .i64 t]):=Lib.hid (Blk.new wr 132 #[.int .i64 f, .int .i64 t])
     clear c0 c1 hg
     generalize wr.alloc (.cells #[.int .i64 f, .int .i64 t] 132 (0,0))=w' at *
     generalize wr.heap.size=bx at *
     have d0:=HBx.out.cell 0
     simp at d0
     rcases Nat.eq_zero_or_pos k with hk0 | hk0
     ·subst hk0
      have Hf0:Hid (faultAt L 0=0):=Lib.hid (by unfold faultAt;rw [Hp.out,if_neg (by rw [Hnb.out];decide),if_pos rfl])
      go_quiet (fail)
      go_upto_region 10 with fail
      go_quiet (fail)
      go_wp2_with fail
      refine ⟨⟨1,by omega,by go_num,Lib.hid fun j hj => ?_,Lib.hid (below_drewN HB2.out _)⟩,by simp [intOf];omega⟩
      obtain rfl:j=0:=by omega
      exact Hf0.out
     ·obtain ⟨j,rfl⟩:∃ j,k=j + 1:=⟨k - 1,by omega⟩
      obtain ⟨g',o',e9,hg',q0,q1⟩:=(H0.out.below HB2.out).cell j (by rw [Hn.out];omega)
      injection e9 with e9
      injection e9 with e10 e11 _
      subst e10 e11
      have hnb:=fault_not_bad (HX.out j (by omega))
      obtain ⟨p,hp⟩:∃ p,L.getD j (0,0)=p:=⟨_,rfl⟩
      rw [hp] at q0 q1 hnb
      have Hp':=Lib.hid hp
      clear hp
      obtain ⟨f',t'⟩:=p
      simp only at q0 q1
      obtain ⟨b1,b2,b3⟩:=not_bad hnb
      obtain ⟨b4,b5,b6⟩:=not_bad Hnb.out
      have hji:((j + 1:Nat):Int) > 0:=by omega
      have Hfa:Hid (faultAt L (j + 1)=if f≤f' then 7 else if f≤t' + 1 then 16 else 0):=Lib.hid (by
       unfold faultAt
       rw [Nat.add_sub_cancel,Hp.out,Hp'.out,if_neg (by rw [Hnb.out];decide),if_neg (by omega)])
      clear hnb
      by_cases h7:f≤f'
      ·have Hbad:Hid (af=7):=Lib.hid (by rw [← Haf.out];exact portsF_hit Hkl.out HX.out (by rw [Hfa.out,if_pos h7]) (by decide))
       go_quiet (fail)
       go_wp2_with fail
       go_ret
       exact ⟨by rw [Hbad.out];rfl,below_drewN HB2.out _⟩
      ·go_quiet (fail)
       go_upto_region 10 with fail
       by_cases h16:f≤t' + 1
       ·have Hbad:Hid (af=16):=Lib.hid (by rw [← Haf.out];exact portsF_hit Hkl.out HX.out (by rw [Hfa.out,if_neg h7,if_pos h16]) (by decide))
        go_quiet (fail)
        go_wp2_with fail
        go_ret
        exact ⟨by rw [Hbad.out];rfl,below_drewN HB2.out _⟩
       ·have Hgood:Hid (faultAt L (j + 1)=0):=Lib.hid (by rw [Hfa.out,if_neg h7,if_neg h16])
        go_quiet (fail)
        go_wp2_with fail
        refine ⟨⟨j + 1 + 1,by omega,by first | go_num | rfl,Lib.hid fun i hi => ?_,Lib.hid (below_drewN HB2.out _)⟩,by simp [intOf];omega⟩
        rcases Nat.lt_or_ge i (j + 1) with h | h
        ·exact HX.out i h
        ·obtain rfl:i=j + 1:=by omega
         exact Hgood.out
  ·obtain rfl:k=n:=by omega
   go_wp2
   go_ret
   exact ⟨by rw [← Haf.out,portsF_none fun j hj => HX.out j (by rw [← Hn.out];exact hj)];rfl,HB.out⟩
structure PoOk (p:Int × Int):Prop where
 b1:-9223372036854775808≤p.1
 b2:p.1≤9223372036854775807
 b3:-9223372036854775808≤p.2
 b4:p.2≤9223372036854775807
def portsG (L:List (Int × Int)):Int:=if 1000 < L.length then 2 else portsF L
def rowF (r:FR):Int :=
 if outB r.p 0 255=true then 1
 else if setF r.src ≠ 0 then setF r.src
 else if setF r.dst ≠ 0 then setF r.dst
 else if r.src=[] ∨ r.dst=[] ∨ r.po=[] then 3
 else if portsG r.po ≠ 0 then portsG r.po
 else if r.p ≠ 0∧hasPorts r.p=false∧r.po ≠ [(0,65535)] then 16
 else 0
def rowsF1:List FR→Int
 | [] => 0
 | r :: L => if rowF r ≠ 0 then rowF r else rowsF1 L
def rowsF (L:List FR):Int:=if 300 < L.length then 2 else rowsF1 L
theorem rowsF1_append (A:List FR) (r:FR) (h:rowsF1 A=0):rowsF1 (A ++ [r])=rowF r:=by
 induction A with
 | nil => unfold rowsF1;by_cases hr:rowF r=0 <;> simp [hr,rowsF1]
 | cons a A ih =>
   rw [List.cons_append]
   unfold rowsF1 at h ⊢
   by_cases ha:rowF a=0
   ·rw [if_neg (by simp [ha])] at h ⊢
    exact ih h
   ·rw [if_pos ha] at h
    exact absurd h ha
theorem rowsF1_at:∀ (L:List FR) (k:Nat) (r:FR),rowsF1 (L.take k)=0→L[k]?=some r→rowF r ≠ 0→rowsF1 L=rowF r
 | [],k,r,_,h,_ => by simp at h
 | a :: L,0,r,_,h,hr => by
   have:a=r:=by simpa using h
   subst this
   unfold rowsF1
   rw [if_pos hr]
 | a :: L,k + 1,r,h0,h,hr => by
   rw [List.take_succ_cons] at h0
   unfold rowsF1 at h0 ⊢
   by_cases ha:rowF a ≠ 0
   ·rw [if_pos ha] at h0
    exact absurd h0 ha
   ·rw [if_neg ha] at h0 ⊢
    exact rowsF1_at L k r h0 (by simpa using h) hr
theorem rowsF1_next {L:List FR} {k:Nat} {r:FR} (h0:rowsF1 (L.take k)=0) (h:L[k]?=some r) (hr:rowF r=0):rowsF1 (L.take (k + 1))=0:=by
 have hk:=(List.getElem?_eq_some_iff.1 h).1
 have he:L[k]=r:=(List.getElem?_eq_some_iff.1 h).2
 rw [List.take_succ_eq_append_getElem hk,he,rowsF1_append _ _ h0,hr]
open Go.RowKit Go Go.Sort
def itB (n:Int):ByteArray:=⟨(Lib.itoa n).toArray⟩
theorem itB_size {n:Int} (h0:-9223372036854775808≤n) (h1:n≤9223372036854775807):(itB n).size≤21:=by
 have:=Lib.itoa_length_le n h0 h1
 unfold itB
 show (Lib.itoa n).toArray.size≤21
 rw [List.size_toArray]
 exact this
theorem join_own {w:World} {B:Nat} {v:Value} {M:List ByteArray} (b:UInt8) (h:OwnS w B v M) (hn:M.length≤1000000) (hz:(joinS M ⟨#[b]⟩).size≤140737488355328):Calls Tryz.prog 132 #[v, .string ⟨#[b]⟩] w (Ret (.string (joinS M ⟨#[b]⟩)) w):=by
 rcases Nat.eq_zero_or_pos M.length with h0 | h0
 ·obtain ⟨ad,c,rfl, -⟩:=own_form h
  obtain rfl:=List.eq_nil_of_length_eq_zero h0
  refine (Tryz.strings_Join_none ad c ⟨#[b]⟩ w).mono ?_
  rintro e w' ⟨rfl,rfl⟩
  exact ⟨rfl,Below.refl _ _⟩
 ·obtain ⟨g,c,rfl,hB,hg,hc,hm,hcell⟩:=h.one h0
  have hz2:(Lib.join (M.map (·.data.toList)) (⟨#[b]⟩:ByteArray).data.toList).length≤140737488355328:=by
   have h2:(joinS M ⟨#[b]⟩).size=(Lib.join (M.map (·.data.toList)) (⟨#[b]⟩:ByteArray).data.toList).length:=by
    show (Lib.join _ _).toArray.size=_
    rw [List.size_toArray]
   omega
  exact (Tryz.strings_Join g 0 c M ⟨#[b]⟩ w (fun j x hx => by rw [Nat.zero_add];exact hcell j x hx) hg (by omega) hc hz2).mono fun e w' h => h
theorem itoaI_any (n:Int) (h0:-9223372036854775808≤n) (h1:n≤9223372036854775807) (w:World) (ht:Tabs w):Calls Tryz.prog 111 #[.int .i64 n] w (Ret (.string (itB n)) w):=by
 refine (Tryz.strconv_Itoa n h0 h1 w ht.1).mono ?_
 rintro e w' ⟨rfl,k,os,rfl⟩
 exact ⟨rfl,below_grow (Below.refl _ _) (Nat.le_refl _) _ _⟩
def poB (p:Int × Int):ByteArray:=if p.1=p.2 then itB p.1 else itB p.1 ++ ⟨#[45]⟩ ++ itB p.2
def anyB (n:Int):ByteArray:=if n=0 then ⟨#[97,110,121]⟩ else itB n
def commaB (L:List ByteArray):ByteArray:=joinS L ⟨#[44]⟩
def rowB (r:FR):ByteArray:=anyB r.p ++ ⟨#[32]⟩ ++ commaB (r.src.map pfBy) ++ ⟨#[32]⟩ ++ commaB (r.dst.map pfBy) ++ ⟨#[32]⟩ ++ commaB (r.po.map poB)
def rowsT (L:List FR):List UInt8:=L.flatMap fun r => (rowB r).data.toList ++ [10]
theorem rowsT_take {L:List FR} {k:Nat} {r:FR} (h:L[k]?=some r):rowsT (L.take (k + 1))=rowsT (L.take k) ++ ((rowB r).data.toList ++ [10]):=by
 unfold rowsT
 rw [List.take_add_one,h,List.flatMap_append]
 simp
theorem poB_size {p:Int × Int} (h0:-9223372036854775808≤p.1) (h1:p.1≤9223372036854775807) (h2:-9223372036854775808≤p.2) (h3:p.2≤9223372036854775807):(poB p).size≤43:=by
 have a:=itB_size h0 h1
 have b:=itB_size h2 h3
 unfold poB
 split
 ·omega
 ·rw [ByteArray.size_append,ByteArray.size_append]
  have:(⟨#[45]⟩:ByteArray).size=1:=rfl
  omega
theorem anyB_size {n:Int} (h0:-9223372036854775808≤n) (h1:n≤9223372036854775807):(anyB n).size≤21:=by
 unfold anyB
 split
 ·show 3≤21;omega
 ·exact itB_size h0 h1
theorem commaB_size (L:List ByteArray) (m:Nat) (h:∀ x ∈ L,x.size≤m):(commaB L).size≤(m + 1) * L.length:=by
 unfold commaB joinS
 show (Lib.join (L.map (·.data.toList)) [44]).toArray.size≤_
 rw [List.size_toArray]
 cases L with
 | nil => exact Nat.zero_le _
 | cons x r =>
   rw [List.map_cons,Lib.join_length]
   have key:∀ L:List ByteArray,(∀ x ∈ L,x.size≤m)→Lib.lens (L.map (·.data.toList))≤m * L.length:=fun L => by
    induction L with
    | nil => intro _;exact Nat.zero_le _
    | cons y L ih =>
      intro h
      have h1:=ih fun z hz => h z (List.mem_cons_of_mem _ hz)
      have h2:=h y (List.mem_cons_self ..)
      have h3:y.data.toList.length=y.size:=by rw [Array.length_toList];rfl
      rw [List.map_cons,List.length_cons,Nat.mul_succ]
      simp only [Lib.lens] at h1 ⊢
      rw [List.map_cons,List.sum_cons,h3]
      omega
   have h1:=key (x :: r) h
   rw [List.map_cons] at h1
   have h2:(m + 1) * (x :: r).length=m * (x :: r).length + (x :: r).length:=by rw [Nat.add_mul,Nat.one_mul]
   rw [h2,List.length_map]
   have h3:([44]:List UInt8).length=1:=rfl
   rw [h3,List.length_cons] at *
   omega
def rdW {α:Type} (f:List UInt8→Option α):List (List UInt8)→List α→Option (List α)
 | [],acc => some acc
 | w :: ws,acc => match f w with
  | some p => rdW f ws (acc ++ [p])
  | none => none
theorem rdW_step {α:Type} {f:List UInt8→Option α} {A:List (List UInt8)} {k:Nat} {x:List UInt8} {acc:List α} (hx:A[k]?=some x) :
  rdW f (A.drop k) acc=match f x with
   | some p => rdW f (A.drop (k + 1)) (acc ++ [p])
   | none => none:=by
 obtain ⟨hl,rfl⟩:=List.getElem?_eq_some_iff.1 hx
 rw [List.drop_eq_getElem_cons hl,rdW]
theorem rdW_end {α:Type} {f:List UInt8→Option α} {A:List (List UInt8)} {acc:List α}:rdW f (A.drop A.length) acc=some acc:=by
 rw [List.drop_length,rdW]
def poP (s:List UInt8):Option (Int × Int) :=
 if (Lib.cut s [45]).2.2=true then
  if numOk (Lib.cut s [45]).1 9=true∧numOk (Lib.cut s [45]).2.1 9=true∧numV (Lib.cut s [45]).1 ≠ numV (Lib.cut s [45]).2.1∧0≤numV (Lib.cut s [45]).2.1 then some (numV (Lib.cut s [45]).1,numV (Lib.cut s [45]).2.1) else none
 else if numOk (Lib.cut s [45]).1 9=true then some (numV (Lib.cut s [45]).1,numV (Lib.cut s [45]).1) else none
def anyP (s:List UInt8):Option Int:=if s=[97,110,121] then some 0 else if numOk s 9=true∧0 < numV s then some (numV s) else none
def rowP (s:List UInt8):Option FR :=
 if (spl 32 s).contains []=true then none else match spl 32 s with
  | [a,b,c,d] => match anyP a,rdW pP (spl 44 b) [],rdW pP (spl 44 c) [],rdW poP (spl 44 d) [] with
   | some p,some x,some y,some z => some ⟨p,x,y,z⟩
   | _,_,_,_ => none
  | _ => none
theorem bInfo:∃ j,Tryz.prog.info? 137=some j∧j.size=2:=Option.map_eq_some_iff.1 (show (Tryz.prog.info? 137).map (·.size)=some 2 by kernel_rfl)
theorem bCheck_used (b:Nat) (w:World) (h0:w.cell? ⟨b,0,none⟩=some (.pointer (some ⟨b,0,none⟩))) :
  Calls Tryz.prog 185 #[.pointer (some ⟨b,0,none⟩)] w fun e w' => e=.returned (.tuple #[])∧w'=w:=by
 obtain ⟨j,hj,_⟩:=bInfo
 go_enter Tryz.func185,Tryz.ntmps185
 go_wp2
 rw [Lib.run_neq_ptr_same w _ Tryz.underlying134 hj]
 go_wp2
 go_end0
 exact ⟨rfl,rfl⟩
theorem bCheck_fresh (b:Nat) (w:World) (h0:w.cell? ⟨b,0,none⟩=some (.pointer none)) (hsh:w.shape? b=some (137,2)) (hfz:w.frozen? ⟨b,0,none⟩=false) :
  Calls Tryz.prog 185 #[.pointer (some ⟨b,0,none⟩)] w fun e w' => e=.returned (.tuple #[])∧w'=w.setCell ⟨b,0,none⟩ (.pointer (some ⟨b,0,none⟩)):=by
 obtain ⟨j,hj,hjs⟩:=bInfo
 have hlies:liesAt Tryz.prog Tryz.prog.depth 137 (2 / Tryz.prog.cellsOf 137) 0 137 1=true:=by kernel_rfl
 go_enter Tryz.func185,Tryz.ntmps185
 go_wp2
 rw [Lib.run_to_unsafe w ⟨b,0,none⟩ Tryz.underlying134 Tryz.underlying263 hj (by rw [hjs];decide) hsh (Nat.zero_lt_succ 1)]
 simp only [Result.andThen]
 rw [Oper.upon_value]
 go_wp2
 rw [run_callFunc_extern Tryz.func253 (by kernel_rfl) (by kernel_rfl) (by kernel_rfl) (e:=Extern.AbiNoEscape.same) (by kernel_rfl)]
 rw [Lib.run_noEscape]
 simp only [Result.andThen]
 rw [Oper.upon_value]
 go_wp2
 rw [Lib.run_from_unsafe w ⟨b,0,none⟩ Tryz.underlying263 Tryz.underlying134 hj hsh hlies]
 simp only [Result.andThen]
 rw [Oper.upon_value]
 go_wp2
 go_end0
 exact ⟨rfl,rfl⟩
theorem bCheck_any (B b:Nat) (bs:List Value) (w:World) (h:Lib.IsBuilder 137 5 B b bs w) :
  Calls Tryz.prog 185 #[.pointer (some ⟨b,0,none⟩)] w fun e w' => e=.returned (.tuple #[])∧(Lib.BuilderAt 137 5 B b (.pointer (some ⟨b,0,none⟩)) bs w'∧Below B w w'):=by
 rcases h with h | h
 ·refine (bCheck_fresh b w h.cell0 h.shape h.frozen0).mono ?_
  rintro e w' ⟨rfl,rfl⟩
  exact ⟨rfl,h.used _,(Below.refl B w).setCell (p:=⟨b,0,none⟩) h.1 _⟩
 ·refine (bCheck_used b w h.cell0).mono ?_
  rintro e w' ⟨rfl,rfl⟩
  exact ⟨rfl,h,Below.refl B _⟩
theorem bWrite_any (B b:Nat) (bs:List Value) (s:ByteArray) (w:World) (h:Lib.IsBuilder 137 5 B b bs w) (hlen:bs.length + s.size≤140737488355328) (hBw:B≤w.heap.size) :
  Calls Tryz.prog 103 #[.pointer (some ⟨b,0,none⟩), .string s] w fun e w' => e=.returned (.tuple #[.int .i64 s.size, .nilIface])∧(Lib.BuilderAt 137 5 B b (.pointer (some ⟨b,0,none⟩)) (bs ++ Lib.strCells s) w'∧Below B w w'):=by
 obtain ⟨i0,hi,hz0,hz1,hz2⟩:=info_parts (show (Tryz.prog.info? 5).map (fun i => (i.zero,i.size,i.bytes))=some (some (.int .u8 0),1,1) by kernel_rfl)
 have hne5:(137:Nat) ≠ 5:=by decide
 have HC:=Lib.hid (bCheck_any B b bs w h)
 clear h
 go_enter Tryz.func103,Tryz.ntmps103
 go_wp2_with fail
 refine HC.out.mono ?_
 rintro e w1 ⟨rfl,h1,hb1⟩
 obtain ⟨hB,v,hbk,hown,hne⟩:=h1
 have c0:w1.cell? ⟨b,0,none⟩=some (.pointer (some ⟨b,0,none⟩)):=by rw [Lib.cell_of_heap hbk];rfl
 have c1:w1.cell? ⟨b,1,none⟩=some v:=by rw [Lib.cell_of_heap hbk];rfl
 go_wp2_with (at_builtin;refine Lib.wpList_append_own_string _ rfl _ _ 135 9 rfl B 5 i0 Tryz.underlying135 Tryz.underlying9 hi hz0 hz1 hz2 _ _ _ rfl hown s rfl ?c3 ?c4 ?c5 ?_)
 case c3 => unfold maxLen;omega
 case c4 => omega
 case c5 => have:=hb1.size;omega
 intro v' w2 hown' hgrow _
 have hlt:b < w1.heap.size:=by
  rcases Nat.lt_or_ge b w1.heap.size with h' | h'
  ·exact h'
  ·simp [Array.getElem?_eq_none h'] at hbk
 have hb2:w2.heap[b]?=some (.cells #[.pointer (some ⟨b,0,none⟩),v] 137 (0,0)):=by
  rw [hgrow.block b hlt (fun e => hne e.symm)]
  exact hbk
 have d0:w2.cell? ⟨b,0,none⟩=some (.pointer (some ⟨b,0,none⟩)):=by rw [Lib.cell_of_heap hb2];rfl
 have d1:w2.cell? ⟨b,1,none⟩=some v:=by rw [Lib.cell_of_heap hb2];rfl
 have f1:w2.frozen? ⟨b,1,none⟩=false:=Lib.frozen_of_heap hb2 1
 obtain ⟨ao,n',cap,rfl⟩:∃ ao n' cap,v'=.slice ao n' cap:=by
  rcases hown'.2 with ⟨hv,_⟩ | ⟨g,cap,cur,hv,_⟩
  ·exact ⟨_,_,_,hv⟩
  ·exact ⟨_,_,_,hv⟩
 go_wp2_with fail
 go_ret2
 refine ⟨rfl,?_,?_⟩
 ·exact Lib.BuilderAt.put (T:=137) (e:=5) hB hb2 (bs':=bs ++ Lib.strCells s) (by simpa [Lib.strCells_length] using hown') hne5
 ·exact (hb1.grown hgrow (by have:=hb1.size;omega) (fun k hk => (hown.lt k hk).1)).setCell (p:=⟨b,1,none⟩) hB _
def PfxOk (b:Nat) (w:World) (m:Nat) (e:Ending) (w':World):Prop :=
 ∃ p:Pf,e=.returned (.agg (pfC p).toArray)∧OkPf p∧Gen b w w' m
theorem rightPrefix_ok (b m:Nat) (w:World) (h:Strm w b m) (hm:m + 10 < 1099511627776) :
  Calls Tryz.prog 144 #[.pointer (some ⟨b,0,none⟩)] w (PfxOk b w (m + 5)):=by
 have hblt:=h.lt
 have HG0:Hid (Gen b w (w.alloc (.cells #[.bool false, .int .u64 0, .int .u64 0, .int .i64 0] 30 (0,0))) m):=Lib.hid ((Gen.start h).alloc _)
 have HR0:Hid (Blk (w.alloc (.cells #[.bool false, .int .u64 0, .int .u64 0, .int .i64 0] 30 (0,0))) w.heap.size 30 #[.bool false, .int .u64 0, .int .u64 0, .int .i64 0]):=Lib.hid (Blk.new w _ _)
 clear h
 go_enter Tryz.func144,Tryz.ntmps144
 go_wp2_with fail
 refine (mAddr_gen b m _ HG0.out.s (by omega)).mono ?_
 rintro e w1 ⟨six,hi0,lo0,rfl,⟨hu1,hu2,hu3⟩,hg⟩
 obtain ⟨hi,rfl,h1⟩:=nat_of_U64 hu1
 obtain ⟨lo,rfl,h2⟩:=nat_of_U64 hu2
 have HU:=Lib.hid (And.intro h1 h2)
 have HA:Hid (AOK six hi lo):=Lib.hid ⟨h1,h2,fun e => by have:=hu3 e;omega⟩
 have HG1:=Lib.hid ((HG0.out.trans hg).alloc (.cells #[.bool six, .int .u64 (hi:Int), .int .u64 (lo:Int)] 28 (0,0)))
 have HR1:=Lib.hid ((HR0.out.keep hg.g (by omega)).alloc (.cells #[.bool six, .int .u64 (hi:Int), .int .u64 (lo:Int)] 28 (0,0)))
 have HA1:Hid (Blk (w1.alloc (.cells #[.bool six, .int .u64 (hi:Int), .int .u64 (lo:Int)] 28 (0,0))) w1.heap.size 28 #[.bool six, .int .u64 (hi:Int), .int .u64 (lo:Int)]):=Lib.hid (Blk.new w1 _ _)
 have hw1:w.heap.size < w1.heap.size:=HR0.out.keep hg.g (by omega) |> Blk.lt
 clear hu1 hu2 hu3 h1 h2 hg HG0 HR0
 unfold vAddr
 go_upto_region 2 with fail
 generalize w1.alloc (.cells #[.bool six, .int .u64 (hi:Int), .int .u64 (lo:Int)] 28 (0,0))=w2 at *
 generalize w1.heap.size=F at *
 have key:∀ (n:Nat) (wx:World),n≤128→Calls Tryz.prog 142 #[.agg #[.bool six, .int .u64 (hi:Int), .int .u64 (lo:Int)], .int .i64 (n:Int)] wx (Ret (vP six (mHi six hi n) (mLo six lo n) (n:Int)) wx):=fun n wx hn => maskOf_any six hi lo n wx HU.out.1 HU.out.2 hn
 have HK:=Lib.hid key
 clear key
 go_wp2_with fail
 refine (pick_new b (m + 3) _ _ _ _ [0,8,24,27,28,29,30,31,32] _ HG1.out.s rfl (by omega) rfl (by decide) rfl).mono ?_
 rintro e w3 ⟨x,rfl,hx,hg⟩
 have hxb:0≤x∧x≤32:=by simp at hx;omega
 obtain ⟨n,rfl⟩:=Int.eq_ofNat_of_zero_le hxb.1
 have hn:n≤128:=by omega
 have hn32:n≤32:=by omega
 have HG3:=Lib.hid (HG1.out.trans hg)
 have HR3:=Lib.hid (HR1.out.keep hg.g (by omega))
 have HA3:=Lib.hid (HA1.out.keep hg.g (by omega))
 clear hx hxb hg HG1 HR1 HA1
 have a0:=HA3.out.cell 0
 have a1:=HA3.out.cell 1
 have a2:=HA3.out.cell 2
 simp at a0 a1 a2
 cases six
 ·go_wp2_with fail
  refine (HK.out n _ hn).mono ?_
  rintro e w5 ⟨rfl,hb⟩
  have HG5:=Lib.hid (HG3.out.below0 hb HG3.out.s.lt)
  have HR5:=Lib.hid (HR3.out.below hb HR3.out.lt)
  have HO:Hid (POK false (mHi false hi n) (mLo false lo n) n):=Lib.hid (mask_pok HA.out hn32)
  have h1:U64N (mHi false hi n):=mHi_lt HU.out.1
  have h2:U64N (mLo false lo n):=mLo_lt HU.out.2
  generalize mHi false hi n=mh at *
  generalize mLo false lo n=ml at *
  have HU2:=Lib.hid (And.intro h1 h2)
  clear h1 h2 hb a0 a1 a2 HG3 HR3 HA3
  have r0:=HR5.out.cell 0
  have r1:=HR5.out.cell 1
  have r2:=HR5.out.cell 2
  have r3:=HR5.out.cell 3
  have rf:=HR5.out.free
  simp at r0 r1 r2 r3
  unfold vP
  go_wp2_with fail
  refine bodyPost_ret (v:=.agg #[.bool false, .int .u64 (mh:Int), .int .u64 (ml:Int), .int .i64 (n:Int)]) (by simp [results,Tryz.results144,go_sem,r0,r1,r2,r3]) rfl ⟨(false,mh,ml,(n:Int)),rfl,⟨rfl,HO.out⟩,?_⟩
  repeat refine Gen.setCell ?_ _ _ (Nat.le_refl _) hblt
  exact HG5.out.mono (by omega)
 ·go_wp2_with fail
  refine (pick_new b (m + 3 + 1) _ _ _ _ [0,8,32,48,63,64,65,96,127,128] _ HG3.out.s rfl (by omega) rfl (by decide) rfl).mono ?_
  rintro e w4 ⟨x,rfl,hx,hg⟩
  have hxb:0≤x∧x≤128:=by simp at hx;omega
  obtain ⟨n2,rfl⟩:=Int.eq_ofNat_of_zero_le hxb.1
  have hn2:n2≤128:=by omega
  have HG4:=Lib.hid (HG3.out.trans hg)
  have HR4:=Lib.hid (HR3.out.keep hg.g (by omega))
  have HA4:=Lib.hid (HA3.out.keep hg.g (by omega))
  clear hx hxb hg HG3 HR3 HA3 a0 a1 a2
  have a0:=HA4.out.cell 0
  have a1:=HA4.out.cell 1
  have a2:=HA4.out.cell 2
  simp at a0 a1 a2
  go_wp2_with fail
  refine (HK.out n2 _ hn2).mono ?_
  rintro e w5 ⟨rfl,hb⟩
  have HG5:=Lib.hid (HG4.out.below0 hb HG4.out.s.lt)
  have HR5:=Lib.hid (HR4.out.below hb HR4.out.lt)
  have HO:Hid (POK true (mHi true hi n2) (mLo true lo n2) n2):=Lib.hid (mask_pok HA.out hn2)
  have h1:U64N (mHi true hi n2):=mHi_lt HU.out.1
  have h2:U64N (mLo true lo n2):=mLo_lt HU.out.2
  generalize mHi true hi n2=mh at *
  generalize mLo true lo n2=ml at *
  have HU2:=Lib.hid (And.intro h1 h2)
  clear h1 h2 hb a0 a1 a2 HG4 HR4 HA4
  have r0:=HR5.out.cell 0
  have r1:=HR5.out.cell 1
  have r2:=HR5.out.cell 2
  have r3:=HR5.out.cell 3
  have rf:=HR5.out.free
  simp at r0 r1 r2 r3
  unfold vP
  go_wp2_with fail
  refine bodyPost_ret (v:=.agg #[.bool true, .int .u64 (mh:Int), .int .u64 (ml:Int), .int .i64 (n2:Int)]) (by simp [results,Tryz.results144,go_sem,r0,r1,r2,r3]) rfl ⟨(true,mh,ml,(n2:Int)),rfl,⟨rfl,HO.out⟩,?_⟩
  repeat refine Gen.setCell ?_ _ _ (Nat.le_refl _) hblt
  exact HG5.out.mono (by omega)
theorem OkPf.aF {p:Pf} (h:OkPf p):aFault p.1 (p.2.1:Int) (p.2.2.1:Int)=0:=by
 obtain ⟨h1,h2,h3⟩:=h.ok.1
 unfold aFault
 rw [if_neg]
 rintro ⟨e,h⟩
 have:=h3 e
 omega
end Go.Proofs.YtdhldhkhpndpjaaGreatDoor
