/-
  The reference's LeastOf and SpanOf.
  The reference's SetFault.
  The first fault of a list of ranges that is to be least: program and reference.
  The fault of rows.
  hasPorts of both.
  Rows of ranges that a call owns: two cells an element.
  slices.Equal of two rows of ranges.
  The generator of a range of ports.
-/
import Derived.Test.YthebgfnaomgcnaaGreatFT15
import Derived.Test.YthebgfnaomgcnaaGreatFT14
import Derived.Test.YthebgfnaomgcnaaGreatFT5
import Derived.Laws.StructEq
set_option linter.unusedVariables false
set_option maxRecDepth 100000
set_option maxHeartbeats 4000000
namespace Go.Proofs.YthebgfnaomgcnaaGreat
open Go.RowKit Go
theorem leastOf_any (ad : Option Addr) (n c : Nat) (L : List Pf) (w : World) (h : RdK layPf w ad L) (hn : L.length = n) (hs : n ≤ 100000) (hv : ∀ p ∈ L,OkPf p) :
  Calls Tryz.prog 77 #[.slice ad n c] w fun e w' => ∃ v,e = .returned v ∧ OwnK layPf w' w.heap.size v (lst L) ∧ Below w.heap.size w w':=by
 have HS:=Lib.hid (spansOf_any ad n c L w h hn hs hv)
 have HJv:=Lib.hid (sps_vr hv)
 have HJl:=Lib.hid (jn_len (L.map spP))
 have Hlst : Hid (pfs (jn (L.map spP)) = lst L):=Lib.hid rfl
 have Hn:=Lib.hid hn
 clear h hn hv
 generalize jn (L.map spP) = J at *
 go_enter Tryz.func77,Tryz.ntmps77
 go_wp2_with fail
 refine HS.out.mono ?_
 rintro e w3 ⟨v,rfl,hO,hB⟩
 obtain ⟨ad3,c3,rfl,_⟩:=hO.form
 have HT:=Lib.hid (qprefixes_any ad3 J.length c3 J w3 hO.rd rfl (by have:=HJl.out;rw [List.length_map,Hn.out] at this;omega) HJv.out)
 rw [Hlst.out] at HT
 have HB3:=Lib.hid hB
 clear hO hB HS HJl HJv Hlst
 generalize J.length = jl at *
 go_wp2_with fail
 refine HT.out.mono ?_
 rintro e w4 ⟨v,rfl,hO,hB⟩
 have HO4:=Lib.hid (hO.weak HB3.out.size)
 have HB4:=Lib.hid (HB3.out.trans (hB.mono HB3.out.size))
 clear hO hB
 go_wp2_with fail
 go_ret
 exact ⟨_,rfl,HO4.out,HB4.out⟩
theorem RdK.blk {α : Type} (E : Lay α) {w : World} {B : Nat} {t : TypeId} {cs : Array Value} {x : α} (hb : Blk w B t cs) (h : cs = (E.enc x).toArray) : RdK E w (some ⟨B,0,none⟩) [x]:=by
 subst h
 intro i y hy
 cases i with
 | zero =>
   simp at hy
   subst hy
   refine ⟨B,0,rfl,hb.lt,fun j v hv => ?_⟩
   rw [show 0 + (0 * E.K + j) = j by omega,hb.cell j]
   simpa using hv
 | succ i => simp at hy
theorem setFault_any (ad : Option Addr) (n c : Nat) (L : List Pf) (w : World) (h : RdK layPf w ad L) (hn : L.length = n) (hs : n ≤ 100000) (hu : U4 L) :
  Calls Tryz.prog 33 #[.slice ad n c] w (Ret (.int .i64 (setF L)) w):=by
 by_cases hb : 1000 < n
 ·have e : setF L = 2:=by unfold setF;rw [hn,if_pos hb]
  rw [e]
  have hb2 : (n : Int) > 1000:=by omega
  clear h hu hn e
  go_enter Tryz.func33,Tryz.ntmps33
  go_wp2_with fail
  go_ret
  exact ⟨rfl,Below.refl _ _⟩
 ·have hb2 : ¬ (n : Int) > 1000:=by omega
  have H0:=Lib.hid h
  have Hn:=Lib.hid hn
  have Hu:=Lib.hid hu
  have HF : Hid (∀ k,k < n → (∀ j,j < k → fAt L j = 0) → fAt L k ≠ 0 → setF L = fAt L k):=Lib.hid fun k hk h1 h2 => by
   have e:=firstN_hit (fAt L) n k hk h1 h2
   unfold setF scanF
   rw [hn,if_neg hb,if_pos (by rw [e];exact h2),e]
  have HZ : Hid ((∀ j,j < n → fAt L j = 0) → (∀ p ∈ L,OkPf p) ∧ (lst L = L → setF L = 0) ∧ (lst L ≠ L → setF L = 16)):=Lib.hid fun h1 => by
   have e:=firstN_none (fAt L) n h1
   refine ⟨fun p hp => ?_,fun h2 => ?_,fun h2 => ?_⟩
   ·obtain ⟨i,hi,rfl⟩:=List.getElem_of_mem hp
    have:=fAt_zero (h1 i (by omega))
    simp only [List.getD,List.getElem?_eq_getElem hi,Option.getD_some] at this
    obtain ⟨u1,u2⟩:=hu _ (List.getElem_mem hi)
    exact okPf_of this u1 u2
   ·unfold setF scanF
    rw [hn,if_neg hb,e,if_neg (by decide),if_pos h2]
   ·unfold setF scanF
    rw [hn,if_neg hb,e,if_neg (by decide),if_neg h2]
  obtain ⟨af,haf⟩ : ∃ z,setF L = z:=⟨_,rfl⟩
  rw [haf] at HF HZ ⊢
  clear haf h hn hu hb
  go_enter Tryz.func33,Tryz.ntmps33
  go_wp2_with fail
  go_loopw [3,4,5,11] (fun iv bx ev i wr => ∃ (k : Nat),k ≤ n ∧ i = .int .i64 k ∧ Hid (∀ j,j < k → fAt L j = 0) ∧ Hid (Below w.heap.size w wr)) (fun _ _ _ i _ => n - (intOf i).toNat)
  case atStart => exact ⟨0,Nat.zero_le _,rfl,Lib.hid fun j hj => absurd hj (Nat.not_lt_zero _),Lib.hid (Below.refl _ _)⟩
  case round =>
   obtain ⟨k,hk,rfl,HX,HB⟩:=hrel
   by_cases hlt : k < n
   ·have hS : k < L.length:=by rw [Hn.out];exact hlt
    obtain ⟨p,hp⟩ : ∃ p,L[k]? = some p:=⟨_,List.getElem?_eq_getElem hS⟩
    have hpd : L.getD k zPf = p:=by simp [List.getD,hp]
    have HU:=Lib.hid (Hu.out p (List.mem_of_getElem? hp))
    obtain ⟨g,o,had,hg,c0,c1,c2,c3⟩:=(H0.out.below HB.out).pf hp rfl
    subst had
    have HP:=Lib.hid fun wx => prefixFault_any p.1 p.2.1 p.2.2.1 p.2.2.2 wx HU.out.1 HU.out.2
    have HFk:=Lib.hid (HF.out k hlt HX.out)
    have HXk : Hid (fAt L k = 0 → ∀ j,j < k + 1 → fAt L j = 0):=Lib.hid fun e j hj => by
     rcases Nat.lt_or_ge j k with h1 | h1
     ·exact HX.out j h1
     ·obtain rfl : j = k:=by omega
      exact e
    have HA : Hid (fAt L k = if pfF p ≠ 0 then pfF p else if 0 < k ∧ nuP p ≤ nuP (L.getD (k - 1) zPf) then 7 else 0):=Lib.hid (by unfold fAt;rw [hpd])
    have HNu : Hid (nuP p = numA p.1 p.2.1 p.2.2.1):=Lib.hid rfl
    unfold pfF at HA
    unfold vP at HP
    clear hp hS hpd hg HX
    generalize hFe : pFault p.1 p.2.1 p.2.2.1 p.2.2.2 = F at *
    clear hFe
    generalize p.1 = a1 at *
    generalize p.2.1 = a2 at *
    generalize p.2.2.1 = a3 at *
    generalize p.2.2.2 = a4 at *
    have HB1 : Hid (Below w.heap.size w (wr.alloc (.cells #[.bool a1, .int .u64 (a2 : Int), .int .u64 (a3 : Int), .int .i64 a4] 104 (0,0)))):=Lib.hid (Below.alloc HB.out HB.out.size _)
    have HP1 : Hid (Blk (wr.alloc (.cells #[.bool a1, .int .u64 (a2 : Int), .int .u64 (a3 : Int), .int .i64 a4] 104 (0,0))) wr.heap.size 104 #[.bool a1, .int .u64 (a2 : Int), .int .u64 (a3 : Int), .int .i64 a4]):=Lib.hid (Blk.new wr _ _)
    go_upto_region 6 with fail
    generalize wr.alloc (.cells #[.bool a1, .int .u64 (a2 : Int), .int .u64 (a3 : Int), .int .i64 a4] 104 (0,0)) = w3 at *
    generalize wr.heap.size = bx at *
    clear HB c0 c1 c2 c3
    have d0:=HP1.out.cell 0
    have d1:=HP1.out.cell 1
    have d2:=HP1.out.cell 2
    have d3:=HP1.out.cell 3
    simp at d0 d1 d2 d3
    go_wp2_with fail
    refine (HP.out _).mono ?_
    rintro e w4 ⟨rfl,hb⟩
    have HB4:=Lib.hid (HB1.out.trans (hb.mono HB1.out.size))
    have HP4:=Lib.hid (HP1.out.below hb HP1.out.lt)
    clear hb HB1 HP1 HP d0 d1 d2 d3
    by_cases hF0 : F = 0
    ·rcases Nat.eq_zero_or_pos k with hk0 | hk0
     ·have HX2:=Lib.hid (HXk.out (by rw [HA.out,if_neg (by simp [hF0]),if_neg (by omega)]))
      subst hF0 hk0
      have z0 : ((0 : Nat) : Int) = 0:=rfl
      simp only [z0]
      clear HFk HXk HA HNu HU
      go_wp2_with fail
      refine wp_region_later (by kernel_rfl) (by kernel_rfl) ?_
      repeat (go_big_quiet_step (fail))
      refine wpQuiet_nil ?_
      rintro w5 ⟨n5,hn5⟩
      have hb : Below w4.heap.size w4 w5:=by rw [hn5];exact n5.2
      clear hn5 n5
      have HB5:=Lib.hid (HB4.out.trans (hb.mono HB4.out.size))
      clear hb
      go_wp2_with fail
      exact ⟨⟨1,by omega,by first | rfl | go_num,HX2,HB5⟩,by simp [intOf];omega⟩
     ·obtain ⟨j,hj⟩ : ∃ j,k = j + 1:=⟨k - 1,by omega⟩
      have hjS : j < L.length:=by rw [Hn.out];omega
      obtain ⟨q,hq⟩ : ∃ q,L[j]? = some q:=⟨_,List.getElem?_eq_getElem hjS⟩
      have hqd : L.getD (k - 1) zPf = q:=by rw [hj];simp [List.getD,hq]
      obtain ⟨hu3,hu4⟩:=Hu.out q (List.mem_of_getElem? hq)
      obtain ⟨g',o',had,hg',b0,b1,b2,b3⟩:=(H0.out.below HB4.out).pf hq rfl
      injection had with had
      injection had with had1 had2
      subst had1 had2
      have HO:=Lib.hid fun wx => order_any q.1 q.2.1 q.2.2.1 a1 a2 a3 wx hu3 hu4 HU.out.1 HU.out.2
      have HA2 : Hid (fAt L k = if nuP p ≤ nuP q then 7 else 0):=Lib.hid (by
       rw [HA.out,if_neg (by simp [hF0]),hqd]
       by_cases h1 : nuP p ≤ nuP q
       ·rw [if_pos h1,if_pos ⟨hk0,h1⟩]
       ·rw [if_neg h1,if_neg (fun h => h1 h.2)])
      have HCg:=Lib.hid (cN_ge_iff (nuP q) (nuP p))
      have HNq : Hid (nuP q = numA q.1 q.2.1 q.2.2.1):=Lib.hid rfl
      rw [← HNq.out, ← HNu.out] at HO
      clear hq hqd hjS hu3 hu4 HA HNu HNq hg'
      generalize nuP q = nq at *
      generalize nuP p = np at *
      generalize q.1 = e1 at *
      generalize q.2.1 = e2 at *
      generalize q.2.2.1 = e3 at *
      generalize q.2.2.2 = e4 at *
      have i1 : (k : Int) - 1 = (j : Int):=by omega
      have i2 : decide (0 < k) = true:=decide_eq_true hk0
      have i3 : (j : Int) < (n : Int):=by omega
      have i4 : (0 : Int) ≤ (j : Int):=by omega
      have i5 : (k : Int) ≤ 1000:=by omega
      have Hj:=Lib.hid hj
      clear hj hk0
      have d0:=HP4.out.cell 0
      have d1:=HP4.out.cell 1
      have d2:=HP4.out.cell 2
      have d3:=HP4.out.cell 3
      simp at d0 d1 d2 d3
      have l0:=Later.cell_of d0
      have l1:=Later.cell_of d1
      have l2:=Later.cell_of d2
      have k0:=Later.cell_of b0
      have k1:=Later.cell_of b1
      have k2:=Later.cell_of b2
      have hO:=fun x : Later w4 => Calls.later x (HO.out x.1)
      subst hF0
      generalize cN nq np = C at *
      go_upto_region 9 with fail
      refine wp_region_later (by kernel_rfl) (by kernel_rfl) ?_
      repeat (go_big_quiet_step ((go_at_call 75;exact hO _)))
      refine wpQuiet_nil ?_
      rintro w5 ⟨n5,hn5⟩
      have hb : Below w4.heap.size w4 w5:=by rw [hn5];exact n5.2
      clear hn5 n5 hO HO l0 l1 l2 k0 k1 k2 d0 d1 d2 d3 b0 b1 b2 b3
      have HB5:=Lib.hid (HB4.out.trans (hb.mono HB4.out.size))
      clear hb HP4 HB4
      by_cases hnn : np ≤ nq
      ·have hC0 : C ≥ 0:=HCg.out.2 hnn
       have HE:=Lib.hid (HFk.out (by rw [HA2.out,if_pos hnn];decide))
       have HE2 : Hid (af = 7):=Lib.hid (by rw [HE.out,HA2.out,if_pos hnn])
       clear HFk HXk HA2 HE HU
       go_wp2_with fail
       go_ret
       exact ⟨by rw [HE2.out];rfl,HB5.out⟩
      ·have hC0 : ¬ C ≥ 0:=fun h => hnn (HCg.out.1 h)
       have HX2:=Lib.hid (HXk.out (by rw [HA2.out,if_neg hnn]))
       clear HFk HXk HA2 HU
       go_wp2_with fail
       exact ⟨⟨k + 1,by omega,by go_num,HX2,HB5⟩,by simp [intOf];omega⟩
    ·have hF2 : (F != 0) = true:=by simpa using hF0
     have hFA : fAt L k = F:=by rw [HA.out,if_pos hF0]
     have HE : Hid (af = F):=Lib.hid (by rw [HFk.out (by rw [hFA];exact hF0),hFA])
     clear HFk HXk hF0 HA hFA HU
     go_wp2_with fail
     go_ret
     exact ⟨by rw [HE.out];rfl,HB4.out⟩
   ·obtain rfl : k = n:=by omega
    obtain ⟨hok,hz0,hz1⟩:=HZ.out HX.out
    have HR:=Lib.hid (H0.out.below HB.out)
    have HZ0:=Lib.hid hz0
    have HZ1:=Lib.hid hz1
    have HS:=Lib.hid (leastOf_any ad k c L wr HR.out Hn.out hs hok)
    have HLl:=Lib.hid (lst_len hok)
    clear hok hz0 hz1 HZ HF HX Hu
    go_wp2_with fail
    refine HS.out.mono ?_
    rintro e w4 ⟨v,rfl,hO,hB⟩
    obtain ⟨ad4,c4,rfl,_⟩:=hO.form
    have HQ:=Lib.hid (equal_pf ad4 ad c4 c (lst L) L w4 hO.rd (HR.out.below hB) (by have:=HLl.out;rw [Hn.out] at this;omega))
    rw [Hn.out] at HQ
    have HB4:=Lib.hid (HB.out.trans (hB.mono HB.out.size))
    clear hO hB HB HR HS HLl
    generalize (lst L).length = ll at *
    go_wp2_with fail
    refine HQ.out.mono ?_
    rintro e w5 ⟨rfl,q5,rfl⟩
    have HB5:=Lib.hid (below_drewN HB4.out q5)
    by_cases hq : lst L = L
    ·have HE:=Lib.hid (HZ0.out hq)
     rw [decide_eq_true hq]
     clear hq HQ HZ0 HZ1
     go_wp2_with fail
     go_ret
     exact ⟨by rw [HE.out];rfl,HB5.out⟩
    ·have HE:=Lib.hid (HZ1.out hq)
     rw [decide_eq_false hq]
     clear hq HQ HZ0 HZ1
     go_wp2_with fail
     go_ret
     exact ⟨by rw [HE.out];rfl,HB5.out⟩
def faultAt (L : List (Int × Int)) (i : Nat) : Int :=
 if badP (L.getD i (0,0)) = true then 1 else if i = 0 then 0 else if (L.getD i (0,0)).1 ≤ (L.getD (i - 1) (0,0)).1 then 7 else if (L.getD i (0,0)).1 ≤ (L.getD (i - 1) (0,0)).2 + 1 then 16 else 0
def portsF (L : List (Int × Int)) : Int:=(((List.range L.length).map (faultAt L)).find? (· != 0)).getD 0
theorem find_first (f : Nat → Int) : ∀ (n k : Nat),k < n → (∀ j,j < k → f j = 0) → f k ≠ 0 → (((List.range n).map f).find? (· != 0)).getD 0 = f k
 | 0,k,h,_,_ => by omega
 | n + 1,k,h,h0,hk => by
   rw [List.range_succ,List.map_append,List.find?_append]
   rcases Nat.lt_or_ge k n with hl | hl
   ·have ih:=find_first f n k hl h0 hk
    cases hq : ((List.range n).map f).find? (· != 0) with
    | some v => rw [hq] at ih;simpa using ih
    | none =>
      rw [hq] at ih
      simp at ih
      exact absurd ih.symm hk
   ·obtain rfl : k = n:=by omega
    have hq : ((List.range k).map f).find? (· != 0) = none:=by
     rw [List.find?_eq_none]
     intro x hx
     obtain ⟨j,hj,rfl⟩:=List.mem_map.1 hx
     simp [h0 j (List.mem_range.1 hj)]
    rw [hq]
    simp [hk]
theorem portsF_hit {L : List (Int × Int)} {k : Nat} (hk : k < L.length) (h0 : ∀ j,j < k → faultAt L j = 0) {r : Int} (hr : faultAt L k = r) (hn : r ≠ 0) : portsF L = r:=by
 unfold portsF
 rw [find_first (faultAt L) L.length k hk h0 (by rw [hr];exact hn),hr]
theorem portsF_none {L : List (Int × Int)} (h0 : ∀ j,j < L.length → faultAt L j = 0) : portsF L = 0:=by
 unfold portsF
 have hq : ((List.range L.length).map (faultAt L)).find? (· != 0) = none:=by
  rw [List.find?_eq_none]
  intro x hx
  obtain ⟨j,hj,rfl⟩:=List.mem_map.1 hx
  simp [h0 j (List.mem_range.1 hj)]
 rw [hq]
 rfl
theorem not_bad {f t : Int} (h : badP (f,t) = false) : 0 ≤ f ∧ f ≤ t ∧ t ≤ 65535:=by
 rw [badP_in] at h
 unfold inB at h
 simp at h
 omega
theorem fault_not_bad {L : List (Int × Int)} {i : Nat} (h : faultAt L i = 0) : badP (L.getD i (0,0)) = false:=by
 unfold faultAt at h
 split at h
 ·cases h
 ·rename_i h1;simpa using h1
theorem checkPorts (ad : Option Addr) (n c : Nat) (L : List (Int × Int)) (w : World) (h : RdP w ad L) (hn : L.length = n) : Calls Tryz.prog 69 #[.slice ad n c] w (Ret (.int .i64 (portsF L)) w):=by
 have hs:=h.small
 rw [hn] at hs
 have H0:=Lib.hid h
 have Hn:=Lib.hid hn
 obtain ⟨af,haf⟩ : ∃ z,portsF L = z:=⟨_,rfl⟩
 rw [haf]
 have Haf:=Lib.hid haf
 have hs2 : ¬ ((n : Int) > 1000):=by omega
 clear haf h hn
 go_enter Tryz.func69,Tryz.ntmps69
 go_wp2
 go_loopw [3,4,5,11] (fun iv bx ev i wr => ∃ (k : Nat),k ≤ n ∧ i = .int .i64 k ∧ Hid (∀ j,j < k → faultAt L j = 0) ∧ Hid (Below w.heap.size w wr)) (fun _ _ _ i _ => n - (intOf i).toNat)
 case atStart => exact ⟨0,Nat.zero_le _,rfl,Lib.hid fun j hj => absurd hj (Nat.not_lt_zero _),Lib.hid (Below.refl _ _)⟩
 case round =>
  obtain ⟨k,hk,rfl,HX,HB⟩:=hrel
  by_cases hlt : k < n
  ·obtain ⟨g,o,had,hg,c0,c1⟩:=(H0.out.below HB.out).cell k (by rw [Hn.out];exact hlt)
   subst had
   have Hkl : Hid (k < L.length):=Lib.hid (by rw [Hn.out];exact hlt)
   obtain ⟨p,hp⟩ : ∃ p,L.getD k (0,0) = p:=⟨_,rfl⟩
   rw [hp] at c0 c1
   have Hp:=Lib.hid hp
   clear hp
   obtain ⟨f,t⟩:=p
   simp only at c0 c1
   have Hpf:=Lib.hid (portsFault_any f t)
   have hpk : (portF (f,t) = 1 ∧ badP (f,t) = true) ∨ (portF (f,t) = 0 ∧ badP (f,t) = false):=by unfold portF;cases badP (f,t) <;> simp
   rcases hpk with ⟨e1,e2⟩ | ⟨e1,e2⟩
   ·rw [e1] at Hpf
    have Hbad : Hid (af = 1):=Lib.hid (by rw [← Haf.out];exact portsF_hit Hkl.out HX.out (by unfold faultAt;rw [Hp.out,if_pos e2]) (by decide))
    clear e1 e2
    go_wp2_with fail
    refine (Hpf.out _).mono ?_
    rintro e w' ⟨rfl,hb⟩
    have HB2:=Lib.hid hb
    clear hb
    go_wp2_with fail
    go_ret
    exact ⟨by rw [Hbad.out];rfl,(below_alloc HB.out _).trans (HB2.out.mono (by have:=HB.out.size;simp;omega))⟩
   ·rw [e1] at Hpf
    have Hnb:=Lib.hid e2
    clear e1 e2
    go_wp2_with fail
    refine (Hpf.out _).mono ?_
    rintro e w' ⟨rfl,hb⟩
    have HB2 : Hid (Below w.heap.size w w'):=Lib.hid ((below_alloc HB.out (.cells #[.int .i64 f, .int .i64 t] 74 (0,0))).trans (hb.mono (by have:=HB.out.size;simp;omega)))
    have HBx : Hid (Blk w' wr.heap.size 74 #[.int .i64 f, .int .i64 t]):=Lib.hid (Blk.below (Blk.new wr 74 #[.int .i64 f, .int .i64 t]) hb (by simp))
    clear hb c0 c1
    generalize wr.heap.size = bx at *
    have d0:=HBx.out.cell 0
    simp at d0
    rcases Nat.eq_zero_or_pos k with hk0 | hk0
    ·subst hk0
     have Hf0 : Hid (faultAt L 0 = 0):=Lib.hid (by unfold faultAt;rw [Hp.out,if_neg (by rw [Hnb.out];decide),if_pos rfl])
     go_wp2_with fail
     refine ⟨⟨1,by omega,by go_num,Lib.hid fun j hj => ?_,HB2⟩,by simp [intOf];omega⟩
     obtain rfl : j = 0:=by omega
     exact Hf0.out
    ·obtain ⟨j,rfl⟩ : ∃ j,k = j + 1:=⟨k - 1,by omega⟩
     obtain ⟨g',o',e9,hg',q0,q1⟩:=(H0.out.below HB2.out).cell j (by rw [Hn.out];omega)
     injection e9 with e9
     injection e9 with e10 e11 _
     subst e10 e11
     have hnb:=fault_not_bad (HX.out j (by omega))
     obtain ⟨p,hp⟩ : ∃ p,L.getD j (0,0) = p:=⟨_,rfl⟩
     rw [hp] at q0 q1 hnb
     have Hp':=Lib.hid hp
     clear hp
     obtain ⟨f',t'⟩:=p
     simp only at q0 q1
     obtain ⟨b1,b2,b3⟩:=not_bad hnb
     obtain ⟨b4,b5,b6⟩:=not_bad Hnb.out
     have hji : ¬ (((j + 1 : Nat) : Int) = 0):=by omega
     have Hfa : Hid (faultAt L (j + 1) = if f ≤ f' then 7 else if f ≤ t' + 1 then 16 else 0):=Lib.hid (by
      unfold faultAt
      rw [Nat.add_sub_cancel,Hp.out,Hp'.out,if_neg (by rw [Hnb.out];decide),if_neg (by omega)])
     clear hnb
     go_upto_region 10 with fail
     by_cases h7 : f ≤ f'
     ·have Hbad : Hid (af = 7):=Lib.hid (by rw [← Haf.out];exact portsF_hit Hkl.out HX.out (by rw [Hfa.out,if_pos h7]) (by decide))
      go_quiet (fail)
      go_wp2_with fail
      go_ret
      exact ⟨by rw [Hbad.out];rfl,below_drewN HB2.out _⟩
     ·go_quiet (fail)
      go_upto_region 12 with fail
      by_cases h16 : f ≤ t' + 1
      ·have Hbad : Hid (af = 16):=Lib.hid (by rw [← Haf.out];exact portsF_hit Hkl.out HX.out (by rw [Hfa.out,if_neg h7,if_pos h16]) (by decide))
       go_quiet (fail)
       go_wp2_with fail
       go_ret
       exact ⟨by rw [Hbad.out];rfl,below_drewN HB2.out _⟩
      ·have Hgood : Hid (faultAt L (j + 1) = 0):=Lib.hid (by rw [Hfa.out,if_neg h7,if_neg h16])
       go_quiet (fail)
       go_wp2_with fail
       refine ⟨⟨j + 1 + 1,by omega,by first | go_num | rfl,Lib.hid fun i hi => ?_,Lib.hid (below_drewN HB2.out _)⟩,by simp [intOf];omega⟩
       rcases Nat.lt_or_ge i (j + 1) with h | h
       ·exact HX.out i h
       ·obtain rfl : i = j + 1:=by omega
        exact Hgood.out
  ·obtain rfl : k = n:=by omega
   go_wp2
   go_ret
   exact ⟨by rw [← Haf.out,portsF_none fun j hj => HX.out j (by rw [← Hn.out];exact hj)];rfl,HB.out⟩
theorem qPorts (ad : Option Addr) (n c : Nat) (L : List (Int × Int)) (w : World) (h : RdP w ad L) (hn : L.length = n) : Calls Tryz.prog 34 #[.slice ad n c] w (Ret (.int .i64 (portsF L)) w):=by
 have hs:=h.small
 rw [hn] at hs
 have H0:=Lib.hid h
 have Hn:=Lib.hid hn
 obtain ⟨af,haf⟩ : ∃ z,portsF L = z:=⟨_,rfl⟩
 rw [haf]
 have Haf:=Lib.hid haf
 have hs2 : ¬ ((n : Int) > 1000):=by omega
 clear haf h hn
 go_enter Tryz.func34,Tryz.ntmps34
 go_wp2
 go_loopw [3,4,10] (fun iv bx i wr => ∃ (k : Nat),k ≤ n ∧ i = .int .i64 k ∧ Hid (∀ j,j < k → faultAt L j = 0) ∧ Hid (Below w.heap.size w wr)) (fun _ _ i _ => n - (intOf i).toNat)
 case atStart => exact ⟨0,Nat.zero_le _,rfl,Lib.hid fun j hj => absurd hj (Nat.not_lt_zero _),Lib.hid (Below.refl _ _)⟩
 case round =>
  obtain ⟨k,hk,rfl,HX,HB⟩:=hrel
  by_cases hlt : k < n
  ·obtain ⟨g,o,had,hg,c0,c1⟩:=(H0.out.below HB.out).cell k (by rw [Hn.out];exact hlt)
   subst had
   have Hkl : Hid (k < L.length):=Lib.hid (by rw [Hn.out];exact hlt)
   obtain ⟨p,hp⟩ : ∃ p,L.getD k (0,0) = p:=⟨_,rfl⟩
   rw [hp] at c0 c1
   have Hp:=Lib.hid hp
   clear hp
   obtain ⟨f,t⟩:=p
   simp only at c0 c1
   have Hbp:=Lib.hid (badP_in f t)
   have Hin:=Lib.hid (in_any f 0 t)
   generalize inB f 0 t = ib at *
   by_cases ht : (65535 : Int) < t
   ·have Hbad : Hid (af = 1):=Lib.hid (by rw [← Haf.out];exact portsF_hit Hkl.out HX.out (by unfold faultAt;rw [Hp.out,if_pos (by rw [Hbp.out,decide_eq_true ht];simp)]) (by decide))
    cases ib
    all_goals
     go_wp2_with fail
     refine (Hin.out _).mono ?_
     rintro e w' ⟨rfl,rfl⟩
     go_wp2_with fail
     go_ret
     exact ⟨by rw [Hbad.out];rfl,by repeat (first | (refine below_set ?_ HB.out.size _ _) | exact below_alloc HB.out _)⟩
   ·cases ib
    ·have Hbad : Hid (af = 1):=Lib.hid (by rw [← Haf.out];exact portsF_hit Hkl.out HX.out (by unfold faultAt;rw [Hp.out,if_pos (by rw [Hbp.out];rfl)]) (by decide))
     go_wp2_with fail
     refine (Hin.out _).mono ?_
     rintro e w' ⟨rfl,rfl⟩
     go_wp2_with fail
     go_ret
     exact ⟨by rw [Hbad.out];rfl,by repeat (first | (refine below_set ?_ HB.out.size _ _) | exact below_alloc HB.out _)⟩
    ·have Hnb : Hid (badP (f,t) = false):=Lib.hid (by rw [Hbp.out,decide_eq_false ht];rfl)
     go_wp2_with fail
     refine (Hin.out _).mono ?_
     rintro e w' ⟨rfl,rfl⟩
     have HB2 : Hid (Below w.heap.size w (wr.alloc (.cells #[.int .i64 f, .int .i64 t] 74 (0,0)))):=Lib.hid (below_alloc HB.out (.cells #[.int .i64 f, .int .i64 t] 74 (0,0)))
     go_upto_region 8 with fail
     have HBx : Hid (Blk (wr.alloc (.cells #[.int .i64 f, .int .i64 t] 74 (0,0))) wr.heap.size 74 #[.int .i64 f, .int .i64 t]):=Lib.hid (Blk.new wr 74 #[.int .i64 f, .int .i64 t])
     clear c0 c1 hg
     generalize wr.alloc (.cells #[.int .i64 f, .int .i64 t] 74 (0,0)) = w' at *
     generalize wr.heap.size = bx at *
     have d0:=HBx.out.cell 0
     simp at d0
     rcases Nat.eq_zero_or_pos k with hk0 | hk0
     ·subst hk0
      have Hf0 : Hid (faultAt L 0 = 0):=Lib.hid (by unfold faultAt;rw [Hp.out,if_neg (by rw [Hnb.out];decide),if_pos rfl])
      go_quiet (fail)
      go_upto_region 10 with fail
      go_quiet (fail)
      go_wp2_with fail
      refine ⟨⟨1,by omega,by go_num,Lib.hid fun j hj => ?_,Lib.hid (below_drewN HB2.out _)⟩,by simp [intOf];omega⟩
      obtain rfl : j = 0:=by omega
      exact Hf0.out
     ·obtain ⟨j,rfl⟩ : ∃ j,k = j + 1:=⟨k - 1,by omega⟩
      obtain ⟨g',o',e9,hg',q0,q1⟩:=(H0.out.below HB2.out).cell j (by rw [Hn.out];omega)
      injection e9 with e9
      injection e9 with e10 e11 _
      subst e10 e11
      have hnb:=fault_not_bad (HX.out j (by omega))
      obtain ⟨p,hp⟩ : ∃ p,L.getD j (0,0) = p:=⟨_,rfl⟩
      rw [hp] at q0 q1 hnb
      have Hp':=Lib.hid hp
      clear hp
      obtain ⟨f',t'⟩:=p
      simp only at q0 q1
      obtain ⟨b1,b2,b3⟩:=not_bad hnb
      obtain ⟨b4,b5,b6⟩:=not_bad Hnb.out
      have hji : ((j + 1 : Nat) : Int) > 0:=by omega
      have Hfa : Hid (faultAt L (j + 1) = if f ≤ f' then 7 else if f ≤ t' + 1 then 16 else 0):=Lib.hid (by
       unfold faultAt
       rw [Nat.add_sub_cancel,Hp.out,Hp'.out,if_neg (by rw [Hnb.out];decide),if_neg (by omega)])
      clear hnb
      by_cases h7 : f ≤ f'
      ·have Hbad : Hid (af = 7):=Lib.hid (by rw [← Haf.out];exact portsF_hit Hkl.out HX.out (by rw [Hfa.out,if_pos h7]) (by decide))
       go_quiet (fail)
       go_wp2_with fail
       go_ret
       exact ⟨by rw [Hbad.out];rfl,below_drewN HB2.out _⟩
      ·go_quiet (fail)
       go_upto_region 10 with fail
       by_cases h16 : f ≤ t' + 1
       ·have Hbad : Hid (af = 16):=Lib.hid (by rw [← Haf.out];exact portsF_hit Hkl.out HX.out (by rw [Hfa.out,if_neg h7,if_pos h16]) (by decide))
        go_quiet (fail)
        go_wp2_with fail
        go_ret
        exact ⟨by rw [Hbad.out];rfl,below_drewN HB2.out _⟩
       ·have Hgood : Hid (faultAt L (j + 1) = 0):=Lib.hid (by rw [Hfa.out,if_neg h7,if_neg h16])
        go_quiet (fail)
        go_wp2_with fail
        refine ⟨⟨j + 1 + 1,by omega,by first | go_num | rfl,Lib.hid fun i hi => ?_,Lib.hid (below_drewN HB2.out _)⟩,by simp [intOf];omega⟩
        rcases Nat.lt_or_ge i (j + 1) with h | h
        ·exact HX.out i h
        ·obtain rfl : i = j + 1:=by omega
         exact Hgood.out
  ·obtain rfl : k = n:=by omega
   go_wp2
   go_ret
   exact ⟨by rw [← Haf.out,portsF_none fun j hj => HX.out j (by rw [← Hn.out];exact hj)];rfl,HB.out⟩
def rowF (r : FR) : Int :=
 if outB r.p 0 255 = true then 1
 else if setF r.src ≠ 0 then setF r.src
 else if setF r.dst ≠ 0 then setF r.dst
 else if r.src = [] ∨ r.dst = [] ∨ r.po = [] then 3
 else if portsF r.po ≠ 0 then portsF r.po
 else if r.p ≠ 0 ∧ hasPorts r.p = false ∧ r.po ≠ [(0,65535)] then 16
 else 0
def rowsF1 : List FR → Int
 | [] => 0
 | r :: L => if rowF r ≠ 0 then rowF r else rowsF1 L
def rowsF (L : List FR) : Int:=if 300 < L.length then 2 else rowsF1 L
theorem rowsF1_append (A : List FR) (r : FR) (h : rowsF1 A = 0) : rowsF1 (A ++ [r]) = rowF r:=by
 induction A with
 | nil => unfold rowsF1;by_cases hr : rowF r = 0 <;> simp [hr,rowsF1]
 | cons a A ih =>
   rw [List.cons_append]
   unfold rowsF1 at h ⊢
   by_cases ha : rowF a = 0
   ·rw [if_neg (by simp [ha])] at h ⊢
    exact ih h
   ·rw [if_pos ha] at h
    exact absurd h ha
theorem rowsF1_at : ∀ (L : List FR) (k : Nat) (r : FR),rowsF1 (L.take k) = 0 → L[k]? = some r → rowF r ≠ 0 → rowsF1 L = rowF r
 | [],k,r,_,h,_ => by simp at h
 | a :: L,0,r,_,h,hr => by
   have : a = r:=by simpa using h
   subst this
   unfold rowsF1
   rw [if_pos hr]
 | a :: L,k + 1,r,h0,h,hr => by
   rw [List.take_succ_cons] at h0
   unfold rowsF1 at h0 ⊢
   by_cases ha : rowF a ≠ 0
   ·rw [if_pos ha] at h0
    exact absurd h0 ha
   ·rw [if_neg ha] at h0 ⊢
    exact rowsF1_at L k r h0 (by simpa using h) hr
theorem rowsF1_next {L : List FR} {k : Nat} {r : FR} (h0 : rowsF1 (L.take k) = 0) (h : L[k]? = some r) (hr : rowF r = 0) : rowsF1 (L.take (k + 1)) = 0:=by
 have hk:=(List.getElem?_eq_some_iff.1 h).1
 have he : L[k] = r:=(List.getElem?_eq_some_iff.1 h).2
 rw [List.take_succ_eq_append_getElem hk,he,rowsF1_append _ _ h0,hr]
theorem qhasPorts_any (p : Int) (w : World) : Calls Tryz.prog 35 #[.int .i64 p] w fun e w' => e = .returned (.bool (decide (p = 0) || hasPorts p)) ∧ w = w':=by
 go_enter Tryz.func35,Tryz.ntmps35
 go_wp2
 all_goals (go_ret;exact ⟨by (simp_all [hasPorts];try (rw [Bool.eq_iff_iff];simp_all)),rfl⟩)
def encP (p : Int × Int) : List Value:=[.int .i64 p.1, .int .i64 p.2]
def encPs (L : List (Int × Int)) : List Value:=L.flatMap encP
theorem encPs_len : ∀ L : List (Int × Int),(encPs L).length = L.length * 2
 | [] => rfl
 | p :: L => by have:=encPs_len L;simp [encPs,encP] at this ⊢;omega
theorem encPs_append (A B : List (Int × Int)) : encPs (A ++ B) = encPs A ++ encPs B:=by simp [encPs]
theorem encPs_get : ∀ (L : List (Int × Int)) (i : Nat),i < L.length → (encPs L)[i * 2]? = some (.int .i64 (L.getD i (0,0)).1) ∧ (encPs L)[i * 2 + 1]? = some (.int .i64 (L.getD i (0,0)).2)
 | [],i,h => by simp at h
 | p :: L,0,h => by simp [encPs,encP]
 | p :: L,i + 1,h => by
   have:=encPs_get L i (by simpa using h)
   rw [show (i + 1) * 2 = i * 2 + 1 + 1 by omega]
   simpa [encPs,encP] using this
theorem encPs_set1 : ∀ (L : List (Int × Int)) (i : Nat) (x : Int),i < L.length → (encPs L).set (i * 2 + 1) (.int .i64 x) = encPs (L.set i ((L.getD i (0,0)).1,x))
 | [],i,x,h => by simp at h
 | p :: L,0,x,h => by simp [encPs,encP]
 | p :: L,i + 1,x,h => by
   have:=encPs_set1 L i x (by simpa using h)
   rw [show (i + 1) * 2 + 1 = i * 2 + 1 + 1 + 1 by omega]
   simp [encPs,encP] at this ⊢
   exact this
def OwnP (w : World) (base : Nat) (v : Value) (L : List (Int × Int)) : Prop:=w.ownsRow base 74 2 v L.length (encPs L)
theorem portE : EI Tryz.prog 69 74 2 16:=EI.mk' (z:=.agg #[.int .i64 0, .int .i64 0]) Tryz.underlying69 (by kernel_rfl) rfl (by decide)
theorem OwnP.nil (w : World) (base : Nat) : OwnP w base (.slice none 0 0) []:=World.ownsRow_nil w base _ 2
theorem OwnP.weak {w : World} {base base' : Nat} {v : Value} {L : List (Int × Int)} (h : OwnP w base v L) (hb : base' ≤ base) : OwnP w base' v L:=own_weak h hb
theorem OwnP.gen {w w' : World} {b B m : Nat} {v : Value} {L : List (Int × Int)} (h : OwnP w B v L) (hg : Gen b w w' m) (hb : b < B) : OwnP w' B v L :=
 World.ownsRow.kept h hg.g (by
  cases hv : v.ownBlock with
  | none => exact .inl rfl
  | some k => exact .inr (by have:=own_base h k hv;simp;omega))
theorem OwnP.snoc {w : World} {B : Nat} {v : Value} {L : List (Int × Int)} {p : Int × Int} (h : w.ownsRow B 74 2 v (L.length + 1) (encPs L ++ [.int .i64 p.1, .int .i64 p.2])) : OwnP w B v (L ++ [p]):=by
 show w.ownsRow _ _ _ _ _ _
 rw [List.length_append,encPs_append]
 simpa [encPs,encP] using h
theorem OwnP.one {w : World} {B : Nat} {v : Value} {L : List (Int × Int)} (h : OwnP w B v L) (hl : 1 ≤ L.length) :
  ∃ g c,v = .slice (some ⟨g,0,none⟩) L.length c ∧ B ≤ g ∧ g < w.heap.size ∧ L.length ≤ c ∧ c ≤ maxLen:=by
 rcases h.2 with ⟨rfl,h0⟩ | ⟨g,cap,cur,rfl,hb,hg,hc,hm,hs,ht⟩
 ·omega
 ·exact ⟨g,cap,rfl,hb,lt_of_block hg,hc,hm⟩
theorem OwnP.block {w : World} {B g n c : Nat} {L : List (Int × Int)} (h : OwnP w B (.slice (some ⟨g,0,none⟩) n c) L) : n = L.length ∧ B ≤ g ∧ n ≤ c ∧ c ≤ maxLen ∧ ∃ cur,w.heap[g]? = some (.cells cur 74 (0,0)) ∧ cur.size = c * 2 ∧ cur.toList.take (L.length * 2) = encPs L:=by
 rcases h.2 with ⟨hv,_⟩ | ⟨g2,c2,cur,hv,hb,hg,hc,hm,hs,ht⟩
 ·cases hv
 ·simp at hv
  obtain ⟨rfl,rfl,rfl⟩:=hv
  exact ⟨rfl,hb,hc,hm,cur,hg,hs,ht⟩
theorem OwnP.frozen {w : World} {B g c n : Nat} {L : List (Int × Int)} (h : OwnP w B (.slice (some ⟨g,0,none⟩) n c) L) (i : Nat) : w.frozen? ⟨g,i,none⟩ = false:=by
 obtain ⟨_,_,_,_,cur,hg,_⟩:=h.block
 exact frozen_of_row w g i cur _ hg
theorem OwnP.get {w : World} {B g c n : Nat} {L : List (Int × Int)} (h : OwnP w B (.slice (some ⟨g,0,none⟩) n c) L) (i : Nat) (hi : i < L.length) :
  w.cell? ⟨g,i * 2,none⟩ = some (.int .i64 (L.getD i (0,0)).1) ∧ w.cell? ⟨g,i * 2 + 1,none⟩ = some (.int .i64 (L.getD i (0,0)).2):=by
 obtain ⟨_,_,_,_,cur,hg,hs,ht⟩:=h.block
 obtain ⟨h0,h1⟩:=encPs_get L i hi
 rw [cell_of_row w g _ _ _ _ hg,cell_of_row w g _ _ _ _ hg]
 rw [← ht,List.getElem?_take,if_pos (by omega),Array.getElem?_toList] at h0 h1
 exact ⟨h0,h1⟩
theorem OwnP.setTo {w : World} {B g c n : Nat} {L : List (Int × Int)} (h : OwnP w B (.slice (some ⟨g,0,none⟩) n c) L) (i : Nat) (hi : i < L.length) (x : Int) :
  OwnP (w.setCell ⟨g,i * 2 + 1,none⟩ (.int .i64 x)) B (.slice (some ⟨g,0,none⟩) n c) (L.set i ((L.getD i (0,0)).1,x)):=by
 obtain ⟨rfl,hb,hc,hm,cur,hg,hs,ht⟩:=h.block
 refine ⟨by rw [encPs_len], .inr ⟨g,c,cur.setIfInBounds (i * 2 + 1) (.int .i64 x),by simp,hb,heap_setCell_same w g _ cur _ _ hg,by simpa using hc,hm,by simpa using hs,?_⟩⟩
 rw [Array.toList_setIfInBounds,List.take_set,List.length_set,ht,encPs_set1 _ _ _ hi]
theorem OwnP.rd {w : World} {B n c : Nat} {ad : Option Addr} {L : List (Int × Int)} (h : OwnP w B (.slice ad n c) L) (hl : L.length ≤ 1000) : RdP w ad L:=by
 refine ⟨hl,fun i hi => ?_⟩
 obtain ⟨g,c',hv,_,hg,_⟩:=h.one (by omega)
 simp at hv
 obtain ⟨rfl,rfl,rfl⟩:=hv
 exact ⟨g,0,rfl,hg,by rw [Nat.zero_add];exact (h.get i hi).1,by rw [Nat.zero_add];exact (h.get i hi).2⟩
theorem OwnP.form {w : World} {B : Nat} {v : Value} {L : List (Int × Int)} (h : OwnP w B v L) : ∃ ad c,v = .slice ad L.length c ∧ Src w ad L.length 2 (encPs L) ∧ L.length ≤ c ∧ c ≤ maxLen:=own_form h
theorem src_two_new (w : World) (x y : Value) (t : TypeId) : Src (w.alloc (.cells #[x,y] t)) (some ⟨w.heap.size,0,none⟩) 1 2 [x,y] :=
 ⟨rfl,fun j u hu => ⟨_,rfl,by simp,by
  have hadd : (⟨w.heap.size,0,none⟩ : Addr).add j = ⟨w.heap.size,j,none⟩:=by unfold Addr.add;split <;> simp_all
  rw [hadd,cell_of_row _ w.heap.size j _ _ _ (heap_alloc_new w _)]
  simpa using hu⟩⟩
theorem guard_ports (x y : Operand) (a b c d : Int) (w : World) : (eqGuard .neq 74 x y (.agg #[.int .i64 a, .int .i64 b]) (.agg #[.int .i64 c, .int .i64 d])).run Tryz.prog w = .ok () w :=
 run_eqGuard_agg w _ _ _ _ _ _ (by kernel_rfl)
theorem neq_ports (a b c d : Int) (w : World) : (binOp .neq 74 (.agg #[.int .i64 a, .int .i64 b]) (.agg #[.int .i64 c, .int .i64 d])).run Tryz.prog w = .ok (.bool (decide ((a,b) ≠ (c,d)))) w:=by
 have u3:=Tryz.underlying3
 have a3:=Tryz.isAgg3
 have z3:=Tryz.sizeOf3
 have hS : Tryz.prog.underlying 74 = some (.struct (Tryz.prog.fieldsOf 74)):=by kernel_rfl
 have hp : Tryz.prog.stoodInHeld 74 = false:=by kernel_rfl
 rw [run_neq_struct,show (10000 : Nat) = 9999 + 1 from rfl,run_equalIn_agg w 9999 74 _ _ hS hp]
 simp only [Program.fieldsOf,Tryz.underlying74]
 go_simp
 by_cases h1 : a = c <;> by_cases h2 : b = d <;> simp [h1,h2]
theorem equal_ports (a1 a2 : Option Addr) (c1 c2 : Nat) (xs ys : List (Int × Int)) (w : World) (h1 : RdP w a1 xs) (h2 : RdP w a2 ys) :
  Calls Tryz.prog 36 #[.slice a1 xs.length c1, .slice a2 ys.length c2] w fun e w' => e = .returned (.bool (decide (xs = ys))) ∧ ∃ n,w' = w.drewN n:=by
 have hs1:=h1.small
 generalize hn : xs.length = n
 rw [hn] at hs1
 have gp:=guard_ports
 have np:=neq_ports
 by_cases hl : xs.length = ys.length
 ·rw [← hl,hn]
  have Hn:=Lib.hid hn
  have Hl:=Lib.hid hl
  clear hn hl
  go_enter Tryz.func36,Tryz.ntmps36
  go_wp2
  go_loopw [13] (fun i wr => ∃ (k q : Nat),k ≤ n ∧ i = .int .i64 k ∧ xs.take k = ys.take k ∧ wr = w.drewN q) (fun i _ => n - (intOf i).toNat)
  case atStart => exact ⟨0,0,Nat.zero_le _,rfl,rfl,rfl⟩
  case round =>
   obtain ⟨k,q,hk,rfl,heq,rfl⟩:=hrel
   have Heq:=Lib.hid heq
   clear heq
   by_cases hlt : k < n
   ·obtain ⟨g1,o1,e1,hg1,c10,c11⟩:=h1.cell k (by rw [Hn.out];exact hlt)
    obtain ⟨g2,o2,e2,hg2,c20,c21⟩:=h2.cell k (by rw [← Hl.out,Hn.out];exact hlt)
    have hx : xs.take (k + 1) = xs.take k ++ [xs.getD k (0,0)]:=by
     rw [List.take_succ_eq_append_getElem (by rw [Hn.out];exact hlt)]
     simp [List.getD,List.getElem?_eq_getElem (show k < xs.length by rw [Hn.out];exact hlt)]
    have hy : ys.take (k + 1) = ys.take k ++ [ys.getD k (0,0)]:=by
     rw [List.take_succ_eq_append_getElem (by rw [← Hl.out,Hn.out];exact hlt)]
     simp [List.getD,List.getElem?_eq_getElem (show k < ys.length by rw [← Hl.out,Hn.out];exact hlt)]
    have hne : xs = ys → xs.getD k (0,0) = ys.getD k (0,0):=by rintro rfl;rfl
    have Hx:=Lib.hid hx
    have Hy:=Lib.hid hy
    have Hne:=Lib.hid hne
    clear hx hy hne
    subst e1 e2
    generalize xs.getD k (0,0) = x at *
    generalize ys.getD k (0,0) = y at *
    obtain ⟨xa,xb⟩:=x
    obtain ⟨ya,yb⟩:=y
    simp only at c10 c11 c20 c21
    by_cases hxy : (xa,xb) = (ya,yb)
    ·have hd : decide ((xa,xb) ≠ (ya,yb)) = false:=by simp [hxy]
     have np' : ∀ w,(binOp .neq 74 (.agg #[.int .i64 xa, .int .i64 xb]) (.agg #[.int .i64 ya, .int .i64 yb])).run Tryz.prog w = .ok (.bool false) w:=fun w => by rw [np,hd]
     have Hxy:=Lib.hid hxy
     clear np hd hxy
     go_wp2_with fail
     go_quiet (fail)
     go_wp2_with fail
     refine ⟨⟨k + 1,_,by omega,by go_num,?_,rfl⟩,by simp [intOf];omega⟩
     rw [Hx.out,Hy.out,Heq.out,Hxy.out]
    ·have hd : decide ((xa,xb) ≠ (ya,yb)) = true:=by simp [hxy]
     have np' : ∀ w,(binOp .neq 74 (.agg #[.int .i64 xa, .int .i64 xb]) (.agg #[.int .i64 ya, .int .i64 yb])).run Tryz.prog w = .ok (.bool true) w:=fun w => by rw [np,hd]
     have Hxy : Hid (decide (xs = ys) = false):=Lib.hid (decide_eq_false fun e => hxy (Hne.out e))
     clear np hd hxy
     go_wp2_with fail
     go_quiet (fail)
     go_wp2_with fail
     go_ret
     exact ⟨by rw [Hxy.out];rfl,q + nq,by rw [World.drewN_drewN]⟩
   ·obtain rfl : k = n:=by omega
    have hxy : xs = ys:=by
     have:=Heq.out
     rwa [List.take_of_length_le (by rw [Hn.out];exact Nat.le_refl _),List.take_of_length_le (by rw [← Hl.out,Hn.out];exact Nat.le_refl _)] at this
    have Hxy:=Lib.hid hxy
    clear hxy
    go_wp2
    go_ret
    exact ⟨by simp [Hxy.out],_,rfl⟩
 ·have hxy : xs ≠ ys:=fun e => hl (by rw [e])
  have Hxy:=Lib.hid hxy
  have hnb : ((n : Int) != (ys.length : Int)) = true:=by rw [bne_iff_ne];omega
  have hnb2 : n ≠ ys.length:=by omega
  clear hxy hn hl
  go_enter Tryz.func36,Tryz.ntmps36
  go_wp2
  go_ret
  exact ⟨by simp [Hxy.out],0,rfl⟩
theorem portRange_ok (b m : Nat) (w : World) (h : Strm w b m) (hm : m + 5 < 1099511627776) :
  Calls Tryz.prog 104 #[.pointer (some ⟨b,0,none⟩)] w fun e w' => ∃ f t : Int,e = .returned (.agg #[.int .i64 f, .int .i64 t]) ∧ (0 ≤ f ∧ f ≤ t) ∧ (0 ≤ t ∧ t ≤ 65535) ∧ Gen b w w' (m + 3):=by
 have hblt:=h.lt
 have HG0 : Hid (Gen b w (w.alloc (.cells #[.int .i64 0, .int .i64 0] 74 (0,0))) m):=Lib.hid ((Gen.start h).alloc _)
 have HA0 : Hid (Blk (w.alloc (.cells #[.int .i64 0, .int .i64 0] 74 (0,0))) w.heap.size 74 #[.int .i64 0, .int .i64 0]):=Lib.hid (Blk.new w _ _)
 clear h
 go_enter Tryz.func104,Tryz.ntmps104
 go_wp2_with fail
 refine (next_gen b m _ _ HG0.out.s (by omega) (by omega)).mono ?_
 rintro e w1 ⟨q,rfl,⟨hq0,hq1⟩,hg⟩
 have HG1:=Lib.hid (HG0.out.trans hg)
 have HA1 : Hid (Blk w1 w.heap.size 74 #[.int .i64 0, .int .i64 0]):=Lib.hid (Blk.keep HA0.out hg.g (by omega))
 clear hg HG0 HA0
 have a0:=HA1.out.cell 0
 have a1:=HA1.out.cell 1
 have f0:=Blk.free HA1.out
 simp at a0 a1
 obtain rfl | rfl | rfl | rfl | rfl : q = 0 ∨ q = 1 ∨ q = 2 ∨ q = 3 ∨ q = 4:=by omega
 ·go_wp2_with fail
  refine bodyPost_ret (v:=.agg #[.int .i64 0, .int .i64 65535]) (by simp [results,Tryz.results104,go_sem,a0,a1]) rfl ⟨_,_,rfl,by omega,by omega,?_⟩
  repeat refine Gen.setCell ?_ _ _ (Nat.le_refl _) hblt
  exact HG1.out.mono (by omega)
 ·go_wp2_with fail
  refine bodyPost_ret (v:=.agg #[.int .i64 0, .int .i64 65535]) (by simp [results,Tryz.results104,go_sem,a0,a1]) rfl ⟨_,_,rfl,by omega,by omega,?_⟩
  repeat refine Gen.setCell ?_ _ _ (Nat.le_refl _) hblt
  exact HG1.out.mono (by omega)
 ·go_wp2_with fail
  refine (pick_new b (m + 1) _ _ _ _ [80,90,443] _ HG1.out.s rfl (by omega) rfl (by decide) rfl).mono ?_
  rintro e w2 ⟨x,rfl,hx,hg⟩
  have HG2:=Lib.hid (HG1.out.trans hg)
  have HA2 : Hid (Blk w2 w.heap.size 74 #[.int .i64 0, .int .i64 0]):=Lib.hid (Blk.keep HA1.out hg.g (by omega))
  have hxb : 80 ≤ x ∧ x ≤ 65535:=by simp at hx;omega
  clear hg a0 a1 f0 hx HG1 HA1
  have a0:=HA2.out.cell 0
  have a1:=HA2.out.cell 1
  have f0:=Blk.free HA2.out
  simp at a0 a1
  go_wp2_with fail
  refine bodyPost_ret (v:=.agg #[.int .i64 80, .int .i64 x]) (by simp [results,Tryz.results104,go_sem,a0,a1]) rfl ⟨_,_,rfl,by omega,by omega,?_⟩
  repeat refine Gen.setCell ?_ _ _ (Nat.le_refl _) hblt
  exact HG2.out.mono (by omega)
 ·go_wp2_with fail
  refine (pick_new b (m + 1) _ _ _ _ [22,443,65535,0] _ HG1.out.s rfl (by omega) rfl (by decide) rfl).mono ?_
  rintro e w2 ⟨x,rfl,hx,hg⟩
  have HG2:=Lib.hid (HG1.out.trans hg)
  have HA2 : Hid (Blk w2 w.heap.size 74 #[.int .i64 0, .int .i64 0]):=Lib.hid (Blk.keep HA1.out hg.g (by omega))
  have hxb : 0 ≤ x ∧ x ≤ 65535:=by simp at hx;omega
  clear hg a0 a1 f0 hx HG1 HA1
  have a0:=HA2.out.cell 0
  have a1:=HA2.out.cell 1
  have f0:=Blk.free HA2.out
  simp at a0 a1
  go_wp2_with fail
  refine bodyPost_ret (v:=.agg #[.int .i64 x, .int .i64 x]) (by simp [results,Tryz.results104,go_sem,a0,a1]) rfl ⟨_,_,rfl,by omega,by omega,?_⟩
  repeat refine Gen.setCell ?_ _ _ (Nat.le_refl _) hblt
  exact HG2.out.mono (by omega)
 ·go_wp2_with fail
  refine (pick_new b (m + 1) _ _ _ _ [0,81,100] _ HG1.out.s rfl (by omega) rfl (by decide) rfl).mono ?_
  rintro e w2 ⟨x,rfl,hx,hg⟩
  have HG2:=Lib.hid (HG1.out.trans hg)
  have HA2 : Hid (Blk w2 w.heap.size 74 #[.int .i64 0, .int .i64 0]):=Lib.hid (Blk.keep HA1.out hg.g (by omega))
  have hxb : 0 ≤ x ∧ x ≤ 100:=by simp at hx;omega
  clear hg a0 a1 f0 hx HG1 HA1
  go_wp2_with fail
  refine (range_gen b (m + 1 + 1) _ _ _ HG2.out.s (by omega) (by omega) (by omega)).mono ?_
  rintro e w3 ⟨y,rfl,⟨hy0,hy1⟩,hg⟩
  have HG3:=Lib.hid (HG2.out.trans hg)
  have HA3 : Hid (Blk w3 w.heap.size 74 #[.int .i64 0, .int .i64 0]):=Lib.hid (Blk.keep HA2.out hg.g (by omega))
  clear hg HG2 HA2
  have a0:=HA3.out.cell 0
  have a1:=HA3.out.cell 1
  have f0:=Blk.free HA3.out
  simp at a0 a1
  go_wp2_with fail
  refine bodyPost_ret (v:=.agg #[.int .i64 x, .int .i64 y]) (by simp [results,Tryz.results104,go_sem,a0,a1]) rfl ⟨_,_,rfl,by omega,by omega,?_⟩
  repeat refine Gen.setCell ?_ _ _ (Nat.le_refl _) hblt
  exact HG3.out.mono (by omega)
end Go.Proofs.YthebgfnaomgcnaaGreat
