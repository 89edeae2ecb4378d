/-
  Check of rows, of the program and of the reference.
-/
import Derived.Test.YthebgfnaomgcnaaGreatFT16
import Derived.Test.YthebgfnaomgcnaaGreatFT8
import Derived.Test.YthebgfnaomgcnaaGreatFT9
set_option linter.unusedVariables false
set_option maxRecDepth 100000
set_option maxHeartbeats 16000000
namespace Go.Proofs.YthebgfnaomgcnaaGreat
open Go.RowKit Go
structure FR.Un (r : FR) : Prop where
 u1 : U4 r.src
 u2 : U4 r.dst
 l1 : r.src.length ≤ 100000
 l2 : r.dst.length ≤ 100000
 l3 : r.po.length ≤ 1000
theorem rowF_len (r : FR) {n1 n2 n3 : Nat} (l1 : r.src.length = n1) (l2 : r.dst.length = n2) (l3 : r.po.length = n3) :
  rowF r = if outB r.p 0 255 = true then 1 else if setF r.src ≠ 0 then setF r.src else if setF r.dst ≠ 0 then setF r.dst else if n1 = 0 ∨ n2 = 0 ∨ n3 = 0 then 3 else if portsF r.po ≠ 0 then portsF r.po else if r.p ≠ 0 ∧ hasPorts r.p = false ∧ decide (r.po = [(0,65535)]) = false then 16 else 0:=by
 have e1 : (r.src = []) = (n1 = 0):=by rw [← l1,List.length_eq_zero_iff]
 have e2 : (r.dst = []) = (n2 = 0):=by rw [← l2,List.length_eq_zero_iff]
 have e3 : (r.po = []) = (n3 = 0):=by rw [← l3,List.length_eq_zero_iff]
 unfold rowF
 simp only [e1,e2,e3,decide_eq_false_iff_not,ne_eq]
theorem rdP_all {w : World} {g : Nat} (hg : g < w.heap.size) (h0 : w.cell? ⟨g,0,none⟩ = some (.int .i64 0)) (h1 : w.cell? ⟨g,1,none⟩ = some (.int .i64 65535)) : RdP w (some ⟨g,0,none⟩) [(0,65535)] :=
 ⟨by simp,fun i hi => by
  obtain rfl : i = 0:=by simpa using hi
  exact ⟨g,0,rfl,hg,h0,h1⟩⟩
theorem fCheck_any (ad : Option Addr) (n c : Nat) (L : List FR) (w : World) (h : FlsAt w ad L) (hn : L.length = n) (hs : n ≤ 100000) (hu : ∀ r ∈ L,r.Un) :
  Calls Tryz.prog 28 #[.slice ad n c] w (Ret (.int .i64 (rowsF L)) w):=by
 by_cases hb : 300 < n
 ·have e : rowsF L = 2:=by unfold rowsF;rw [hn,if_pos hb]
  rw [e]
  have hb2 : (n : Int) > 300:=by omega
  clear h hu hn e
  go_enter Tryz.func28,Tryz.ntmps28
  go_wp2_with fail
  go_ret
  exact ⟨rfl,Below.refl _ _⟩
 ·have hb2 : ¬ (n : Int) > 300:=by omega
  have H0:=Lib.hid h
  have Hn:=Lib.hid hn
  have Hu:=Lib.hid hu
  have HE : Hid (rowsF L = rowsF1 L):=Lib.hid (by unfold rowsF;rw [hn,if_neg hb])
  rw [HE.out]
  clear h hn hu
  go_enter Tryz.func28,Tryz.ntmps28
  go_wp2_with fail
  go_loopw [2,4,6,7,8,14,26] (fun s2 s4 s6 s7 s8 i s26 wr => ∃ k : Nat,k ≤ n ∧ i = .int .i64 (k : Int) ∧ Hid (rowsF1 (L.take k) = 0) ∧ Hid (Below w.heap.size w wr)) (fun _ _ _ _ _ i _ _ => n - (intOf i).toNat)
  case atStart => exact ⟨0,Nat.zero_le _,rfl,Lib.hid rfl,Lib.hid (Below.refl _ _)⟩
  case round =>
   obtain ⟨k,hk,rfl,HN,HB⟩:=hrel
   by_cases hlt : k < n
   ·have hS : k < L.length:=by rw [Hn.out];exact hlt
    obtain ⟨r,hr⟩ : ∃ r,L[k]? = some r:=⟨_,List.getElem?_eq_getElem hS⟩
    have hun:=Hu.out r (List.mem_of_getElem? hr)
    obtain ⟨g,o,s1,s2,s3,n1,n2,n3,c1,c2,c3,had,hg,k0,k1,k2,k3,hA,m1,m2,m3⟩:=H0.out k r hr
    subst had
    replace k0:=(HB.out.cell (p:=⟨g,o + k * 4,none⟩) hg).trans k0
    replace k1:=(HB.out.cell (p:=⟨g,o + k * 4 + 1,none⟩) hg).trans k1
    replace k2:=(HB.out.cell (p:=⟨g,o + k * 4 + 2,none⟩) hg).trans k2
    replace k3:=(HB.out.cell (p:=⟨g,o + k * 4 + 3,none⟩) hg).trans k3
    have HFr:=Lib.hid (fun h => rowsF1_at L k r HN.out hr h)
    have HNr:=Lib.hid (fun h => rowsF1_next HN.out hr h)
    have HRF:=Lib.hid (rowF_len r hA.l1 hA.l2 hA.l3)
    have HS1:=Lib.hid fun wx (hb : Below w.heap.size w wx) => checkSet_any s1 n1 c1 r.src wx (hA.r1.below hb) hA.l1 (by have:=hun.l1;rw [hA.l1] at this;exact this) hun.u1
    have HS2:=Lib.hid fun wx (hb : Below w.heap.size w wx) => checkSet_any s2 n2 c2 r.dst wx (hA.r2.below hb) hA.l2 (by have:=hun.l2;rw [hA.l2] at this;exact this) hun.u2
    have HPo:=Lib.hid fun wx (hb : Below w.heap.size w wx) => checkPorts s3 n3 c3 r.po wx (rdP_of (hA.r3.below hb) hun.l3) hA.l3
    have HAl:=Lib.hid fun wx (hb : Below w.heap.size w wx) => isAll_any s3 n3 c3 r.po wx (hA.r3.below hb) hA.l3 m3
    have HHp:=Lib.hid fun wx => fhasPorts_any r.p wx
    have HOu:=Lib.hid fun wx => outside_any r.p 0 255 wx
    clear hr hS hun hA m1 m2 m3 hg HN
    generalize rowF r = R at *
    generalize rowsF1 L = RL at *
    generalize outB r.p 0 255 = A1 at *
    generalize setF r.src = S1 at *
    generalize setF r.dst = S2 at *
    generalize portsF r.po = P1 at *
    generalize decide (r.po = [(0,65535)]) = A2 at *
    generalize hasPorts r.p = A3 at *
    generalize r.p = rp at *
    have HP1 : Hid (Blk (wr.alloc (.cells #[.int .i64 rp, .slice s1 n1 c1, .slice s2 n2 c2, .slice s3 n3 c3] 71 (0,0))) wr.heap.size 71 #[.int .i64 rp, .slice s1 n1 c1, .slice s2 n2 c2, .slice s3 n3 c3]):=Lib.hid (Blk.new wr _ _)
    have HB1 : Hid (Below w.heap.size w (wr.alloc (.cells #[.int .i64 rp, .slice s1 n1 c1, .slice s2 n2 c2, .slice s3 n3 c3] 71 (0,0)))):=Lib.hid (Below.alloc HB.out HB.out.size _)
    go_upto_region 6 with fail
    generalize wr.alloc (.cells #[.int .i64 rp, .slice s1 n1 c1, .slice s2 n2 c2, .slice s3 n3 c3] 71 (0,0)) = w3 at *
    generalize wr.heap.size = bx at *
    clear HB k0 k1 k2 k3
    have d0:=HP1.out.cell 0
    have d1:=HP1.out.cell 1
    have d2:=HP1.out.cell 2
    simp at d0 d1 d2
    go_wp2_with fail
    refine (HOu.out _).mono ?_
    rintro e w4 ⟨rfl,rfl⟩
    clear HOu
    cases A1
    case true =>
     have HV : Hid (RL = 1):=Lib.hid (by
      have e1:=HRF.out
      rw [if_pos rfl] at e1
      rw [HFr.out (by rw [e1];decide),e1])
     clear HFr HNr HRF HS1 HS2 HPo HAl HHp
     go_wp2_with fail
     go_ret
     exact ⟨by rw [HV.out];rfl,HB1.out⟩
    replace HRF:=Lib.hid (HRF.out.trans (if_neg (by decide)))
    have i0 : ∀ wz,(Instr.index 106 (.agg #[.slice s1 n1 c1, .slice s2 n2 c2]) (.int .i64 0)).run Tryz.prog wz = .ok (.slice s1 n1 c1) wz:=fun wz => by kernel_rfl
    have i1 : ∀ wz,(Instr.index 106 (.agg #[.slice s1 n1 c1, .slice s2 n2 c2]) (.int .i64 1)).run Tryz.prog wz = .ok (.slice s2 n2 c2) wz:=fun wz => by kernel_rfl
    go_wp2_with fail
    clear d0 d1 d2
    refine wp_loop_rounds 3 ?_
    rw [rounds_succ]
    go_wp2_with fail
    refine (HS1.out _ HB1.out).mono ?_
    rintro e w4 ⟨rfl,hb⟩
    have HB4:=Lib.hid (HB1.out.trans (hb.mono HB1.out.size))
    have HP4:=Lib.hid (HP1.out.below hb HP1.out.lt)
    clear hb HB1 HP1 HS1
    by_cases hF : S1 = 0
    case neg =>
     have hF2 : (S1 != 0) = true:=by simpa using hF
     have HV : Hid (RL = S1):=Lib.hid (by
      have e1:=HRF.out
      rw [if_pos hF] at e1
      rw [HFr.out (by rw [e1];exact hF),e1])
     clear HFr HNr HRF HS2 HPo HAl HHp hF
     go_wp2_with fail
     go_ret
     exact ⟨by rw [HV.out];rfl,HB4.out⟩
    replace HRF:=Lib.hid (HRF.out.trans (if_neg (by simp [hF])))
    subst hF
    go_wp2_with (rw [rounds_succ])
    refine (HS2.out _ HB4.out).mono ?_
    rintro e w5 ⟨rfl,hb⟩
    have HB5:=Lib.hid (HB4.out.trans (hb.mono HB4.out.size))
    have HP5:=Lib.hid (HP4.out.below hb HP4.out.lt)
    clear hb HB4 HP4 HS2
    by_cases hF : S2 = 0
    case neg =>
     have hF2 : (S2 != 0) = true:=by simpa using hF
     have HV : Hid (RL = S2):=Lib.hid (by
      have e1:=HRF.out
      rw [if_pos hF] at e1
      rw [HFr.out (by rw [e1];exact hF),e1])
     clear HFr HNr HRF HPo HAl HHp hF
     go_wp2_with fail
     go_ret
     exact ⟨by rw [HV.out];rfl,HB5.out⟩
    replace HRF:=Lib.hid (HRF.out.trans (if_neg (by simp [hF])))
    subst hF
    have d0:=HP5.out.cell 0
    have d1:=HP5.out.cell 1
    have d2:=HP5.out.cell 2
    have d3:=HP5.out.cell 3
    simp at d0 d1 d2 d3
    by_cases hE : n1 = 0 ∨ n2 = 0 ∨ n3 = 0
    case pos =>
     have HV : Hid (RL = 3):=Lib.hid (by
      have e1:=HRF.out
      rw [if_pos hE] at e1
      rw [HFr.out (by rw [e1];decide),e1])
     clear HFr HNr HRF HPo HAl HHp
     by_cases z1 : ((n1 : Int) == 0) = true
     ·clear hE
      go_wp2_with (rw [rounds_succ])
      go_ret
      exact ⟨by rw [HV.out];rfl,HB5.out⟩
     ·by_cases z2 : ((n2 : Int) == 0) = true
      ·clear hE
       replace z1:=Bool.eq_false_iff.2 z1
       go_wp2_with (rw [rounds_succ])
       go_ret
       exact ⟨by rw [HV.out];rfl,HB5.out⟩
      ·have z3 : ((n3 : Int) == 0) = true:=by simp at z1 z2 ⊢;omega
       clear hE
       replace z1:=Bool.eq_false_iff.2 z1
       replace z2:=Bool.eq_false_iff.2 z2
       go_wp2_with (rw [rounds_succ])
       go_ret
       exact ⟨by rw [HV.out];rfl,HB5.out⟩
    replace HRF:=Lib.hid (HRF.out.trans (if_neg hE))
    have z1 : ((n1 : Int) == 0) = false:=by simp;omega
    have z2 : ((n2 : Int) == 0) = false:=by simp;omega
    have z3 : ((n3 : Int) == 0) = false:=by simp;omega
    clear hE
    go_wp2_with (rw [rounds_succ])
    refine (HPo.out _ HB5.out).mono ?_
    rintro e w6 ⟨rfl,hb⟩
    have HB6:=Lib.hid (HB5.out.trans (hb.mono HB5.out.size))
    have HP6:=Lib.hid (HP5.out.below hb HP5.out.lt)
    clear hb HB5 HP5 HPo d0 d1 d2 d3 z1 z2 z3
    by_cases hF : P1 = 0
    case neg =>
     have hF2 : (P1 != 0) = true:=by simpa using hF
     have HV : Hid (RL = P1):=Lib.hid (by
      have e1:=HRF.out
      rw [if_pos hF] at e1
      rw [HFr.out (by rw [e1];exact hF),e1])
     clear HFr HNr HRF HAl HHp hF
     go_wp2_with fail
     go_ret
     exact ⟨by rw [HV.out];rfl,HB6.out⟩
    replace HRF:=Lib.hid (HRF.out.trans (if_neg (by simp [hF])))
    subst hF
    have d0:=HP6.out.cell 0
    have d3:=HP6.out.cell 3
    simp at d0 d3
    by_cases hC : rp ≠ 0 ∧ A3 = false
    case neg =>
     have HN2:=Lib.hid (HNr.out (by rw [HRF.out,if_neg (fun h => hC ⟨h.1,h.2.1⟩)]))
     clear HFr HNr HRF HAl
     by_cases h0 : rp = 0
     ·clear hC HHp
      go_wp2_with fail
      exact ⟨⟨k + 1,by omega,by first | rfl | go_num,HN2,HB6⟩,by simp [intOf];omega⟩
     ·obtain rfl : A3 = true:=by cases A3;exact absurd ⟨h0,rfl⟩ hC;rfl
      clear hC
      go_wp2_with fail
      refine (HHp.out _).mono ?_
      rintro e w7 ⟨rfl,rfl⟩
      go_wp2_with fail
      exact ⟨⟨k + 1,by omega,by first | rfl | go_num,HN2,HB6⟩,by simp [intOf];omega⟩
    have HQ : Hid (A2 = true → rowsF1 (L.take (k + 1)) = 0):=Lib.hid fun h => HNr.out (by rw [HRF.out,if_neg (fun h2 => by rw [h] at h2;exact absurd h2.2.2 (by decide))])
    have HV : Hid (A2 = false → RL = 16):=Lib.hid fun h => by
     have e1:=HRF.out
     rw [if_pos ⟨hC.1,hC.2,h⟩] at e1
     rw [HFr.out (by rw [e1];decide),e1]
    clear HFr HNr HRF
    obtain ⟨h0,h1⟩:=hC
    subst h1
    have h0' : ¬ rp = 0:=h0
    clear h0
    go_wp2_with fail
    refine (HHp.out _).mono ?_
    rintro e w7 ⟨rfl,rfl⟩
    go_wp2_with fail
    refine (HAl.out _ HB6.out).mono ?_
    rintro e w8 ⟨rfl,hb⟩
    have HB8:=Lib.hid (HB6.out.trans (hb.mono HB6.out.size))
    clear hb
    cases A2
    ·have HV2:=Lib.hid (HV.out rfl)
     clear HV HQ
     go_wp2_with fail
     go_ret
     exact ⟨by rw [HV2.out];rfl,HB8.out⟩
    ·have HN2:=Lib.hid (HQ.out rfl)
     clear HV HQ
     go_wp2_with fail
     exact ⟨⟨k + 1,by omega,by first | rfl | go_num,HN2,HB8⟩,by simp [intOf];omega⟩
   ·obtain rfl : k = n:=by omega
    have HT : Hid (rowsF1 L = 0):=Lib.hid (by have:=HN.out;rwa [List.take_of_length_le (by have:=Hn.out;omega)] at this)
    go_wp2_with fail
    go_ret
    exact ⟨by rw [HT.out];rfl,HB.out⟩
theorem rowsFault_any (ad : Option Addr) (n c : Nat) (L : List FR) (w : World) (h : FlsAt w ad L) (hn : L.length = n) (hs : n ≤ 100000) (hu : ∀ r ∈ L,r.Un) :
  Calls Tryz.prog 9 #[.slice ad n c] w (Ret (.int .i64 (rowsF L)) w):=by
 by_cases hb : 300 < n
 ·have e : rowsF L = 2:=by unfold rowsF;rw [hn,if_pos hb]
  rw [e]
  have hb2 : (n : Int) > 300:=by omega
  clear h hu hn e
  go_enter Tryz.func9,Tryz.ntmps9
  go_wp2_with fail
  go_ret
  exact ⟨rfl,Below.refl _ _⟩
 ·have hb2 : ¬ (n : Int) > 300:=by omega
  have H0:=Lib.hid h
  have Hn:=Lib.hid hn
  have Hu:=Lib.hid hu
  have HE : Hid (rowsF L = rowsF1 L):=Lib.hid (by unfold rowsF;rw [hn,if_neg hb])
  rw [HE.out]
  clear h hn hu
  go_enter Tryz.func9,Tryz.ntmps9
  go_wp2_with fail
  go_loopw [2,4,6,7,8,14,28] (fun s2 s4 s6 s7 s8 i s26 wr => ∃ k : Nat,k ≤ n ∧ i = .int .i64 (k : Int) ∧ Hid (rowsF1 (L.take k) = 0) ∧ Hid (Below w.heap.size w wr)) (fun _ _ _ _ _ i _ _ => n - (intOf i).toNat)
  case atStart => exact ⟨0,Nat.zero_le _,rfl,Lib.hid rfl,Lib.hid (Below.refl _ _)⟩
  case round =>
   obtain ⟨k,hk,rfl,HN,HB⟩:=hrel
   by_cases hlt : k < n
   ·have hS : k < L.length:=by rw [Hn.out];exact hlt
    obtain ⟨r,hr⟩ : ∃ r,L[k]? = some r:=⟨_,List.getElem?_eq_getElem hS⟩
    have hun:=Hu.out r (List.mem_of_getElem? hr)
    obtain ⟨g,o,s1,s2,s3,n1,n2,n3,c1,c2,c3,had,hg,k0,k1,k2,k3,hA,m1,m2,m3⟩:=H0.out k r hr
    subst had
    replace k0:=(HB.out.cell (p:=⟨g,o + k * 4,none⟩) hg).trans k0
    replace k1:=(HB.out.cell (p:=⟨g,o + k * 4 + 1,none⟩) hg).trans k1
    replace k2:=(HB.out.cell (p:=⟨g,o + k * 4 + 2,none⟩) hg).trans k2
    replace k3:=(HB.out.cell (p:=⟨g,o + k * 4 + 3,none⟩) hg).trans k3
    have HFr:=Lib.hid (fun h => rowsF1_at L k r HN.out hr h)
    have HNr:=Lib.hid (fun h => rowsF1_next HN.out hr h)
    have HRF:=Lib.hid (rowF_len r hA.l1 hA.l2 hA.l3)
    have HS1:=Lib.hid fun wx (hb : Below w.heap.size w wx) => setFault_any s1 n1 c1 r.src wx (hA.r1.below hb) hA.l1 (by have:=hun.l1;rw [hA.l1] at this;exact this) hun.u1
    have HS2:=Lib.hid fun wx (hb : Below w.heap.size w wx) => setFault_any s2 n2 c2 r.dst wx (hA.r2.below hb) hA.l2 (by have:=hun.l2;rw [hA.l2] at this;exact this) hun.u2
    have HPo:=Lib.hid fun wx (hb : Below w.heap.size w wx) => qPorts s3 n3 c3 r.po wx (rdP_of (hA.r3.below hb) hun.l3) hA.l3
    have HAl : Hid (∀ (wx : World) (gx cx : Nat),Below w.heap.size w wx → gx < wx.heap.size → wx.cell? ⟨gx,0,none⟩ = some (.int .i64 0) → wx.cell? ⟨gx,1,none⟩ = some (.int .i64 65535) → Calls Tryz.prog 36 #[.slice s3 n3 c3, .slice (some ⟨gx,0,none⟩) (1 : Nat) cx] wx fun e w' => e = .returned (.bool (decide (r.po = [(0,65535)]))) ∧ ∃ q,w' = wx.drewN q):=Lib.hid fun wx gx cx hb hgx h0 h1 => by
     have:=equal_ports s3 (some ⟨gx,0,none⟩) c3 cx r.po [(0,65535)] wx (rdP_of (hA.r3.below hb) hun.l3) (rdP_all hgx h0 h1)
     rw [hA.l3] at this
     exact this
    have HHp:=Lib.hid fun wx => qhasPorts_any r.p wx
    have HOu:=Lib.hid fun wx => in_any r.p 0 255 wx
    have HOB : Hid (inB r.p 0 255 = !outB r.p 0 255):=Lib.hid (by rw [inB_out])
    clear hr hS hun hA m1 m2 m3 hg HN
    rw [HOB.out] at HOu
    clear HOB
    generalize rowF r = R at *
    generalize rowsF1 L = RL at *
    generalize outB r.p 0 255 = A1 at *
    generalize setF r.src = S1 at *
    generalize setF r.dst = S2 at *
    generalize portsF r.po = P1 at *
    generalize decide (r.po = [(0,65535)]) = A2 at *
    generalize hasPorts r.p = A3 at *
    generalize r.p = rp at *
    have HP1 : Hid (Blk (wr.alloc (.cells #[.int .i64 rp, .slice s1 n1 c1, .slice s2 n2 c2, .slice s3 n3 c3] 71 (0,0))) wr.heap.size 71 #[.int .i64 rp, .slice s1 n1 c1, .slice s2 n2 c2, .slice s3 n3 c3]):=Lib.hid (Blk.new wr _ _)
    have HB1 : Hid (Below w.heap.size w (wr.alloc (.cells #[.int .i64 rp, .slice s1 n1 c1, .slice s2 n2 c2, .slice s3 n3 c3] 71 (0,0)))):=Lib.hid (Below.alloc HB.out HB.out.size _)
    go_upto_region 6 with fail
    generalize wr.alloc (.cells #[.int .i64 rp, .slice s1 n1 c1, .slice s2 n2 c2, .slice s3 n3 c3] 71 (0,0)) = w3 at *
    generalize wr.heap.size = bx at *
    clear HB k0 k1 k2 k3
    have d0:=HP1.out.cell 0
    have d1:=HP1.out.cell 1
    have d2:=HP1.out.cell 2
    simp at d0 d1 d2
    go_wp2_with fail
    refine (HOu.out _).mono ?_
    rintro e w4 ⟨rfl,rfl⟩
    clear HOu
    cases A1
    case true =>
     have HV : Hid (RL = 1):=Lib.hid (by
      have e1:=HRF.out
      rw [if_pos rfl] at e1
      rw [HFr.out (by rw [e1];decide),e1])
     clear HFr HNr HRF HS1 HS2 HPo HAl HHp
     go_wp2_with fail
     go_ret
     exact ⟨by rw [HV.out];rfl,HB1.out⟩
    replace HRF:=Lib.hid (HRF.out.trans (if_neg (by decide)))
    have HQ1 : Hid (Blk (w3.alloc (.cells #[.slice s1 n1 c1, .slice s2 n2 c2] 68 (0,0))) w3.heap.size 68 #[.slice s1 n1 c1, .slice s2 n2 c2]):=Lib.hid (Blk.new w3 _ _)
    replace HB1 : Hid (Below w.heap.size w (w3.alloc (.cells #[.slice s1 n1 c1, .slice s2 n2 c2] 68 (0,0)))):=Lib.hid (Below.alloc HB1.out HB1.out.size _)
    replace HP1 : Hid (Blk (w3.alloc (.cells #[.slice s1 n1 c1, .slice s2 n2 c2] 68 (0,0))) bx 71 #[.int .i64 rp, .slice s1 n1 c1, .slice s2 n2 c2, .slice s3 n3 c3]):=Lib.hid (HP1.out.alloc _)
    go_wp2_with fail
    generalize w3.alloc (.cells #[.slice s1 n1 c1, .slice s2 n2 c2] 68 (0,0)) = w3 at *
    generalize w3.heap.size = g3 at *
    clear d0 d1 d2
    have q0:=HQ1.out.cell 0
    simp at q0
    refine wp_loop_rounds 3 ?_
    rw [rounds_succ]
    go_wp2_with fail
    refine (HS1.out _ HB1.out).mono ?_
    rintro e w4 ⟨rfl,hb⟩
    have HB4:=Lib.hid (HB1.out.trans (hb.mono HB1.out.size))
    have HP4:=Lib.hid (HP1.out.below hb HP1.out.lt)
    have HQ4:=Lib.hid (HQ1.out.below hb HQ1.out.lt)
    clear q0 HQ1
    clear hb HB1 HP1 HS1
    by_cases hF : S1 = 0
    case neg =>
     have hF2 : (S1 != 0) = true:=by simpa using hF
     have HV : Hid (RL = S1):=Lib.hid (by
      have e1:=HRF.out
      rw [if_pos hF] at e1
      rw [HFr.out (by rw [e1];exact hF),e1])
     clear HFr HNr HRF HS2 HPo HAl HHp hF
     go_wp2_with fail
     go_ret
     exact ⟨by rw [HV.out];rfl,HB4.out⟩
    replace HRF:=Lib.hid (HRF.out.trans (if_neg (by simp [hF])))
    subst hF
    have q1:=HQ4.out.cell 1
    simp at q1
    go_wp2_with (rw [rounds_succ])
    refine (HS2.out _ HB4.out).mono ?_
    rintro e w5 ⟨rfl,hb⟩
    have HB5:=Lib.hid (HB4.out.trans (hb.mono HB4.out.size))
    have HP5:=Lib.hid (HP4.out.below hb HP4.out.lt)
    clear q1 HQ4
    clear hb HB4 HP4 HS2
    by_cases hF : S2 = 0
    case neg =>
     have hF2 : (S2 != 0) = true:=by simpa using hF
     have HV : Hid (RL = S2):=Lib.hid (by
      have e1:=HRF.out
      rw [if_pos hF] at e1
      rw [HFr.out (by rw [e1];exact hF),e1])
     clear HFr HNr HRF HPo HAl HHp hF
     go_wp2_with fail
     go_ret
     exact ⟨by rw [HV.out];rfl,HB5.out⟩
    replace HRF:=Lib.hid (HRF.out.trans (if_neg (by simp [hF])))
    subst hF
    have d0:=HP5.out.cell 0
    have d1:=HP5.out.cell 1
    have d2:=HP5.out.cell 2
    have d3:=HP5.out.cell 3
    simp at d0 d1 d2 d3
    by_cases hE : n1 = 0 ∨ n2 = 0 ∨ n3 = 0
    case pos =>
     have HV : Hid (RL = 3):=Lib.hid (by
      have e1:=HRF.out
      rw [if_pos hE] at e1
      rw [HFr.out (by rw [e1];decide),e1])
     clear HFr HNr HRF HPo HAl HHp
     by_cases z1 : ((n1 : Int) == 0) = true
     ·clear hE
      go_wp2_with (rw [rounds_succ])
      go_ret
      exact ⟨by rw [HV.out];rfl,HB5.out⟩
     ·by_cases z2 : ((n2 : Int) == 0) = true
      ·clear hE
       replace z1:=Bool.eq_false_iff.2 z1
       go_wp2_with (rw [rounds_succ])
       go_ret
       exact ⟨by rw [HV.out];rfl,HB5.out⟩
      ·have z3 : ((n3 : Int) == 0) = true:=by simp at z1 z2 ⊢;omega
       clear hE
       replace z1:=Bool.eq_false_iff.2 z1
       replace z2:=Bool.eq_false_iff.2 z2
       go_wp2_with (rw [rounds_succ])
       go_ret
       exact ⟨by rw [HV.out];rfl,HB5.out⟩
    replace HRF:=Lib.hid (HRF.out.trans (if_neg hE))
    have z1 : ((n1 : Int) == 0) = false:=by simp;omega
    have z2 : ((n2 : Int) == 0) = false:=by simp;omega
    have z3 : ((n3 : Int) == 0) = false:=by simp;omega
    clear hE
    go_wp2_with (rw [rounds_succ])
    refine (HPo.out _ HB5.out).mono ?_
    rintro e w6 ⟨rfl,hb⟩
    have HB6:=Lib.hid (HB5.out.trans (hb.mono HB5.out.size))
    have HP6:=Lib.hid (HP5.out.below hb HP5.out.lt)
    clear hb HB5 HP5 HPo d0 d1 d2 d3 z1 z2 z3
    by_cases hF : P1 = 0
    case neg =>
     have hF2 : (P1 != 0) = true:=by simpa using hF
     have HV : Hid (RL = P1):=Lib.hid (by
      have e1:=HRF.out
      rw [if_pos hF] at e1
      rw [HFr.out (by rw [e1];exact hF),e1])
     clear HFr HNr HRF HAl HHp hF
     go_wp2_with fail
     go_ret
     exact ⟨by rw [HV.out];rfl,HB6.out⟩
    replace HRF:=Lib.hid (HRF.out.trans (if_neg (by simp [hF])))
    subst hF
    have d0:=HP6.out.cell 0
    have d3:=HP6.out.cell 3
    simp at d0 d3
    by_cases hC : rp ≠ 0 ∧ A3 = false
    case neg =>
     have HN2:=Lib.hid (HNr.out (by rw [HRF.out,if_neg (fun h => hC ⟨h.1,h.2.1⟩)]))
     clear HFr HNr HRF HAl
     have hD : (decide (rp = 0) || A3) = true:=by
      by_cases h0 : rp = 0
      ·simp [h0]
      ·have : ¬ A3 = false:=fun h => hC ⟨h0,h⟩
       cases A3
       ·exact absurd rfl this
       ·simp
     rw [hD] at HHp
     clear hC hD
     go_wp2_with fail
     refine (HHp.out _).mono ?_
     rintro e w7 ⟨rfl,rfl⟩
     go_wp2_with fail
     exact ⟨⟨k + 1,by omega,by first | rfl | go_num,HN2,HB6⟩,by simp [intOf];omega⟩
    have hD : (decide (rp = 0) || A3) = false:=by simp [hC.1,hC.2]
    rw [hD] at HHp
    have HQ : Hid (A2 = true → rowsF1 (L.take (k + 1)) = 0):=Lib.hid fun h => HNr.out (by rw [HRF.out,if_neg (fun h2 => by rw [h] at h2;exact absurd h2.2.2 (by decide))])
    have HV : Hid (A2 = false → RL = 16):=Lib.hid fun h => by
     have e1:=HRF.out
     rw [if_pos ⟨hC.1,hC.2,h⟩] at e1
     rw [HFr.out (by rw [e1];decide),e1]
    clear HFr HNr HRF hC hD
    go_wp2_with fail
    refine (HHp.out _).mono ?_
    rintro e w7 ⟨rfl,rfl⟩
    have HG : Hid (Blk (w6.alloc (.cells #[.int .i64 0, .int .i64 65535] 74 (0,0))) w6.heap.size 74 #[.int .i64 0, .int .i64 65535]):=Lib.hid (Blk.new w6 _ _)
    have HB7 : Hid (Below w.heap.size w (w6.alloc (.cells #[.int .i64 0, .int .i64 65535] 74 (0,0)))):=Lib.hid (Below.alloc HB6.out HB6.out.size _)
    go_wp2_with fail
    refine (HAl.out _ _ _ HB7.out HG.out.lt (HG.out.cell 0) (HG.out.cell 1)).mono ?_
    rintro e w8 ⟨rfl,q8,rfl⟩
    have HB8:=Lib.hid (below_drewN HB7.out q8)
    cases A2
    ·have HV2:=Lib.hid (HV.out rfl)
     clear HV HQ
     go_wp2_with fail
     go_ret
     exact ⟨by rw [HV2.out];rfl,HB8.out⟩
    ·have HN2:=Lib.hid (HQ.out rfl)
     clear HV HQ
     go_wp2_with fail
     exact ⟨⟨k + 1,by omega,by first | rfl | go_num,HN2,HB8⟩,by simp [intOf];omega⟩
   ·obtain rfl : k = n:=by omega
    have HT : Hid (rowsF1 L = 0):=Lib.hid (by have:=HN.out;rwa [List.take_of_length_le (by have:=Hn.out;omega)] at this)
    go_wp2_with fail
    go_ret
    exact ⟨by rw [HT.out];rfl,HB.out⟩
end Go.Proofs.YthebgfnaomgcnaaGreat
