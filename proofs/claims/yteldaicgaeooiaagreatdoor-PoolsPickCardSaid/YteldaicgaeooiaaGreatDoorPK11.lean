/-
  Functions of package slices at a row of structs.
  The fault of a lease.
  CheckPool.
  PoolFault.
  span.before, span.Later, span.earlier on numbers.
  wide.plus of the reference, at 1: the next number.
  The reference's wide numbers, said of one number: of, firstOf, lastOf, addr, cmp, ==.
  The reference's joined: spans of wide numbers in order, put together where they touch.
-/
import Derived.Test.YteldaicgaeooiaaGreatDoorPK10
import Derived.WalkSpells
import Derived.Test.YteldaicgaeooiaaGreatDoorPK9
import Derived.Test.YteldaicgaeooiaaGreatDoorPK5
import Derived.Shelf.Spec.BitsCarry
import Derived.Test.YteldaicgaeooiaaGreatDoorPK3
set_option linter.unusedVariables false
set_option maxRecDepth 100000
set_option maxHeartbeats 16000000
namespace Go.Proofs.YteldaicgaeooiaaGreatDoor
open Go.RowKit Go
theorem indexPf_any (g:Nat) (cb:Array Value) (p:Pf→Bool) (ad:Option Addr) (n c:Nat) (L:List Pf) (w:World) (h:RdK layPf w ad L) (hn:L.length=n) (hs:n≤1000000)
  (eg:∀ args w,(callFunc g args).run Tryz.prog w=.ok (.enter g args) w) (hc:∀ x ∈ L, ∀ wx,Below w.heap.size w wx→Calls Tryz.prog g (#[.agg (layPf.enc x).toArray] ++ cb) wx (Ret (.bool (p x)) wx)) :
  Calls Tryz.prog 101 #[.slice ad n c, .func (.func g) #[] cb] w fun e w' => ∃ k:Int,e=.returned (.int .i64 k)∧((k=-1∧∀ x ∈ L,p x=false) ∨ ∃ (i:Nat) (x:Pf),k=(i:Int)∧L[i]?=some x∧p x=true∧∀ (j:Nat) (y:Pf),j < i→L[j]?=some y→p y=false)∧Below w.heap.size w w':=by
 have H0:=Lib.hid h
 have Hn:=Lib.hid hn
 have HC:=Lib.hid hc
 clear h hn hc
 go_enter Tryz.func101,Tryz.ntmps101
 go_wp2_with fail
 go_loopw [5,8] (fun s5 i wr => ∃ k:Nat,k≤n∧i=.int .i64 (k:Int)∧Hid (∀ (j:Nat) (y:Pf),j < k→L[j]?=some y→p y=false)∧Hid (Below w.heap.size w wr)) (fun _ i _ => n - (intOf i).toNat)
 case atStart => exact ⟨0,Nat.zero_le _,rfl,Lib.hid fun j y hj => absurd hj (Nat.not_lt_zero _),Lib.hid (Below.refl _ _)⟩
 case round =>
  obtain ⟨k,hk,rfl,HN,HB⟩:=hrel
  by_cases hlt:k < n
  ·have hS:k < L.length:=by rw [Hn.out];exact hlt
   obtain ⟨x,hx⟩:∃ x,L[k]?=some x:=⟨_,List.getElem?_eq_getElem hS⟩
   obtain ⟨gb,o,had,hg,hcell⟩:=(H0.out.below HB.out) k x hx
   have HR:Hid (wr.rangeAt gb (o + k * 4) (layPf.enc x)):=Lib.hid fun j v hv => by
    have:=hcell j v hv
    rwa [← Nat.add_assoc] at this
   have HCx:=Lib.hid (HC.out x (List.mem_of_getElem? hx) wr HB.out)
   have Hx:=Lib.hid hx
   subst had
   clear hx hS hg hcell
   go_wp2_with (refine wpList_loadn rfl 30 (.tmp 14) rfl gb (o + k * 4) rfl (layPf.enc x) _ HR.out under_pfx rfl 4 size_pfx (layPf.len x) ?_)
   refine HCx.out.mono ?_
   rintro e w3 ⟨rfl,hb⟩
   have HB3:=Lib.hid (HB.out.trans (hb.mono HB.out.size))
   clear hb HCx HR
   cases hR:p x
   ·have HN2:Hid (∀ (j:Nat) (y:Pf),j < k + 1→L[j]?=some y→p y=false):=Lib.hid fun j y hj hy => by
     rcases Nat.lt_or_ge j k with h1 | h1
     ·exact HN.out j y h1 hy
     ·obtain rfl:j=k:=by omega
      rw [Hx.out] at hy
      exact (Option.some.inj hy) ▸ hR
    clear hR
    go_wp2_with fail
    exact ⟨⟨k + 1,by omega,by go_num,HN2,HB3⟩,by simp [intOf];omega⟩
   ·have HP:=Lib.hid hR
    clear hR
    go_wp2_with fail
    go_ret
    exact ⟨(k:Int),rfl, .inr ⟨k,x,rfl,Hx.out,HP.out,HN.out⟩,HB3.out⟩
  ·obtain rfl:k=n:=by omega
   go_wp2_with fail
   go_ret
   refine ⟨-1,rfl, .inl ⟨rfl,fun x hx => ?_⟩,HB.out⟩
   obtain ⟨j,hj,rfl⟩:=List.getElem_of_mem hx
   exact HN.out j _ (by rw [← Hn.out];exact hj) (List.getElem?_eq_getElem hj)
theorem containsPf_any (g:Nat) (cb:Array Value) (p:Pf→Bool) (ad:Option Addr) (n c:Nat) (L:List Pf) (w:World) (h:RdK layPf w ad L) (hn:L.length=n) (hs:n≤1000000)
  (eg:∀ args w,(callFunc g args).run Tryz.prog w=.ok (.enter g args) w) (hc:∀ x ∈ L, ∀ wx,Below w.heap.size w wx→Calls Tryz.prog g (#[.agg (layPf.enc x).toArray] ++ cb) wx (Ret (.bool (p x)) wx)) :
  Calls Tryz.prog 41 #[.slice ad n c, .func (.func g) #[] cb] w (Ret (.bool (L.any p)) w):=by
 have HI:=Lib.hid (indexPf_any g cb p ad n c L w h hn hs eg hc)
 have HT:Hid ((∀ x ∈ L,p x=false)→L.any p=false):=Lib.hid fun h => by
  rw [List.any_eq_false]
  intro x hx
  simp [h x hx]
 have HF:Hid (∀ (i:Nat) (x:Pf),L[i]?=some x→p x=true→L.any p=true):=Lib.hid fun i x hx hp => List.any_eq_true.2 ⟨x,List.mem_of_getElem? hx,hp⟩
 obtain ⟨R,hR⟩:∃ R,L.any p=R:=⟨_,rfl⟩
 rw [hR] at HT HF ⊢
 clear hR h hn hc eg
 go_enter Tryz.func41,Tryz.ntmps41
 go_wp2_with fail
 refine HI.out.mono ?_
 rintro e w1 ⟨k,rfl,hk,hb⟩
 have HB1:=Lib.hid hb
 clear hb HI
 rcases hk with ⟨rfl,hk⟩ | ⟨i0,x0,rfl,hi0,hx0, -⟩
 ·have hR:=HT.out hk
  clear hk HT HF
  subst hR
  go_wp2_with fail
  go_ret
  exact ⟨rfl,HB1.out⟩
 ·have hR:=HF.out i0 x0 hi0 hx0
  have e1:(0:Int)≤(i0:Int):=by omega
  clear HT HF hi0 hx0
  subst hR
  go_wp2_with fail
  go_ret
  exact ⟨rfl,HB1.out⟩
theorem nilPf (w:World) (a:Option Addr) (l c:Nat):(binOp .eql 31 (.slice a l c) (.slice none 0 0)).run Tryz.prog w=.ok (.bool a.isNone) w :=
 Lib.run_eql_slice_nil (h:=Tryz.underlying31) ..
theorem clonePf_any (ad:Option Addr) (n c:Nat) (L:List Pf) (w:World) (h:RdK layPf w ad L) (hn:L.length=n) (hs:n≤1000000) :
  Calls Tryz.prog 31 #[.slice ad n c] w fun e w' => ∃ v,e=.returned v∧OwnK layPf w' w.heap.size v L∧Below w.heap.size w w':=by
 cases ad with
 | none =>
   have en:=fun w => nilPf w none n c
   simp only [Option.isNone_none] at en
   have hL:Hid (L=[]):=Lib.hid h.none_
   clear h hn hs
   go_enter Tryz.func31,Tryz.ntmps31
   go_wp2
   go_ret
   exact ⟨_,rfl,by rw [hL.out];exact OwnK.nil _ _ _,Below.refl _ _⟩
 | some a =>
   have en:=fun w => nilPf w (some a) n c
   simp only [Option.isNone_some] at en
   subst hn
   have HS:=Lib.hid h.src
   have hB:Hid (Below w.heap.size w (w.alloc (.cells #[] layPf.ty (0,0)))):=Lib.hid (below_alloc (Below.refl _ _) _)
   clear h
   go_enter Tryz.func31,Tryz.ntmps31
   go_wp2_with (at_builtin;refine wpList_app pfE rfl (.tmp 5) (.tmp 6) rfl rfl (ownK_empty layPf w) rfl (src_later HS.out hB.out) (layPf.all_one L) ?c2 ?c3 ?c4 ?_)
   case c2 => unfold maxLen;simp only [List.length_nil];omega
   case c3 => simp only [List.length_nil];omega
   case c4 => simp
   intro v' w' hO hG
   have HO:Hid (OwnK layPf w' w.heap.size v' L):=Lib.hid hO
   have HG:=Lib.hid hG
   clear hO hG
   go_wp2
   go_ret
   exact ⟨_,rfl,HO.out,HG.out.below (u:=.slice (some ⟨w.heap.size,0,none⟩) 0 0) (by simp) (by intro k hk;simp [Value.ownBlock] at hk;omega) |> (below_alloc (Below.refl _ _) _).trans⟩
theorem leaseFault_any (P:Pf) (ka la:Option Addr) (kn kc ln lc:Nat) (L:List Ls) (k:Nat) (x:Ls) (w:World) (hP:OkPf P) (hL:RdK layLs w la L) (hln:L.length=ln) (hls:ln≤100) (hx:L[k]?=some x) (huL:UL L) :
  Calls Tryz.prog 48 #[.agg (plC P (.slice ka kn kc) (.slice la ln lc)).toArray, .int .i64 (k:Int)] w (Ret (.int .i64 (lsF P x (lastK L k))) w):=by
 have hu:=huL x (List.mem_of_getElem? hx)
 have hkl:k < ln:=by rw [← hln];exact (List.getElem?_eq_some_iff.1 hx).1
 have H5:Hid (keyB x.1=false→lsF P x (lastK L k)=5):=Lib.hid fun h => by unfold lsF;rw [if_pos h]
 have Hp:Hid (keyB x.1=true→pfF x.2 ≠ 0→lsF P x (lastK L k)=pfF x.2):=Lib.hid fun h h1 => by unfold lsF;rw [if_neg (by rw [h];decide),if_pos h1]
 have H16:Hid (keyB x.1=true→pfF x.2=0→insP x.2 P=false→lsF P x (lastK L k)=16):=Lib.hid fun h h1 h2 => by unfold lsF;rw [if_neg (by rw [h];decide),if_neg (by rw [h1];decide),if_pos h2]
 have H1:Hid (keyB x.1=true→pfF x.2=0→insP x.2 P=true→P.2.2.2 + 20 < x.2.2.2.2→lsF P x (lastK L k)=1):=Lib.hid fun h h1 h2 h3 => by unfold lsF;rw [if_neg (by rw [h];decide),if_neg (by rw [h1];decide),if_neg (by rw [h2];decide),if_pos h3]
 have H7:Hid (keyB x.1=true→pfF x.2=0→insP x.2 P=true→¬ P.2.2.2 + 20 < x.2.2.2.2→strLe x.1 (lastK L k)=true→lsF P x (lastK L k)=7):=Lib.hid fun h h1 h2 h3 h4 => by unfold lsF;rw [if_neg (by rw [h];decide),if_neg (by rw [h1];decide),if_neg (by rw [h2];decide),if_neg h3,if_pos h4]
 have H0:Hid (keyB x.1=true→pfF x.2=0→insP x.2 P=true→¬ P.2.2.2 + 20 < x.2.2.2.2→strLe x.1 (lastK L k)=false→lsF P x (lastK L k)=0):=Lib.hid fun h h1 h2 h3 h4 => by unfold lsF;rw [if_neg (by rw [h];decide),if_neg (by rw [h1];decide),if_neg (by rw [h2];decide),if_neg h3,if_neg (by rw [h4];decide)]
 have HKy:=Lib.hid fun wx => isKey_any x.1 wx (by have:=hu.2;omega)
 have HC:Hid (∀ wx,Calls Tryz.prog 46 #[.agg (pfC x.2).toArray] wx (Ret (.int .i64 (pfF x.2)) wx)):=Lib.hid fun wx => checkPrefix_any x.2.1 x.2.2.1 x.2.2.2.1 x.2.2.2.2 wx hu.1.1 hu.1.2
 have HI:Hid (pfF x.2=0→∀ wx,Calls Tryz.prog 47 #[.agg (pfC x.2).toArray, .agg (pfC P).toArray] wx (Ret (.bool (insP x.2 P)) wx)):=Lib.hid fun h wx => inside_pf wx (okPf_of h hu.1.1 hu.1.2) hP
 have HLk:Hid (lastK L k=if k=0 then [] else (L.getD (k - 1) zLs).1):=Lib.hid rfl
 have HNe:Hid (keyB x.1=true→x.1 ≠ []):=Lib.hid keyB_ne
 have hbd:0≤P.2.2.2∧P.2.2.2≤128:=by
  obtain ⟨nb,hnb,hnl⟩:=okPf_bits hP
  omega
 have Hln:=Lib.hid hln
 obtain ⟨F,hF⟩:∃ z,lsF P x (lastK L k)=z:=⟨_,rfl⟩
 rw [hF] at H5 Hp H16 H1 H7 H0 ⊢
 clear hF huL hln hu hP
 generalize lastK L k=lk at H7 H0 HLk
 have HB01:Hid (Below w.heap.size w (w.alloc (.cells (plC P (.slice ka kn kc) (.slice la ln lc)).toArray 34 (0,0)))):=Lib.hid (below_alloc (Below.refl _ _) _)
 have HL0:=Lib.hid (hL.below HB01.out)
 have HQ0:Hid (Blk (w.alloc (.cells (plC P (.slice ka kn kc) (.slice la ln lc)).toArray 34 (0,0))) w.heap.size 34 (plC P (.slice ka kn kc) (.slice la ln lc)).toArray):=Lib.hid (Blk.new w _ _)
 obtain ⟨ps,ph,pl,pn⟩:=P
 rw [show (plC (ps,ph,pl,pn) (.slice ka kn kc) (.slice la ln lc)).toArray=#[.bool ps, .int .u64 (ph:Int), .int .u64 (pl:Int), .int .i64 pn, .slice ka kn kc, .slice la ln lc] from rfl] at *
 clear hL
 go_enter Tryz.func48,Tryz.ntmps48
 go_upto_region 1 with fail
 generalize w.alloc (.cells #[.bool ps, .int .u64 (ph:Int), .int .u64 (pl:Int), .int .i64 pn, .slice ka kn kc, .slice la ln lc] 34 (0,0))=w1 at *
 generalize w.heap.size=pb at HQ0 ⊢
 obtain ⟨xk,s,h,l,n⟩:=x
 obtain ⟨g,o,had,hg,c0,c1,c2,c3,c4⟩:=HL0.out.ls hx
 subst had
 have t1:=strL_ls xk
 have p5:=HQ0.out.cell 5
 simp at p5
 simp only at H5 Hp H16 H1 H7 H0 HKy HC HI HNe hbd
 obtain ⟨hbd0,hbd1⟩:=hbd
 rw [show (pfC (s,h,l,n)).toArray=#[.bool s, .int .u64 (h:Int), .int .u64 (l:Int), .int .i64 n] from rfl] at HC HI
 rw [show (pfC (ps,ph,pl,pn)).toArray=#[.bool ps, .int .u64 (ph:Int), .int .u64 (pl:Int), .int .i64 pn] from rfl] at HI
 generalize pfF (s,h,l,n)=XF at *
 generalize insP (s,h,l,n) (ps,ph,pl,pn)=XI at *
 generalize keyB xk=KB at *
 generalize strL xk=S at *
 have HX0:Hid (Blk (w1.alloc (.cells #[.string S, .bool s, .int .u64 (h:Int), .int .u64 (l:Int), .int .i64 n] 67 (0,0))) w1.heap.size 67 #[.string S, .bool s, .int .u64 (h:Int), .int .u64 (l:Int), .int .i64 n]):=Lib.hid (Blk.new w1 _ _)
 have HQ:Hid (Blk (w1.alloc (.cells #[.string S, .bool s, .int .u64 (h:Int), .int .u64 (l:Int), .int .i64 n] 67 (0,0))) pb 34 #[.bool ps, .int .u64 (ph:Int), .int .u64 (pl:Int), .int .i64 pn, .slice ka kn kc, .slice (some ⟨g,o,none⟩) ln lc]):=Lib.hid (HQ0.out.alloc _)
 have HB:Hid (Below w1.heap.size w1 (w1.alloc (.cells #[.string S, .bool s, .int .u64 (h:Int), .int .u64 (l:Int), .int .i64 n] 67 (0,0)))):=Lib.hid (below_alloc (Below.refl _ _) _)
 clear hx
 go_upto_region 2 with fail
 generalize w1.alloc (.cells #[.string S, .bool s, .int .u64 (h:Int), .int .u64 (l:Int), .int .i64 n] 67 (0,0))=w2 at *
 generalize hbx:w1.heap.size=bx at HX0 ⊢
 have HX:=HX0
 clear HX0 HQ0 c0 c1 c2 c3 c4 p5 hg
 have d0:=HX.out.cell 0
 simp at d0
 go_wp2_with fail
 refine (HKy.out _).mono ?_
 rintro e w3 ⟨rfl,rfl⟩
 have HX3:=HX
 have HQ3:=HQ
 have HB3:=HB
 clear HX HQ HB d0 HKy
 cases KB
 ·have HE:=Lib.hid (H5.out rfl)
  clear H5 Hp H16 H1 H7 H0 HC HI
  go_wp2_with fail
  go_ret
  exact ⟨by rw [HE.out] <;> rfl,HB01.out.trans (HB3.out.mono HB01.out.size)⟩
 ·clear H5
  replace Hp:=Lib.hid (Hp.out rfl)
  replace H16:=Lib.hid (H16.out rfl)
  replace H1:=Lib.hid (H1.out rfl)
  replace H7:=Lib.hid (H7.out rfl)
  replace H0:=Lib.hid (H0.out rfl)
  replace HNe:=Lib.hid (HNe.out rfl)
  have d1:=HX3.out.cell 1
  have d2:=HX3.out.cell 2
  have d3:=HX3.out.cell 3
  have d4:=HX3.out.cell 4
  simp at d1 d2 d3 d4
  go_wp2_with fail
  refine (HC.out _).mono ?_
  rintro e w4 ⟨rfl,hb⟩
  have HX4:=Lib.hid (HX3.out.below hb HX3.out.lt)
  have HQ4:=Lib.hid (HQ3.out.below hb HQ3.out.lt)
  have HB4:=Lib.hid (HB3.out.trans (hb.mono HB3.out.size))
  clear hb HX3 HQ3 HB3 HC d1 d2 d3 d4
  by_cases hx0:XF=0
  ·subst hx0
   have HIx:=Lib.hid (HI.out rfl)
   clear HI Hp
   replace H16:=Lib.hid (H16.out rfl)
   replace H1:=Lib.hid (H1.out rfl)
   replace H7:=Lib.hid (H7.out rfl)
   replace H0:=Lib.hid (H0.out rfl)
   have d1:=HX4.out.cell 1
   have d2:=HX4.out.cell 2
   have d3:=HX4.out.cell 3
   have d4:=HX4.out.cell 4
   simp at d1 d2 d3 d4
   have p0:=HQ4.out.cell 0
   have p1:=HQ4.out.cell 1
   have p2:=HQ4.out.cell 2
   have p3:=HQ4.out.cell 3
   simp at p0 p1 p2 p3
   go_wp2_with fail
   refine (HIx.out _).mono ?_
   rintro e w5 ⟨rfl,hb⟩
   have HX5:=Lib.hid (HX4.out.below hb HX4.out.lt)
   have HQ5:=Lib.hid (HQ4.out.below hb HQ4.out.lt)
   have HB5:=Lib.hid (HB4.out.trans (hb.mono HB4.out.size))
   clear hb HX4 HQ4 HB4 HIx d1 d2 d3 d4 p0 p1 p2 p3
   cases XI
   ·have HE:=Lib.hid (H16.out rfl)
    clear H16 H1 H7 H0
    go_wp2_with fail
    go_ret
    exact ⟨by rw [HE.out] <;> rfl,HB01.out.trans (HB5.out.mono HB01.out.size)⟩
   ·clear H16
    replace H1:=Lib.hid (H1.out rfl)
    replace H7:=Lib.hid (H7.out rfl)
    replace H0:=Lib.hid (H0.out rfl)
    have d4:=HX5.out.cell 4
    simp at d4
    have p3:=HQ5.out.cell 3
    simp at p3
    by_cases hbt:n > pn + 20
    ·have HE:=Lib.hid (H1.out (by omega))
     clear H1 H7 H0
     go_wp2_with fail
     go_ret
     exact ⟨by rw [HE.out] <;> rfl,HB01.out.trans (HB5.out.mono HB01.out.size)⟩
    ·have H7b:=Lib.hid (H7.out (by omega))
     have H0b:=Lib.hid (H0.out (by omega))
     clear H1 H7 H0
     rcases Nat.eq_zero_or_pos k with hk0 | hk0
     ·have hl0:lk=[]:=by rw [HLk.out,if_pos hk0]
      have HE:=Lib.hid (H0b.out (by rw [hl0];exact strLe_nil (HNe.out)))
      subst hk0
      have z0:((0:Nat):Int)=0:=rfl
      simp only [z0]
      clear H7b H0b hl0 HLk
      go_upto_region 11 with fail
      refine wp_region_later (by kernel_rfl) (by kernel_rfl) ?_
      repeat (go_big_quiet_step (fail))
      refine wpQuiet_nil ?_
      rintro w6 ⟨n5,hn5⟩
      have hb:Below w5.heap.size w5 w6:=by rw [hn5];exact n5.2
      clear hn5 n5
      have HB6:=Lib.hid (HB5.out.trans (hb.mono HB5.out.size))
      clear hb d4 p3
      go_wp2_with fail
      go_ret
      exact ⟨by rw [HE.out] <;> rfl,HB01.out.trans (HB6.out.mono HB01.out.size)⟩
     ·obtain ⟨j,hj⟩:∃ j,k=j + 1:=⟨k - 1,by omega⟩
      have hjS:j < L.length:=by rw [Hln.out];omega
      obtain ⟨y,hq⟩:∃ y,L[j]?=some y:=⟨_,List.getElem?_eq_getElem hjS⟩
      have hlk:lk=y.1:=by rw [HLk.out,if_neg (by omega),hj,Nat.add_sub_cancel];simp [List.getD,hq]
      rw [hlk] at H7b H0b
      clear hlk hjS HLk
      obtain ⟨yk,e1,e2,e3,e4⟩:=y
      obtain ⟨g',o',had,hg',b0,b1,b2,b3,b4⟩:=(HL0.out.below HB5.out).ls hq
      injection had with had
      injection had with had1 had2
      subst had1 had2
      clear hq hg' b1 b2 b3 b4
      have t2:=strL_ls yk
      have i1:(k:Int) - 1=(j:Int):=by omega
      have i2:decide (0 < k)=true:=decide_eq_true hk0
      have i3:(j:Int) < (ln:Int):=by omega
      have i4:(0:Int)≤(j:Int):=by omega
      have i5:(k:Int)≤500:=by omega
      have i6:(0:Int) < (k:Int):=by omega
      have Hj:=Lib.hid hj
      clear hj hk0
      have d0:=HX5.out.cell 0
      simp at d0
      have p5:=HQ5.out.cell 5
      simp at p5
      have l0:=Later.cell_of d0
      have l5:=Later.cell_of p5
      have k0:=Later.cell_of b0
      have HLE:Hid (strLe xk yk=(Op.bytesLess xk yk || xk == yk)):=Lib.hid rfl
      generalize strLe xk yk=LE at *
      go_upto_region 11 with fail
      refine wp_region_later (by kernel_rfl) (by kernel_rfl) ?_
      repeat (go_big_quiet_step (fail))
      refine wpQuiet_nil ?_
      rintro w6 ⟨n5,hn5⟩
      have hb:Below w5.heap.size w5 w6:=by rw [hn5];exact n5.2
      clear hn5 n5 l0 k0 d0 b0 d4 p3
      have HB6:=Lib.hid (HB5.out.trans (hb.mono HB5.out.size))
      clear hb
      have hLE:=HLE.out
      rw [← hLE]
      clear hLE HLE
      cases LE
      ·have HE:=Lib.hid (H0b.out rfl)
       clear H7b H0b
       go_wp2_with fail
       go_ret
       exact ⟨by rw [HE.out] <;> rfl,HB01.out.trans (HB6.out.mono HB01.out.size)⟩
      ·have HE:=Lib.hid (H7b.out rfl)
       clear H7b H0b
       go_wp2_with fail
       go_ret
       exact ⟨by rw [HE.out] <;> rfl,HB01.out.trans (HB6.out.mono HB01.out.size)⟩
  ·have HE:=Lib.hid (Hp.out hx0)
   have hF2:(XF != 0)=true:=by simpa using hx0
   clear Hp H16 H1 H7 H0 HI hx0
   go_wp2_with fail
   go_ret
   exact ⟨by rw [HE.out] <;> rfl,HB01.out.trans (HB4.out.mono HB01.out.size)⟩
theorem checkPool_any (P:Pf) (ka la:Option Addr) (kn kc ln lc:Nat) (K:List Pf) (L:List Ls) (w:World) (hK:RdK layPf w ka K) (hL:RdK layLs w la L) (hkn:K.length=kn) (hln:L.length=ln) (hks:kn≤100) (hls:ln≤100) (hlc:ln≤lc) (huP:u2P P) (huK:U4 K) (huL:UL L) :
  Calls Tryz.prog 12 #[.agg (plC P (.slice ka kn kc) (.slice la ln lc)).toArray] w (Ret (.int .i64 (poolF P K L)) w):=by
 have HFp:=Lib.hid (@poolF_p P K L)
 have h1:=@poolF_k P K L
 have h2:=@poolF_l P K L
 have h3:=@poolF_c P K L
 have h4:=@poolF_z P K L
 rw [hkn] at h1 h2 h3 h4
 rw [hln] at h2 h3 h4
 have HFk:=Lib.hid h1
 have HFl:=Lib.hid h2
 have HFc:=Lib.hid h3
 have HFz:=Lib.hid h4
 clear h1 h2 h3 h4
 have HuK:=Lib.hid huK
 have HuL:=Lib.hid huL
 have HPc:Hid (∀ wx,Calls Tryz.prog 46 #[.agg (pfC P).toArray] wx (Ret (.int .i64 (pfF P)) wx)):=Lib.hid fun wx => checkPrefix_any P.1 P.2.1 P.2.2.1 P.2.2.2 wx huP.1 huP.2
 have HOP:Hid (pfF P=0→OkPf P):=Lib.hid fun h => okPf_of h huP.1 huP.2
 have HOK:Hid ((∀ j,j < kn→kAt P K j=0)→∀ p ∈ K,OkPf p):=Lib.hid fun h => kAt_ok (by rw [hkn];exact h) huK
 have HOL:Hid ((∀ j,j < ln→lAt P L j=0)→∀ x ∈ L,OkPf x.2∧keyB x.1=true):=Lib.hid fun h => lAt_ok (by rw [hln];exact h) huL
 have Hkn:=Lib.hid hkn
 have Hln:=Lib.hid hln
 obtain ⟨F,hF⟩:∃ z,poolF P K L=z:=⟨_,rfl⟩
 rw [hF] at HFp ⊢
 replace HFk:Hid (pfF P=0→∀ k,k < kn→(∀ j,j < k→kAt P K j=0)→kAt P K k ≠ 0→F=kAt P K k):=Lib.hid (by rw [← hF];exact HFk.out)
 replace HFl:Hid (pfF P=0→(∀ j,j < kn→kAt P K j=0)→∀ k,k < ln→(∀ j,j < k→lAt P L j=0)→lAt P L k ≠ 0→F=lAt P L k):=Lib.hid (by rw [← hF];exact HFl.out)
 replace HFc:Hid (pfF P=0→(∀ j,j < kn→kAt P K j=0)→(∀ j,j < ln→lAt P L j=0)→∀ k,k < ln→(∀ j,j < k→cAt K L j=0)→cAt K L k ≠ 0→F=cAt K L k):=Lib.hid (by rw [← hF];exact HFc.out)
 replace HFz:Hid (pfF P=0→(∀ j,j < kn→kAt P K j=0)→(∀ j,j < ln→lAt P L j=0)→(∀ j,j < ln→cAt K L j=0)→F=0):=Lib.hid (by rw [← hF];exact HFz.out)
 clear hF huP huK huL hkn hln
 have HB01:Hid (Below w.heap.size w (w.alloc (.cells (plC P (.slice ka kn kc) (.slice la ln lc)).toArray 34 (0,0)))):=Lib.hid (below_alloc (Below.refl _ _) _)
 have HK0:=Lib.hid (hK.below HB01.out)
 have HL0:=Lib.hid (hL.below HB01.out)
 have HQ0:Hid (Blk (w.alloc (.cells (plC P (.slice ka kn kc) (.slice la ln lc)).toArray 34 (0,0))) w.heap.size 34 (plC P (.slice ka kn kc) (.slice la ln lc)).toArray):=Lib.hid (Blk.new w _ _)
 clear hK hL
 obtain ⟨ps,ph,pl,pn⟩:=P
 rw [show (plC (ps,ph,pl,pn) (.slice ka kn kc) (.slice la ln lc)).toArray=#[.bool ps, .int .u64 (ph:Int), .int .u64 (pl:Int), .int .i64 pn, .slice ka kn kc, .slice la ln lc] from rfl] at *
 rw [show (pfC (ps,ph,pl,pn)).toArray=#[.bool ps, .int .u64 (ph:Int), .int .u64 (pl:Int), .int .i64 pn] from rfl] at HPc
 obtain ⟨PF,hPF⟩:∃ z,pfF (ps,ph,pl,pn)=z:=⟨_,rfl⟩
 rw [hPF] at HPc HOP HFp HFk HFl HFc HFz
 clear hPF
 go_enter Tryz.func12,Tryz.ntmps12
 go_upto_region 1 with fail
 generalize w.alloc (.cells #[.bool ps, .int .u64 (ph:Int), .int .u64 (pl:Int), .int .i64 pn, .slice ka kn kc, .slice la ln lc] 34 (0,0))=w1 at *
 generalize w.heap.size=pb at HQ0 ⊢
 have p0:=HQ0.out.cell 0
 have p1:=HQ0.out.cell 1
 have p2:=HQ0.out.cell 2
 have p3:=HQ0.out.cell 3
 simp at p0 p1 p2 p3
 go_wp2_with fail
 refine (HPc.out _).mono ?_
 rintro e wr ⟨rfl,hb⟩
 have HB:=Lib.hid hb
 have HQ:=Lib.hid (HQ0.out.below hb HQ0.out.lt)
 clear hb p0 p1 p2 p3 HPc
 by_cases hp0:PF=0
 ·replace HOP:=Lib.hid (HOP.out hp0)
  replace HFk:=Lib.hid (HFk.out hp0)
  replace HFl:=Lib.hid (HFl.out hp0)
  replace HFc:=Lib.hid (HFc.out hp0)
  replace HFz:=Lib.hid (HFz.out hp0)
  subst hp0
  clear HFp
  have b1:¬ (kn:Int) > 200:=by omega
  have b2:¬ (ln:Int) > 200:=by omega
  have p4:=HQ.out.cell 4
  simp at p4
  go_wp2_with fail
  go_loopw [5,6,25] (fun bx ev i wr => ∃ k:Nat,k≤kn∧i=.int .i64 (k:Int)∧Hid (∀ j,j < k→kAt (ps,ph,pl,pn) K j=0)∧Hid (Below w1.heap.size w1 wr)) (fun _ _ i _ => kn - (intOf i).toNat)
  case atStart => exact ⟨0,Nat.zero_le _,rfl,Lib.hid fun j hj => absurd hj (Nat.not_lt_zero _),HB⟩
  case round =>
   clear HB HQ p4
   obtain ⟨k,hk,rfl,HX,HB⟩:=hrel
   have HQ:=Lib.hid (HQ0.out.below HB.out HQ0.out.lt)
   by_cases hlt:k < kn
   ·obtain ⟨x,hx⟩:∃ x,K[k]?=some x:=⟨_,List.getElem?_eq_getElem (by rw [Hkn.out];exact hlt)⟩
    have hu:=HuK.out x (List.mem_of_getElem? hx)
    have HC:Hid (∀ wx,Calls Tryz.prog 46 #[.agg (pfC x).toArray] wx (Ret (.int .i64 (pfF x)) wx)):=Lib.hid fun wx => checkPrefix_any x.1 x.2.1 x.2.2.1 x.2.2.2 wx hu.1 hu.2
    have HI:Hid (pfF x=0→∀ wx,Calls Tryz.prog 47 #[.agg (pfC x).toArray, .agg (pfC (ps,ph,pl,pn)).toArray] wx (Ret (.bool (insP x (ps,ph,pl,pn))) wx)):=Lib.hid fun h wx => inside_pf wx (okPf_of h hu.1 hu.2) HOP.out
    have HA:Hid (kAt (ps,ph,pl,pn) K k=if pfF x ≠ 0 then pfF x else if insP x (ps,ph,pl,pn)=false then 16 else 0):=Lib.hid (by unfold kAt;simp only [List.getD,hx,Option.getD_some])
    have HFx:=Lib.hid (HFk.out k hlt HX.out)
    have HXs:Hid (kAt (ps,ph,pl,pn) K k=0→∀ j,j < k + 1→kAt (ps,ph,pl,pn) K j=0):=Lib.hid fun e j hj => by
     rcases Nat.lt_or_ge j k with h1 | h1
     ·exact HX.out j h1
     ·obtain rfl:j=k:=by omega
      exact e
    generalize kAt (ps,ph,pl,pn) K k=A at HA HFx HXs
    obtain ⟨x1,x2,x3,x4⟩:=x
    obtain ⟨g,o,had,hg,c0,c1,c2,c3⟩:=(HK0.out.below HB.out).pf hx rfl
    subst had
    rw [show (pfC (x1,x2,x3,x4)).toArray=#[.bool x1, .int .u64 (x2:Int), .int .u64 (x3:Int), .int .i64 x4] from rfl] at HC HI
    rw [show (pfC (ps,ph,pl,pn)).toArray=#[.bool ps, .int .u64 (ph:Int), .int .u64 (pl:Int), .int .i64 pn] from rfl] at HI
    generalize pfF (x1,x2,x3,x4)=XF at *
    generalize insP (x1,x2,x3,x4) (ps,ph,pl,pn)=XI at *
    have HX3:Hid (Blk (wr.alloc (.cells #[.bool x1, .int .u64 (x2:Int), .int .u64 (x3:Int), .int .i64 x4] 30 (0,0))) wr.heap.size 30 #[.bool x1, .int .u64 (x2:Int), .int .u64 (x3:Int), .int .i64 x4]):=Lib.hid (Blk.new wr _ _)
    have HQ3:=Lib.hid (HQ.out.alloc (.cells #[.bool x1, .int .u64 (x2:Int), .int .u64 (x3:Int), .int .i64 x4] 30 (0,0)))
    have HB3:Hid (Below w1.heap.size w1 (wr.alloc (.cells #[.bool x1, .int .u64 (x2:Int), .int .u64 (x3:Int), .int .i64 x4] 30 (0,0)))):=Lib.hid (Below.alloc HB.out HB.out.size _)
    clear hx hg hu
    go_upto_region 9 with fail
    generalize wr.alloc (.cells #[.bool x1, .int .u64 (x2:Int), .int .u64 (x3:Int), .int .i64 x4] 30 (0,0))=w3 at *
    generalize wr.heap.size=bx at *
    clear HB HQ c0 c1 c2 c3 HX
    have d0:=HX3.out.cell 0
    have d1:=HX3.out.cell 1
    have d2:=HX3.out.cell 2
    have d3:=HX3.out.cell 3
    simp at d0 d1 d2 d3
    go_wp2_with fail
    refine (HC.out _).mono ?_
    rintro e w4 ⟨rfl,hb⟩
    have HX4:=Lib.hid (HX3.out.below hb HX3.out.lt)
    have HQ4:=Lib.hid (HQ3.out.below hb HQ3.out.lt)
    have HB4:=Lib.hid (HB3.out.trans (hb.mono HB3.out.size))
    clear hb HX3 HQ3 HB3 HC d0 d1 d2 d3
    by_cases hx0:XF=0
    ·subst hx0
     have HIx:=Lib.hid (HI.out rfl)
     clear HI
     have d0:=HX4.out.cell 0
     have d1:=HX4.out.cell 1
     have d2:=HX4.out.cell 2
     have d3:=HX4.out.cell 3
     simp at d0 d1 d2 d3
     have p0:=HQ4.out.cell 0
     have p1:=HQ4.out.cell 1
     have p2:=HQ4.out.cell 2
     have p3:=HQ4.out.cell 3
     simp at p0 p1 p2 p3
     go_wp2_with fail
     refine (HIx.out _).mono ?_
     rintro e w5 ⟨rfl,hb⟩
     have HB5:=Lib.hid (HB4.out.trans (hb.mono HB4.out.size))
     clear hb HX4 HQ4 HB4 HIx d0 d1 d2 d3 p0 p1 p2 p3
     cases XI
     ·have hA:A=16:=HA.out
      have HE:Hid (F=16):=Lib.hid (by rw [HFx.out (by rw [hA];decide),hA])
      clear HA hA HFx HXs
      go_wp2_with fail
      go_ret
      exact ⟨by rw [HE.out] <;> rfl,HB01.out.trans (HB5.out.mono HB01.out.size)⟩
     ·have HX2:=Lib.hid (HXs.out HA.out)
      clear HA HFx HXs
      go_wp2_with fail
      exact ⟨⟨k + 1,by omega,by go_num,HX2,HB5⟩,by simp [intOf];omega⟩
    ·have hA:A=XF:=by rw [HA.out,if_pos hx0]
     have HE:Hid (F=XF):=Lib.hid (by rw [HFx.out (by rw [hA];exact hx0),hA])
     have hF2:(XF != 0)=true:=by simpa using hx0
     clear HA hA HFx HXs HI hx0
     go_wp2_with fail
     go_ret
     exact ⟨by rw [HE.out] <;> rfl,HB01.out.trans (HB4.out.mono HB01.out.size)⟩
   ·obtain ⟨k0,hk0⟩:∃ q,q=kn:=⟨_,rfl⟩
    obtain rfl:k=kn:=by omega
    subst hk0
    have HXK:=Lib.hid HX.out
    replace HOK:=Lib.hid (HOK.out HX.out)
    replace HFl:=Lib.hid (HFl.out HX.out)
    replace HFc:=Lib.hid (HFc.out HX.out)
    replace HFz:=Lib.hid (HFz.out HX.out)
    clear HFk HX hlt hk
    have p5:=HQ.out.cell 5
    simp at p5
    go_wp2_with fail
    go_loopw [7,8,47] (fun s7 s8 i wr => ∃ k:Nat,k≤ln∧i=.int .i64 (k:Int)∧Hid (∀ j,j < k→lAt (ps,ph,pl,pn) L j=0)∧Hid (Below w1.heap.size w1 wr)) (fun _ _ i _ => ln - (intOf i).toNat)
    case atStart => exact ⟨0,Nat.zero_le _,rfl,Lib.hid fun j hj => absurd hj (Nat.not_lt_zero _),HB⟩
    case round =>
     clear HB HQ p5
     obtain ⟨k,hk,rfl,HX,HB⟩:=hrel
     have HQ:=Lib.hid (HQ0.out.below HB.out HQ0.out.lt)
     by_cases hlt:k < ln
     ·obtain ⟨x,hx⟩:∃ x,L[k]?=some x:=⟨_,List.getElem?_eq_getElem (by rw [Hln.out];exact hlt)⟩
      have HA:Hid (lAt (ps,ph,pl,pn) L k=lsF (ps,ph,pl,pn) x (lastK L k)):=Lib.hid (by unfold lAt;simp only [List.getD,hx,Option.getD_some])
      have HFx:=Lib.hid (HFl.out k hlt HX.out)
      have HXs:Hid (lAt (ps,ph,pl,pn) L k=0→∀ j,j < k + 1→lAt (ps,ph,pl,pn) L j=0):=Lib.hid fun e j hj => by
       rcases Nat.lt_or_ge j k with h1 | h1
       ·exact HX.out j h1
       ·obtain rfl:j=k:=by omega
        exact e
      rw [HA.out] at HFx HXs
      clear HA HX
      have HC:=Lib.hid fun wx (hr:RdK layLs wx la L) => leaseFault_any (ps,ph,pl,pn) ka la k0 kc ln lc L k x wx HOP.out hr Hln.out hls hx HuL.out
      rw [show (plC (ps,ph,pl,pn) (.slice ka k0 kc) (.slice la ln lc)).toArray=#[.bool ps, .int .u64 (ph:Int), .int .u64 (pl:Int), .int .i64 pn, .slice ka k0 kc, .slice la ln lc] from rfl] at HC
      generalize lsF (ps,ph,pl,pn) x (lastK L k)=A at *
      have HLr:=Lib.hid (HL0.out.below HB.out)
      have p0:=HQ.out.cell 0
      have p1:=HQ.out.cell 1
      have p2:=HQ.out.cell 2
      have p3:=HQ.out.cell 3
      have p4:=HQ.out.cell 4
      have p5:=HQ.out.cell 5
      simp at p0 p1 p2 p3 p4 p5
      go_wp2_with fail
      refine (HC.out _ HLr.out).mono ?_
      rintro e w4 ⟨rfl,hb⟩
      have HB4:=Lib.hid (HB.out.trans (hb.mono HB.out.size))
      clear hb HB HQ HC HLr p0 p1 p2 p3 p4 p5 hx
      by_cases hA0:A=0
      ·have HX2:=Lib.hid (HXs.out hA0)
       subst hA0
       clear HFx HXs
       go_wp2_with fail
       exact ⟨⟨k + 1,by omega,by go_num,HX2,HB4⟩,by simp [intOf];omega⟩
      ·have HE:=Lib.hid (HFx.out hA0)
       have hF2:(A != 0)=true:=by simpa using hA0
       clear HFx HXs hA0
       go_wp2_with fail
       go_ret
       exact ⟨by rw [HE.out] <;> rfl,HB01.out.trans (HB4.out.mono HB01.out.size)⟩
     ·obtain ⟨l0,hl0⟩:∃ q,q=ln:=⟨_,rfl⟩
      obtain rfl:k=ln:=by omega
      subst hl0
      replace HOL:=Lib.hid (HOL.out HX.out)
      replace HFc:=Lib.hid (HFc.out HX.out)
      replace HFz:=Lib.hid (HFz.out HX.out)
      clear HFl HX hlt hk
      have p5:=HQ.out.cell 5
      simp at p5
      go_wp2_with fail
      go_loopw [9,10,11,60] (fun s9 s10 s11 i wr => ∃ j:Nat,j≤l0∧i=.int .i64 (j:Int)∧Hid (∀ q,q < j→cAt K L q=0)∧Hid (Below w1.heap.size w1 wr)) (fun _ _ _ i _ => l0 - (intOf i).toNat)
      case atStart => exact ⟨0,Nat.zero_le _,rfl,Lib.hid fun j hj => absurd hj (Nat.not_lt_zero _),HB⟩
      case round =>
       clear HB HQ p5
       obtain ⟨j,hj,rfl,HX,HB⟩:=hrel
       have HQ:=Lib.hid (HQ0.out.below HB.out HQ0.out.lt)
       by_cases hlt:j < l0
       ·obtain ⟨x,hx⟩:∃ x,L[j]?=some x:=⟨_,List.getElem?_eq_getElem (by rw [Hln.out];exact hlt)⟩
        have hox:=(HOL.out x (List.mem_of_getElem? hx)).1
        have HA:Hid (cAt K L j=if (K.any fun y => meetP y x.2)=true ∨ ((L.take j).any fun o => meetP o.2 x.2)=true then 13 else 0):=Lib.hid (by unfold cAt;simp only [List.getD,hx,Option.getD_some])
        have HFx:=Lib.hid (HFc.out j hlt HX.out)
        have HXs:Hid (cAt K L j=0→∀ q,q < j + 1→cAt K L q=0):=Lib.hid fun e q hq => by
         rcases Nat.lt_or_ge q j with h1 | h1
         ·exact HX.out q h1
         ·obtain rfl:q=j:=by omega
          exact e
        have hlj:(L.take j).length=j:=by rw [List.length_take,Hln.out];omega
        have HC1:=Lib.hid fun bx wx (hb:Blk wx bx 67 (lsC x).toArray) (hr:RdK layPf wx ka K) => containsPf_any 49 #[.pointer (some ⟨bx,0,none⟩)] (fun y => meetP y x.2) ka k0 kc K wx hr Hkn.out (by omega) (Go.Proofs.enters_of Tryz.func49 (by kernel_rfl) rfl) (fun y hy wx2 hb2 => cp1_any y x bx wx2 (HOK.out y hy) hox (hb.below hb2 hb.lt))
        have HC2:=Lib.hid fun bx wx (hb:Blk wx bx 67 (lsC x).toArray) (hr:RdK layLs wx la L) => containsLs_any 51 #[.pointer (some ⟨bx,0,none⟩)] (fun o => meetP o.2 x.2) la j lc (L.take j) wx (hr.takeN j) hlj (by omega) (Go.Proofs.enters_of Tryz.func51 (by kernel_rfl) rfl) (fun y hy wx2 hb2 => cp2_any y x bx wx2 (HOL.out y (List.mem_of_mem_take hy)).1 hox (hb.below hb2 hb.lt))
        generalize (K.any fun y => meetP y x.2)=B1 at *
        generalize ((L.take j).any fun o => meetP o.2 x.2)=B2 at *
        generalize cAt K L j=A at HA HFx HXs
        obtain ⟨xk,s,h,l,n⟩:=x
        obtain ⟨g,o,had,hg,c0,c1,c2,c3,c4⟩:=(HL0.out.below HB.out).ls hx
        subst had
        have i1:(j:Int)≤(lc:Int):=by omega
        have i2:(0:Int)≤(j:Int):=by omega
        have HX3:Hid (Blk (wr.alloc (.cells #[.string (strL xk), .bool s, .int .u64 (h:Int), .int .u64 (l:Int), .int .i64 n] 67 (0,0))) wr.heap.size 67 #[.string (strL xk), .bool s, .int .u64 (h:Int), .int .u64 (l:Int), .int .i64 n]):=Lib.hid (Blk.new wr _ _)
        have HQ3:=Lib.hid (HQ.out.alloc (.cells #[.string (strL xk), .bool s, .int .u64 (h:Int), .int .u64 (l:Int), .int .i64 n] 67 (0,0)))
        have HB3:Hid (Below w1.heap.size w1 (wr.alloc (.cells #[.string (strL xk), .bool s, .int .u64 (h:Int), .int .u64 (l:Int), .int .i64 n] 67 (0,0)))):=Lib.hid (Below.alloc HB.out HB.out.size _)
        clear hx hg hox hlj
        go_upto_region 27 with fail
        generalize wr.alloc (.cells #[.string (strL xk), .bool s, .int .u64 (h:Int), .int .u64 (l:Int), .int .i64 n] 67 (0,0))=w3 at *
        generalize wr.heap.size=bx at *
        clear HB HQ c0 c1 c2 c3 c4 HX
        have HK3:=Lib.hid (HK0.out.below HB3.out)
        have p4:=HQ3.out.cell 4
        simp at p4
        go_wp2_with fail
        refine (HC1.out bx _ HX3.out HK3.out).mono ?_
        rintro e w4 ⟨rfl,hb⟩
        have HX4:=Lib.hid (HX3.out.below hb HX3.out.lt)
        have HQ4:=Lib.hid (HQ3.out.below hb HQ3.out.lt)
        have HB4:=Lib.hid (HB3.out.trans (hb.mono HB3.out.size))
        clear hb HX3 HQ3 HB3 HC1 p4 HK3
        cases B1
        ·have HL4:=Lib.hid (HL0.out.below HB4.out)
         have p5:=HQ4.out.cell 5
         simp at p5
         go_wp2_with fail
         refine (HC2.out bx _ HX4.out HL4.out).mono ?_
         rintro e w5 ⟨rfl,hb⟩
         have HB5:=Lib.hid (HB4.out.trans (hb.mono HB4.out.size))
         clear hb HX4 HQ4 HB4 HC2 p5 HL4
         cases B2
         ·have HX2:=Lib.hid (HXs.out (by rw [HA.out];rfl))
          clear HA HFx HXs
          go_wp2_with fail
          exact ⟨⟨j + 1,by omega,by go_num,HX2,HB5⟩,by simp [intOf];omega⟩
         ·have hA:A=13:=by rw [HA.out];rfl
          have HE:Hid (F=13):=Lib.hid (by rw [HFx.out (by rw [hA];decide),hA])
          clear HA hA HFx HXs
          go_wp2_with fail
          go_ret
          exact ⟨by rw [HE.out] <;> rfl,HB01.out.trans (HB5.out.mono HB01.out.size)⟩
        ·have hA:A=13:=by rw [HA.out];rfl
         have HE:Hid (F=13):=Lib.hid (by rw [HFx.out (by rw [hA];decide),hA])
         clear HA hA HFx HXs HC2
         go_wp2_with fail
         go_ret
         exact ⟨by rw [HE.out] <;> rfl,HB01.out.trans (HB4.out.mono HB01.out.size)⟩
       ·obtain rfl:j=l0:=by omega
        have HE:=Lib.hid (HFz.out HX.out)
        clear HFc HFz HX
        go_wp2_with fail
        go_ret
        exact ⟨by rw [HE.out] <;> rfl,HB01.out.trans (HB.out.mono HB01.out.size)⟩
 ·have HE:=Lib.hid (HFp.out hp0)
  have hF2:(PF != 0)=true:=by simpa using hp0
  clear HFp HFk HFl HFc HFz hp0 HOP HOK HOL
  go_wp2_with fail
  go_ret
  exact ⟨by rw [HE.out] <;> rfl,HB01.out.trans (HB.out.mono HB01.out.size)⟩
theorem poolFault_any (P:Pf) (ka la:Option Addr) (kn kc ln lc:Nat) (K:List Pf) (L:List Ls) (w:World) (hK:RdK layPf w ka K) (hL:RdK layLs w la L) (hkn:K.length=kn) (hln:L.length=ln) (hks:kn≤100) (hls:ln≤100) (hlc:ln≤lc) (huP:u2P P) (huK:U4 K) (huL:UL L) :
  Calls Tryz.prog 11 #[.agg (plC P (.slice ka kn kc) (.slice la ln lc)).toArray] w (Ret (.int .i64 (poolF P K L)) w):=by
 have HFp:=Lib.hid (@poolF_p P K L)
 have h1:=@poolF_k P K L
 have h2:=@poolF_l P K L
 have h3:=@poolF_c P K L
 have h4:=@poolF_z P K L
 rw [hkn] at h1 h2 h3 h4
 rw [hln] at h2 h3 h4
 have HFk:=Lib.hid h1
 have HFl:=Lib.hid h2
 have HFc:=Lib.hid h3
 have HFz:=Lib.hid h4
 clear h1 h2 h3 h4
 have HuK:=Lib.hid huK
 have HuL:=Lib.hid huL
 have HPc:Hid (∀ wx,Calls Tryz.prog 38 #[.agg (pfC P).toArray] wx (Ret (.int .i64 (pfF P)) wx)):=Lib.hid fun wx => prefixFault_any P.1 P.2.1 P.2.2.1 P.2.2.2 wx huP.1 huP.2
 have HOP:Hid (pfF P=0→OkPf P):=Lib.hid fun h => okPf_of h huP.1 huP.2
 have HOK:Hid ((∀ j,j < kn→kAt P K j=0)→∀ p ∈ K,OkPf p):=Lib.hid fun h => kAt_ok (by rw [hkn];exact h) huK
 have HOL:Hid ((∀ j,j < ln→lAt P L j=0)→∀ x ∈ L,OkPf x.2∧keyB x.1=true):=Lib.hid fun h => lAt_ok (by rw [hln];exact h) huL
 have Hkn:=Lib.hid hkn
 have Hln:=Lib.hid hln
 obtain ⟨F,hF⟩:∃ z,poolF P K L=z:=⟨_,rfl⟩
 rw [hF] at HFp ⊢
 replace HFk:Hid (pfF P=0→∀ k,k < kn→(∀ j,j < k→kAt P K j=0)→kAt P K k ≠ 0→F=kAt P K k):=Lib.hid (by rw [← hF];exact HFk.out)
 replace HFl:Hid (pfF P=0→(∀ j,j < kn→kAt P K j=0)→∀ k,k < ln→(∀ j,j < k→lAt P L j=0)→lAt P L k ≠ 0→F=lAt P L k):=Lib.hid (by rw [← hF];exact HFl.out)
 replace HFc:Hid (pfF P=0→(∀ j,j < kn→kAt P K j=0)→(∀ j,j < ln→lAt P L j=0)→∀ k,k < ln→(∀ j,j < k→cAt K L j=0)→cAt K L k ≠ 0→F=cAt K L k):=Lib.hid (by rw [← hF];exact HFc.out)
 replace HFz:Hid (pfF P=0→(∀ j,j < kn→kAt P K j=0)→(∀ j,j < ln→lAt P L j=0)→(∀ j,j < ln→cAt K L j=0)→F=0):=Lib.hid (by rw [← hF];exact HFz.out)
 clear hF huP huK huL hkn hln
 have HB01:Hid (Below w.heap.size w (w.alloc (.cells (plC P (.slice ka kn kc) (.slice la ln lc)).toArray 34 (0,0)))):=Lib.hid (below_alloc (Below.refl _ _) _)
 have HK0:=Lib.hid (hK.below HB01.out)
 have HL0:=Lib.hid (hL.below HB01.out)
 have HQ0:Hid (Blk (w.alloc (.cells (plC P (.slice ka kn kc) (.slice la ln lc)).toArray 34 (0,0))) w.heap.size 34 (plC P (.slice ka kn kc) (.slice la ln lc)).toArray):=Lib.hid (Blk.new w _ _)
 clear hK hL
 obtain ⟨ps,ph,pl,pn⟩:=P
 rw [show (plC (ps,ph,pl,pn) (.slice ka kn kc) (.slice la ln lc)).toArray=#[.bool ps, .int .u64 (ph:Int), .int .u64 (pl:Int), .int .i64 pn, .slice ka kn kc, .slice la ln lc] from rfl] at *
 rw [show (pfC (ps,ph,pl,pn)).toArray=#[.bool ps, .int .u64 (ph:Int), .int .u64 (pl:Int), .int .i64 pn] from rfl] at HPc
 obtain ⟨PF,hPF⟩:∃ z,pfF (ps,ph,pl,pn)=z:=⟨_,rfl⟩
 rw [hPF] at HPc HOP HFp HFk HFl HFc HFz
 clear hPF
 go_enter Tryz.func11,Tryz.ntmps11
 go_upto_region 1 with fail
 generalize w.alloc (.cells #[.bool ps, .int .u64 (ph:Int), .int .u64 (pl:Int), .int .i64 pn, .slice ka kn kc, .slice la ln lc] 34 (0,0))=w1 at *
 generalize w.heap.size=pb at HQ0 ⊢
 have p0:=HQ0.out.cell 0
 have p1:=HQ0.out.cell 1
 have p2:=HQ0.out.cell 2
 have p3:=HQ0.out.cell 3
 simp at p0 p1 p2 p3
 go_wp2_with fail
 refine (HPc.out _).mono ?_
 rintro e wr ⟨rfl,hb⟩
 have HB:=Lib.hid hb
 have HQ:=Lib.hid (HQ0.out.below hb HQ0.out.lt)
 clear hb p0 p1 p2 p3 HPc
 by_cases hp0:PF=0
 ·replace HOP:=Lib.hid (HOP.out hp0)
  replace HFk:=Lib.hid (HFk.out hp0)
  replace HFl:=Lib.hid (HFl.out hp0)
  replace HFc:=Lib.hid (HFc.out hp0)
  replace HFz:=Lib.hid (HFz.out hp0)
  subst hp0
  clear HFp
  have b1:¬ (kn:Int) > 200:=by omega
  have b2:¬ (ln:Int) > 200:=by omega
  have p4:=HQ.out.cell 4
  simp at p4
  go_wp2_with fail
  go_loopw [5,6,26] (fun bx ev i wr => ∃ k:Nat,k≤kn∧i=.int .i64 (k:Int)∧Hid (∀ j,j < k→kAt (ps,ph,pl,pn) K j=0)∧Hid (Below w1.heap.size w1 wr)) (fun _ _ i _ => kn - (intOf i).toNat)
  case atStart => exact ⟨0,Nat.zero_le _,rfl,Lib.hid fun j hj => absurd hj (Nat.not_lt_zero _),HB⟩
  case round =>
   clear HB HQ p4
   obtain ⟨k,hk,rfl,HX,HB⟩:=hrel
   have HQ:=Lib.hid (HQ0.out.below HB.out HQ0.out.lt)
   by_cases hlt:k < kn
   ·obtain ⟨x,hx⟩:∃ x,K[k]?=some x:=⟨_,List.getElem?_eq_getElem (by rw [Hkn.out];exact hlt)⟩
    have hu:=HuK.out x (List.mem_of_getElem? hx)
    have HC:Hid (∀ wx,Calls Tryz.prog 38 #[.agg (pfC x).toArray] wx (Ret (.int .i64 (pfF x)) wx)):=Lib.hid fun wx => prefixFault_any x.1 x.2.1 x.2.2.1 x.2.2.2 wx hu.1 hu.2
    have HI:Hid (pfF x=0→∀ wx,Calls Tryz.prog 39 #[.agg (pfC x).toArray, .agg (pfC (ps,ph,pl,pn)).toArray] wx (Ret (.bool (insP x (ps,ph,pl,pn))) wx)):=Lib.hid fun h wx => within_pf wx (okPf_of h hu.1 hu.2) HOP.out
    have HA:Hid (kAt (ps,ph,pl,pn) K k=if pfF x ≠ 0 then pfF x else if insP x (ps,ph,pl,pn)=false then 16 else 0):=Lib.hid (by unfold kAt;simp only [List.getD,hx,Option.getD_some])
    have HFx:=Lib.hid (HFk.out k hlt HX.out)
    have HXs:Hid (kAt (ps,ph,pl,pn) K k=0→∀ j,j < k + 1→kAt (ps,ph,pl,pn) K j=0):=Lib.hid fun e j hj => by
     rcases Nat.lt_or_ge j k with h1 | h1
     ·exact HX.out j h1
     ·obtain rfl:j=k:=by omega
      exact e
    generalize kAt (ps,ph,pl,pn) K k=A at HA HFx HXs
    obtain ⟨x1,x2,x3,x4⟩:=x
    obtain ⟨g,o,had,hg,c0,c1,c2,c3⟩:=(HK0.out.below HB.out).pf hx rfl
    subst had
    rw [show (pfC (x1,x2,x3,x4)).toArray=#[.bool x1, .int .u64 (x2:Int), .int .u64 (x3:Int), .int .i64 x4] from rfl] at HC HI
    rw [show (pfC (ps,ph,pl,pn)).toArray=#[.bool ps, .int .u64 (ph:Int), .int .u64 (pl:Int), .int .i64 pn] from rfl] at HI
    generalize pfF (x1,x2,x3,x4)=XF at *
    generalize insP (x1,x2,x3,x4) (ps,ph,pl,pn)=XI at *
    have HX3:Hid (Blk (wr.alloc (.cells #[.bool x1, .int .u64 (x2:Int), .int .u64 (x3:Int), .int .i64 x4] 30 (0,0))) wr.heap.size 30 #[.bool x1, .int .u64 (x2:Int), .int .u64 (x3:Int), .int .i64 x4]):=Lib.hid (Blk.new wr _ _)
    have HQ3:=Lib.hid (HQ.out.alloc (.cells #[.bool x1, .int .u64 (x2:Int), .int .u64 (x3:Int), .int .i64 x4] 30 (0,0)))
    have HB3:Hid (Below w1.heap.size w1 (wr.alloc (.cells #[.bool x1, .int .u64 (x2:Int), .int .u64 (x3:Int), .int .i64 x4] 30 (0,0)))):=Lib.hid (Below.alloc HB.out HB.out.size _)
    clear hx hg hu
    go_upto_region 9 with fail
    generalize wr.alloc (.cells #[.bool x1, .int .u64 (x2:Int), .int .u64 (x3:Int), .int .i64 x4] 30 (0,0))=w3 at *
    generalize wr.heap.size=bx at *
    clear HB HQ c0 c1 c2 c3 HX
    have d0:=HX3.out.cell 0
    have d1:=HX3.out.cell 1
    have d2:=HX3.out.cell 2
    have d3:=HX3.out.cell 3
    simp at d0 d1 d2 d3
    go_wp2_with fail
    refine (HC.out _).mono ?_
    rintro e w4 ⟨rfl,hb⟩
    have HX4:=Lib.hid (HX3.out.below hb HX3.out.lt)
    have HQ4:=Lib.hid (HQ3.out.below hb HQ3.out.lt)
    have HB4:=Lib.hid (HB3.out.trans (hb.mono HB3.out.size))
    clear hb HX3 HQ3 HB3 HC d0 d1 d2 d3
    by_cases hx0:XF=0
    ·subst hx0
     have HIx:=Lib.hid (HI.out rfl)
     clear HI
     have d0:=HX4.out.cell 0
     have d1:=HX4.out.cell 1
     have d2:=HX4.out.cell 2
     have d3:=HX4.out.cell 3
     simp at d0 d1 d2 d3
     have p0:=HQ4.out.cell 0
     have p1:=HQ4.out.cell 1
     have p2:=HQ4.out.cell 2
     have p3:=HQ4.out.cell 3
     simp at p0 p1 p2 p3
     go_wp2_with fail
     refine (HIx.out _).mono ?_
     rintro e w5 ⟨rfl,hb⟩
     have HB5:=Lib.hid (HB4.out.trans (hb.mono HB4.out.size))
     clear hb HX4 HQ4 HB4 HIx d0 d1 d2 d3 p0 p1 p2 p3
     cases XI
     ·have hA:A=16:=HA.out
      have HE:Hid (F=16):=Lib.hid (by rw [HFx.out (by rw [hA];decide),hA])
      clear HA hA HFx HXs
      go_wp2_with fail
      go_ret
      exact ⟨by rw [HE.out] <;> rfl,HB01.out.trans (HB5.out.mono HB01.out.size)⟩
     ·have HX2:=Lib.hid (HXs.out HA.out)
      clear HA HFx HXs
      go_wp2_with fail
      exact ⟨⟨k + 1,by omega,by go_num,HX2,HB5⟩,by simp [intOf];omega⟩
    ·have hA:A=XF:=by rw [HA.out,if_pos hx0]
     have HE:Hid (F=XF):=Lib.hid (by rw [HFx.out (by rw [hA];exact hx0),hA])
     have hF2:(XF != 0)=true:=by simpa using hx0
     clear HA hA HFx HXs HI hx0
     go_wp2_with fail
     go_ret
     exact ⟨by rw [HE.out] <;> rfl,HB01.out.trans (HB4.out.mono HB01.out.size)⟩
   ·obtain ⟨k0,hk0⟩:∃ q,q=kn:=⟨_,rfl⟩
    obtain rfl:k=kn:=by omega
    subst hk0
    have HXK:=Lib.hid HX.out
    replace HOK:=Lib.hid (HOK.out HX.out)
    replace HFl:=Lib.hid (HFl.out HX.out)
    replace HFc:=Lib.hid (HFc.out HX.out)
    replace HFz:=Lib.hid (HFz.out HX.out)
    clear HFk HX hlt hk
    have p5:=HQ.out.cell 5
    simp at p5
    go_wp2_with fail
    go_loopw [7,9,10,48] (fun lv s9 s10 i wr => ∃ k:Nat,k≤ln∧i=.int .i64 (k:Int)∧lv=.string (strL (lastK L k))∧Hid (∀ j,j < k→lAt (ps,ph,pl,pn) L j=0)∧Hid (Below w1.heap.size w1 wr)) (fun _ _ _ i _ => ln - (intOf i).toNat)
    case atStart => exact ⟨0,Nat.zero_le _,rfl,rfl,Lib.hid fun j hj => absurd hj (Nat.not_lt_zero _),HB⟩
    case round =>
     clear HB HQ p5
     obtain ⟨k,hk,rfl,rfl,HX,HB⟩:=hrel
     have HQ:=Lib.hid (HQ0.out.below HB.out HQ0.out.lt)
     by_cases hlt:k < ln
     ·obtain ⟨x,hx⟩:∃ x,L[k]?=some x:=⟨_,List.getElem?_eq_getElem (by rw [Hln.out];exact hlt)⟩
      have HA:Hid (lAt (ps,ph,pl,pn) L k=lsF (ps,ph,pl,pn) x (lastK L k)):=Lib.hid (by unfold lAt;simp only [List.getD,hx,Option.getD_some])
      have HFx:=Lib.hid (HFl.out k hlt HX.out)
      have HXs:Hid (lAt (ps,ph,pl,pn) L k=0→∀ j,j < k + 1→lAt (ps,ph,pl,pn) L j=0):=Lib.hid fun e j hj => by
       rcases Nat.lt_or_ge j k with h1 | h1
       ·exact HX.out j h1
       ·obtain rfl:j=k:=by omega
        exact e
      rw [HA.out] at HFx HXs
      clear HA HX
      have hu:=HuL.out x (List.mem_of_getElem? hx)
      have H5:Hid (keyB x.1=false→lsF (ps,ph,pl,pn) x (lastK L k)=5):=Lib.hid fun h => by unfold lsF;rw [if_pos h]
      have Hp:Hid (keyB x.1=true→pfF x.2 ≠ 0→lsF (ps,ph,pl,pn) x (lastK L k)=pfF x.2):=Lib.hid fun h h1 => by unfold lsF;rw [if_neg (by rw [h];decide),if_pos h1]
      have H16:Hid (keyB x.1=true→pfF x.2=0→insP x.2 (ps,ph,pl,pn)=false→lsF (ps,ph,pl,pn) x (lastK L k)=16):=Lib.hid fun h h1 h2 => by unfold lsF;rw [if_neg (by rw [h];decide),if_neg (by rw [h1];decide),if_pos h2]
      have H1:Hid (keyB x.1=true→pfF x.2=0→insP x.2 (ps,ph,pl,pn)=true→(ps,ph,pl,pn).2.2.2 + 20 < x.2.2.2.2→lsF (ps,ph,pl,pn) x (lastK L k)=1):=Lib.hid fun h h1 h2 h3 => by unfold lsF;rw [if_neg (by rw [h];decide),if_neg (by rw [h1];decide),if_neg (by rw [h2];decide),if_pos h3]
      have H7:Hid (keyB x.1=true→pfF x.2=0→insP x.2 (ps,ph,pl,pn)=true→¬ (ps,ph,pl,pn).2.2.2 + 20 < x.2.2.2.2→strLe x.1 (lastK L k)=true→lsF (ps,ph,pl,pn) x (lastK L k)=7):=Lib.hid fun h h1 h2 h3 h4 => by unfold lsF;rw [if_neg (by rw [h];decide),if_neg (by rw [h1];decide),if_neg (by rw [h2];decide),if_neg h3,if_pos h4]
      have H0:Hid (keyB x.1=true→pfF x.2=0→insP x.2 (ps,ph,pl,pn)=true→¬ (ps,ph,pl,pn).2.2.2 + 20 < x.2.2.2.2→strLe x.1 (lastK L k)=false→lsF (ps,ph,pl,pn) x (lastK L k)=0):=Lib.hid fun h h1 h2 h3 h4 => by unfold lsF;rw [if_neg (by rw [h];decide),if_neg (by rw [h1];decide),if_neg (by rw [h2];decide),if_neg h3,if_neg (by rw [h4];decide)]
      have HKy:=Lib.hid fun wx => qKey_any x.1 wx (by have:=hu.2;omega)
      have HC:Hid (∀ wx,Calls Tryz.prog 38 #[.agg (pfC x.2).toArray] wx (Ret (.int .i64 (pfF x.2)) wx)):=Lib.hid fun wx => prefixFault_any x.2.1 x.2.2.1 x.2.2.2.1 x.2.2.2.2 wx hu.1.1 hu.1.2
      have HI:Hid (pfF x.2=0→∀ wx,Calls Tryz.prog 39 #[.agg (pfC x.2).toArray, .agg (pfC (ps,ph,pl,pn)).toArray] wx (Ret (.bool (insP x.2 (ps,ph,pl,pn))) wx)):=Lib.hid fun h wx => within_pf wx (okPf_of h hu.1.1 hu.1.2) HOP.out
      have HNe:Hid (keyB x.1=true→x.1 ≠ []):=Lib.hid keyB_ne
      have hbd:0≤pn∧pn≤128:=by
       obtain ⟨nb,hnb,hnl⟩:=okPf_bits HOP.out
       simp only at hnb
       omega
      obtain ⟨hbd0,hbd1⟩:=hbd
      obtain ⟨A,hA⟩:∃ z,lsF (ps,ph,pl,pn) x (lastK L k)=z:=⟨_,rfl⟩
      rw [hA] at H5 Hp H16 H1 H7 H0 HFx HXs
      have HLs:Hid (lastK L (k + 1)=x.1):=Lib.hid (lastK_succ hx)
      generalize lastK L k=lk at *
      obtain ⟨xk,s,h,l,n⟩:=x
      obtain ⟨g,o,had,hg,c0,c1,c2,c3,c4⟩:=(HL0.out.below HB.out).ls hx
      subst had
      have t1:=strL_ls xk
      have t2:=strL_ls lk
      simp only at H5 Hp H16 H1 H7 H0 HKy HC HI HNe HLs
      rw [show (pfC (s,h,l,n)).toArray=#[.bool s, .int .u64 (h:Int), .int .u64 (l:Int), .int .i64 n] from rfl] at HC HI
      rw [show (pfC (ps,ph,pl,pn)).toArray=#[.bool ps, .int .u64 (ph:Int), .int .u64 (pl:Int), .int .i64 pn] from rfl] at HI
      generalize pfF (s,h,l,n)=XF at *
      generalize insP (s,h,l,n) (ps,ph,pl,pn)=XI at *
      generalize keyB xk=KB at *
      have HLE:Hid (strLe xk lk=(Op.bytesLess xk lk || xk == lk)):=Lib.hid rfl
      generalize strLe xk lk=LE at *
      have HX0:Hid (Blk (wr.alloc (.cells #[.string (strL xk), .bool s, .int .u64 (h:Int), .int .u64 (l:Int), .int .i64 n] 67 (0,0))) wr.heap.size 67 #[.string (strL xk), .bool s, .int .u64 (h:Int), .int .u64 (l:Int), .int .i64 n]):=Lib.hid (Blk.new wr _ _)
      have HQ3:=Lib.hid (HQ.out.alloc (.cells #[.string (strL xk), .bool s, .int .u64 (h:Int), .int .u64 (l:Int), .int .i64 n] 67 (0,0)))
      have HB3:Hid (Below w1.heap.size w1 (wr.alloc (.cells #[.string (strL xk), .bool s, .int .u64 (h:Int), .int .u64 (l:Int), .int .i64 n] 67 (0,0)))):=Lib.hid (Below.alloc HB.out HB.out.size _)
      clear hx hg hu hA
      go_upto_region 21 with fail
      generalize wr.alloc (.cells #[.string (strL xk), .bool s, .int .u64 (h:Int), .int .u64 (l:Int), .int .i64 n] 67 (0,0))=w2 at *
      generalize wr.heap.size=bx at *
      clear HB HQ c0 c1 c2 c3 c4
      have HX:=HX0
      have HQ:=HQ3
      have HB:=HB3
      clear HX0 HQ3 HB3
      have d0:=HX.out.cell 0
      simp at d0
      go_wp2_with fail
      refine (HKy.out _).mono ?_
      rintro e w3 ⟨rfl,hb⟩
      have HX3:=Lib.hid (HX.out.below hb HX.out.lt)
      have HQ3:=Lib.hid (HQ.out.below hb HQ.out.lt)
      have HB3:=Lib.hid (HB.out.trans (hb.mono HB.out.size))
      clear hb
      clear HX HQ HB d0 HKy
      cases KB
      ·have HE:=Lib.hid (H5.out rfl)
       clear H5 Hp H16 H1 H7 H0 HC HI
       have HE2:=Lib.hid ((HFx.out (by rw [HE.out];first | decide | assumption | simpa using hF2)).trans HE.out)
       clear HFx HXs
       go_wp2_with fail
       go_ret
       exact ⟨by rw [HE2.out] <;> rfl,HB01.out.trans (HB3.out.mono HB01.out.size)⟩
      ·clear H5
       replace Hp:=Lib.hid (Hp.out rfl)
       replace H16:=Lib.hid (H16.out rfl)
       replace H1:=Lib.hid (H1.out rfl)
       replace H7:=Lib.hid (H7.out rfl)
       replace H0:=Lib.hid (H0.out rfl)
       replace HNe:=Lib.hid (HNe.out rfl)
       have d1:=HX3.out.cell 1
       have d2:=HX3.out.cell 2
       have d3:=HX3.out.cell 3
       have d4:=HX3.out.cell 4
       simp at d1 d2 d3 d4
       go_wp2_with fail
       refine (HC.out _).mono ?_
       rintro e w4 ⟨rfl,hb⟩
       have HX4:=Lib.hid (HX3.out.below hb HX3.out.lt)
       have HQ4:=Lib.hid (HQ3.out.below hb HQ3.out.lt)
       have HB4:=Lib.hid (HB3.out.trans (hb.mono HB3.out.size))
       clear hb HX3 HQ3 HB3 HC d1 d2 d3 d4
       by_cases hx0:XF=0
       ·subst hx0
        have HIx:=Lib.hid (HI.out rfl)
        clear HI Hp
        replace H16:=Lib.hid (H16.out rfl)
        replace H1:=Lib.hid (H1.out rfl)
        replace H7:=Lib.hid (H7.out rfl)
        replace H0:=Lib.hid (H0.out rfl)
        have d1:=HX4.out.cell 1
        have d2:=HX4.out.cell 2
        have d3:=HX4.out.cell 3
        have d4:=HX4.out.cell 4
        simp at d1 d2 d3 d4
        have p0:=HQ4.out.cell 0
        have p1:=HQ4.out.cell 1
        have p2:=HQ4.out.cell 2
        have p3:=HQ4.out.cell 3
        simp at p0 p1 p2 p3
        go_wp2_with fail
        refine (HIx.out _).mono ?_
        rintro e w5 ⟨rfl,hb⟩
        have HX5:=Lib.hid (HX4.out.below hb HX4.out.lt)
        have HQ5:=Lib.hid (HQ4.out.below hb HQ4.out.lt)
        have HB5:=Lib.hid (HB4.out.trans (hb.mono HB4.out.size))
        clear hb HX4 HQ4 HB4 HIx d1 d2 d3 d4 p0 p1 p2 p3
        cases XI
        ·have HE:=Lib.hid (H16.out rfl)
         clear H16 H1 H7 H0
         have HE2:=Lib.hid ((HFx.out (by rw [HE.out];first | decide | assumption | simpa using hF2)).trans HE.out)
         clear HFx HXs
         go_wp2_with fail
         go_ret
         exact ⟨by rw [HE2.out] <;> rfl,HB01.out.trans (HB5.out.mono HB01.out.size)⟩
        ·clear H16
         replace H1:=Lib.hid (H1.out rfl)
         replace H7:=Lib.hid (H7.out rfl)
         replace H0:=Lib.hid (H0.out rfl)
         have d4:=HX5.out.cell 4
         simp at d4
         have p3:=HQ5.out.cell 3
         simp at p3
         by_cases hbt:n > pn + 20
         ·have HE:=Lib.hid (H1.out (by omega))
          clear H1 H7 H0
          have HE2:=Lib.hid ((HFx.out (by rw [HE.out];first | decide | assumption | simpa using hF2)).trans HE.out)
          clear HFx HXs
          go_wp2_with fail
          go_ret
          exact ⟨by rw [HE2.out] <;> rfl,HB01.out.trans (HB5.out.mono HB01.out.size)⟩
         ·have H7b:=Lib.hid (H7.out (by omega))
          have H0b:=Lib.hid (H0.out (by omega))
          clear H1 H7 H0
          have d0:=HX5.out.cell 0
          simp at d0
          have hLE:=HLE.out
          generalize hb1:Op.bytesLess xk lk=v1 at hLE
          generalize hb2:(xk == lk)=v2 at hLE
          subst hLE
          cases v1
          ·cases v2
           ·have HX2:=Lib.hid (HXs.out (H0b.out rfl))
            clear H7b H0b HFx HXs
            go_wp2_with fail
            exact ⟨⟨k + 1,by omega,by go_num,by rw [HLs.out],HX2,HB5⟩,by simp [intOf];omega⟩
           ·have HE:=Lib.hid (H7b.out rfl)
            clear H7b H0b
            have HE2:=Lib.hid ((HFx.out (by rw [HE.out];first | decide | assumption | simpa using hF2)).trans HE.out)
            clear HFx HXs
            go_wp2_with fail
            go_ret
            exact ⟨by rw [HE2.out] <;> rfl,HB01.out.trans (HB5.out.mono HB01.out.size)⟩
          ·have HE:=Lib.hid (H7b.out (by simp))
           clear H7b H0b
           have HE2:=Lib.hid ((HFx.out (by rw [HE.out];first | decide | assumption | simpa using hF2)).trans HE.out)
           clear HFx HXs
           go_wp2_with fail
           go_ret
           exact ⟨by rw [HE2.out] <;> rfl,HB01.out.trans (HB5.out.mono HB01.out.size)⟩
       ·have HE:=Lib.hid (Hp.out hx0)
        have hF2:(XF != 0)=true:=by simpa using hx0
        clear Hp H16 H1 H7 H0 HI hx0
        have HE2:=Lib.hid ((HFx.out (by rw [HE.out];first | decide | assumption | simpa using hF2)).trans HE.out)
        clear HFx HXs
        go_wp2_with fail
        go_ret
        exact ⟨by rw [HE2.out] <;> rfl,HB01.out.trans (HB4.out.mono HB01.out.size)⟩
     ·obtain ⟨l0,hl0⟩:∃ q,q=ln:=⟨_,rfl⟩
      obtain rfl:k=ln:=by omega
      subst hl0
      replace HOL:=Lib.hid (HOL.out HX.out)
      replace HFc:=Lib.hid (HFc.out HX.out)
      replace HFz:=Lib.hid (HFz.out HX.out)
      clear HFl HX hlt hk
      have p5:=HQ.out.cell 5
      simp at p5
      go_wp2_with fail
      go_loopw [11,12,89] (fun s11 s12 i wr => ∃ j:Nat,j≤l0∧i=.int .i64 (j:Int)∧Hid (∀ q,q < j→cAt K L q=0)∧Hid (Below w1.heap.size w1 wr)) (fun _ _ i _ => l0 - (intOf i).toNat)
      case atStart => exact ⟨0,Nat.zero_le _,rfl,Lib.hid fun j hj => absurd hj (Nat.not_lt_zero _),HB⟩
      case round =>
       clear HB HQ p5
       obtain ⟨j,hj,rfl,HX,HB⟩:=hrel
       have HQ:=Lib.hid (HQ0.out.below HB.out HQ0.out.lt)
       by_cases hlt:j < l0
       ·obtain ⟨x,hx⟩:∃ x,L[j]?=some x:=⟨_,List.getElem?_eq_getElem (by rw [Hln.out];exact hlt)⟩
        have hox:=(HOL.out x (List.mem_of_getElem? hx)).1
        have HA:Hid (cAt K L j=if (K.any fun y => meetP y x.2)=true ∨ ((L.take j).any fun o => meetP o.2 x.2)=true then 13 else 0):=Lib.hid (by unfold cAt;simp only [List.getD,hx,Option.getD_some])
        have HFx:=Lib.hid (HFc.out j hlt HX.out)
        have HXs:Hid (cAt K L j=0→∀ q,q < j + 1→cAt K L q=0):=Lib.hid fun e q hq => by
         rcases Nat.lt_or_ge q j with h1 | h1
         ·exact HX.out q h1
         ·obtain rfl:q=j:=by omega
          exact e
        have hlj:(L.take j).length=j:=by rw [List.length_take,Hln.out];omega
        have HC1:=Lib.hid fun bx wx (hb:Blk wx bx 67 (lsC x).toArray) (hr:RdK layPf wx ka K) => containsPf_any 42 #[.pointer (some ⟨bx,0,none⟩)] (fun y => meetP y x.2) ka k0 kc K wx hr Hkn.out (by omega) (Go.Proofs.enters_of Tryz.func42 (by kernel_rfl) rfl) (fun y hy wx2 hb2 => pf1_any y x bx wx2 (HOK.out y hy) hox (hb.below hb2 hb.lt))
        have HC2:=Lib.hid fun bx wx (hb:Blk wx bx 67 (lsC x).toArray) (hr:RdK layLs wx la L) => containsLs_any 45 #[.pointer (some ⟨bx,0,none⟩)] (fun o => meetP o.2 x.2) la j lc (L.take j) wx (hr.takeN j) hlj (by omega) (Go.Proofs.enters_of Tryz.func45 (by kernel_rfl) rfl) (fun y hy wx2 hb2 => pf2_any y x bx wx2 (HOL.out y (List.mem_of_mem_take hy)).1 hox (hb.below hb2 hb.lt))
        generalize (K.any fun y => meetP y x.2)=B1 at *
        generalize ((L.take j).any fun o => meetP o.2 x.2)=B2 at *
        generalize cAt K L j=A at HA HFx HXs
        obtain ⟨xk,s,h,l,n⟩:=x
        obtain ⟨g,o,had,hg,c0,c1,c2,c3,c4⟩:=(HL0.out.below HB.out).ls hx
        subst had
        have i1:(j:Int)≤(lc:Int):=by omega
        have i2:(0:Int)≤(j:Int):=by omega
        have HX3:Hid (Blk (wr.alloc (.cells #[.string (strL xk), .bool s, .int .u64 (h:Int), .int .u64 (l:Int), .int .i64 n] 67 (0,0))) wr.heap.size 67 #[.string (strL xk), .bool s, .int .u64 (h:Int), .int .u64 (l:Int), .int .i64 n]):=Lib.hid (Blk.new wr _ _)
        have HQ3:=Lib.hid (HQ.out.alloc (.cells #[.string (strL xk), .bool s, .int .u64 (h:Int), .int .u64 (l:Int), .int .i64 n] 67 (0,0)))
        have HB3:Hid (Below w1.heap.size w1 (wr.alloc (.cells #[.string (strL xk), .bool s, .int .u64 (h:Int), .int .u64 (l:Int), .int .i64 n] 67 (0,0)))):=Lib.hid (Below.alloc HB.out HB.out.size _)
        clear hx hg hox hlj
        go_upto_region 37 with fail
        generalize wr.alloc (.cells #[.string (strL xk), .bool s, .int .u64 (h:Int), .int .u64 (l:Int), .int .i64 n] 67 (0,0))=w3 at *
        generalize wr.heap.size=bx at *
        clear HB HQ c0 c1 c2 c3 c4 HX
        have HK3:=Lib.hid (HK0.out.below HB3.out)
        have p4:=HQ3.out.cell 4
        simp at p4
        go_wp2_with fail
        refine (HC1.out bx _ HX3.out HK3.out).mono ?_
        rintro e w4 ⟨rfl,hb⟩
        have HX4:=Lib.hid (HX3.out.below hb HX3.out.lt)
        have HQ4:=Lib.hid (HQ3.out.below hb HQ3.out.lt)
        have HB4:=Lib.hid (HB3.out.trans (hb.mono HB3.out.size))
        clear hb HX3 HQ3 HB3 HC1 p4 HK3
        cases B1
        ·have HL4:=Lib.hid (HL0.out.below HB4.out)
         have p5:=HQ4.out.cell 5
         simp at p5
         go_wp2_with fail
         refine (HC2.out bx _ HX4.out HL4.out).mono ?_
         rintro e w5 ⟨rfl,hb⟩
         have HB5:=Lib.hid (HB4.out.trans (hb.mono HB4.out.size))
         clear hb HX4 HQ4 HB4 HC2 p5 HL4
         cases B2
         ·have HX2:=Lib.hid (HXs.out (by rw [HA.out];rfl))
          clear HA HFx HXs
          go_wp2_with fail
          exact ⟨⟨j + 1,by omega,by go_num,HX2,HB5⟩,by simp [intOf];omega⟩
         ·have hA:A=13:=by rw [HA.out];rfl
          have HE:Hid (F=13):=Lib.hid (by rw [HFx.out (by rw [hA];decide),hA])
          clear HA hA HFx HXs
          go_wp2_with fail
          go_ret
          exact ⟨by rw [HE.out] <;> rfl,HB01.out.trans (HB5.out.mono HB01.out.size)⟩
        ·have hA:A=13:=by rw [HA.out];rfl
         have HE:Hid (F=13):=Lib.hid (by rw [HFx.out (by rw [hA];decide),hA])
         clear HA hA HFx HXs HC2
         go_wp2_with fail
         go_ret
         exact ⟨by rw [HE.out] <;> rfl,HB01.out.trans (HB4.out.mono HB01.out.size)⟩
       ·obtain rfl:j=l0:=by omega
        have HE:=Lib.hid (HFz.out HX.out)
        clear HFc HFz HX
        go_wp2_with fail
        go_ret
        exact ⟨by rw [HE.out] <;> rfl,HB01.out.trans (HB.out.mono HB01.out.size)⟩
 ·have HE:=Lib.hid (HFp.out hp0)
  have hF2:(PF != 0)=true:=by simpa using hp0
  clear HFp HFk HFl HFc HFz hp0 HOP HOK HOL
  go_wp2_with fail
  go_ret
  exact ⟨by rw [HE.out] <;> rfl,HB01.out.trans (HB.out.mono HB01.out.size)⟩
theorem prev_num {x:Nat} (hx:VN x) (hp:VN (x - 1)) (hs:sixN (x - 1)=sixN x) (h0:0 < x) :
  hiN (x - 1)=hiN x - (if loN x < 1 + 0 then 1 else 0)∧loN (x - 1)=(loN x + 18446744073709551616 - 1 - 0) % 18446744073709551616∧(if loN x < 1 + 0 then 1 else 0)≤hiN x∧hiN x < 18446744073709551616:=by
 have u1:=hiN_u x
 have u2:=loN_u x
 unfold U64N at u1 u2
 rcases hx.cases with ⟨a,b,c,d⟩ | ⟨a,b,c,d⟩ <;> rcases hp.cases with ⟨a',b',c',d'⟩ | ⟨a',b',c',d'⟩
 ·rw [b,b',c,c']
  have:¬ x < 1 + 0:=by omega
  rw [if_neg this]
  omega
 ·rw [a,a'] at hs;cases hs
 ·rw [a,a'] at hs;cases hs
 ·have u3:=hiN_u (x - 1)
  have u4:=loN_u (x - 1)
  unfold U64N at u3 u4
  by_cases hl:loN x < 1 + 0
  ·rw [if_pos hl]
   omega
  ·rw [if_neg hl]
   omega
theorem sub64_one (x:Nat) (w:World):(callFunc 158 #[.int .u64 (x:Int), .int .u64 1, .int .u64 0]).run Tryz.prog w=.ok (.value (.tuple #[.int .u64 (((x + 18446744073709551616 - 1 - 0) % 18446744073709551616:Nat):Int), .int .u64 ((if x < 1 + 0 then 1 else 0:Nat):Int)])) w:=by
 rw [run_callFunc_extern Tryz.func158 (by kernel_rfl) (by kernel_rfl) (by kernel_rfl) (e:=Go.Proofs.sub64Entry) (by kernel_rfl)]
 have:=Go.Proofs.run_sub64 (P:=Tryz.prog) x 1 0 (by decide) w
 rw [show ((1:Nat):Int)=1 from rfl,show ((0:Nat):Int)=0 from rfl] at this
 rw [this]
 rfl
theorem beforeN {x:Nat} (w:World) (hx:VN x) (hp:VN (x - 1)) (hs:sixN (x - 1)=sixN x) (h0:0 < x):Calls Tryz.prog 132 #[.agg (aN x)] w (Ret (.agg (aN (x - 1))) w):=by
 obtain ⟨n1,n2,n3,n4⟩:=prev_num hx hp hs h0
 have hSub:=sub64_one (loN x)
 have HE:Hid (aN (x - 1)=#[.bool (sixN x), .int .u64 ((hiN (x - 1):Nat):Int), .int .u64 ((loN (x - 1):Nat):Int)]):=Lib.hid (by unfold aN;rw [hs])
 rw [n1,n2] at HE
 obtain ⟨C,hC⟩:∃ C:Nat,(if loN x < 1 + 0 then 1 else 0)=C:=⟨_,rfl⟩
 obtain ⟨L,hL⟩:∃ L:Nat,(loN x + 18446744073709551616 - 1 - 0) % 18446744073709551616=L:=⟨_,rfl⟩
 rw [hC,hL] at hSub HE
 rw [hC] at n3
 obtain ⟨D,hD⟩:∃ D:Nat,hiN x - C=D:=⟨_,rfl⟩
 have e0:((hiN x:Nat):Int) - (C:Int)=(D:Int):=by omega
 have e1:D≤18446744073709551615:=by omega
 rw [hD] at HE
 have HA:Hid (Blk ((w.alloc (.cells (aN x) 28 (0,0))).alloc (.cells #[.bool false, .int .u64 0, .int .u64 0] 28 (0,0))) w.heap.size 28 (aN x)):=Lib.hid ((Blk.new w 28 (aN x)).alloc _)
 have HR:Hid (Blk ((w.alloc (.cells (aN x) 28 (0,0))).alloc (.cells #[.bool false, .int .u64 0, .int .u64 0] 28 (0,0))) (w.heap.size + 1) 28 #[.bool false, .int .u64 0, .int .u64 0]):=Lib.hid (by
  have this:=Blk.new (w.alloc (.cells (aN x) 28 (0,0))) 28 #[.bool false, .int .u64 0, .int .u64 0]
  rw [World.size_alloc] at this
  exact this)
 have HB:Hid (Below w.heap.size w ((w.alloc (.cells (aN x) 28 (0,0))).alloc (.cells #[.bool false, .int .u64 0, .int .u64 0] 28 (0,0)))):=Lib.hid (below_alloc (below_alloc (Below.refl _ _) _) _)
 clear n1 n2 n3 n4 hC hL hD hx hp hs h0
 rw [HE.out]
 have HE2:Hid (aN x=#[.bool (sixN x), .int .u64 ((hiN x:Nat):Int), .int .u64 ((loN x:Nat):Int)]):=Lib.hid rfl
 rw [HE2.out] at HA HR HB ⊢
 clear HE HE2
 generalize sixN x=sx at *
 generalize hiN x=hx at *
 generalize loN x=lx at *
 go_enter Tryz.func132,Tryz.ntmps132
 go_upto_region 1 with fail
 generalize ((w.alloc (.cells #[.bool sx, .int .u64 (hx:Int), .int .u64 (lx:Int)] 28 (0,0))).alloc (.cells #[.bool false, .int .u64 0, .int .u64 0] 28 (0,0)))=w2 at *
 have p0:=HA.out.cell 0
 have p1:=HA.out.cell 1
 have p2:=HA.out.cell 2
 simp at p0 p1 p2
 have r0:=HR.out.cell 0
 have r1:=HR.out.cell 1
 have r2:=HR.out.cell 2
 simp at r0 r1 r2
 have pf:=HA.out.free
 have rf:=HR.out.free
 go_wp2_with fail
 refine bodyPost_ret (v:=.agg #[.bool sx, .int .u64 (D:Int), .int .u64 (L:Int)]) (by simp [results,Tryz.results132,go_sem,r0,r1,r2]) rfl ⟨rfl,?_⟩
 repeat refine Below.setCell ?_ (by first | (simp;omega) | simp) _
 exact HB.out
theorem laterN {x y:Nat} (w:World) (hx:VN x) (hy:VN y):Calls Tryz.prog 65 #[.agg (aN x), .agg (aN y)] w (Ret (.agg (aN (max x y))) w):=by
 have HC:=Lib.hid fun wx => spanCompareN wx hx hy
 have HV0:Hid (cN x y > 0→aN (max x y)=aN x):=Lib.hid fun h => by
  rw [cN_gt_iff] at h
  rw [show max x y=x by omega]
 have HV1:Hid (¬ cN x y > 0→aN (max x y)=aN y):=Lib.hid fun h => by
  rw [cN_gt_iff] at h
  rw [show max x y=y by omega]
 generalize aN (max x y)=V at *
 generalize cN x y=C at *
 have HP:Hid (Blk (((w.alloc (.cells (aN x) 28 (0,0))).alloc (.cells (aN y) 28 (0,0))).alloc (.cells #[.bool false, .int .u64 0, .int .u64 0] 28 (0,0))) w.heap.size 28 (aN x)):=Lib.hid (((Blk.new w 28 (aN x)).alloc _).alloc _)
 have HQ:Hid (Blk (((w.alloc (.cells (aN x) 28 (0,0))).alloc (.cells (aN y) 28 (0,0))).alloc (.cells #[.bool false, .int .u64 0, .int .u64 0] 28 (0,0))) (w.heap.size + 1) 28 (aN y)):=Lib.hid (by
  have this:=(Blk.new (w.alloc (.cells (aN x) 28 (0,0))) 28 (aN y)).alloc (.cells #[.bool false, .int .u64 0, .int .u64 0] 28 (0,0))
  rw [World.size_alloc] at this
  exact this)
 have HR:Hid (Blk (((w.alloc (.cells (aN x) 28 (0,0))).alloc (.cells (aN y) 28 (0,0))).alloc (.cells #[.bool false, .int .u64 0, .int .u64 0] 28 (0,0))) (w.heap.size + 1 + 1) 28 #[.bool false, .int .u64 0, .int .u64 0]):=Lib.hid (by
  have this:=Blk.new ((w.alloc (.cells (aN x) 28 (0,0))).alloc (.cells (aN y) 28 (0,0))) 28 #[.bool false, .int .u64 0, .int .u64 0]
  rw [World.size_alloc,World.size_alloc] at this
  exact this)
 have HB:Hid (Below w.heap.size w (((w.alloc (.cells (aN x) 28 (0,0))).alloc (.cells (aN y) 28 (0,0))).alloc (.cells #[.bool false, .int .u64 0, .int .u64 0] 28 (0,0)))):=Lib.hid (below_alloc (below_alloc (below_alloc (Below.refl _ _) _) _) _)
 clear hx hy
 unfold aN at HC HV0 HV1 HP HQ HR HB ⊢
 generalize sixN x=x1 at *
 generalize hiN x=x2 at *
 generalize loN x=x3 at *
 generalize sixN y=y1 at *
 generalize hiN y=y2 at *
 generalize loN y=y3 at *
 go_enter Tryz.func65,Tryz.ntmps65
 go_upto_region 1 with fail
 generalize (((w.alloc (.cells #[.bool x1, .int .u64 (x2:Int), .int .u64 (x3:Int)] 28 (0,0))).alloc (.cells #[.bool y1, .int .u64 (y2:Int), .int .u64 (y3:Int)] 28 (0,0))).alloc (.cells #[.bool false, .int .u64 0, .int .u64 0] 28 (0,0)))=w2 at *
 have p0:=HP.out.cell 0
 have p1:=HP.out.cell 1
 have p2:=HP.out.cell 2
 simp at p0 p1 p2
 have q0:=HQ.out.cell 0
 have q1:=HQ.out.cell 1
 have q2:=HQ.out.cell 2
 simp at q0 q1 q2
 go_wp2_with fail
 refine (HC.out _).mono ?_
 rintro e w3 ⟨rfl,hb⟩
 have HP3:=Lib.hid (HP.out.below hb.b HP.out.lt)
 have HQ3:=Lib.hid (HQ.out.below hb.b HQ.out.lt)
 have HR3:=Lib.hid (HR.out.below hb.b HR.out.lt)
 have HB3:=Lib.hid (HB.out.trans (hb.b.mono HB.out.size))
 clear hb HC HP HQ HR HB p0 p1 p2 q0 q1 q2
 have p0:=HP3.out.cell 0
 have p1:=HP3.out.cell 1
 have p2:=HP3.out.cell 2
 simp at p0 p1 p2
 have q0:=HQ3.out.cell 0
 have q1:=HQ3.out.cell 1
 have q2:=HQ3.out.cell 2
 simp at q0 q1 q2
 have r0:=HR3.out.cell 0
 have r1:=HR3.out.cell 1
 have r2:=HR3.out.cell 2
 simp at r0 r1 r2
 have rf:=HR3.out.free
 by_cases hc:C > 0
 ·have HE:=Lib.hid (HV0.out hc)
  clear HV0 HV1
  go_wp2_with fail
  refine bodyPost_ret (v:=.agg #[.bool x1, .int .u64 (x2:Int), .int .u64 (x3:Int)]) (by simp [results,Tryz.results65,go_sem,r0,r1,r2]) rfl ⟨by rw [HE.out],?_⟩
  repeat refine Below.setCell ?_ (by first | (simp;omega) | simp) _
  exact HB3.out
 ·have HE:=Lib.hid (HV1.out (by omega))
  clear HV0 HV1
  go_wp2_with fail
  refine bodyPost_ret (v:=.agg #[.bool y1, .int .u64 (y2:Int), .int .u64 (y3:Int)]) (by simp [results,Tryz.results65,go_sem,r0,r1,r2]) rfl ⟨by rw [HE.out],?_⟩
  repeat refine Below.setCell ?_ (by first | (simp;omega) | simp) _
  exact HB3.out
theorem earlierN {x y:Nat} (w:World) (hx:VN x) (hy:VN y):Calls Tryz.prog 131 #[.agg (aN x), .agg (aN y)] w (Ret (.agg (aN (min x y))) w):=by
 have HC:=Lib.hid fun wx => spanCompareN wx hx hy
 have HV0:Hid (cN x y < 0→aN (min x y)=aN x):=Lib.hid fun h => by
  rw [cN_lt_iff] at h
  rw [show min x y=x by omega]
 have HV1:Hid (¬ cN x y < 0→aN (min x y)=aN y):=Lib.hid fun h => by
  rw [cN_lt_iff] at h
  rw [show min x y=y by omega]
 generalize aN (min x y)=V at *
 generalize cN x y=C at *
 have HP:Hid (Blk (((w.alloc (.cells (aN x) 28 (0,0))).alloc (.cells (aN y) 28 (0,0))).alloc (.cells #[.bool false, .int .u64 0, .int .u64 0] 28 (0,0))) w.heap.size 28 (aN x)):=Lib.hid (((Blk.new w 28 (aN x)).alloc _).alloc _)
 have HQ:Hid (Blk (((w.alloc (.cells (aN x) 28 (0,0))).alloc (.cells (aN y) 28 (0,0))).alloc (.cells #[.bool false, .int .u64 0, .int .u64 0] 28 (0,0))) (w.heap.size + 1) 28 (aN y)):=Lib.hid (by
  have this:=(Blk.new (w.alloc (.cells (aN x) 28 (0,0))) 28 (aN y)).alloc (.cells #[.bool false, .int .u64 0, .int .u64 0] 28 (0,0))
  rw [World.size_alloc] at this
  exact this)
 have HR:Hid (Blk (((w.alloc (.cells (aN x) 28 (0,0))).alloc (.cells (aN y) 28 (0,0))).alloc (.cells #[.bool false, .int .u64 0, .int .u64 0] 28 (0,0))) (w.heap.size + 1 + 1) 28 #[.bool false, .int .u64 0, .int .u64 0]):=Lib.hid (by
  have this:=Blk.new ((w.alloc (.cells (aN x) 28 (0,0))).alloc (.cells (aN y) 28 (0,0))) 28 #[.bool false, .int .u64 0, .int .u64 0]
  rw [World.size_alloc,World.size_alloc] at this
  exact this)
 have HB:Hid (Below w.heap.size w (((w.alloc (.cells (aN x) 28 (0,0))).alloc (.cells (aN y) 28 (0,0))).alloc (.cells #[.bool false, .int .u64 0, .int .u64 0] 28 (0,0)))):=Lib.hid (below_alloc (below_alloc (below_alloc (Below.refl _ _) _) _) _)
 clear hx hy
 unfold aN at HC HV0 HV1 HP HQ HR HB ⊢
 generalize sixN x=x1 at *
 generalize hiN x=x2 at *
 generalize loN x=x3 at *
 generalize sixN y=y1 at *
 generalize hiN y=y2 at *
 generalize loN y=y3 at *
 go_enter Tryz.func131,Tryz.ntmps131
 go_upto_region 1 with fail
 generalize (((w.alloc (.cells #[.bool x1, .int .u64 (x2:Int), .int .u64 (x3:Int)] 28 (0,0))).alloc (.cells #[.bool y1, .int .u64 (y2:Int), .int .u64 (y3:Int)] 28 (0,0))).alloc (.cells #[.bool false, .int .u64 0, .int .u64 0] 28 (0,0)))=w2 at *
 have p0:=HP.out.cell 0
 have p1:=HP.out.cell 1
 have p2:=HP.out.cell 2
 simp at p0 p1 p2
 have q0:=HQ.out.cell 0
 have q1:=HQ.out.cell 1
 have q2:=HQ.out.cell 2
 simp at q0 q1 q2
 go_wp2_with fail
 refine (HC.out _).mono ?_
 rintro e w3 ⟨rfl,hb⟩
 have HP3:=Lib.hid (HP.out.below hb.b HP.out.lt)
 have HQ3:=Lib.hid (HQ.out.below hb.b HQ.out.lt)
 have HR3:=Lib.hid (HR.out.below hb.b HR.out.lt)
 have HB3:=Lib.hid (HB.out.trans (hb.b.mono HB.out.size))
 clear hb HC HP HQ HR HB p0 p1 p2 q0 q1 q2
 have p0:=HP3.out.cell 0
 have p1:=HP3.out.cell 1
 have p2:=HP3.out.cell 2
 simp at p0 p1 p2
 have q0:=HQ3.out.cell 0
 have q1:=HQ3.out.cell 1
 have q2:=HQ3.out.cell 2
 simp at q0 q1 q2
 have r0:=HR3.out.cell 0
 have r1:=HR3.out.cell 1
 have r2:=HR3.out.cell 2
 simp at r0 r1 r2
 have rf:=HR3.out.free
 by_cases hc:C < 0
 ·have HE:=Lib.hid (HV0.out hc)
  clear HV0 HV1
  go_wp2_with fail
  refine bodyPost_ret (v:=.agg #[.bool x1, .int .u64 (x2:Int), .int .u64 (x3:Int)]) (by simp [results,Tryz.results131,go_sem,r0,r1,r2]) rfl ⟨by rw [HE.out],?_⟩
  repeat refine Below.setCell ?_ (by first | (simp;omega) | simp) _
  exact HB3.out
 ·have HE:=Lib.hid (HV1.out (by omega))
  clear HV0 HV1
  go_wp2_with fail
  refine bodyPost_ret (v:=.agg #[.bool y1, .int .u64 (y2:Int), .int .u64 (y3:Int)]) (by simp [results,Tryz.results131,go_sem,r0,r1,r2]) rfl ⟨by rw [HE.out],?_⟩
  repeat refine Below.setCell ?_ (by first | (simp;omega) | simp) _
  exact HB3.out
def carN (x k:Nat):Nat:=(x % 65536 ^ k + 1) / 65536 ^ k
theorem carN_zero (x:Nat):carN x 0=1:=by simp [carN,Nat.mod_one]
theorem carN_le (x k:Nat):carN x k≤1:=by
 unfold carN
 have hp:0 < 65536 ^ k:=Nat.pow_pos (by decide)
 have h:=Nat.mod_lt x hp
 have:(x % 65536 ^ k + 1) / 65536 ^ k≤65536 ^ k / 65536 ^ k:=Nat.div_le_div_right (by omega)
 rwa [Nat.div_self hp] at this
theorem carN_dig (x k:Nat):digN (x + 1) k=(carN x k + digN x k) % 65536:=by
 have hp:0 < 65536 ^ k:=Nat.pow_pos (by decide)
 unfold digN carN
 have e:x + 1=(x % 65536 ^ k + 1) + 65536 ^ k * (x / 65536 ^ k):=by have:=Nat.mod_add_div x (65536 ^ k);omega
 rw [e,Nat.add_mul_div_left _ _ hp,Nat.add_mod,Nat.add_mod ((x % 65536 ^ k + 1) / 65536 ^ k) (x / 65536 ^ k % 65536),Nat.mod_mod]
theorem carN_succ (x k:Nat):carN x (k + 1)=(carN x k + digN x k) / 65536:=by
 have hp:0 < 65536 ^ k:=Nat.pow_pos (by decide)
 unfold carN digN
 rw [Nat.mod_pow_succ,Nat.pow_succ, ← Nat.div_div_eq_div_mul,show x % 65536 ^ k + 65536 ^ k * (x / 65536 ^ k % 65536) + 1=x % 65536 ^ k + 1 + 65536 ^ k * (x / 65536 ^ k % 65536) by omega,Nat.add_mul_div_left _ _ hp]
def mixD (x k:Nat) (j:Nat):Nat:=if j < k then digN (x + 1) j else digN x j
theorem wd_set (f:Nat→Nat) (d:Nat) (h:d < 9) (v:Nat):(wd f).setIfInBounds d (.int .i64 (v:Int))=wd (fun j => if j=d then v else f j):=by
 have:d=0 ∨ d=1 ∨ d=2 ∨ d=3 ∨ d=4 ∨ d=5 ∨ d=6 ∨ d=7 ∨ d=8:=by omega
 rcases this with rfl | rfl | rfl | rfl | rfl | rfl | rfl | rfl | rfl <;> rfl
theorem wd_one (f:Nat→Nat):(wd f).all (·.oneCell')=true:=by simp [wd,Value.oneCell']
theorem mix_step (x k:Nat) (h:k < 9):(wd (mixD x k)).setIfInBounds k (.int .i64 (((carN x k + digN x k) % 65536:Nat):Int))=wd (mixD x (k + 1)):=by
 rw [wd_set _ _ h]
 refine wd_congr fun d _ => ?_
 unfold mixD
 by_cases h1:d=k
 ·subst h1;rw [if_pos rfl,if_pos (by omega),carN_dig]
 ·rw [if_neg h1]
  by_cases h2:d < k
  ·rw [if_pos h2,if_pos (by omega)]
  ·rw [if_neg h2,if_neg (by omega)]
theorem i64_and65535 (n:Nat):bits .and .i64 (n:Int) 65535=((n % 65536:Nat):Int):=by
 have h127:(BitVec.ofInt 64 65535).toNat=2 ^ 16 - 1:=by decide
 have key:(BitVec.ofInt 64 (n:Int) &&& BitVec.ofInt 64 65535).toNat=n % 65536:=by
  rw [BitVec.toNat_and,BitVec.toNat_ofInt,h127,Nat.and_two_pow_sub_one_eq_mod]
  omega
 show IntKind.i64.wrap ((BitVec.ofInt 64 (n:Int) &&& BitVec.ofInt 64 65535).toNat:Nat)=_
 rw [key,IntKind.wrap_i64]
 omega
theorem plusN (x:Nat) (w:World):Calls Tryz.prog 73 #[.agg (wN x), .int .i64 1] w (Ret (.agg (wN (x + 1))) w):=by
 have HZ:Hid (mixD x 9=mixD x 9∧wd (mixD x 9)=wN (x + 1)):=Lib.hid ⟨rfl,wd_congr fun d hd => by unfold mixD;rw [if_pos hd]⟩
 have H0:Hid (wN x=wd (mixD x 0)):=Lib.hid (wd_congr fun d _ => by unfold mixD;rw [if_neg (by omega)])
 rw [H0.out]
 have HP':Blk ((w.alloc (.cells (wd (mixD x 0)) 101 (0,0))).alloc (.cells #[.int .i64 0, .int .i64 0, .int .i64 0, .int .i64 0, .int .i64 0, .int .i64 0, .int .i64 0, .int .i64 0, .int .i64 0] 101 (0,0))) (w.heap.size) 101 (wd (mixD x 0)):=(Blk.new w _ _).alloc _
 have HR':Blk ((w.alloc (.cells (wd (mixD x 0)) 101 (0,0))).alloc (.cells #[.int .i64 0, .int .i64 0, .int .i64 0, .int .i64 0, .int .i64 0, .int .i64 0, .int .i64 0, .int .i64 0, .int .i64 0] 101 (0,0))) (w.heap.size + 1) 101 #[.int .i64 0, .int .i64 0, .int .i64 0, .int .i64 0, .int .i64 0, .int .i64 0, .int .i64 0, .int .i64 0, .int .i64 0]:=by
  have this:=Blk.new (w.alloc (.cells (wd (mixD x 0)) 101 (0,0))) 101 #[.int .i64 0, .int .i64 0, .int .i64 0, .int .i64 0, .int .i64 0, .int .i64 0, .int .i64 0, .int .i64 0, .int .i64 0]
  rw [World.size_alloc] at this
  exact this
 have HP:=Lib.hid HP'
 have HR:=Lib.hid HR'
 have HB:Hid (Below w.heap.size w ((w.alloc (.cells (wd (mixD x 0)) 101 (0,0))).alloc (.cells #[.int .i64 0, .int .i64 0, .int .i64 0, .int .i64 0, .int .i64 0, .int .i64 0, .int .i64 0, .int .i64 0, .int .i64 0] 101 (0,0)))):=Lib.hid (below_alloc (below_alloc (Below.refl _ _) _) _)
 clear HP' HR'
 have hsz:=Tryz.sizeOf101
 have Hc0:=Lib.hid (carN_zero x)
 go_enter Tryz.func73,Tryz.ntmps73
 go_upto_region 1 with fail
 generalize ((w.alloc (.cells (wd (mixD x 0)) 101 (0,0))).alloc (.cells #[.int .i64 0, .int .i64 0, .int .i64 0, .int .i64 0, .int .i64 0, .int .i64 0, .int .i64 0, .int .i64 0, .int .i64 0] 101 (0,0)))=w1 at *
 go_wp2_with fail
 go_loopw [1,5,6] (fun nv iv i wr => ∃ k:Nat,k≤9∧i=.int .i64 (k:Int)∧nv=.int .i64 ((carN x k:Nat):Int)∧Hid (Blk wr w.heap.size 101 (wd (mixD x k)))∧Hid (Blk wr (w.heap.size + 1) 101 #[.int .i64 0, .int .i64 0, .int .i64 0, .int .i64 0, .int .i64 0, .int .i64 0, .int .i64 0, .int .i64 0, .int .i64 0])∧Hid (Below w.heap.size w wr)) (fun _ _ i _ => 9 - (intOf i).toNat)
 case atStart => exact ⟨0,by omega,rfl,by rw [Hc0.out];rfl,HP,HR,HB⟩
 case round =>
  clear HP HR HB
  obtain ⟨k,hk,rfl,rfl,HP,HR,HB⟩:=hrel
  by_cases hlt:k < 9
  ·have hc:=carN_le x k
   have hd:=digN_lt x k
   have hcell:wr.cell? ⟨w.heap.size,k,none⟩=some (.int .i64 ((digN x k:Nat):Int)):=by
    rw [HP.out.cell k,wd_get _ _ hlt]
    unfold mixD
    rw [if_neg (Nat.lt_irrefl k)]
   have hfr:=HP.out.free k
   have HP2:Hid (Blk (wr.setCell ⟨w.heap.size,k,none⟩ (.int .i64 (((carN x k + digN x k) % 65536:Nat):Int))) w.heap.size 101 (wd (mixD x (k + 1)))):=Lib.hid (by
    rw [← mix_step x k hlt]
    exact HP.out.set k _)
   have HR2:Hid (Blk (wr.setCell ⟨w.heap.size,k,none⟩ (.int .i64 (((carN x k + digN x k) % 65536:Nat):Int))) (w.heap.size + 1) 101 #[.int .i64 0, .int .i64 0, .int .i64 0, .int .i64 0, .int .i64 0, .int .i64 0, .int .i64 0, .int .i64 0, .int .i64 0]):=Lib.hid (HR.out.far (by omega) _ _)
   have HB2:Hid (Below w.heap.size w (wr.setCell ⟨w.heap.size,k,none⟩ (.int .i64 (((carN x k + digN x k) % 65536:Nat):Int)))):=Lib.hid (below_set HB.out (Nat.le_refl _) _ _)
   have Hs:=Lib.hid (carN_succ x k)
   clear HP HR HB
   generalize carN x k=c1 at *
   generalize digN x k=d1 at *
   obtain ⟨s,hs⟩:∃ s,c1 + d1=s:=⟨_,rfl⟩
   have hs2:(c1:Int) + (d1:Int)=(s:Int):=by omega
   have hs3:s≤65536:=by omega
   rw [hs] at HP2 HR2 HB2 Hs
   have ha:=i64_and65535 s
   have b1:(0:Int)≤(k:Int):=by omega
   have b2:(k:Int) < 9:=by omega
   clear hs hc hd
   go_wp2_with fail
   exact ⟨⟨k + 1,by omega,by go_num,by rw [Hs.out];exact congrArg _ (by omega),HP2,HR2,HB2⟩,by simp [intOf];omega⟩
  ·obtain rfl:k=9:=by omega
   rw [← HZ.out.2]
   go_wp2_with (first | refine wpList_load_row rfl 101 (.tmp 2) rfl w.heap.size rfl 101 (wd (mixD x 9)) (0,0) _ HP.out Tryz.underlying101 rfl (by kernel_rfl) ?_ | refine wpList_store_row rfl 101 (.tmp 4) (.tmp 21) rfl (w.heap.size + 1) (wd (mixD x 9)) rfl rfl 101 #[.int .i64 0, .int .i64 0, .int .i64 0, .int .i64 0, .int .i64 0, .int .i64 0, .int .i64 0, .int .i64 0, .int .i64 0] HR.out (by kernel_rfl) rfl (wd_one _) ?_)
   refine bodyPost_ret (v:=.agg (wd (mixD x 9))) (results_cell_row Tryz.results73 _ _ (w.heap.size + 1) 101 (wd (mixD x 9)) (0,0) _ rfl (HR.out.row _) Tryz.underlying101 rfl (by kernel_rfl)) rfl ⟨by rw [HZ.out.2],belowRow HB.out (by omega) _⟩
theorem ofN {x:Nat} (w:World) (hx:VN x):Calls Tryz.prog 72 #[.agg (aN x)] w (Ret (.agg (wN x)) w):=by
 have:=of_any (sixN x) (hiN x) (loN x) w (hiN_u x) (loN_u x)
 rw [wCells_wv, ← wN_aN hx] at this
 exact this
theorem firstOfN {x n:Nat} (w:World) (hx:VN x) (hn:n≤LN x):Calls Tryz.prog 97 #[.agg (aN x), .int .i64 (n:Int)] w (Ret (.agg (wN (clr x (LN x - n)))) w):=by
 have hl:=lenN_le (sixN x)
 rw [LN_six] at hn
 have:=firstOf_any (sixN x) (hiN x) (loN x) (n:Int) (lenN (sixN x) - n) w (hiN_u x) (loN_u x) (by omega) (by omega) (by omega)
 rw [clr_wN (ok_aN hx),num_aN hx, ← LN_six] at this
 exact this
theorem lastOfN {x n:Nat} (w:World) (hx:VN x) (hn:n≤LN x):Calls Tryz.prog 134 #[.agg (pN x (n:Int))] w (Ret (.agg (wN (fil x (LN x - n)))) w):=by
 have hl:=lenN_le (sixN x)
 rw [LN_six] at hn
 have:=lastOf_any (sixN x) (hiN x) (loN x) (n:Int) (lenN (sixN x) - n) w (hiN_u x) (loN_u x) (by omega) (by omega) (by omega)
 rw [fil_wN (ok_aN hx),num_aN hx, ← LN_six] at this
 exact this
theorem wideAddrN {x:Nat} (w:World) (hx:VN x):Calls Tryz.prog 74 #[.agg (wN x)] w (Ret (.agg (aN x)) w):=by
 have:=wideAddr_any (sixN x) (dg (hiN x) (loN x)) w (dg_lt _ _)
 rw [PS_dg_hi _ _ (hiN_u x),PS_dg_lo _ _ (loN_u x), ← wN_aN hx] at this
 exact this
theorem wideCmpN {x y:Nat} (w:World) (hx:x < 65536 ^ 9) (hy:y < 65536 ^ 9):Calls Tryz.prog 133 #[.agg (wN x), .agg (wN y)] w (Ret (.int .i64 (cN x y)) w):=by
 have:=wideCmpD_any (digN x) (digN y) w (digN_lt x) (digN_lt y)
 rw [PW_all hx,PW_all hy] at this
 exact this.mono fun _ _ h => h.ret
def wdl (f:Nat→Nat):List Int:=[((f 0:Nat):Int),((f 1:Nat):Int),((f 2:Nat):Int),((f 3:Nat):Int),((f 4:Nat):Int),((f 5:Nat):Int),((f 6:Nat):Int),((f 7:Nat):Int),((f 8:Nat):Int)]
theorem wd_ivs (f:Nat→Nat):wd f=ivs (wdl f):=rfl
theorem wd_eq (f g:Nat→Nat) (w:World):(Op.equalIn 10000 101 (.agg (wd f)) (.agg (wd g))).run Tryz.prog w=.ok (decide (wdl f=wdl g)) w:=by
 obtain ⟨i,hi⟩:∃ i,Tryz.prog.info? 3=some i:=Option.isSome_iff_exists.1 (by kernel_rfl)
 have hu:Tryz.prog.underlying 101=some (.array 9 3):=by kernel_rfl
 have hc:Tryz.prog.cellsOf 3=1:=by kernel_rfl
 rw [wd_ivs,wd_ivs,show (10000:Nat)=9999 + 1 from rfl,run_equalIn_array (P:=Tryz.prog) w 9999 (t:=101) _ _ hu hi,hc,items_int _ _ w (List.range 9) (fun i h => by have:=List.mem_range.1 h;simp [wdl];omega)]
 congr 1
 rw [decide_eq_decide]
 constructor
 ·intro h
  exact List.ext_getElem (by rfl) fun i h1 h2 => by
   have:=h i (List.mem_range.2 h1)
   simpa [List.getD,h1,h2] using this
 ·intro h i _
  rw [h]
theorem wdl_inj {x y:Nat} (hx:x < 65536 ^ 9) (hy:y < 65536 ^ 9):wdl (digN x)=wdl (digN y) ↔ x=y:=by
 constructor
 ·intro h
  refine wN_inj hx hy fun d hd => ?_
  unfold wdl at h
  simp only [List.cons.injEq] at h
  obtain ⟨a0,a1,a2,a3,a4,a5,a6,a7,a8,_⟩:=h
  have:d=0 ∨ d=1 ∨ d=2 ∨ d=3 ∨ d=4 ∨ d=5 ∨ d=6 ∨ d=7 ∨ d=8:=by omega
  rcases this with rfl | rfl | rfl | rfl | rfl | rfl | rfl | rfl | rfl <;> omega
 ·rintro rfl;rfl
theorem wN_eql {x y:Nat} (hx:x < 65536 ^ 9) (hy:y < 65536 ^ 9) (w:World):(binOp .eql 101 (.agg (wN x)) (.agg (wN y))).run Tryz.prog w=.ok (.bool (decide (x=y))) w:=by
 unfold wN
 rw [run_eql_struct,wd_eq,decide_eq_decide.2 (wdl_inj hx hy)]
 rfl
theorem wN_neq {x y:Nat} (hx:x < 65536 ^ 9) (hy:y < 65536 ^ 9) (w:World):(binOp .neq 101 (.agg (wN x)) (.agg (wN y))).run Tryz.prog w=.ok (.bool (!decide (x=y))) w:=by
 unfold wN
 rw [run_neq_struct,wd_eq,decide_eq_decide.2 (wdl_inj hx hy)]
 rfl
theorem VN.lt10 {x:Nat} (h:VN x):x < 65536 ^ 9∧x + 1 < 65536 ^ 9:=by have:=h.lt9;omega
theorem RdK.qs {w:World} {ad:Option Addr} {L:List Sp} (h:RdK layQs w ad L) {k:Nat} {p:Sp} (hp:L[k]?=some p) :
  ∃ g o,ad=some ⟨g,o,none⟩∧g < w.heap.size∧∀ j v,(layQs.enc p)[j]?=some v→w.cell? ⟨g,o + k * 18 + j,none⟩=some v:=by
 obtain ⟨g,o,e,hg,h0⟩:=h k p hp
 refine ⟨g,o,e,hg,fun j v hv => ?_⟩
 rw [Nat.add_assoc]
 exact h0 j v hv
theorem OwnK.qs {w:World} {B g n c:Nat} {L:List Sp} (h:OwnK layQs w B (.slice (some ⟨g,0,none⟩) n c) L) {k:Nat} {p:Sp} (hp:L[k]?=some p) :
  ∀ j v,(layQs.enc p)[j]?=some v→w.cell? ⟨g,k * 18 + j,none⟩=some v:=fun j v hv => h.get (E:=layQs) hp hv
theorem srt_keyQ {S:List Sp} (hv:∀ p ∈ S,VR p) (h:S.Pairwise (fun p q => keyQs p≤keyQs q)):Srt S:=by
 refine List.Pairwise.imp_of_mem (fun {a b} ha hb h => ?_) h
 rw [(hv a ha).key.2,(hv b hb).key.2] at h
 exact h
def setsAt (l:List Value):Nat→List Value→List Value
 | _, [] => l
 | j,v :: vs => setsAt (l.set j v) (j + 1) vs
theorem flat_sets (K i:Nat):∀ (vs:List Value) (LL:List (List Value)) (j:Nat) (z:List Value),(∀ l ∈ LL,l.length=K)→LL[i]?=some z→j + vs.length≤K→setsAt LL.flatten (i * K + j) vs=(LL.set i (setsAt z j vs)).flatten
 | [],LL,j,z,hk,hz,hj => by
   show LL.flatten=(LL.set i z).flatten
   congr 1
   obtain ⟨hi,e⟩:=List.getElem?_eq_some_iff.1 hz
   subst e
   exact (List.set_getElem_self hi).symm
 | v :: vs,LL,j,z,hk,hz,hj => by
   have hi:=(List.getElem?_eq_some_iff.1 hz).1
   have hzl:z.length=K:=hk z (List.mem_of_getElem? hz)
   simp only [List.length_cons] at hj
   show setsAt (LL.flatten.set (i * K + j) v) (i * K + j + 1) vs=(LL.set i (setsAt (z.set j v) (j + 1) vs)).flatten
   rw [flat_set K LL i j z v hk hz (by omega),Nat.add_assoc,flat_sets K i vs (LL.set i (z.set j v)) (j + 1) (z.set j v) (fun l hl => by
    rcases List.mem_or_eq_of_mem_set hl with h1 | rfl
    ·exact hk l h1
    ·rw [List.length_set];exact hzl) (by simp [hi]) (by omega),List.set_set]
def setCs (w:World) (g:Nat):Nat→List Value→World
 | _, [] => w
 | j,v :: vs => setCs (w.setCell ⟨g,j,none⟩ v) g (j + 1) vs
theorem raw_sets {B ty K g n c:Nat}:∀ (vs:List Value) (w:World) (t:Nat) (xs:List Value),w.ownsRow B ty K (.slice (some ⟨g,0,none⟩) n c) n xs→(setCs w g t vs).ownsRow B ty K (.slice (some ⟨g,0,none⟩) n c) n (setsAt xs t vs)
 | [],w,t,xs,h => h
 | v :: vs,w,t,xs,h => raw_sets vs _ _ _ (raw_set h t v)
theorem OwnK.sets {α:Type} {E:Lay α} {w:World} {B g n c:Nat} {L:List α} (h:OwnK E w B (.slice (some ⟨g,0,none⟩) n c) L) {i j:Nat} {x y:α} (vs:List Value) (hx:L[i]?=some x) (hj:j + vs.length≤E.K) (hy:E.enc y=setsAt (E.enc x) j vs) :
  OwnK E (setCs w g (i * E.K + j) vs) B (.slice (some ⟨g,0,none⟩) n c) (L.set i y):=by
 obtain ⟨rfl,_⟩:=h.block
 have:=raw_sets vs w (i * E.K + j) _ h
 rw [E.all_flat,flat_sets E.K i vs (L.map E.enc) j (E.enc x) (fun l hl => by obtain ⟨z,_,rfl⟩:=List.mem_map.1 hl;exact E.len z) (by rw [List.getElem?_map,hx];rfl) hj, ← hy, ← List.map_set, ← E.all_flat] at this
 show World.ownsRow _ _ _ _ _ _ _
 rw [List.length_set]
 exact this
theorem below_setCs {B:Nat} {u:World} {g:Nat} (hg:B≤g):∀ (vs:List Value) (w:World) (t:Nat),Below B u w→Below B u (setCs w g t vs)
 | [],w,t,h => h
 | v :: vs,w,t,h => below_setCs hg vs _ _ (Below.setCell (p:=⟨g,t,none⟩) h hg v)
theorem dig8 {x:Nat} (h:VN x):digN x 8=if sixN x=true then 1 else 0:=by
 have e:(65536:Nat) ^ 8=2 ^ 128:=by decide
 unfold digN
 rw [e]
 rcases h.cases with ⟨a,_,_,d⟩ | ⟨a,b,c,d⟩
 ·rw [a,if_neg (by simp),Nat.div_eq_of_lt (Nat.lt_trans d (by decide))]
 ·have h1:2 ^ 128≤x:=by omega
  have h2:x < 2 ^ 129:=by rcases h with h | h <;> omega
  have:x / 2 ^ 128=1:=by
   rw [Nat.div_eq_iff (by decide)]
   have e2:(2:Nat) ^ 129=2 ^ 128 + 2 ^ 128:=by decide
   omega
  rw [a,if_pos rfl,this]
theorem dig8_eq {x y:Nat} (hx:VN x) (hy:VN y):digN x 8=digN y 8 ↔ sixN x=sixN y:=by
 rw [dig8 hx,dig8 hy]
 cases sixN x <;> cases sixN y <;> simp
theorem far_six {p q:Sp} (hp:VR p) (hq:VR q) (hpq:p.1≤q.1) (h:sixN p.1 ≠ sixN q.1):¬ q.1≤p.2 + 1:=by
 have:=touch_num hp hq hpq
 rw [if_neg h] at this
 exact of_decide_eq_false this
theorem setsAt_wd (f g h:Nat→Nat):setsAt ((wd f).toList ++ (wd g).toList) 9 (wd h).toList=(wd f).toList ++ (wd h).toList:=rfl
theorem setCs_eq (g:Nat):∀ (vs:List Value) (w:World) (t:Nat),setCs w g t vs=w.setCells g t vs
 | [],_,_ => rfl
 | v :: vs,w,t => setCs_eq g vs _ _
theorem qjoined_any (ad:Option Addr) (n c:Nat) (L:List Sp) (w:World) (h:RdK layQs w ad L) (hn:L.length=n) (hs:n≤100000) (hv:∀ p ∈ L,VR p) :
  Calls Tryz.prog 139 #[.slice ad n c] w fun e w' => ∃ v,e=.returned v∧OwnK layQs w' w.heap.size v (jn L)∧Below w.heap.size w w':=by
 obtain ⟨R,hR⟩:∃ R,jn L=R:=⟨_,rfl⟩
 have HR:Hid (∀ S:List Sp,S.Perm L→Srt S→S.foldl stp []=R):=Lib.hid fun S hp hso => by
  rw [← hR];exact jn_of hp hso fun p hp => (hv p hp).le
 rw [hR]
 have Hv:=Lib.hid hv
 have H0:=Lib.hid h
 have Hn:=Lib.hid hn
 clear h hn hv hR
 go_enter Tryz.func139,Tryz.ntmps139
 go_wp2_with fail
 refine (clone_qs ad n c L w H0.out Hn.out (by omega)).mono ?_
 rintro e w1 ⟨v,rfl,hO,hB⟩
 obtain ⟨ad1,c1,hv1,_,_,_⟩:=hO.form
 rw [Hn.out] at hv1
 subst hv1
 have HO1:=Lib.hid hO
 have HB1:=Lib.hid hB
 clear hO hB
 go_wp2_with fail
 refine (sortQs_any w.heap.size n c1 ad1 L w1 HO1.out Hn.out (by omega) HB1.out.size).mono ?_
 rintro e w2 ⟨rfl,S,hp,hso,hO2,hB2⟩
 have hSv:∀ p ∈ S,VR p:=fun p h => Hv.out p (hp.mem_iff.1 h)
 have hSs:=srt_keyQ hSv hso
 have HS:Hid (S.foldl stp []=R):=Lib.hid (HR.out S hp hSs)
 have Hsl:Hid (S.length=n):=Lib.hid (hp.length_eq.trans Hn.out)
 have HSv:=Lib.hid hSv
 have HVt:=Lib.hid (vr_take hSs hSv)
 have HR2:Hid (RdK layQs w2 ad1 S):=Lib.hid hO2.rd
 have HB2:Hid (Below w.heap.size w w2):=Lib.hid (HB1.out.trans hB2)
 clear hp hso hO2 hB2 HO1 HB1 HR Hv Hn hSv hSs H0
 go_wp2_with fail
 go_loopw [3,5,6,13] (fun out bx nn i wr => ∃ (k:Nat) (A:List Sp),k≤n∧i=.int .i64 k∧Hid ((S.take k).foldl stp []=A)∧Hid (OwnK layQs wr w2.heap.size out A)∧Hid (Below w2.heap.size w2 wr)) (fun _ _ _ i _ => n - (intOf i).toNat)
 case atStart => exact ⟨0, [],Nat.zero_le _,rfl,Lib.hid rfl,Lib.hid (OwnK.nil _ _ _),Lib.hid (Below.refl _ _)⟩
 case round =>
  obtain ⟨k,A,hk,rfl,HA,HO,HB⟩:=hrel
  by_cases hlt:k < n
  ·have hS:k < S.length:=by rw [Hsl.out];exact hlt
   obtain ⟨p,hp⟩:∃ p,S[k]?=some p:=⟨_,List.getElem?_eq_getElem hS⟩
   obtain ⟨g,o,had,hg,hcs⟩:=(HR2.out.below HB.out).qs hp
   subst had
   have hpm:p ∈ S:=List.mem_of_getElem? hp
   have HA1:Hid ((S.take (k + 1)).foldl stp []=stp A p):=Lib.hid (by
    rw [List.take_succ_eq_append_getElem hS,List.foldl_append,HA.out]
    have:S[k]=p:=by rw [List.getElem?_eq_getElem hS] at hp;injection hp
    rw [this];rfl)
   have hVA:=(HVt.out k (by omega)).1
   have hFA:=(HVt.out k (by omega)).2 k p (Nat.le_refl _) hp
   rw [HA.out] at hVA hFA
   have HVA:=Lib.hid hVA
   have HFA:=Lib.hid hFA
   have HVp:=Lib.hid (HSv.out p hpm)
   have hAl:Hid (A.length≤k):=Lib.hid (by
    have:=fold_len (S.take k) []
    rw [HA.out] at this
    simp at this;omega)
   obtain ⟨X,hX⟩:∃ X,layQs.enc p=X:=⟨_,rfl⟩
   have HX1:Hid (X.toArray.size=18):=Lib.hid (by rw [List.size_toArray, ← hX];rfl)
   have HX2:Hid (X.toArray.all (·.oneCell')=true):=Lib.hid (all_oneCell_toArray (by rw [← hX];exact layQs.one p))
   have HX:=Lib.hid hX
   rw [hX] at hcs
   have HRA:Hid (wr.rangeAt g (o + k * 18) X):=Lib.hid hcs
   clear hp hpm HA hVA hFA hcs hX
   have HB1:Hid (Below w2.heap.size w2 (wr.alloc (.cells X.toArray 156 (0,0)))):=Lib.hid (Below.alloc HB.out HB.out.size _)
   have HP1:Hid (Blk (wr.alloc (.cells X.toArray 156 (0,0))) wr.heap.size 156 X.toArray):=Lib.hid (Blk.new wr _ _)
   have HO1:Hid (OwnK layQs (wr.alloc (.cells X.toArray 156 (0,0))) w2.heap.size u3 A):=Lib.hid (HO.out.alloc _)
   go_upto_region 7 with (first | (refine wpList_loadn rfl 156 _ rfl g (o + k * 18) rfl _ _ HRA.out Tryz.underlying156 rfl 18 size_qs (by simpa using HX1.out) ?_;go_simp) | (refine wpList_var X.toArray 156 Tryz.zeroValue156 rfl rfl rfl _ _ rfl _ rfl ?h1 ?h2 18 size_qs HX1.out ?h4 HX2.out ?h6;all_goals (try rfl);try go_simp))
   generalize wr.alloc (.cells X.toArray 156 (0,0))=w3 at *
   generalize wr.heap.size=bx at *
   clear HB HO HRA hg
   rcases snoc_cases A with rfl | ⟨D,q,rfl⟩
   ·obtain ⟨ad3,c3,hv3,_,_,_⟩:=HO1.out.form
    rw [show ([]:List Sp).length=0 from rfl] at hv3
    subst hv3
    clear hS
    go_upto_region 8 with fail
    refine wp_region_later (by kernel_rfl) (by kernel_rfl) ?_
    repeat (go_big_quiet_step (fail))
    refine wpQuiet_nil ?_
    rintro w4 ⟨n4,hn4⟩
    have hb:Below w3.heap.size w3 w4:=by rw [hn4];exact n4.2
    clear hn4 n4
    have HP4:=Lib.hid (HP1.out.below hb HP1.out.lt)
    have HO4:=Lib.hid (HO1.out.later hb)
    have HB4:=Lib.hid (HB1.out.trans (hb.mono HB1.out.size))
    clear hb HP1 HO1 HB1
    go_wp2_with (first | (refine wpList_loadn rfl 156 _ rfl bx 0 rfl _ _ HP4.out.range Tryz.underlying156 rfl 18 size_qs (by simpa using HX1.out) ?_;go_simp) | (refine wpList_build1 rfl 134 156 _ rfl X.toArray rfl 18 Tryz.underlying134 zero_qs HX1.out (by decide) (by decide) ?_;go_simp) | (at_builtin;refine wpList_app qsE rfl (.tmp 61) (.tmp 63) rfl rfl (World.ownsRow.alloc HO4.out _) rfl (src_new layQs _ p _ _ ?c0) ?c1 ?c2 ?c3 ?c4 ?_))
    case c0 => first | exact (congrArg List.toArray HX.out).symm | exact HX.out.symm
    case c1 => exact layQs.one p
    case c2 => unfold maxLen;simp
    case c3 => simp
    case c4 => have:=HB4.out.size;simp;omega
    intro v' w' hO hG
    have HO':Hid (OwnK layQs w' w2.heap.size v' (stp [] p)):=Lib.hid (OwnK.snoc (L:=[]) hO)
    have HB':Hid (Below w2.heap.size w2 w'):=Lib.hid ((Below.alloc HB4.out HB4.out.size _).trans (hG.below (by have:=HB4.out.size;simp;omega) (own_base HO4.out)))
    clear hO hG
    go_wp2
    exact ⟨⟨k + 1,_,by omega,by go_num,HA1,HO',HB'⟩,by simp [intOf];omega⟩
   ·obtain ⟨g2,c2,hv3,hg2,hgl,hc1,hc2⟩:=HO1.out.one (by simp)
    rw [show (D ++ [q]).length=D.length + 1 by simp] at hv3 hc1
    subst hv3
    have hDk:D.length + 1≤k:=by have:=hAl.out;simpa using this
    have hqm:(D ++ [q])[D.length]?=some q:=by simp
    have hVq:=HVA.out q (by simp)
    have hqp:=HFA.out q (by simp)
    have HM:Hid (stp (D ++ [q]) p=if p.1≤q.2 + 1 then (if q.2 < p.2 then D ++ [(q.1,p.2)] else D ++ [q]) else D ++ [q] ++ [p]):=Lib.hid (stp_snoc _ _ _)
    have HL:Hid ((D ++ [q]).length=D.length + 1):=Lib.hid (by simp)
    have hrq:w3.rangeAt g2 (D.length * 18) ((wN q.1).toList ++ (wN q.2).toList):=by
     have:=HO1.out.qs hqm
     rw [qs_split] at this
     exact this
    have hrp:w3.rangeAt bx 0 ((wN p.1).toList ++ (wN p.2).toList):=by
     have:=HP1.out.range
     rw [← HX.out,qs_split] at this
     exact this
    have d8:w3.cell? ⟨bx,8,none⟩=some (.int .i64 ((digN p.1 8:Nat):Int)):=(range_left hrp) 8 _ (wN_dig8 p.1)
    have q8:w3.cell? ⟨g2,D.length * 18 + 8,none⟩=some (.int .i64 ((digN q.1 8:Nat):Int)):=(range_left hrq) 8 _ (wN_dig8 q.1)
    have R1:∀ wx,(∃ x:Later w3,wx=x.1)→wx.rangeAt bx 0 (wN p.1).toList:=by rintro wx ⟨x,rfl⟩;exact range_below (range_left hrp) x.2 HP1.out.lt
    have R2:∀ wx,(∃ x:Later w3,wx=x.1)→wx.rangeAt bx 9 (wN p.2).toList:=by rintro wx ⟨x,rfl⟩;exact range_below (range_right hrp) x.2 HP1.out.lt
    have R3:∀ wx,(∃ x:Later w3,wx=x.1)→wx.rangeAt g2 (D.length * 18 + 9) (wN q.2).toList:=by rintro wx ⟨x,rfl⟩;exact range_below (range_right hrq) x.2 hgl
    have S1:=Lib.hid (wN_size p.1)
    have S2:=Lib.hid (wN_size p.2)
    have S3:=Lib.hid (wN_size q.2)
    have HR1:=Lib.hid R1
    have HR2':=Lib.hid R2
    have HR3:=Lib.hid R3
    clear R1 R2 R3
    have HSet:Hid ((D ++ [q]).set D.length (q.1,p.2)=D ++ [(q.1,p.2)]):=Lib.hid (by simp)
    have HY:Hid (layQs.enc (q.1,p.2)=setsAt (layQs.enc q) 9 (wN p.2).toList):=Lib.hid (by rw [qs_split,qs_split];exact (setsAt_wd _ _ _).symm)
    have HOne:Hid ((wN p.2).all (·.oneCell')=true):=Lib.hid (wd_one _)
    have HPl:=Lib.hid fun wx => plusN q.2 wx
    have HC1:=Lib.hid fun wx => wideCmpN (x:=p.1) (y:=q.2 + 1) wx HVp.out.a.lt10.1 hVq.b.lt10.2
    have HC2:=Lib.hid fun wx => wideCmpN (x:=p.2) (y:=q.2) wx HVp.out.b.lt10.1 hVq.b.lt10.1
    have HD8:=Lib.hid (dig8_eq hVq.a HVp.out.a)
    have HFar:=Lib.hid (far_six hVq HVp.out hqp)
    have HCle:=Lib.hid (cN_le p.1 (q.2 + 1))
    have hlen:((D.length + 1:Nat):Int) - 1=(D.length:Int):=by omega
    have Hqm:=Lib.hid hqm
    clear hAl hqm hc2 hS hrp hrq
    generalize wN p.1=P1 at *
    generalize wN p.2=P2 at *
    generalize wN q.2=Q2 at *
    generalize wN (q.2 + 1)=Q3 at *
    generalize D.length=m at *
    have hm1:(m:Int) < ((m + 1:Nat):Int):=by omega
    have hm2:m < m + 1:=by omega
    have hm0:((m:Int) ≥ 0):=by omega
    generalize m + 1=n1 at *
    have hm3:(n1:Int)≤100000:=by omega
    have l8:=Later.cell_of d8
    have k8:=Later.cell_of q8
    have hP:=fun x:Later w3 => Calls.later x (HPl.out x.1)
    have hC:=fun x:Later w3 => Calls.later x (HC1.out x.1)
    go_upto_region 8 with fail
    by_cases hd:digN q.1 8=digN p.1 8
    ·rw [hd] at k8 q8
     generalize digN p.1 8=e8 at *
     generalize cN p.1 (q.2 + 1)=C at *
     refine wp_region_later (by kernel_rfl) (by kernel_rfl) ?_
     repeat (first | go_big_quiet_step (first | (go_at_call 73;exact hP _) | (go_at_call 133;exact hC _)) | (refine wpQuiet_loadn rfl 101 _ rfl _ rfl bx 0 rfl P1 HR1.out _ Tryz.underlying101 rfl 9 size_wide S1.out ?_;go_simp) | (refine wpQuiet_loadn rfl 101 _ rfl _ rfl g2 (m * 18 + 9) rfl Q2 HR3.out _ Tryz.underlying101 rfl 9 size_wide S3.out ?_;go_simp))
     refine wpQuiet_nil ?_
     rintro ⟨w4,hb⟩
     dsimp only
     clear d8 q8 l8 k8 hP hC
     have HP4:=Lib.hid (HP1.out.below hb HP1.out.lt)
     have HO4:=Lib.hid (HO1.out.later hb)
     have HB4:=Lib.hid (HB1.out.trans (hb.mono HB1.out.size))
     have HU2:=Lib.hid (HR2'.out w4 ⟨⟨w4,hb⟩,rfl⟩)
     have HU3:=Lib.hid (HR3.out w4 ⟨⟨w4,hb⟩,rfl⟩)
     have HG:Hid (g2 < w4.heap.size):=Lib.hid (Nat.lt_of_lt_of_le hgl hb.size)
     clear hb HP1 HO1 HB1 HR1 HR2' HR3 hgl
     by_cases hle:p.1≤q.2 + 1
     ·have hC0:C≤0:=HCle.out.2 hle
      have HT2:Hid (∀ wx,(∃ x:Later w4,wx=x.1)→wx.rangeAt bx 9 P2.toList):=Lib.hid (by rintro wx ⟨x,rfl⟩;exact range_below HU2.out x.2 HP4.out.lt)
      have HT3:Hid (∀ wx,(∃ x:Later w4,wx=x.1)→wx.rangeAt g2 (m * 18 + 9) Q2.toList):=Lib.hid (by rintro wx ⟨x,rfl⟩;exact range_below HU3.out x.2 HG.out)
      have hC:=fun x:Later w4 => Calls.later x (HC2.out x.1)
      have HC2p:=Lib.hid (cN_pos p.2 q.2)
      generalize cN p.2 q.2=C2 at *
      go_upto_region 9 with fail
      refine wp_region_later (by kernel_rfl) (by kernel_rfl) ?_
      repeat (first | go_big_quiet_step ((go_at_call 133;exact hC _)) | (refine wpQuiet_loadn rfl 101 _ rfl _ rfl bx 9 rfl P2 HT2.out _ Tryz.underlying101 rfl 9 size_wide S2.out ?_;go_simp) | (refine wpQuiet_loadn rfl 101 _ rfl _ rfl g2 (m * 18 + 9) rfl Q2 HT3.out _ Tryz.underlying101 rfl 9 size_wide S3.out ?_;go_simp))
      refine wpQuiet_nil ?_
      rintro ⟨w5,hb⟩
      dsimp only
      have HP5:=Lib.hid (HP4.out.below hb HP4.out.lt)
      have HO5:=Lib.hid (HO4.out.later hb)
      have HB5:=Lib.hid (HB4.out.trans (hb.mono HB4.out.size))
      have HU5:=Lib.hid (HT2.out w5 ⟨⟨w5,hb⟩,rfl⟩)
      have HV5:=Lib.hid (HT3.out w5 ⟨⟨w5,hb⟩,rfl⟩)
      clear hb HP4 HO4 HB4 HU2 HU3 HT2 HT3 hC HG
      by_cases hlt2:q.2 < p.2
      ·have hC2:C2 > 0:=HC2p.out.2 hlt2
       have HA6:Hid ((S.take (k + 1)).foldl stp []=D ++ [(q.1,p.2)]):=Lib.hid (by rw [HA1.out,HM.out,if_pos hle,if_pos hlt2])
       have HTh:Hid (w5.there g2 (m * 18 + 9) 9):=Lib.hid fun j hj => ⟨by
        have hj2:j < Q2.toList.length:=by rw [Array.length_toList,S3.out];exact hj
        rw [HV5.out j _ (List.getElem?_eq_getElem hj2)];rfl,HO5.out.frozen _⟩
       have HS6:Hid (OwnK layQs (w5.setCells g2 (m * 18 + 9) P2.toList) w2.heap.size (.slice (some ⟨g2,0,none⟩) n1 c2) (D ++ [(q.1,p.2)])):=Lib.hid (by
        have:=HO5.out.sets (i:=m) (j:=9) (x:=q) (y:=(q.1,p.2)) P2.toList Hqm.out (by rw [Array.length_toList,S2.out];decide) HY.out
        rw [setCs_eq,HSet.out] at this
        exact this)
       have hst:(storeCells ⟨g2,m * 18 + 9,none⟩ P2.toList 0).run Tryz.prog w5=.ok () (w5.setCells g2 (m * 18 + 9) P2.toList):=by
        have hl:P2.toList.length=9:=by rw [Array.length_toList];exact S2.out
        have:=run_storeCells_cells (P:=Tryz.prog) g2 (m * 18 + 9) P2.toList 0 w5 (fun j hj => (HTh.out j (by omega)).1) (fun j hj => (HTh.out j (by omega)).2) (fun v hv => (Array.all_eq_true_iff_forall_mem.1 HOne.out) v (by simpa using hv))
        exact this
       have HB6:Hid (Below w2.heap.size w2 (w5.setCells g2 (m * 18 + 9) P2.toList)):=Lib.hid (by
        rw [← setCs_eq];exact below_setCs hg2 _ _ _ HB5.out)
       clear HA1 HM HVA HFA HVp HO5 HB5 HP5 HL HY HSet HC2p HCle HV5
       go_wp2_with (first | (refine wpList_loadn rfl 101 _ rfl bx 9 rfl P2.toList _ HU5.out Tryz.underlying101 rfl 9 size_wide (by simpa using S2.out) ?_;try go_simp))
       exact ⟨⟨k + 1,_,by omega,by go_num,HA6,HS6,HB6⟩,by simp [intOf];omega⟩
      ·have hC2:¬ C2 > 0:=fun h => hlt2 (HC2p.out.1 h)
       have HA6:Hid ((S.take (k + 1)).foldl stp []=D ++ [q]):=Lib.hid (by rw [HA1.out,HM.out,if_pos hle,if_neg hlt2])
       clear HA1 HM HVA HFA HVp HP5 HL HY HSet HC2p HCle HV5
       go_wp2_with fail
       exact ⟨⟨k + 1,_,by omega,by go_num,HA6,HO5,HB5⟩,by simp [intOf];omega⟩
     ·have hC0:¬ C≤0:=fun h => hle (HCle.out.1 h)
      have HA6:Hid ((S.take (k + 1)).foldl stp []=D ++ [q] ++ [p]):=Lib.hid (by rw [HA1.out,HM.out,if_neg hle])
      have HO5:Hid (w4.ownsRow w2.heap.size 156 18 (.slice (some ⟨g2,0,none⟩) n1 c2) n1 (layQs.all (D ++ [q]))):=Lib.hid (by have:=HO4.out;unfold OwnK at this;rw [HL.out] at this;exact this)
      clear HM HSet HY HC2 HFar HCle HD8
      go_wp2_with (first | (refine wpList_loadn rfl 156 _ rfl bx 0 rfl _ _ HP4.out.range Tryz.underlying156 rfl 18 size_qs (by simpa using HX1.out) ?_;go_simp) | (refine wpList_build1 rfl 134 156 _ rfl X.toArray rfl 18 Tryz.underlying134 zero_qs HX1.out (by decide) (by decide) ?_;go_simp) | (at_builtin;refine wpList_app qsE rfl (.tmp 61) (.tmp 63) rfl rfl (World.ownsRow.alloc HO5.out _) rfl (src_new layQs _ p _ _ ?c0) ?c1 ?c2 ?c3 ?c4 ?_))
      case c0 => first | exact (congrArg List.toArray HX.out).symm | exact HX.out.symm
      case c1 => exact layQs.one p
      case c2 => unfold maxLen;omega
      case c3 => omega
      case c4 => have:=HB4.out.size;simp;omega
      intro v' w' hO hG
      have HO':Hid (OwnK layQs w' w2.heap.size v' (D ++ [q] ++ [p])):=Lib.hid (by
       rw [← HL.out] at hO
       exact OwnK.snoc hO)
      have HB':Hid (Below w2.heap.size w2 w'):=Lib.hid ((Below.alloc HB4.out HB4.out.size _).trans (hG.below (by have:=HB4.out.size;simp;omega) (own_base HO4.out)))
      clear hO hG
      go_wp2
      exact ⟨⟨k + 1,_,by omega,by go_num,HA6,HO',HB'⟩,by simp [intOf];omega⟩
    ·have hdi:(((digN q.1 8:Nat):Int) == ((digN p.1 8:Nat):Int))=false:=by rw [beq_eq_false_iff_ne];omega
     generalize digN p.1 8=e8 at *
     generalize digN q.1 8=e9 at *
     refine wp_region_later (by kernel_rfl) (by kernel_rfl) ?_
     repeat (go_big_quiet_step (fail))
     refine wpQuiet_nil ?_
     rintro w4 ⟨⟨w4',hb⟩,rfl⟩
     try dsimp only
     have hle:¬ p.1≤q.2 + 1:=HFar.out (fun e => hd (HD8.out.2 e))
     have HP4:=Lib.hid (HP1.out.below hb HP1.out.lt)
     have HO4:=Lib.hid (HO1.out.later hb)
     have HB4:=Lib.hid (HB1.out.trans (hb.mono HB1.out.size))
     clear hb HP1 HO1 HB1 HR1 HR2' HR3 d8 q8 l8 k8 hP hC HPl HC1
     have HA6:Hid ((S.take (k + 1)).foldl stp []=D ++ [q] ++ [p]):=Lib.hid (by rw [HA1.out,HM.out,if_neg hle])
     have HO5:Hid (w4.ownsRow w2.heap.size 156 18 (.slice (some ⟨g2,0,none⟩) n1 c2) n1 (layQs.all (D ++ [q]))):=Lib.hid (by have:=HO4.out;unfold OwnK at this;rw [HL.out] at this;exact this)
     clear HM HSet HY HC2 HFar HCle HD8
     go_wp2_with (first | (refine wpList_loadn rfl 156 _ rfl bx 0 rfl _ _ HP4.out.range Tryz.underlying156 rfl 18 size_qs (by simpa using HX1.out) ?_;go_simp) | (refine wpList_build1 rfl 134 156 _ rfl X.toArray rfl 18 Tryz.underlying134 zero_qs HX1.out (by decide) (by decide) ?_;go_simp) | (at_builtin;refine wpList_app qsE rfl (.tmp 61) (.tmp 63) rfl rfl (World.ownsRow.alloc HO5.out _) rfl (src_new layQs _ p _ _ ?c0) ?c1 ?c2 ?c3 ?c4 ?_))
     case c0 => first | exact (congrArg List.toArray HX.out).symm | exact HX.out.symm
     case c1 => exact layQs.one p
     case c2 => unfold maxLen;omega
     case c3 => omega
     case c4 => have:=HB4.out.size;simp;omega
     intro v' w' hO hG
     have HO':Hid (OwnK layQs w' w2.heap.size v' (D ++ [q] ++ [p])):=Lib.hid (by
      rw [← HL.out] at hO
      exact OwnK.snoc hO)
     have HB':Hid (Below w2.heap.size w2 w'):=Lib.hid ((Below.alloc HB4.out HB4.out.size _).trans (hG.below (by have:=HB4.out.size;simp;omega) (own_base HO4.out)))
     clear hO hG
     go_wp2
     exact ⟨⟨k + 1,_,by omega,by go_num,HA6,HO',HB'⟩,by simp [intOf];omega⟩
  ·obtain rfl:k=n:=by omega
   have HF:Hid (A=R):=Lib.hid (by rw [← HA.out,List.take_of_length_le (by rw [Hsl.out];exact Nat.le_refl _)];exact HS.out)
   go_wp2_with fail
   go_ret
   exact ⟨_,rfl,by rw [← HF.out];exact HO.out.weak HB2.out.size,HB2.out.trans (HB.out.mono HB2.out.size)⟩
end Go.Proofs.YteldaicgaeooiaaGreatDoor
