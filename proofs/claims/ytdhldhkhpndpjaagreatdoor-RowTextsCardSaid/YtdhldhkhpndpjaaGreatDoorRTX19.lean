/-
  The text of a set: SetLines of the reference, SetText of the program.
  Rows of filters (api.Filter, filter.row): how they lie, and what their slices hold.
  Writers of rows: of the program. Conditions: right prefixes, numbers that fit, at most a thousand of each.
  Writers of rows: of the reference. Conditions: right prefixes, numbers that fit, at most a thousand of each.
  rowsOf: rows made ready for questions.
  The line of a row, of the program. Condition: a row that can be written.
  The lines of rows, of the reference: RowLines. Condition: rows that can be written.
  Generators of sets of prefixes.
-/
import Derived.Test.YtdhldhkhpndpjaaGreatDoorRTX15
import Derived.Test.YtdhldhkhpndpjaaGreatDoorRTX18
import Derived.Test.YtdhldhkhpndpjaaGreatDoorRTX16
import Derived.Test.YtdhldhkhpndpjaaGreatDoorRTX6
import Derived.Test.YtdhldhkhpndpjaaGreatDoorRTX3
import Derived.Test.YtdhldhkhpndpjaaGreatDoorRTX9
import Derived.WalkSpells
import Derived.Test.YtdhldhkhpndpjaaGreatDoorRTX17
import Derived.BigRegion
set_option linter.unusedVariables false
set_option maxRecDepth 100000
set_option maxHeartbeats 8000000
namespace Go.Proofs.YtdhldhkhpndpjaaGreatDoor
open Go.RowKit Go Go.Sort
theorem bld_later {B b:Nat} {bs:List Value} {w w':World} (h:Lib.IsBuilder 137 5 B b bs w) (hb:Below w.heap.size w w'):Lib.IsBuilder 137 5 B b bs w':=by
 have key:∀ p,Lib.BuilderAt 137 5 B b p bs w→Lib.BuilderAt 137 5 B b p bs w':=fun p hp => by
  have hlt:=hp.lt
  obtain ⟨h1,v,h2,h3,h4⟩:=hp
  exact ⟨h1,v,(hb.block b hlt).trans h2,own_later h3 hb,h4⟩
 rcases h with h | h
 ·exact .inl (key _ h)
 ·exact .inr (key _ h)
open Go.RowKit Go
abbrev Sl:=Option Addr × Nat × Nat
abbrev FC:=Int × Sl × Sl × Sl
def fcC (x:FC):List Value:=[.int .i64 x.1, .slice x.2.1.1 x.2.1.2.1 x.2.1.2.2, .slice x.2.2.1.1 x.2.2.1.2.1 x.2.2.1.2.2, .slice x.2.2.2.1 x.2.2.2.2.1 x.2.2.2.2.2]
def layFl:Lay FC:=⟨fcC,4,129,by decide,fun _ => rfl,fun p v hv => by simp [fcC] at hv;rcases hv with rfl | rfl | rfl | rfl <;> rfl⟩
theorem flE:EI Tryz.prog 61 129 4 80:=EI.mk' (z:=.agg #[.int .i64 0, .slice none 0 0, .slice none 0 0, .slice none 0 0]) Tryz.underlying61 (by kernel_rfl) rfl (by decide)
structure FlcT (w:World) (r:FR) (c:FC):Prop where
 e:c.1=r.p
 t1:RdT layPf w c.2.1.1 r.src
 t2:RdT layPf w c.2.2.1.1 r.dst
 t3:RdT layPo w c.2.2.2.1 r.po
 l1:r.src.length=c.2.1.2.1
 l2:r.dst.length=c.2.2.1.2.1
 l3:r.po.length=c.2.2.2.2.1
 m1:c.2.1.2.1≤100000
 m2:c.2.2.1.2.1≤100000
 m3:c.2.2.2.2.1≤100000
theorem FlcT.keep {S:List TypeId} {w w':World} {r:FR} {c:FC} (h:FlcT w r c) (k:KeepT S w w') (h1:layPf.ty ∉ S) (h2:layPo.ty ∉ S):FlcT w' r c :=
 ⟨h.e,h.t1.keep k h1,h.t2.keep k h1,h.t3.keep k h2,h.l1,h.l2,h.l3,h.m1,h.m2,h.m3⟩
def FlO (w:World) (B:Nat) (v:Value) (L:List FR):Prop:=∃ C:List FC,OwnK layFl w B v C∧C.length=L.length∧∀ (k:Nat) (c:FC) (r:FR),C[k]?=some c→L[k]?=some r→FlcT w r c
theorem FlO.nil (w:World) (B:Nat):FlO w B (.slice none 0 0) []:=⟨[],OwnK.nil _ _ _,rfl,fun k c r h => by simp at h⟩
theorem FlO.later {w w':World} {B:Nat} {v:Value} {L:List FR} (h:FlO w B v L) (hb:Below w.heap.size w w'):FlO w' B v L:=by
 obtain ⟨C,hO,hl,hc⟩:=h
 exact ⟨C,hO.later hb,hl,fun k c r h1 h2 => (hc k c r h1 h2).keep (S:=[]) (KeepT.of_below hb) (by simp) (by simp)⟩
theorem FlO.weak {w:World} {B B':Nat} {v:Value} {L:List FR} (h:FlO w B v L) (hb:B'≤B):FlO w B' v L:=by
 obtain ⟨C,hO,hl,hc⟩:=h
 exact ⟨C,hO.weak hb,hl,hc⟩
theorem FlO.form {w:World} {B:Nat} {v:Value} {L:List FR} (h:FlO w B v L):∃ ad c,v=.slice ad L.length c∧L.length≤c∧c≤maxLen:=by
 obtain ⟨C,hO,hl,hc⟩:=h
 obtain ⟨ad,c,e,_,h1,h2⟩:=hO.form
 rw [hl] at e h1
 exact ⟨ad,c,e,h1,h2⟩
theorem FlO.at {w:World} {B n c:Nat} {ad:Option Addr} {L:List FR} (h:FlO w B (.slice ad n c) L):FlsAt w ad L:=fun k r hr => by
 obtain ⟨C,hO,hl,hc⟩:=h
 have hk:k < C.length:=by rw [hl];exact (List.getElem?_eq_some_iff.1 hr).1
 have hC:C[k]?=some C[k]:=List.getElem?_eq_getElem hk
 have ht:=hc k _ r hC hr
 generalize C[k]=x at *
 obtain ⟨g,o,e,hg,h0⟩:=hO.rd k x hC
 have hE:layFl.enc x=fcC x:=rfl
 have hK:layFl.K=4:=rfl
 rw [hE,hK] at h0
 obtain ⟨xp,⟨a1,n1,c1⟩,⟨a2,n2,c2⟩,⟨a3,n3,c3⟩⟩:=x
 have hp:=ht.e
 simp only at hp
 subst hp
 exact ⟨g,o,a1,a2,a3,n1,n2,n3,c1,c2,c3,e,hg,h0 0 _ rfl,h0 1 _ rfl,h0 2 _ rfl,h0 3 _ rfl,⟨ht.t1.rd,ht.t2.rd,ht.t3.rd,ht.l1,ht.l2,ht.l3⟩,Nat.le_trans ht.m1 (by decide),Nat.le_trans ht.m2 (by decide),Nat.le_trans ht.m3 (by decide)⟩
theorem FlO.snoc {w w':World} {B:Nat} {v v':Value} {L:List FR} {C:List FC} {r:FR} {c:FC} (hO:OwnK layFl w B v C) (hl:C.length=L.length) (hc:∀ (k:Nat) (c:FC) (r:FR),C[k]?=some c→L[k]?=some r→FlcT w r c) (hx:FlcT w r c) (hg:Grew w w' v v') (hO2:OwnK layFl w' B v' (C ++ [c])):FlO w' B v' (L ++ [r]):=by
 have hk:=KeepT.of_grew (S:=[129]) hO hg (by simp [layFl])
 refine ⟨C ++ [c],hO2,by simp [hl],fun k c2 r2 h1 h2 => FlcT.keep (S:=[129]) (w:=w) ?_ hk (by decide) (by decide)⟩
 rcases Nat.lt_or_ge k C.length with h3 | h3
 ·rw [List.getElem?_append_left h3] at h1
  rw [List.getElem?_append_left (by rw [← hl];exact h3)] at h2
  exact hc k c2 r2 h1 h2
 ·rw [List.getElem?_append_right h3] at h1
  rw [List.getElem?_append_right (by rw [← hl];exact h3)] at h2
  have e1:=List.getElem?_eq_some_iff.1 h1
  have e2:=List.getElem?_eq_some_iff.1 h2
  obtain ⟨i1,rfl⟩:=e1
  obtain ⟨i2,rfl⟩:=e2
  simpa using hx
theorem OkPf.pf0 {p:Pf} (h:OkPf p):pFault p.1 p.2.1 p.2.2.1 p.2.2.2=0:=by
 have hn:=h.nn
 have hb:=h.ok.2.1
 unfold pFault
 rw [if_neg (by rw [h.aF];simp),if_neg (by unfold outB;simp;omega),if_neg (fun e => e.elim (fun e => e h.ok.2.2.1) (fun e => e h.ok.2.2.2))]
theorem prefixTextO_any (six:Bool) (hi lo n:Nat) (w:World) (h1:U64N hi) (h2:U64N lo) (hp:pFault six hi lo (n:Int)=0) (ht:Tabs w) :
  Calls Tryz.prog 254 #[.agg #[.bool six, .int .u64 (hi:Int), .int .u64 (lo:Int), .int .i64 (n:Int)]] w (Ret (.tuple #[.string (pfxT six hi lo n), .int .i64 0]) w):=by
 have h:=prefixText_all six hi lo (n:Int) w h1 h2 ht
 unfold pfxO at h
 rw [if_pos hp,hp,Int.toNat_natCast] at h
 exact h
theorem portsText_any (f t:Int) (w:World) (b1:-9223372036854775808≤f) (b2:f≤9223372036854775807) (b3:-9223372036854775808≤t) (b4:t≤9223372036854775807) (ht:Tabs w) :
  Calls Tryz.prog 186 #[.agg #[.int .i64 f, .int .i64 t]] w (Ret (.string (poB (f,t))) w):=by
 have HP:Hid (Blk (w.alloc (.cells #[.int .i64 f, .int .i64 t] 132 (0,0))) w.heap.size 132 #[.int .i64 f, .int .i64 t]):=Lib.hid (Blk.new w _ _)
 have HB:Hid (Below w.heap.size w (w.alloc (.cells #[.int .i64 f, .int .i64 t] 132 (0,0)))):=Lib.hid (below_alloc (Below.refl _ _) _)
 have HV:=Lib.hid (ht.below (below_alloc (Below.refl _ _) (.cells #[.int .i64 f, .int .i64 t] 132 (0,0))))
 have hsf:=itB_size b1 b2
 have hst:=itB_size b3 b4
 have HE1:Hid (f=t→poB (f,t)=itB f):=Lib.hid fun h => by unfold poB;rw [if_pos h]
 have HE2:Hid (f ≠ t→poB (f,t)=itB f ++ ⟨#[45]⟩ ++ itB t):=Lib.hid fun h => by unfold poB;rw [if_neg h]
 have HF:=Lib.hid fun wx (ht:Tabs wx) => itoaI_any f b1 b2 wx ht
 have HG:=Lib.hid fun wx (ht:Tabs wx) => itoaI_any t b3 b4 wx ht
 generalize poB (f,t)=PT at *
 generalize itB f=FX at *
 generalize itB t=TX at *
 clear ht b1 b2 b3 b4
 go_enter Tryz.func186,Tryz.ntmps186
 go_upto_region 1 with fail
 generalize w.alloc (.cells #[.int .i64 f, .int .i64 t] 132 (0,0))=w1 at *
 obtain ⟨bx,hbx⟩:∃ q,w.heap.size=q:=⟨_,rfl⟩
 have Hbx:=Lib.hid hbx
 rw [hbx] at HP HB ⊢
 clear hbx
 have hb1:bx≤w1.heap.size:=Nat.le_of_lt HP.out.lt
 have c0:=HP.out.cell 0
 have c1:=HP.out.cell 1
 simp at c0 c1
 by_cases hft:f=t
 ·have he:=HE1.out hft
  have HFx:=Lib.hid (HF.out w1 HV.out)
  subst hft
  clear HE1 HE2 HG HF
  go_wp2_with fail
  refine HFx.out.mono ?_
  rintro e w2 ⟨rfl,hb⟩
  have HB2:=Lib.hid (HB.out.trans (hb.mono hb1))
  clear hb
  go_wp2_with fail
  go_ret
  exact ⟨by rw [he];rfl,by rw [Hbx.out];exact HB2.out⟩
 ·have he:=Lib.hid (HE2.out hft)
  have hft2:(f == t)=false:=beq_eq_false_iff_ne.2 hft
  clear HE1 HE2
  go_upto_region 3 with fail
  have l0:=Later.cell_of c0
  have l1:=Later.cell_of c1
  have hQF:=fun m:Later w1 => Calls.later m (HF.out m.1 (HV.out.below m.2))
  have hQT:=fun m:Later w1 => Calls.later m (HG.out m.1 (HV.out.below m.2))
  have nb1:¬ 9223372036854775807 < FX.size + 1:=by omega
  have nb2:¬ 9223372036854775807 < FX.size + 1 + TX.size:=by omega
  clear hsf hst
  refine wp_region_later (by kernel_rfl) (by kernel_rfl) ?_
  iterate 2 (go_big_quiet_step (fail))
  go_big_quiet_step ((go_at_call 111;exact hQF _))
  iterate 3 (go_big_quiet_step (fail))
  go_big_quiet_step ((go_at_call 111;exact hQT _))
  repeat (go_big_quiet_step (fail))
  refine wpQuiet_nil ?_
  rintro w4 ⟨m4,hm4⟩
  have hb4:Below w1.heap.size w1 w4:=by rw [hm4];exact m4.2
  have HB4:=Lib.hid (HB.out.trans (hb4.mono hb1))
  clear hm4 m4 hb4
  rw [← he.out]
  go_wp2_with fail
  go_ret
  exact ⟨rfl,by rw [Hbx.out];exact HB4.out⟩
theorem qportsText_any (f t:Int) (w:World) (b1:-9223372036854775808≤f) (b2:f≤9223372036854775807) (b3:-9223372036854775808≤t) (b4:t≤9223372036854775807) (ht:Tabs w) :
  Calls Tryz.prog 115 #[.agg #[.int .i64 f, .int .i64 t]] w (Ret (.string (poB (f,t))) w):=by
 have HP:Hid (Blk (w.alloc (.cells #[.int .i64 f, .int .i64 t] 132 (0,0))) w.heap.size 132 #[.int .i64 f, .int .i64 t]):=Lib.hid (Blk.new w _ _)
 have HB:Hid (Below w.heap.size w (w.alloc (.cells #[.int .i64 f, .int .i64 t] 132 (0,0)))):=Lib.hid (below_alloc (Below.refl _ _) _)
 have HV:=Lib.hid (ht.below (below_alloc (Below.refl _ _) (.cells #[.int .i64 f, .int .i64 t] 132 (0,0))))
 have hsf:=itB_size b1 b2
 have hst:=itB_size b3 b4
 have HE1:Hid (f=t→poB (f,t)=itB f):=Lib.hid fun h => by unfold poB;rw [if_pos h]
 have HE2:Hid (f ≠ t→poB (f,t)=itB f ++ ⟨#[45]⟩ ++ itB t):=Lib.hid fun h => by unfold poB;rw [if_neg h]
 have HF:=Lib.hid fun wx (ht:Tabs wx) => itoaI_any f b1 b2 wx ht
 have HG:=Lib.hid fun wx (ht:Tabs wx) => itoaI_any t b3 b4 wx ht
 generalize poB (f,t)=PT at *
 generalize itB f=FX at *
 generalize itB t=TX at *
 clear ht b1 b2 b3 b4
 go_enter Tryz.func115,Tryz.ntmps115
 go_upto_region 1 with fail
 generalize w.alloc (.cells #[.int .i64 f, .int .i64 t] 132 (0,0))=w1 at *
 obtain ⟨bx,hbx⟩:∃ q,w.heap.size=q:=⟨_,rfl⟩
 have Hbx:=Lib.hid hbx
 rw [hbx] at HP HB ⊢
 clear hbx
 have hb1:bx≤w1.heap.size:=Nat.le_of_lt HP.out.lt
 have c0:=HP.out.cell 0
 have c1:=HP.out.cell 1
 simp at c0 c1
 by_cases hft:f=t
 ·have he:=HE1.out hft
  have HFx:=Lib.hid (HF.out w1 HV.out)
  subst hft
  clear HE1 HE2 HG HF
  go_wp2_with fail
  refine HFx.out.mono ?_
  rintro e w2 ⟨rfl,hb⟩
  have HB2:=Lib.hid (HB.out.trans (hb.mono hb1))
  clear hb
  go_wp2_with fail
  go_ret
  exact ⟨by rw [he];rfl,by rw [Hbx.out];exact HB2.out⟩
 ·have he:=Lib.hid (HE2.out hft)
  have hft2:(f == t)=false:=beq_eq_false_iff_ne.2 hft
  clear HE1 HE2
  go_upto_region 3 with fail
  have l0:=Later.cell_of c0
  have l1:=Later.cell_of c1
  have hQF:=fun m:Later w1 => Calls.later m (HF.out m.1 (HV.out.below m.2))
  have hQT:=fun m:Later w1 => Calls.later m (HG.out m.1 (HV.out.below m.2))
  have nb1:¬ 9223372036854775807 < FX.size + 1:=by omega
  have nb2:¬ 9223372036854775807 < FX.size + 1 + TX.size:=by omega
  clear hsf hst
  refine wp_region_later (by kernel_rfl) (by kernel_rfl) ?_
  iterate 2 (go_big_quiet_step (fail))
  go_big_quiet_step ((go_at_call 111;exact hQF _))
  iterate 3 (go_big_quiet_step (fail))
  go_big_quiet_step ((go_at_call 111;exact hQT _))
  repeat (go_big_quiet_step (fail))
  refine wpQuiet_nil ?_
  rintro w4 ⟨m4,hm4⟩
  have hb4:Below w1.heap.size w1 w4:=by rw [hm4];exact m4.2
  have HB4:=Lib.hid (HB.out.trans (hb4.mono hb1))
  clear hm4 m4 hb4
  rw [← he.out]
  go_wp2_with fail
  go_ret
  exact ⟨rfl,by rw [Hbx.out];exact HB4.out⟩
theorem rSetText_any (ad:Option Addr) (n c:Nat) (L:List Pf) (w:World) (h:RdK layPf w ad L) (hn:L.length=n) (hs:n≤1000) (hk:∀ p ∈ L,OkPf p) (ht:Tabs w) :
  Calls Tryz.prog 187 #[.slice ad n c] w (Ret (.string (commaB (L.map pfBy))) w):=by
 have H0:=Lib.hid h
 have Hn:=Lib.hid hn
 have Hk:=Lib.hid hk
 have HT:=Lib.hid ht
 clear h hn hk ht
 have HE:Hid ((L.take n).map pfBy=L.map pfBy):=Lib.hid (by rw [← Hn.out,List.take_length])
 have HJz:=Lib.hid (commaB_size ((L.take n).map pfBy) 804)
 go_enter Tryz.func187,Tryz.ntmps187
 go_wp2_with fail
 go_loopw [3,5,6,7,10] (fun s3 s5 s6 s7 s10 wr => ∃ (k:Nat),k≤n∧s10=.int .i64 (k:Int)∧Hid (OwnS wr w.heap.size s3 ((L.take k).map pfBy))∧Hid (∀ x ∈ (L.take k).map pfBy,x.size≤804)∧Hid (Below w.heap.size w wr)) (fun _ _ _ _ i _ => n - (intOf i).toNat)
 case atStart => exact ⟨0,Nat.zero_le _,rfl,Lib.hid (OwnS.nil _ _),Lib.hid (fun x hx => by cases hx),Lib.hid (Below.refl _ _)⟩
 case round =>
  obtain ⟨k,hk,rfl,HO,HSz,HB⟩:=hrel
  by_cases hlt:k < n
  ·have hS:k < L.length:=by rw [Hn.out];exact hlt
   obtain ⟨p,hp⟩:∃ p,L[k]?=some p:=⟨_,List.getElem?_eq_getElem hS⟩
   have hok:=Hk.out p (List.mem_of_getElem? hp)
   have hbt:p.2.2.2.toNat≤128:=by
    have h1:=hok.bits
    have h2:LN (nuP p)≤128:=by rw [LN_six];exact lenN_le _
    omega
   have haf:=hok.aF
   have hpf:=hok.pf0
   have hnn:=hok.nn
   obtain ⟨⟨u1,u2, -⟩, -⟩:=hok.ok
   obtain ⟨a1,a2,a3,a4i⟩:=p
   simp only at hbt haf hpf hnn u1 u2
   obtain ⟨a4,ha4⟩:∃ q:Nat,a4i.toNat=q:=⟨_,rfl⟩
   have hTx:pfBy (a1,a2,a3,a4i)=pfxT a1 a2 a3 a4:=by unfold pfBy;rw [ha4]
   rw [ha4] at hnn hbt
   subst hnn
   have hTk:(L.take (k + 1)).map pfBy=(L.take k).map pfBy ++ [pfxT a1 a2 a3 a4]:=by rw [List.take_add_one,hp,List.map_append, ← hTx];rfl
   have hsz:=pfxT_size (six:=a1) (hi:=a2) (lo:=a3) (n:=a4) (by omega)
   obtain ⟨g,o,had,hg,c0,c1,c2,c3⟩:=(H0.out.below HB.out).pf hp rfl
   subst had
   have HPL:=Lib.hid fun wx (ht:Tabs wx) => prefixTextO_any a1 a2 a3 a4 wx u1 u2 hpf ht
   obtain ⟨TX,hTX⟩:∃ q,pfxT a1 a2 a3 a4=q:=⟨_,rfl⟩
   rw [hTX] at HPL hsz hTk
   have HTk:=Lib.hid hTk
   clear hTk hp hS hok haf hpf hTx hTX ha4 hg u1 u2 hbt
   have HP1:Hid (Blk (wr.alloc (.cells #[.bool a1, .int .u64 (a2:Int), .int .u64 (a3:Int), .int .i64 (a4:Int)] 30 (0,0))) wr.heap.size 30 #[.bool a1, .int .u64 (a2:Int), .int .u64 (a3:Int), .int .i64 (a4:Int)]):=Lib.hid (Blk.new wr _ _)
   have HB1:Hid (Below w.heap.size w (wr.alloc (.cells #[.bool a1, .int .u64 (a2:Int), .int .u64 (a3:Int), .int .i64 (a4:Int)] 30 (0,0)))):=Lib.hid (Below.alloc HB.out HB.out.size _)
   have HO1:Hid (OwnS (wr.alloc (.cells #[.bool a1, .int .u64 (a2:Int), .int .u64 (a3:Int), .int .i64 (a4:Int)] 30 (0,0))) w.heap.size u3 ((L.take k).map pfBy)):=Lib.hid (HO.out.later (below_alloc (Below.refl _ _) _))
   have HSz2:Hid (∀ x ∈ (L.take (k + 1)).map pfBy,x.size≤804):=Lib.hid (fun x hx => by
    rw [HTk.out] at hx
    rcases List.mem_append.1 hx with h | h
    ·exact HSz.out x h
    ·rw [List.mem_singleton.1 h];exact hsz)
   have hlk:((L.take k).map pfBy).length=k:=by rw [List.length_map,List.length_take];have:=Hn.out;omega
   have Hlk:=Lib.hid hlk
   clear hsz hlk
   go_upto_region 5 with fail
   generalize wr.alloc (.cells #[.bool a1, .int .u64 (a2:Int), .int .u64 (a3:Int), .int .i64 (a4:Int)] 30 (0,0))=w3 at *
   generalize wr.heap.size=bx at *
   clear HB HO c0 c1 c2 c3
   have d0:=HP1.out.cell 0
   have d1:=HP1.out.cell 1
   have d2:=HP1.out.cell 2
   have d3:=HP1.out.cell 3
   simp at d0 d1 d2 d3
   have HPx:=Lib.hid (HPL.out w3 (HT.out.below HB1.out))
   clear HPL
   go_wp2_with fail
   refine HPx.out.mono ?_
   rintro e w4 ⟨rfl,hb⟩
   have HB4:=Lib.hid (HB1.out.trans (hb.mono HB1.out.size))
   have HO4:=Lib.hid (HO1.out.later hb)
   clear hb HB1 HO1 HP1 HPx d0 d1 d2 d3
   generalize (L.take k).map pfBy=M at *
   go_wp2_with (at_builtin;refine wpList_app strE rfl (.tmp 19) (.tmp 21) rfl rfl (World.ownsRow.alloc HO4.out _) rfl (src_one_new _ _ _) ?c1 ?c2 ?c3 ?c4 ?_)
   case c1 => first | rfl | (intro u hu;simp at hu;subst hu;rfl)
   case c2 => unfold maxLen;rw [Hlk.out];omega
   case c3 => rw [Hlk.out];omega
   case c4 => have:=HB4.out.size;simp;omega
   intro v' w5 hO hG
   have HO5:Hid (OwnS w5 w.heap.size v' ((L.take (k + 1)).map pfBy)):=Lib.hid (by rw [HTk.out];exact OwnS.snoc hO)
   have HB5:Hid (Below w.heap.size w w5):=Lib.hid ((below_alloc HB4.out _).trans (hG.below (by have:=HB4.out.size;simp;omega) (own_base HO4.out)))
   clear hO hG HO4 HB4
   go_wp2_with fail
   exact ⟨⟨k + 1,by omega,by go_num,HO5,HSz2,HB5⟩,by simp [intOf];omega⟩
  ·obtain rfl:k=n:=by omega
   have hlk:((L.take k).map pfBy).length=k:=by rw [List.length_map,List.length_take];have:=Hn.out;omega
   have hz:=HJz.out HSz.out
   rw [hlk] at hz
   have HJ:=Lib.hid (join_own 44 HO.out (by omega) (by unfold commaB at hz;omega))
   obtain ⟨ao,co,hvo, -⟩:=own_form HO.out
   rw [hlk] at hvo
   subst hvo
   clear hz hlk HSz HO HJz
   rw [HE.out] at HJ
   go_wp2_with fail
   refine HJ.out.mono ?_
   rintro e w2 ⟨rfl,hb⟩
   have HB2:=Lib.hid (HB.out.trans (hb.mono HB.out.size))
   clear hb
   go_wp2_with fail
   go_ret
   exact ⟨rfl,HB2.out⟩
theorem qlistPf_any (ad:Option Addr) (n c:Nat) (L:List Pf) (w:World) (h:RdK layPf w ad L) (hn:L.length=n) (hs:n≤1000) (hk:∀ p ∈ L,OkPf p) (ht:Tabs w) :
  Calls Tryz.prog 112 #[.slice ad n c, .func (.func 113) #[] #[]] w (Ret (.string (commaB (L.map pfBy))) w):=by
 have H0:=Lib.hid h
 have Hn:=Lib.hid hn
 have Hk:=Lib.hid hk
 have HT:=Lib.hid ht
 clear h hn hk ht
 have HE:Hid ((L.take n).map pfBy=L.map pfBy):=Lib.hid (by rw [← Hn.out,List.take_length])
 have HJz:=Lib.hid (commaB_size ((L.take n).map pfBy) 804)
 go_enter Tryz.func112,Tryz.ntmps112
 go_wp2_with fail
 go_loopw [5,7,10] (fun s5 s7 s10 wr => ∃ (k:Nat),k≤n∧s10=.int .i64 (k:Int)∧Hid (OwnS wr w.heap.size s5 ((L.take k).map pfBy))∧Hid (∀ x ∈ (L.take k).map pfBy,x.size≤804)∧Hid (Below w.heap.size w wr)) (fun _ _ i _ => n - (intOf i).toNat)
 case atStart => exact ⟨0,Nat.zero_le _,rfl,Lib.hid (OwnS.nil _ _),Lib.hid (fun x hx => by cases hx),Lib.hid (Below.refl _ _)⟩
 case round =>
  obtain ⟨k,hk,rfl,HO,HSz,HB⟩:=hrel
  by_cases hlt:k < n
  ·have hS:k < L.length:=by rw [Hn.out];exact hlt
   obtain ⟨p,hp⟩:∃ p,L[k]?=some p:=⟨_,List.getElem?_eq_getElem hS⟩
   have hok:=Hk.out p (List.mem_of_getElem? hp)
   have hbt:p.2.2.2.toNat≤128:=by
    have h1:=hok.bits
    have h2:LN (nuP p)≤128:=by rw [LN_six];exact lenN_le _
    omega
   have haf:=hok.aF
   have hpf:=hok.pf0
   have hnn:=hok.nn
   obtain ⟨⟨u1,u2, -⟩, -⟩:=hok.ok
   obtain ⟨a1,a2,a3,a4i⟩:=p
   simp only at hbt haf hpf hnn u1 u2
   obtain ⟨a4,ha4⟩:∃ q:Nat,a4i.toNat=q:=⟨_,rfl⟩
   have hTx:pfBy (a1,a2,a3,a4i)=pfxT a1 a2 a3 a4:=by unfold pfBy;rw [ha4]
   rw [ha4] at hnn hbt
   subst hnn
   have hTk:(L.take (k + 1)).map pfBy=(L.take k).map pfBy ++ [pfxT a1 a2 a3 a4]:=by rw [List.take_add_one,hp,List.map_append, ← hTx];rfl
   have hsz:=pfxT_size (six:=a1) (hi:=a2) (lo:=a3) (n:=a4) (by omega)
   obtain ⟨g,o,had,hg,c0,c1,c2,c3⟩:=(H0.out.below HB.out).pf hp rfl
   subst had
   have HPL:=Lib.hid fun wx (ht:Tabs wx) => prefixLine_any a1 a2 a3 a4 wx u1 u2 haf (by omega) ht
   obtain ⟨TX,hTX⟩:∃ q,pfxT a1 a2 a3 a4=q:=⟨_,rfl⟩
   rw [hTX] at HPL hsz hTk
   have HTk:=Lib.hid hTk
   clear hTk hp hS hok haf hpf hTx hTX ha4 hg u1 u2 hbt
   have HP1:Hid (Blk (wr.alloc (.cells #[.bool a1, .int .u64 (a2:Int), .int .u64 (a3:Int), .int .i64 (a4:Int)] 30 (0,0))) wr.heap.size 30 #[.bool a1, .int .u64 (a2:Int), .int .u64 (a3:Int), .int .i64 (a4:Int)]):=Lib.hid (Blk.new wr _ _)
   have HB1:Hid (Below w.heap.size w (wr.alloc (.cells #[.bool a1, .int .u64 (a2:Int), .int .u64 (a3:Int), .int .i64 (a4:Int)] 30 (0,0)))):=Lib.hid (Below.alloc HB.out HB.out.size _)
   have HO1:Hid (OwnS (wr.alloc (.cells #[.bool a1, .int .u64 (a2:Int), .int .u64 (a3:Int), .int .i64 (a4:Int)] 30 (0,0))) w.heap.size u5 ((L.take k).map pfBy)):=Lib.hid (HO.out.later (below_alloc (Below.refl _ _) _))
   have HSz2:Hid (∀ x ∈ (L.take (k + 1)).map pfBy,x.size≤804):=Lib.hid (fun x hx => by
    rw [HTk.out] at hx
    rcases List.mem_append.1 hx with h | h
    ·exact HSz.out x h
    ·rw [List.mem_singleton.1 h];exact hsz)
   have hlk:((L.take k).map pfBy).length=k:=by rw [List.length_map,List.length_take];have:=Hn.out;omega
   have Hlk:=Lib.hid hlk
   clear hsz hlk
   go_upto_region 5 with fail
   generalize wr.alloc (.cells #[.bool a1, .int .u64 (a2:Int), .int .u64 (a3:Int), .int .i64 (a4:Int)] 30 (0,0))=w3 at *
   generalize wr.heap.size=bx at *
   clear HB HO c0 c1 c2 c3
   have d0:=HP1.out.cell 0
   have d1:=HP1.out.cell 1
   have d2:=HP1.out.cell 2
   have d3:=HP1.out.cell 3
   simp at d0 d1 d2 d3
   have HPx:=Lib.hid (HPL.out w3 (HT.out.below HB1.out))
   clear HPL
   go_wp2_with fail
   refine HPx.out.mono ?_
   rintro e w4 ⟨rfl,hb⟩
   have HB4:=Lib.hid (HB1.out.trans (hb.mono HB1.out.size))
   have HO4:=Lib.hid (HO1.out.later hb)
   clear hb HB1 HO1 HP1 HPx d0 d1 d2 d3
   generalize (L.take k).map pfBy=M at *
   go_wp2_with (at_builtin;refine wpList_app strE rfl (.tmp 14) (.tmp 18) rfl rfl (World.ownsRow.alloc HO4.out _) rfl (src_one_new _ _ _) ?c1 ?c2 ?c3 ?c4 ?_)
   case c1 => first | rfl | (intro u hu;simp at hu;subst hu;rfl)
   case c2 => unfold maxLen;rw [Hlk.out];omega
   case c3 => rw [Hlk.out];omega
   case c4 => have:=HB4.out.size;simp;omega
   intro v' w5 hO hG
   have HO5:Hid (OwnS w5 w.heap.size v' ((L.take (k + 1)).map pfBy)):=Lib.hid (by rw [HTk.out];exact OwnS.snoc hO)
   have HB5:Hid (Below w.heap.size w w5):=Lib.hid ((below_alloc HB4.out _).trans (hG.below (by have:=HB4.out.size;simp;omega) (own_base HO4.out)))
   clear hO hG HO4 HB4
   go_wp2_with fail
   exact ⟨⟨k + 1,by omega,by go_num,HO5,HSz2,HB5⟩,by simp [intOf];omega⟩
  ·obtain rfl:k=n:=by omega
   have hlk:((L.take k).map pfBy).length=k:=by rw [List.length_map,List.length_take];have:=Hn.out;omega
   have hz:=HJz.out HSz.out
   rw [hlk] at hz
   have HJ:=Lib.hid (join_own 44 HO.out (by omega) (by unfold commaB at hz;omega))
   obtain ⟨ao,co,hvo, -⟩:=own_form HO.out
   rw [hlk] at hvo
   subst hvo
   clear hz hlk HSz HO HJz
   rw [HE.out] at HJ
   go_wp2_with fail
   refine HJ.out.mono ?_
   rintro e w2 ⟨rfl,hb⟩
   have HB2:=Lib.hid (HB.out.trans (hb.mono HB.out.size))
   clear hb
   go_wp2_with fail
   go_ret
   exact ⟨rfl,HB2.out⟩
theorem qlistPo_any (ad:Option Addr) (n c:Nat) (L:List (Int × Int)) (w:World) (h:RdK layPo w ad L) (hn:L.length=n) (hs:n≤1000) (hk:∀ p ∈ L,PoOk p) (ht:Tabs w) :
  Calls Tryz.prog 114 #[.slice ad n c, .func (.func 115) #[] #[]] w (Ret (.string (commaB (L.map poB))) w):=by
 have H0:=Lib.hid h
 have Hn:=Lib.hid hn
 have Hk:=Lib.hid hk
 have HT:=Lib.hid ht
 clear h hn hk ht
 have HE:Hid ((L.take n).map poB=L.map poB):=Lib.hid (by rw [← Hn.out,List.take_length])
 have HJz:=Lib.hid (commaB_size ((L.take n).map poB) 43)
 go_enter Tryz.func114,Tryz.ntmps114
 go_wp2_with fail
 go_loopw [5,7,10] (fun s5 s7 s10 wr => ∃ (k:Nat),k≤n∧s10=.int .i64 (k:Int)∧Hid (OwnS wr w.heap.size s5 ((L.take k).map poB))∧Hid (∀ x ∈ (L.take k).map poB,x.size≤43)∧Hid (Below w.heap.size w wr)) (fun _ _ i _ => n - (intOf i).toNat)
 case atStart => exact ⟨0,Nat.zero_le _,rfl,Lib.hid (OwnS.nil _ _),Lib.hid (fun x hx => by cases hx),Lib.hid (Below.refl _ _)⟩
 case round =>
  obtain ⟨k,hk,rfl,HO,HSz,HB⟩:=hrel
  by_cases hlt:k < n
  ·have hS:k < L.length:=by rw [Hn.out];exact hlt
   obtain ⟨⟨p1,p2⟩,hp⟩:∃ p,L[k]?=some p:=⟨_,List.getElem?_eq_getElem hS⟩
   have hok:=Hk.out _ (List.mem_of_getElem? hp)
   obtain ⟨b1,b2,b3,b4⟩:=hok
   simp only at b1 b2 b3 b4
   have hTk:(L.take (k + 1)).map poB=(L.take k).map poB ++ [poB (p1,p2)]:=by rw [List.take_add_one,hp,List.map_append];rfl
   have hsz:=poB_size (p:=(p1,p2)) b1 b2 b3 b4
   obtain ⟨g,o,had,hg,c0,c1⟩:=(H0.out.below HB.out).po (k:=k) hp
   subst had
   have HPL:=Lib.hid fun wx (ht:Tabs wx) => qportsText_any p1 p2 wx b1 b2 b3 b4 ht
   obtain ⟨TX,hTX⟩:∃ q,poB (p1,p2)=q:=⟨_,rfl⟩
   rw [hTX] at HPL hsz hTk
   have HTk:=Lib.hid hTk
   clear hTk hp hS hTX hg b1 b2 b3 b4
   have HP1:Hid (Blk (wr.alloc (.cells #[.int .i64 p1, .int .i64 p2] 132 (0,0))) wr.heap.size 132 #[.int .i64 p1, .int .i64 p2]):=Lib.hid (Blk.new wr _ _)
   have HB1:Hid (Below w.heap.size w (wr.alloc (.cells #[.int .i64 p1, .int .i64 p2] 132 (0,0)))):=Lib.hid (Below.alloc HB.out HB.out.size _)
   have HO1:Hid (OwnS (wr.alloc (.cells #[.int .i64 p1, .int .i64 p2] 132 (0,0))) w.heap.size u5 ((L.take k).map poB)):=Lib.hid (HO.out.later (below_alloc (Below.refl _ _) _))
   have HSz2:Hid (∀ x ∈ (L.take (k + 1)).map poB,x.size≤43):=Lib.hid (fun x hx => by
    rw [HTk.out] at hx
    rcases List.mem_append.1 hx with h | h
    ·exact HSz.out x h
    ·rw [List.mem_singleton.1 h];exact hsz)
   have hlk:((L.take k).map poB).length=k:=by rw [List.length_map,List.length_take];have:=Hn.out;omega
   have Hlk:=Lib.hid hlk
   clear hsz hlk
   go_upto_region 5 with fail
   generalize wr.alloc (.cells #[.int .i64 p1, .int .i64 p2] 132 (0,0))=w3 at *
   generalize wr.heap.size=bx at *
   clear HB HO c0 c1
   have d0:=HP1.out.cell 0
   have d1:=HP1.out.cell 1
   simp at d0 d1
   have HPx:=Lib.hid (HPL.out w3 (HT.out.below HB1.out))
   clear HPL
   go_wp2_with fail
   refine HPx.out.mono ?_
   rintro e w4 ⟨rfl,hb⟩
   have HB4:=Lib.hid (HB1.out.trans (hb.mono HB1.out.size))
   have HO4:=Lib.hid (HO1.out.later hb)
   clear hb HB1 HO1 HP1 HPx d0 d1
   generalize (L.take k).map poB=M at *
   go_wp2_with (at_builtin;refine wpList_app strE rfl (.tmp 14) (.tmp 18) rfl rfl (World.ownsRow.alloc HO4.out _) rfl (src_one_new _ _ _) ?c1 ?c2 ?c3 ?c4 ?_)
   case c1 => first | rfl | (intro u hu;simp at hu;subst hu;rfl)
   case c2 => unfold maxLen;rw [Hlk.out];omega
   case c3 => rw [Hlk.out];omega
   case c4 => have:=HB4.out.size;simp;omega
   intro v' w5 hO hG
   have HO5:Hid (OwnS w5 w.heap.size v' ((L.take (k + 1)).map poB)):=Lib.hid (by rw [HTk.out];exact OwnS.snoc hO)
   have HB5:Hid (Below w.heap.size w w5):=Lib.hid ((below_alloc HB4.out _).trans (hG.below (by have:=HB4.out.size;simp;omega) (own_base HO4.out)))
   clear hO hG HO4 HB4
   go_wp2_with fail
   exact ⟨⟨k + 1,by omega,by go_num,HO5,HSz2,HB5⟩,by simp [intOf];omega⟩
  ·obtain rfl:k=n:=by omega
   have hlk:((L.take k).map poB).length=k:=by rw [List.length_map,List.length_take];have:=Hn.out;omega
   have hz:=HJz.out HSz.out
   rw [hlk] at hz
   have HJ:=Lib.hid (join_own 44 HO.out (by omega) (by unfold commaB at hz;omega))
   obtain ⟨ao,co,hvo, -⟩:=own_form HO.out
   rw [hlk] at hvo
   subst hvo
   clear hz hlk HSz HO HJz
   rw [HE.out] at HJ
   go_wp2_with fail
   refine HJ.out.mono ?_
   rintro e w2 ⟨rfl,hb⟩
   have HB2:=Lib.hid (HB.out.trans (hb.mono HB.out.size))
   clear hb
   go_wp2_with fail
   go_ret
   exact ⟨rfl,HB2.out⟩
theorem poE:EI Tryz.prog 127 132 2 16:=EI.mk' (z:=.agg #[.int .i64 0, .int .i64 0]) Tryz.underlying127 (by kernel_rfl) rfl (by decide)
structure FR.Wr (r:FR):Prop where
 ok:r.Ok
 l1:r.src.length≤1000
 l2:r.dst.length≤1000
 l3:r.po.length≤1000
 p0:0≤r.p
 p1:r.p≤255
 po:∀ p ∈ r.po,PoOk p
theorem pfs_size {L:List Pf} (h:∀ p ∈ L,OkPf p):∀ x ∈ L.map pfBy,x.size≤804:=fun x hx => by
 obtain ⟨p,hp,rfl⟩:=List.mem_map.1 hx
 have hok:=h p hp
 have h1:=hok.bits
 have h2:LN (nuP p)≤128:=by rw [LN_six];exact lenN_le _
 exact pfxT_size (by omega)
theorem pos_size {L:List (Int × Int)} (h:∀ p ∈ L,PoOk p):∀ x ∈ L.map poB,x.size≤43:=fun x hx => by
 obtain ⟨p,hp,rfl⟩:=List.mem_map.1 hx
 obtain ⟨b1,b2,b3,b4⟩:=h p hp
 exact poB_size b1 b2 b3 b4
theorem FR.Wr.sizes {r:FR} (h:r.Wr):(anyB r.p).size≤21∧(commaB (r.src.map pfBy)).size≤805 * r.src.length∧(commaB (r.dst.map pfBy)).size≤805 * r.dst.length∧(commaB (r.po.map poB)).size≤44 * r.po.length:=by
 refine ⟨anyB_size (by have:=h.p0;omega) (by have:=h.p1;omega),?_,?_,?_⟩
 ·have:=commaB_size _ 804 (pfs_size h.ok.v1);rw [List.length_map] at this;omega
 ·have:=commaB_size _ 804 (pfs_size h.ok.v2);rw [List.length_map] at this;omega
 ·have:=commaB_size _ 43 (pos_size h.po);rw [List.length_map] at this;omega
theorem rowB_sz (r:FR):(rowB r).size=(anyB r.p).size + 1 + (commaB (r.src.map pfBy)).size + 1 + (commaB (r.dst.map pfBy)).size + 1 + (commaB (r.po.map poB)).size:=by
 unfold rowB
 have h1:(⟨#[32]⟩:ByteArray).size=1:=rfl
 simp only [ByteArray.size_append,h1]
theorem FR.Wr.size {r:FR} (h:r.Wr) (l1:r.src.length≤30) (l2:r.dst.length≤30) (l3:r.po.length≤30):(rowB r).size≤49644:=by
 have:=rowB_sz r
 obtain ⟨h1,h2,h3,h4⟩:=h.sizes
 omega
theorem rLine_any (r:FR) (c:FC) (w:World) (hT:FlcT w r c) (hw:r.Wr) (ht:Tabs w) :
  Calls Tryz.prog 104 #[.agg (fcC c).toArray] w (Ret (.string (rowB r)) w):=by
 obtain ⟨p,⟨a1,n1,c1⟩,⟨a2,n2,c2⟩,⟨a3,n3,c3⟩⟩:=c
 obtain ⟨e,t1,t2,t3,l1,l2,l3,m1,m2,m3⟩:=hT
 simp only at e t1 t2 t3 l1 l2 l3 m1 m2 m3
 have HC:(fcC (p,(a1,n1,c1),(a2,n2,c2),(a3,n3,c3))).toArray=#[.int .i64 p, .slice a1 n1 c1, .slice a2 n2 c2, .slice a3 n3 c3]:=rfl
 rw [HC]
 clear HC
 have hsz:=hw.sizes
 have hk1:=hw.l1
 have hk2:=hw.l2
 have hk3:=hw.l3
 have hp0:=hw.p0
 have hp1:=hw.p1
 have HS1:=Lib.hid fun wx (hb:Below w.heap.size w wx) => rSetText_any a1 n1 c1 r.src wx (t1.rd.below hb) l1 (by omega) hw.ok.v1 (ht.below hb)
 have HS2:=Lib.hid fun wx (hb:Below w.heap.size w wx) => rSetText_any a2 n2 c2 r.dst wx (t2.rd.below hb) l2 (by omega) hw.ok.v2 (ht.below hb)
 have HIt:=Lib.hid fun wx (hb:Below w.heap.size w wx) => itoaI_any p (by omega) (by omega) wx (ht.below hb)
 have HA0:Hid (p=0→anyB p=⟨#[97,110,121]⟩):=Lib.hid fun h => by unfold anyB;rw [if_pos h]
 have HA1:Hid (p ≠ 0→anyB p=itB p):=Lib.hid fun h => by unfold anyB;rw [if_neg h]
 have HRow:Hid (rowB r=anyB p ++ ⟨#[32]⟩ ++ commaB (r.src.map pfBy) ++ ⟨#[32]⟩ ++ commaB (r.dst.map pfBy) ++ ⟨#[32]⟩ ++ commaB (r.po.map poB)):=Lib.hid (by unfold rowB;rw [e])
 have H0:=Lib.hid t3.rd
 have Hn:=Lib.hid l3
 have Hk:=Lib.hid hw.po
 have HT:=Lib.hid ht
 have HE:Hid ((r.po.take n3).map poB=r.po.map poB):=Lib.hid (by rw [← l3,List.take_length])
 have HJz:=Lib.hid (commaB_size ((r.po.take n3).map poB) 43)
 rw [← e] at hsz
 have HSz:=Lib.hid hsz
 have hn3:n3≤1000:=by omega
 have hn1:n1≤1000:=by omega
 have hn2:n2≤1000:=by omega
 rw [l1,l2,l3] at HSz
 clear hw t1 t2 t3 ht e hsz hk1 hk2 hk3 m1 m2 m3 l1 l2 l3
 generalize rowB r=RB at *
 generalize commaB (r.src.map pfBy)=T1 at *
 generalize commaB (r.dst.map pfBy)=T2 at *
 obtain ⟨T3,hT3⟩:∃ q,commaB (r.po.map poB)=q:=⟨_,rfl⟩
 rw [hT3] at HRow HSz
 have HT3:Hid (joinS (r.po.map poB) ⟨#[44]⟩=T3):=Lib.hid hT3
 clear hT3
 generalize r.po=L at *
 generalize anyB p=AB at *
 generalize itB p=IB at *
 have HP:Hid (Blk (w.alloc (.cells #[.int .i64 p, .slice a1 n1 c1, .slice a2 n2 c2, .slice a3 n3 c3] 129 (0,0))) w.heap.size 129 #[.int .i64 p, .slice a1 n1 c1, .slice a2 n2 c2, .slice a3 n3 c3]):=Lib.hid (Blk.new w _ _)
 have HB:Hid (Below w.heap.size w (w.alloc (.cells #[.int .i64 p, .slice a1 n1 c1, .slice a2 n2 c2, .slice a3 n3 c3] 129 (0,0)))):=Lib.hid (below_alloc (Below.refl _ _) _)
 go_enter Tryz.func104,Tryz.ntmps104
 go_upto_region 1 with fail
 generalize w.alloc (.cells #[.int .i64 p, .slice a1 n1 c1, .slice a2 n2 c2, .slice a3 n3 c3] 129 (0,0))=w1 at *
 obtain ⟨bx,hbx⟩:∃ q,w.heap.size=q:=⟨_,rfl⟩
 have Hbx:=Lib.hid hbx
 rw [hbx] at HP
 have hb1:bx≤w1.heap.size:=Nat.le_of_lt HP.out.lt
 have HIx:=Lib.hid (HIt.out w1 HB.out)
 have k0:=HP.out.cell 0
 have k1:=HP.out.cell 1
 have k2:=HP.out.cell 2
 have k3:=HP.out.cell 3
 simp at k0 k1 k2 k3
 rw [hbx]
 clear hbx
 go_upto_if 9 with fail
 go_cut [3] (fun s3 wx => s3=.string AB∧Below w1.heap.size w1 wx)
 case first =>
  by_cases hp:p=0
  ·have he:=HA0.out hp
   subst hp
   clear HA0 HA1 HIx
   go_wp2_with fail
   go_meet
   case rel => exact ⟨by rw [he],Below.refl _ _⟩
  ·have he:=HA1.out hp
   have hp2:(p != 0)=true:=by simpa using hp
   clear HA0 HA1
   go_wp2_with fail
   refine HIx.out.mono ?_
   rintro e w2 ⟨rfl,hb⟩
   have HB2:=Lib.hid hb
   clear hb HIx
   go_wp2_with fail
   go_meet
   case rel => exact ⟨by rw [he],HB2.out⟩
 case rest =>
  obtain ⟨rfl,hbc⟩:=hcut
  have HPc:=Lib.hid (HP.out.below hbc HP.out.lt)
  have HBc:Hid (Below w.heap.size w wc):=Lib.hid (HB.out.trans (hbc.mono (by rw [Hbx.out];exact hb1)))
  clear hbc HP HB HIx HIt HA0 HA1 k0 k1 k2 k3 hb1
  have k3:=HPc.out.cell 3
  simp at k3
  go_wp2_with fail
  clear k3
  go_loopw [4,6,16] (fun s4 s6 s16 wr => ∃ (k:Nat),k≤n3∧s16=.int .i64 (k:Int)∧Hid (OwnS wr wc.heap.size s4 ((L.take k).map poB))∧Hid (∀ x ∈ (L.take k).map poB,x.size≤43)∧Hid (Below wc.heap.size wc wr)) (fun _ _ i _ => n3 - (intOf i).toNat)
  case atStart => exact ⟨0,Nat.zero_le _,rfl,Lib.hid (OwnS.nil _ _),Lib.hid (fun x hx => by cases hx),Lib.hid (Below.refl _ _)⟩
  case round =>
   obtain ⟨k,hk,rfl,HO,HSx,HBd⟩:=hrel
   have HB:Hid (Below w.heap.size w wr):=Lib.hid (HBc.out.trans (HBd.out.mono HBc.out.size))
   by_cases hlt:k < n3
   ·have hS:k < L.length:=by rw [Hn.out];exact hlt
    obtain ⟨⟨p1,p2⟩,hp⟩:∃ p,L[k]?=some p:=⟨_,List.getElem?_eq_getElem hS⟩
    have hok:=Hk.out _ (List.mem_of_getElem? hp)
    obtain ⟨b1,b2,b3,b4⟩:=hok
    simp only at b1 b2 b3 b4
    have hTk:(L.take (k + 1)).map poB=(L.take k).map poB ++ [poB (p1,p2)]:=by rw [List.take_add_one,hp,List.map_append];rfl
    have hsz:=poB_size (p:=(p1,p2)) b1 b2 b3 b4
    obtain ⟨g,o,had,hg,c0,c1⟩:=(H0.out.below HB.out).po (k:=k) hp
    subst had
    have HPL:=Lib.hid fun wx (ht:Tabs wx) => portsText_any p1 p2 wx b1 b2 b3 b4 ht
    obtain ⟨TX,hTX⟩:∃ q,poB (p1,p2)=q:=⟨_,rfl⟩
    rw [hTX] at HPL hsz hTk
    have HTk:=Lib.hid hTk
    clear hTk hp hS hTX hg b1 b2 b3 b4
    have HP1:Hid (Blk (wr.alloc (.cells #[.int .i64 p1, .int .i64 p2] 132 (0,0))) wr.heap.size 132 #[.int .i64 p1, .int .i64 p2]):=Lib.hid (Blk.new wr _ _)
    have HT1:=Lib.hid (HT.out.below (Below.alloc HB.out HB.out.size (.cells #[.int .i64 p1, .int .i64 p2] 132 (0,0))))
    have HB1:Hid (Below wc.heap.size wc (wr.alloc (.cells #[.int .i64 p1, .int .i64 p2] 132 (0,0)))):=Lib.hid (Below.alloc HBd.out HBd.out.size _)
    have HO1:Hid (OwnS (wr.alloc (.cells #[.int .i64 p1, .int .i64 p2] 132 (0,0))) wc.heap.size u4 ((L.take k).map poB)):=Lib.hid (HO.out.later (below_alloc (Below.refl _ _) _))
    have HSz2:Hid (∀ x ∈ (L.take (k + 1)).map poB,x.size≤43):=Lib.hid (fun x hx => by
     rw [HTk.out] at hx
     rcases List.mem_append.1 hx with h | h
     ·exact HSx.out x h
     ·rw [List.mem_singleton.1 h];exact hsz)
    have hlk:((L.take k).map poB).length=k:=by rw [List.length_map,List.length_take];have:=Hn.out;omega
    have Hlk:=Lib.hid hlk
    clear hsz hlk
    go_upto_region 8 with fail
    generalize wr.alloc (.cells #[.int .i64 p1, .int .i64 p2] 132 (0,0))=w3 at *
    generalize wr.heap.size=by_ at *
    clear HB HO HBd c0 c1
    have d0:=HP1.out.cell 0
    have d1:=HP1.out.cell 1
    simp at d0 d1
    have HPx:=Lib.hid (HPL.out w3 HT1.out)
    clear HPL HT1
    go_wp2_with fail
    refine HPx.out.mono ?_
    rintro e w4 ⟨rfl,hb⟩
    have HB4:=Lib.hid (HB1.out.trans (hb.mono HB1.out.size))
    have HO4:=Lib.hid (HO1.out.later hb)
    clear hb HB1 HO1 HP1 HPx d0 d1
    generalize (L.take k).map poB=M at *
    go_wp2_with (at_builtin;refine wpList_app strE rfl (.tmp 20) (.tmp 23) rfl rfl (World.ownsRow.alloc HO4.out _) rfl (src_one_new _ _ _) ?c1 ?c2 ?c3 ?c4 ?_)
    case c1 => first | rfl | (intro u hu;simp at hu;subst hu;rfl)
    case c2 => unfold maxLen;rw [Hlk.out];omega
    case c3 => rw [Hlk.out];omega
    case c4 => have:=HB4.out.size;simp;omega
    intro v' w5 hO hG
    have HO5:Hid (OwnS w5 wc.heap.size v' ((L.take (k + 1)).map poB)):=Lib.hid (by rw [HTk.out];exact OwnS.snoc hO)
    have HB5:Hid (Below wc.heap.size wc w5):=Lib.hid ((below_alloc HB4.out _).trans (hG.below (by have:=HB4.out.size;simp;omega) (own_base HO4.out)))
    clear hO hG HO4 HB4
    go_wp2_with fail
    exact ⟨⟨k + 1,by omega,by go_num,HO5,HSz2,HB5⟩,by simp [intOf];omega⟩
   ·obtain rfl:k=n3:=by omega
    have hlk:((L.take k).map poB).length=k:=by rw [List.length_map,List.length_take];have:=Hn.out;omega
    have hz:=HJz.out HSx.out
    rw [hlk] at hz
    have hj:(joinS ((L.take k).map poB) ⟨#[44]⟩).size≤140737488355328:=by unfold commaB at hz;omega
    have HO2:=Lib.hid HO.out
    rw [HE.out] at HO2 hj hlk
    obtain ⟨ao,co,hvo, -⟩:=own_form HO2.out
    rw [hlk] at hvo
    subst hvo
    have HPd:=Lib.hid (HPc.out.below HBd.out HPc.out.lt)
    have hcz:=HB.out.size
    have hQ1:=fun m:Later wr => Calls.later m (HS1.out m.1 (HB.out.trans (m.2.mono hcz)))
    have hQ2:=fun m:Later wr => Calls.later m (HS2.out m.1 (HB.out.trans (m.2.mono hcz)))
    have hQJ:=fun m:Later wr => Calls.later m (join_own 44 (HO2.out.later m.2) (by omega) hj)
    rw [HT3.out] at hQJ
    clear hz hlk HSx HO HJz HE HO2 hj HS1 HS2 hcz HPc
    have c1':=HPd.out.cell 1
    have c2':=HPd.out.cell 2
    simp at c1' c2'
    have l1:=Later.cell_of c1'
    have l2:=Later.cell_of c2'
    obtain ⟨z0,z1,z2,z3⟩:=HSz.out
    have nb1:¬ 9223372036854775807 < AB.size + 1:=by omega
    have nb2:¬ 9223372036854775807 < AB.size + 1 + T1.size:=by omega
    have nb3:¬ 9223372036854775807 < AB.size + 1 + T1.size + 1:=by omega
    have nb4:¬ 9223372036854775807 < AB.size + 1 + T1.size + 1 + T2.size:=by omega
    have nb5:¬ 9223372036854775807 < AB.size + 1 + T1.size + 1 + T2.size + 1:=by omega
    have nb6:¬ 9223372036854775807 < AB.size + 1 + T1.size + 1 + T2.size + 1 + T3.size:=by omega
    clear z0 z1 z2 z3 c1' c2'
    go_upto_region 10 with fail
    refine wp_region_later (by kernel_rfl) (by kernel_rfl) ?_
    iterate 4 (go_big_quiet_step (fail))
    go_big_quiet_step ((go_at_call 187;exact hQ1 _))
    iterate 4 (go_big_quiet_step (fail))
    go_big_quiet_step ((go_at_call 187;exact hQ2 _))
    iterate 3 (go_big_quiet_step (fail))
    go_big_quiet_step ((go_at_call 132;exact hQJ _))
    repeat (go_big_quiet_step (fail))
    refine wpQuiet_nil ?_
    rintro w4 ⟨m4,hm4⟩
    have hb4:Below wr.heap.size wr w4:=by rw [hm4];exact m4.2
    have HB4:=Lib.hid (HB.out.trans (hb4.mono HB.out.size))
    clear hm4 m4 hb4
    rw [← HRow.out]
    go_wp2_with fail
    go_ret
    exact ⟨rfl,HB4.out⟩
theorem rowsT_len {L:List FR} {m:Nat} (h:∀ r ∈ L,(rowB r).size≤m):(rowsT L).length≤(m + 1) * L.length:=by
 induction L with
 | nil => exact Nat.zero_le _
 | cons r L ih =>
   have h1:=ih fun q hq => h q (List.mem_cons_of_mem _ hq)
   have h2:=h r (List.mem_cons_self ..)
   have h3:(rowB r).data.toList.length=(rowB r).size:=by rw [Array.length_toList];rfl
   have e:(rowsT (r :: L)).length=(rowB r).size + 1 + (rowsT L).length:=by
    show ((rowB r).data.toList ++ [10] ++ rowsT L).length=_
    rw [List.length_append,List.length_append,h3]
    rfl
   rw [e,List.length_cons,Nat.mul_succ]
   omega
theorem rowLines_any (ad:Option Addr) (n c:Nat) (L:List FR) (w:World) (h:FlsAt w ad L) (hn:L.length=n) (hs:n≤300) (hw:∀ r ∈ L,r.Wr) (hz:∀ r ∈ L,(rowB r).size≤49644) (ht:Tabs w) :
  Calls Tryz.prog 32 #[.slice ad n c] w (Ret (.string (strL (rowsT L))) w):=by
 have H0:=Lib.hid h
 have Hn:=Lib.hid hn
 have Hw:=Lib.hid hw
 have Hz:=Lib.hid hz
 have HT:=Lib.hid ht
 have HE:Hid (rowsT (L.take n)=rowsT L):=Lib.hid (by rw [← hn,List.take_length])
 have HZ:Hid (rowsT (L.take 0)=[]):=Lib.hid rfl
 clear h hn hw ht hz
 generalize rowsT L=ST at *
 go_enter Tryz.func32,Tryz.ntmps32
 go_wp2_with fail
 go_loopw [3,5,6,9] (fun sv s5 s6 i wr => ∃ (k:Nat) (S:ByteArray),k≤n∧i=.int .i64 (k:Int)∧sv=.string S∧Hid (S=strL (rowsT (L.take k)))∧Hid (S.size≤49645 * k)∧Hid (Below w.heap.size w wr)) (fun _ _ _ i _ => n - (intOf i).toNat)
 case atStart => exact ⟨0,_,Nat.zero_le _,rfl,rfl,Lib.hid (by rw [HZ.out];rfl),Lib.hid (by show 0≤_;omega),Lib.hid (Below.refl _ _)⟩
 case round =>
  obtain ⟨k,S,hk,rfl,rfl,HS,HSz,HB⟩:=hrel
  by_cases hlt:k < n
  ·have hS:k < L.length:=by rw [Hn.out];exact hlt
   obtain ⟨r,hr⟩:∃ r,L[k]?=some r:=⟨_,List.getElem?_eq_getElem hS⟩
   have hw:=Hw.out r (List.mem_of_getElem? hr)
   have hrz:=Hz.out r (List.mem_of_getElem? hr)
   have HTk:=Lib.hid (rowsT_take hr)
   obtain ⟨g,o,a1,a2,a3,n1,n2,n3,c1,c2,c3,had,hg,k0,k1,k2,k3,hA,m1,m2,m3⟩:=(H0.out.below HB.out) k r hr
   subst had
   have hl1:=hw.l1
   have hl2:=hw.l2
   have hl3:=hw.l3
   rw [hA.l1] at hl1
   rw [hA.l2] at hl2
   rw [hA.l3] at hl3
   have hp0:=hw.p0
   have hp1:=hw.p1
   have HS1:=Lib.hid fun wx (hb:Below wr.heap.size wr wx) => qlistPf_any a1 n1 c1 r.src wx (hA.r1.below hb) hA.l1 hl1 hw.ok.v1 ((HT.out.below HB.out).below hb)
   have HS2:=Lib.hid fun wx (hb:Below wr.heap.size wr wx) => qlistPf_any a2 n2 c2 r.dst wx (hA.r2.below hb) hA.l2 hl2 hw.ok.v2 ((HT.out.below HB.out).below hb)
   have HS3:=Lib.hid fun wx (hb:Below wr.heap.size wr wx) => qlistPo_any a3 n3 c3 r.po wx (hA.r3.below hb) hA.l3 hl3 hw.po ((HT.out.below HB.out).below hb)
   have HIt:=Lib.hid fun wx (hb:Below wr.heap.size wr wx) => itoaI_any r.p (by omega) (by omega) wx ((HT.out.below HB.out).below hb)
   have HA0:Hid (r.p=0→anyB r.p=⟨#[97,110,121]⟩):=Lib.hid fun h => by unfold anyB;rw [if_pos h]
   have HA1:Hid (r.p ≠ 0→anyB r.p=itB r.p):=Lib.hid fun h => by unfold anyB;rw [if_neg h]
   have HRow:Hid (rowB r=anyB r.p ++ ⟨#[32]⟩ ++ commaB (r.src.map pfBy) ++ ⟨#[32]⟩ ++ commaB (r.dst.map pfBy) ++ ⟨#[32]⟩ ++ commaB (r.po.map poB)):=Lib.hid rfl
   have HRz:=Lib.hid (rowB_sz r)
   generalize rowB r=RB at *
   generalize commaB (r.src.map pfBy)=T1 at *
   generalize commaB (r.dst.map pfBy)=T2 at *
   generalize commaB (r.po.map poB)=T3 at *
   generalize anyB r.p=AB at *
   generalize itB r.p=IB at *
   generalize r.p=p at *
   have HS2':Hid (S ++ (RB ++ ⟨#[10]⟩)=strL (rowsT (L.take (k + 1)))):=Lib.hid (by rw [HTk.out,strL_app,strL_app, ← HS.out,strL_of];rfl)
   have HSz2:Hid ((S ++ (RB ++ ⟨#[10]⟩)).size≤49645 * (k + 1)):=Lib.hid (by
    rw [ByteArray.size_append,ByteArray.size_append]
    have h1:(⟨#[10]⟩:ByteArray).size=1:=rfl
    have h2:=HSz.out
    omega)
   clear hr hS hw hA hg m1 m2 m3 hl1 hl2 hl3 HTk
   have HP1:Hid (Blk (wr.alloc (.cells #[.int .i64 p, .slice a1 n1 c1, .slice a2 n2 c2, .slice a3 n3 c3] 129 (0,0))) wr.heap.size 129 #[.int .i64 p, .slice a1 n1 c1, .slice a2 n2 c2, .slice a3 n3 c3]):=Lib.hid (Blk.new wr _ _)
   have HB1:Hid (Below wr.heap.size wr (wr.alloc (.cells #[.int .i64 p, .slice a1 n1 c1, .slice a2 n2 c2, .slice a3 n3 c3] 129 (0,0)))):=Lib.hid (below_alloc (Below.refl _ _) _)
   go_upto_region 6 with fail
   generalize wr.alloc (.cells #[.int .i64 p, .slice a1 n1 c1, .slice a2 n2 c2, .slice a3 n3 c3] 129 (0,0))=w3 at *
   obtain ⟨bx,hbx⟩:∃ q,wr.heap.size=q:=⟨_,rfl⟩
   have Hbx:=Lib.hid hbx
   rw [hbx] at HP1 ⊢
   clear hbx k0 k1 k2 k3
   have hIx:=HIt.out w3 HB1.out
   have HIx:=Lib.hid hIx
   have d0:=HP1.out.cell 0
   simp at d0
   clear hIx HIt
   go_upto_if 15 with fail
   go_cut [6] (fun s6 wx => s6=.string AB∧Below w3.heap.size w3 wx)
   case first =>
    by_cases hp:p=0
    ·have he:=HA0.out hp
     subst hp
     clear HA0 HA1 HIx
     go_wp2_with fail
     go_meet
     case rel => exact ⟨by rw [he],Below.refl _ _⟩
    ·have he:=HA1.out hp
     have hp2:0 < p:=by omega
     clear HA0 HA1
     go_wp2_with fail
     refine HIx.out.mono ?_
     rintro e w2 ⟨rfl,hb⟩
     have HB2:=Lib.hid hb
     clear hb HIx
     go_wp2_with fail
     go_meet
     case rel => exact ⟨by rw [he],HB2.out⟩
   case rest =>
    obtain ⟨rfl,hbc⟩:=hcut
    have HPd:=Lib.hid (HP1.out.below hbc HP1.out.lt)
    have HBr:Hid (Below wr.heap.size wr wc):=Lib.hid (HB1.out.trans (hbc.mono HB1.out.size))
    have HBc:Hid (Below w.heap.size w wc):=Lib.hid (HB.out.trans (HBr.out.mono HB.out.size))
    have hrs:=HBr.out.size
    have hQ1:=fun m:Later wc => Calls.later m (HS1.out m.1 (HBr.out.trans (m.2.mono hrs)))
    have hQ2:=fun m:Later wc => Calls.later m (HS2.out m.1 (HBr.out.trans (m.2.mono hrs)))
    have hQ3:=fun m:Later wc => Calls.later m (HS3.out m.1 (HBr.out.trans (m.2.mono hrs)))
    clear hbc HP1 HB1 HB HIx HA0 HA1 d0 HS1 HS2 HS3 hrs
    have c1':=HPd.out.cell 1
    have c2':=HPd.out.cell 2
    have c3':=HPd.out.cell 3
    simp at c1' c2' c3'
    have l1:=Later.cell_of c1'
    have l2:=Later.cell_of c2'
    have l3:=Later.cell_of c3'
    have hrz2:=HRz.out
    have hss:=HSz.out
    have nb1:¬ 9223372036854775807 < AB.size + 1:=by omega
    have nb2:¬ 9223372036854775807 < AB.size + 1 + T1.size:=by omega
    have nb3:¬ 9223372036854775807 < AB.size + 1 + T1.size + 1:=by omega
    have nb4:¬ 9223372036854775807 < AB.size + 1 + T1.size + 1 + T2.size:=by omega
    have nb5:¬ 9223372036854775807 < AB.size + 1 + T1.size + 1 + T2.size + 1:=by omega
    have nb6:¬ 9223372036854775807 < AB.size + 1 + T1.size + 1 + T2.size + 1 + T3.size:=by omega
    have nb7:¬ 9223372036854775807 < AB.size + 1 + T1.size + 1 + T2.size + 1 + T3.size + 1:=by omega
    have nb8:¬ 9223372036854775807 < S.size + (AB.size + 1 + T1.size + 1 + T2.size + 1 + T3.size + 1):=by omega
    clear hrz hrz2 hss c1' c2' c3'
    go_upto_region 8 with fail
    refine wp_region_later (by kernel_rfl) (by kernel_rfl) ?_
    iterate 5 (go_big_quiet_step (fail))
    go_big_quiet_step ((go_at_call 112;exact hQ1 _))
    iterate 4 (go_big_quiet_step (fail))
    go_big_quiet_step ((go_at_call 112;exact hQ2 _))
    iterate 4 (go_big_quiet_step (fail))
    go_big_quiet_step ((go_at_call 114;exact hQ3 _))
    repeat (go_big_quiet_step (fail))
    refine wpQuiet_nil ?_
    rintro w4 ⟨m4,hm4⟩
    have hb4:Below wc.heap.size wc w4:=by rw [hm4];exact m4.2
    have HB4:=Lib.hid (HBc.out.trans (hb4.mono HBc.out.size))
    clear hm4 m4 hb4 nb1 nb2 nb3 nb4 nb5 nb6 nb7 nb8
    rw [← HRow.out]
    go_wp2_with fail
    exact ⟨⟨k + 1,_,by omega,by go_num,rfl,HS2',HSz2,HB4⟩,by simp [intOf];omega⟩
  ·obtain rfl:k=n:=by omega
   go_wp2_with fail
   go_ret
   exact ⟨by rw [← HE.out, ← HS.out];rfl,HB.out⟩
theorem OkPf.u4 {p:Pf} (h:OkPf p):U64N p.2.1∧U64N p.2.2.1:=⟨h.ok.1.1,h.ok.1.2.1⟩
theorem u4_ok {L:List Pf} (h:∀ p ∈ L,OkPf p):U4 L:=fun p hp => (h p hp).u4
theorem prefixes_gen (b m k:Nat) (w:World) (h:Strm w b m) (hk:k≤1000) (hm:m + 5 * k + 20 < 1099511627776) :
  Calls Tryz.prog 251 #[.pointer (some ⟨b,0,none⟩), .int .i64 (k:Int)] w fun e w' => ∃ v L,e=.returned v∧OwnK layPf w' w.heap.size v L∧L.length=k∧(∀ p ∈ L,OkPf p)∧Gen b w w' (m + 5 * k):=by
 have hblt:=h.lt
 have HG0:Hid (Gen b w w m):=Lib.hid (Gen.start h)
 clear h
 go_enter Tryz.func251,Tryz.ntmps251
 go_wp2_with fail
 go_loopw [5,7] (fun out i wr => ∃ (j:Nat) (L:List Pf),j≤k∧i=.int .i64 (j:Int)∧Hid (OwnK layPf wr w.heap.size out L)∧Hid (L.length=j)∧Hid (∀ p ∈ L,OkPf p)∧Hid (Gen b w wr (m + 5 * j))) (fun _ i _ => k - (intOf i).toNat)
 case atStart => exact ⟨0, [],Nat.zero_le _,rfl,Lib.hid (OwnK.nil _ _ _),Lib.hid rfl,Lib.hid (by simp),HG0⟩
 case round =>
  obtain ⟨j,L,hj,rfl,HO,HL,HK,HG⟩:=hrel
  by_cases hlt:j < k
  ·go_wp2_with fail
   refine (rightPrefix_ok b (m + 5 * j) _ HG.out.s (by omega)).mono ?_
   rintro e w2 ⟨⟨q1,q2,q3,q4⟩,rfl,hok,hg⟩
   have HO2:Hid (OwnK layPf w2 w.heap.size u5 L):=Lib.hid (HO.out.gen hg hblt)
   have HG2:Hid (Gen b w w2 (m + 5 * (j + 1))):=Lib.hid ((HG.out.trans hg).mono (by omega))
   have HK2:Hid (∀ p ∈ L ++ [(q1,q2,q3,q4)],OkPf p):=Lib.hid (ok_append HK.out fun p hp => by rw [List.mem_singleton.1 hp];exact hok)
   clear hg HO HG hok HK
   simp only [pfC]
   go_wp2_with (at_builtin;refine wpList_app pfE rfl (.tmp 9) (.tmp 12) rfl rfl (World.ownsRow.alloc HO2.out _) rfl (src_new layPf _ (q1,q2,q3,q4) _ _ ?c0) ?c1 ?c2 ?c3 ?c4 ?_)
   case c0 => rfl
   case c1 => exact layPf.one _
   case c2 => have:=HL.out;unfold maxLen;omega
   case c3 => have:=HL.out;omega
   case c4 => have:=HG2.out.g.size;simp;omega
   intro v' w' hO hG
   have HO':Hid (OwnK layPf w' w.heap.size v' (L ++ [(q1,q2,q3,q4)])):=Lib.hid (OwnK.snoc hO)
   have HG':Hid (Gen b w w' (m + 5 * (j + 1))):=Lib.hid (HG2.out.below (hG.allocFirst.below HG2.out.g.size (own_base HO2.out)) (Nat.le_refl _) hblt)
   clear hO hG HO2 HG2
   go_wp2
   exact ⟨⟨j + 1,L ++ [(q1,q2,q3,q4)],by omega,by go_num,HO',Lib.hid (by rw [List.length_append,HL.out];rfl),HK2,HG'⟩,by simp [intOf];omega⟩
  ·obtain rfl:j=k:=by omega
   go_wp2_with fail
   go_ret
   exact ⟨_,L,rfl,HO.out,HL.out,HK.out,HG.out⟩
theorem rightSet_gen (b m:Nat) (w:World) (h:Strm w b m) (hm:m + 50 < 1099511627776) :
  Calls Tryz.prog 180 #[.pointer (some ⟨b,0,none⟩)] w fun e w' => ∃ v L,e=.returned v∧OwnK layPf w' w.heap.size v L∧L.length≤5∧(∀ p ∈ L,OkPf p)∧Gen b w w' (m + 26):=by
 have hblt:=h.lt
 have HG0:Hid (Gen b w w m):=Lib.hid (Gen.start h)
 clear h
 go_enter Tryz.func180,Tryz.ntmps180
 go_wp2_with fail
 refine (range_gen b m _ _ _ HG0.out.s (by omega) (by omega) (by omega)).mono ?_
 rintro e w1 ⟨y,rfl,⟨hy0,hy1⟩,hg⟩
 obtain ⟨k,rfl⟩:=Int.eq_ofNat_of_zero_le hy0
 have hk:k≤5:=by omega
 have HG1:=Lib.hid (HG0.out.trans hg)
 clear hg HG0 hy0 hy1
 go_wp2_with fail
 refine (prefixes_gen b (m + 1) k _ HG1.out.s (by omega) (by omega)).mono ?_
 rintro e w2 ⟨v,L,rfl,hO,hl,hok,hg⟩
 have HG2:=Lib.hid (HG1.out.trans hg)
 obtain ⟨ad,c,rfl,_⟩:=hO.form
 have HS:=Lib.hid (leastOf_any ad k c L w2 (by rw [hl] at hO;exact hO.rd) hl (by omega) hok)
 have HK:=Lib.hid (ok_lst hok)
 have HLl:Hid ((lst L).length≤5):=Lib.hid (by have:=lst_len hok;omega)
 rw [hl]
 clear hO hl hok hg HG1
 go_wp2_with fail
 refine HS.out.mono ?_
 rintro e w3 ⟨v,rfl,hO,hB⟩
 have hs:=HG2.out.g.size
 have HO3:=Lib.hid (hO.weak hs)
 have HG3:=Lib.hid (HG2.out.below0 hB (Nat.lt_of_lt_of_le hblt hs))
 clear hO hB HG2
 go_wp2_with fail
 go_ret
 exact ⟨_,_,rfl,HO3.out,HLl.out,HK.out,HG3.out.mono (by omega)⟩
theorem u4_app {L M:List Pf} (h:U4 L) (k:U4 M):U4 (L ++ M):=fun p hp => (List.mem_append.1 hp).elim (h p) (k p)
theorem set_gen (b m:Nat) (w:World) (h:Strm w b m) (hm:m + 100 < 1099511627776) :
  Calls Tryz.prog 101 #[.pointer (some ⟨b,0,none⟩)] w fun e w' => ∃ v L,e=.returned v∧OwnK layPf w' w.heap.size v L∧L.length≤6∧U4 L∧Gen b w w' (m + 50):=by
 have hblt:=h.lt
 have HG0:Hid (Gen b w w m):=Lib.hid (Gen.start h)
 clear h
 go_enter Tryz.func101,Tryz.ntmps101
 go_wp2_with fail
 refine (rightSet_gen b m _ HG0.out.s (by omega)).mono ?_
 rintro e w1 ⟨v,L,rfl,hO,hl,hok,hg⟩
 have HO1:=Lib.hid hO
 have HG1:=Lib.hid (HG0.out.trans hg)
 have HU1:=Lib.hid (u4_ok hok)
 clear hO hok hg HG0
 go_wp2_with fail
 refine (flip_gen b (m + 26) _ _ HG1.out.s (by omega) (by omega)).mono ?_
 rintro e w2 ⟨kk,rfl,hg⟩
 have HO2:=Lib.hid (HO1.out.gen hg hblt)
 have HG2:=Lib.hid (HG1.out.trans hg)
 clear hg HO1 HG1
 go_upto_if 7 with fail
 go_cut [3] (fun s wx => ∃ L:List Pf,L.length≤6∧U4 L∧OwnK layPf wx w.heap.size s L∧Gen b w wx (m + 45))
 case first =>
  cases kk
  ·go_wp2_with fail
   go_meet
   case rel => exact ⟨L,by omega,HU1.out,HO2.out,HG2.out.mono (by omega)⟩
  ·go_wp2_with fail
   refine (prefix_gen b (m + 26 + 1) _ HG2.out.s (by omega)).mono ?_
   rintro e w3 ⟨q1,q2,q3,q4,rfl,h1,h2, -,hg⟩
   have HO3:=Lib.hid (HO2.out.gen hg hblt)
   have HG3:=Lib.hid (HG2.out.trans hg)
   have HU3:Hid (U4 (L ++ [(q1,q2,q3,q4)])):=Lib.hid (u4_app HU1.out fun p hp => by rw [List.mem_singleton.1 hp];exact ⟨h1,h2⟩)
   clear hg h1 h2 HO2 HG2
   unfold vP
   go_wp2_with (at_builtin;refine wpList_app pfE rfl (.tmp 8) (.tmp 11) rfl rfl (World.ownsRow.alloc HO3.out _) rfl (src_new layPf _ (q1,q2,q3,q4) _ _ ?c0) ?c1 ?c2 ?c3 ?c4 ?_)
   case c0 => rfl
   case c1 => exact layPf.one _
   case c2 => unfold maxLen;omega
   case c3 => omega
   case c4 => have:=HG3.out.g.size;simp;omega
   intro v' w' hO hG
   have HO':=Lib.hid (OwnK.snoc (x:=(q1,q2,q3,q4)) hO)
   have HG':=Lib.hid (HG3.out.below (hG.allocFirst.below HG3.out.g.size (own_base HO3.out)) (Nat.le_refl _) hblt)
   clear hO hG HO3 HG3
   go_wp2_with fail
   go_meet
   case rel => exact ⟨_,by rw [List.length_append];simp;omega,HU3.out,HO'.out,HG'.out.mono (by omega)⟩
 case rest =>
  clear HO2 HG2 HU1 hl
  obtain ⟨L,hl,hu,hO,hG⟩:=hcut
  obtain ⟨ad,c,hv,_,_,_⟩:=hO.form
  have HO:=Lib.hid hO
  have HG:=Lib.hid hG
  have HU:=Lib.hid hu
  clear hO hG hu
  subst hv
  obtain ⟨n,hn⟩:∃ n,L.length=n:=⟨_,rfl⟩
  rw [hn] at HO hl ⊢
  have Hn:=Lib.hid hn
  clear hn
  by_cases h1:1 < n
  ·have g1:((n:Int) > 1):=by omega
   go_wp2_with fail
   refine (flip_gen b (m + 45) _ _ HG.out.s (by omega) (by omega)).mono ?_
   rintro e w2 ⟨kk,rfl,hg⟩
   have HO2:=Lib.hid (HO.out.gen hg hblt)
   have HG2:=Lib.hid (HG.out.trans hg)
   clear hg HO HG
   cases kk
   ·go_wp2_with fail
    go_ret
    exact ⟨_,L,rfl,HO2.out,by rw [Hn.out];exact hl,HU.out,HG2.out.mono (by omega)⟩
   ·have h0L:0 < L.length:=by rw [Hn.out];omega
    have h1L:1 < L.length:=by rw [Hn.out];omega
    obtain ⟨⟨x1,x2,x3,x4⟩,hx⟩:∃ x,L[0]?=some x:=⟨_,List.getElem?_eq_getElem h0L⟩
    obtain ⟨⟨y1,y2,y3,y4⟩,hy⟩:∃ y,L[1]?=some y:=⟨_,List.getElem?_eq_getElem h1L⟩
    obtain ⟨g,c',hv,hg,hgl,hc1,hc2⟩:=HO2.out.one (by omega)
    rw [Hn.out] at hv hc1
    injection hv with hv1 _ hv3
    subst hv1 hv3
    have HO3:Hid (OwnK layPf w2 w.heap.size (.slice (some ⟨g,0,none⟩) n c) L):=HO2
    clear HO2
    have e0:∀ j v,(pfC (x1,x2,x3,x4))[j]?=some v→w2.cell? ⟨g,0 * 4 + j,none⟩=some v:=fun j v hv => HO3.out.get hx hv
    have e1:∀ j v,(pfC (y1,y2,y3,y4))[j]?=some v→w2.cell? ⟨g,1 * 4 + j,none⟩=some v:=fun j v hv => HO3.out.get hy hv
    have a0:=e0 0 _ rfl
    have a1:=e0 1 _ rfl
    have a2:=e0 2 _ rfl
    have a3:=e0 3 _ rfl
    have b0:=e1 0 _ rfl
    have b1:=e1 1 _ rfl
    have b2:=e1 2 _ rfl
    have b3:=e1 3 _ rfl
    simp only [Nat.zero_mul,Nat.zero_add,Nat.one_mul,Nat.reduceAdd] at a0 a1 a2 a3 b0 b1 b2 b3
    have hfz:∀ i,w2.frozen? ⟨g,i,none⟩=false:=fun i => HO3.out.frozen i
    have HSw:Hid (∀ wx:World,OwnK layPf wx w.heap.size (.slice (some ⟨g,0,none⟩) n c) L→∃ L',L'.length≤6∧U4 L'∧OwnK layPf (setCs (setCs wx g (0 * 4 + 0) (pfC (y1,y2,y3,y4))) g (1 * 4 + 0) (pfC (x1,x2,x3,x4))) w.heap.size (.slice (some ⟨g,0,none⟩) n c) L'):=Lib.hid fun wx hO => by
     have k1:=OwnK.sets (i:=0) (j:=0) (y:=(y1,y2,y3,y4)) hO (pfC (y1,y2,y3,y4)) hx (by show 0 + 4≤4;decide) rfl
     have k2:=OwnK.sets (i:=1) (j:=0) (y:=(x1,x2,x3,x4)) k1 (pfC (x1,x2,x3,x4)) (x:=(y1,y2,y3,y4)) (by rw [List.getElem?_set_ne (by decide)];exact hy) (by show 0 + 4≤4;decide) rfl
     refine ⟨_,?_,fun p hp => ?_,k2⟩
     ·rw [List.length_set,List.length_set,Hn.out];exact hl
     ·rcases List.mem_or_eq_of_mem_set hp with hp | rfl
      ·rcases List.mem_or_eq_of_mem_set hp with hp | rfl
       ·exact HU.out p hp
       ·exact HU.out _ (List.mem_of_getElem? hy)
      ·exact HU.out _ (List.mem_of_getElem? hx)
    have i0:(0:Int) < (n:Int):=by omega
    have i1:(1:Int) < (n:Int):=by omega
    clear e0 e1 hx hy HU Hn h0L h1L
    go_upto_region 5 with fail
    go_region
    go_wp2_with fail
    obtain ⟨L',hL',hU',hO'⟩:=HSw.out _ HO3.out
    have hgB:w.heap.size≤g:=HO3.out.block.2.1
    have hbg:b < g:=Nat.lt_of_lt_of_le hblt hgB
    have hO2:=OwnK.later hO' (below_drew (Below.refl _ _))
    go_ret
    refine ⟨_,L',rfl,hO2,hL',hU',?_⟩
    refine Gen.mono (m:=m + 45 + 1) (Gen.drew ?_) (by omega)
    repeat refine Gen.setCell ?_ _ _ hgB hbg
    exact HG2.out
  ·have g1:¬ ((n:Int) > 1):=by omega
   go_wp2_with fail
   go_ret
   exact ⟨_,rfl,L,HO.out,by rw [Hn.out];exact hl,HU.out,HG.out.mono (by omega)⟩
end Go.Proofs.YtdhldhkhpndpjaaGreatDoor
