/-
  filter.Decides.
  What In and Out of a tracker say, in plain words; what stays when a tracker changes.
  New and Set of a tracker.
  The contract of slices.SortFunc at a slice of structs over this program, as the kit's lay-plain.mjs prints it. Condition: the slice has no element, or its cells are known, fewer than 2^62 of them.
  The stable sort of tracked flows by their last moment: program and reference.
  Flows of both trackers.
  In and Out of both trackers.
  A region that draws its order, by an invariant with a phase: as the text of regions, but what is known of a value and the step may depend on the count of what has run.
-/
import Derived.Test.YthebgfnaomgcnaaGreatFT14
import Derived.Test.YthebgfnaomgcnaaGreatFT17
import Derived.Test.YthebgfnaomgcnaaGreatFT13
import Derived.Test.YthebgfnaomgcnaaGreatFT10
import Derived.Shelf.SlSortCmp.NoneTotal
import Derived.Test.YthebgfnaomgcnaaGreatProg
import Derived.Test.YthebgfnaomgcnaaGreatFT8
import Derived.Test.YthebgfnaomgcnaaGreatFT12
import Derived.Test.YthebgfnaomgcnaaGreatFT6
import Derived.Test.YthebgfnaomgcnaaGreatFT4
import Derived.Test.YthebgfnaomgcnaaGreatFT1
set_option linter.unusedVariables false
set_option maxRecDepth 100000
set_option maxHeartbeats 8000000
namespace Go.Proofs.YthebgfnaomgcnaaGreat
open Go.RowKit Go
def flX (f : FV) : Nat:=numA f.s1 f.h1.toNat f.l1.toNat
def flY (f : FV) : Nat:=numA f.s2 f.h2.toNat f.l2.toNat
def decV (L : List FR) (f : FV) : Bool:=decB L f.p (flX f) (flY f) f.tp
theorem aOK_of {s : Bool} {h l : Int} (hh : U64 h) (hl : U64 l) (h0 : aFault s h l = 0) : AOK s h.toNat l.toNat:=by
 obtain ⟨a1,a2⟩:=hh
 obtain ⟨b1,b2⟩:=hl
 refine ⟨by omega,by omega,fun hs => ?_⟩
 subst hs
 unfold aFault at h0
 simp at h0
 constructor <;> omega
theorem setF_okR {L : List Pf} (h : setF L = 0) (hu : U4 L) : (∀ p ∈ L,OkPf p) ∧ L.length ≤ 1000:=by
 unfold setF at h
 by_cases h1 : 1000 < L.length
 ·rw [if_pos h1] at h;cases h
 ·rw [if_neg h1] at h
  by_cases h2 : scanF L ≠ 0
  ·rw [if_pos h2] at h;exact absurd h h2
  ·have h2 : scanF L = 0:=by simpa using h2
   refine ⟨fun p hp => ?_,by omega⟩
   obtain ⟨i,hi,rfl⟩:=List.getElem_of_mem hp
   have:=fAt_zero (firstN_zero h2 i hi)
   simp only [List.getD,List.getElem?_eq_getElem hi,Option.getD_some] at this
   obtain ⟨u1,u2⟩:=hu _ (List.getElem_mem hi)
   exact okPf_of this u1 u2
theorem rowF_ok {r : FR} (h : rowF r = 0) (hu : r.Un) : r.Ok ∧ (r.src.length ≤ 1000 ∧ r.dst.length ≤ 1000 ∧ r.po.length ≤ 1000):=by
 unfold rowF at h
 by_cases h1 : outB r.p 0 255 = true
 ·rw [if_pos h1] at h;exact absurd h (by decide)
 rw [if_neg h1] at h
 by_cases h2 : setF r.src ≠ 0
 ·rw [if_pos h2] at h;exact absurd h h2
 rw [if_neg h2] at h
 by_cases h3 : setF r.dst ≠ 0
 ·rw [if_pos h3] at h;exact absurd h h3
 have k2:=setF_okR (by simpa using h2) hu.u1
 have k3:=setF_okR (by simpa using h3) hu.u2
 exact ⟨⟨k2.1,k3.1⟩,k2.2,k3.2,hu.l3⟩
theorem rowsF1_zero : ∀ {L : List FR},rowsF1 L = 0 → ∀ r ∈ L,rowF r = 0
 | [],_,r,h => by simp at h
 | a :: L,h,r,hr => by
   unfold rowsF1 at h
   by_cases ha : rowF a ≠ 0
   ·rw [if_pos ha] at h;exact absurd h ha
   ·rw [if_neg ha] at h
    rcases List.mem_cons.1 hr with rfl | hr
    ·simpa using ha
    ·exact rowsF1_zero h r hr
theorem rowsF_zero {L : List FR} (h : rowsF L = 0) : L.length ≤ 300 ∧ ∀ r ∈ L,rowF r = 0:=by
 unfold rowsF at h
 by_cases h1 : 300 < L.length
 ·rw [if_pos h1] at h;exact absurd h (by decide)
 ·rw [if_neg h1] at h
  exact ⟨by omega,rowsF1_zero h⟩
theorem rowsF_ok {L : List FR} (h : rowsF L = 0) (hu : ∀ r ∈ L,r.Un) : L.length ≤ 300 ∧ (∀ r ∈ L,r.Ok) ∧ ∀ r ∈ L,r.src.length ≤ 1000 ∧ r.dst.length ≤ 1000 ∧ r.po.length ≤ 1000 :=
 ⟨(rowsF_zero h).1,fun r hr => (rowF_ok ((rowsF_zero h).2 r hr) (hu r hr)).1,fun r hr => (rowF_ok ((rowsF_zero h).2 r hr) (hu r hr)).2⟩
def inM (pf : Int) (dec : Bool) (tv : TV) (most last at_ : Int) (f : FV) (fin : Bool) (L : List TK) : (Bool × Int) × Int × List TK :=
 if pf ≠ 0 then ((false,pf),last,L)
 else if momF at_ last ≠ 0 then ((false,momF at_ last),last,L)
 else if (seeM tv f fin at_ L).1 = true then ((true,0),at_,(seeM tv f fin at_ L).2)
 else if dec = true then ((true,0),at_,trackM most f fin at_ (seeM tv f fin at_ L).2)
 else ((false,0),at_,(seeM tv f fin at_ L).2)
def outM (pf : Int) (tv : TV) (most last at_ : Int) (f : FV) (fin : Bool) (L : List TK) : Int × Int × List TK :=
 if pf ≠ 0 then (pf,last,L)
 else if momF at_ last ≠ 0 then (momF at_ last,last,L)
 else if (seeM tv f fin at_ L).1 = true then (0,at_,(seeM tv f fin at_ L).2)
 else (0,at_,trackM most f fin at_ (seeM tv f fin at_ L).2)
theorem momF_zero {at_ last : Int} (h : momF at_ last = 0) : (0 ≤ at_ ∧ at_ < 345686400) ∧ last ≤ at_:=by
 unfold momF at h
 by_cases h1 : at_ < 0 ∨ 345686400 ≤ at_
 ·rw [if_pos h1] at h;cases h
 ·rw [if_neg h1] at h
  by_cases h2 : at_ < last
  ·rw [if_pos h2] at h;cases h
  ·omega
theorem seeM_ok {tv : TV} {f : FV} {fin : Bool} {at_ : Int} {L : List TK} (h : TkOk L) (ha : 0 ≤ at_ ∧ at_ < 345686400) : TkOk (seeM tv f fin at_ L).2 ∧ (seeM tv f fin at_ L).2.length ≤ L.length:=by
 have hl:=lives_ok (tv:=tv) (at_:=at_) h
 have hll : (liveM tv at_ L).length ≤ L.length:=List.length_filter_le _ _
 unfold seeM
 cases hf : firstI (isF f) (liveM tv at_ L) with
 | none => exact ⟨hl,hll⟩
 | some i =>
   refine ⟨fun x hx => ?_,by simpa using hll⟩
   obtain ⟨j,hj,rfl⟩:=List.getElem_of_mem hx
   simp only [List.length_modify] at hj
   simp only [List.getElem_modify]
   by_cases e : i = j
   ·rw [if_pos e];exact ha
   ·rw [if_neg e];exact hl _ (List.getElem_mem hj)
theorem trackM_ok {most : Int} {f : FV} {fin : Bool} {at_ : Int} {L : List TK} (h : TkOk L) (ha : 0 ≤ at_ ∧ at_ < 345686400) : TkOk (trackM most f fin at_ L) ∧ (trackM most f fin at_ L).length ≤ L.length + 1:=by
 have h1 : TkOk (L ++ [newT f fin at_]):=fun x hx => by
  rcases List.mem_append.1 hx with h2 | h2
  ·exact h x h2
  ·obtain rfl:=List.mem_singleton.1 h2
   exact ha
 unfold trackM
 by_cases e : ((L.length : Int) + 1) ≤ most
 ·rw [if_pos e]
  exact ⟨h1,by simp⟩
 ·rw [if_neg e]
  exact ⟨fun x hx => h1 x (List.mem_of_mem_eraseIdx hx),by
   have:=List.length_eraseIdx_le (L ++ [newT f fin at_]) (leastK (L ++ [newT f fin at_]) (L.length + 1))
   simpa using this⟩
theorem inM_ok {pf : Int} {dec : Bool} {tv : TV} {most last at_ : Int} {f : FV} {fin : Bool} {L : List TK} (h : TkOk L) (hl : 0 ≤ last ∧ last < 345686400) : TkOk (inM pf dec tv most last at_ f fin L).2.2 ∧ (inM pf dec tv most last at_ f fin L).2.2.length ≤ L.length + 1 ∧ 0 ≤ (inM pf dec tv most last at_ f fin L).2.1 ∧ (inM pf dec tv most last at_ f fin L).2.1 < 345686400:=by
 unfold inM
 by_cases h1 : pf ≠ 0
 ·rw [if_pos h1];exact ⟨h,by simp,hl⟩
 rw [if_neg h1]
 by_cases h2 : momF at_ last ≠ 0
 ·rw [if_pos h2];exact ⟨h,by simp,hl⟩
 rw [if_neg h2]
 have ha:=(momF_zero (by simpa using h2)).1
 have hs:=seeM_ok (tv:=tv) (f:=f) (fin:=fin) h ha
 by_cases h3 : (seeM tv f fin at_ L).1 = true
 ·rw [if_pos h3];exact ⟨hs.1,by have:=hs.2;simp only;omega,ha⟩
 rw [if_neg h3]
 by_cases h4 : dec = true
 ·rw [if_pos h4]
  have ht:=trackM_ok (most:=most) (f:=f) (fin:=fin) hs.1 ha
  exact ⟨ht.1,by have:=hs.2;have:=ht.2;simp only;omega,ha⟩
 ·rw [if_neg h4];exact ⟨hs.1,by have:=hs.2;simp only;omega,ha⟩
theorem outM_ok {pf : Int} {tv : TV} {most last at_ : Int} {f : FV} {fin : Bool} {L : List TK} (h : TkOk L) (hl : 0 ≤ last ∧ last < 345686400) : TkOk (outM pf tv most last at_ f fin L).2.2 ∧ (outM pf tv most last at_ f fin L).2.2.length ≤ L.length + 1 ∧ 0 ≤ (outM pf tv most last at_ f fin L).2.1 ∧ (outM pf tv most last at_ f fin L).2.1 < 345686400:=by
 unfold outM
 by_cases h1 : pf ≠ 0
 ·rw [if_pos h1];exact ⟨h,by simp,hl⟩
 rw [if_neg h1]
 by_cases h2 : momF at_ last ≠ 0
 ·rw [if_pos h2];exact ⟨h,by simp,hl⟩
 rw [if_neg h2]
 have ha:=(momF_zero (by simpa using h2)).1
 have hs:=seeM_ok (tv:=tv) (f:=f) (fin:=fin) h ha
 by_cases h3 : (seeM tv f fin at_ L).1 = true
 ·rw [if_pos h3];exact ⟨hs.1,by have:=hs.2;simp only;omega,ha⟩
 rw [if_neg h3]
 have ht:=trackM_ok (most:=most) (f:=f) (fin:=fin) hs.1 ha
 exact ⟨ht.1,by have:=hs.2;have:=ht.2;simp only;omega,ha⟩
theorem KeepT.of_chg {T B : Nat} {t : TypeId} {cs : Array Value} {v v' : Value} {L : List TK} {w w' : World} (hT : Blk w T t cs) (hL : OwnK layTk w B v L) (h : Chg T v v' w w') : KeepT [t,65] w w':=by
 refine ⟨h.size,fun g hg => ?_⟩
 by_cases e : g = T
 ·subst e
  exact .inr ⟨cs,t,(0,0),hT,by simp⟩
 ·rcases hL.2 with ⟨rfl,_⟩ | ⟨b,cap,cur,rfl,hb,hh,_⟩
  ·exact .inl (h.block g hg e (by simp [Value.ownBlock]))
  ·by_cases e2 : g = b
   ·subst e2
    exact .inr ⟨cur,65,(0,0),hh,by simp⟩
   ·exact .inl (h.block g hg e (by simpa [Value.ownBlock] using e2))
theorem FwO.keepT {S : List TypeId} {w w' : World} {B : Nat} {v : Value} {L : List FR} (h : FwO w B v L) (k : KeepT S w w') (h0 : layFw.ty ∉ S) (h1 : layRg.ty ∉ S) (h2 : layPo.ty ∉ S) : FwO w' B v L:=by
 obtain ⟨C,hO,hl,hc⟩:=h
 exact ⟨C,hO.keepT k h0,hl,fun i c r e1 e2 => (hc i c r e1 e2).keep k h1 h2⟩
theorem FlO.keepT {S : List TypeId} {w w' : World} {B : Nat} {v : Value} {L : List FR} (h : FlO w B v L) (k : KeepT S w w') (h0 : layFl.ty ∉ S) (h1 : layPf.ty ∉ S) (h2 : layPo.ty ∉ S) : FlO w' B v L:=by
 obtain ⟨C,hO,hl,hc⟩:=h
 exact ⟨C,hO.keepT k h0,hl,fun i c r e1 e2 => (hc i c r e1 e2).keep k h1 h2⟩
theorem pkt_num {x : PV} {n : Nat} (h : pktFault x n = 0) (ok : x.ok) : VN (flX x.flow) ∧ VN (flY x.flow) ∧ x.flow.cells = flC x.flow.p (flX x.flow) (flY x.flow) x.flow.fp x.flow.tp:=by
 obtain ⟨b1,b2,b3,b4,_⟩:=ok
 unfold pktFault at h
 by_cases h2 : aFault x.s1 x.h1 x.l1 = 0
 ·rw [if_neg (by simp [h2])] at h
  by_cases h3 : aFault x.s2 x.h2 x.l2 = 0
  ·obtain ⟨c1,c2,c3,c4⟩:=aN_num (aOK_of b1 b2 h2)
   obtain ⟨d1,d2,d3,d4⟩:=aN_num (aOK_of b3 b4 h3)
   have e1 : ((x.h1.toNat : Nat) : Int) = x.h1:=Int.toNat_of_nonneg b1.1
   have e2 : ((x.l1.toNat : Nat) : Int) = x.l1:=Int.toNat_of_nonneg b2.1
   have e3 : ((x.h2.toNat : Nat) : Int) = x.h2:=Int.toNat_of_nonneg b3.1
   have e4 : ((x.l2.toNat : Nat) : Int) = x.l2:=Int.toNat_of_nonneg b4.1
   refine ⟨c1,d1,?_⟩
   unfold FV.cells flC flX flY PV.flow
   simp only
   rw [c2,c3,c4,d2,d3,d4,e1,e2,e3,e4]
  ·rw [if_pos h3] at h;exact absurd h h3
 ·rw [if_pos h2] at h;exact absurd h h2
def newF (F : List FR) (tv : TV) (most : Int) : Int:=if rowsF F ≠ 0 then rowsF F else if timesFault tv ≠ 0 then timesFault tv else if outB most 1 1000 = true then 1 else 0
def nwR (rs0 : Value) (n : Nat) (F : List FR) (tv : TV) (most : Int) (B : Nat) : Nat → Value → World → Prop
 | 0,v,_ => v = rs0
 | 1,v,w => ∃ ad c,v = .slice ad n c ∧ FwO w B v F
 | 2,v,_ => v = .agg #[.int .i64 tv.y, .int .i64 tv.t, .int .i64 tv.d, .int .i64 tv.o]
 | 3,v,_ => v = .int .i64 most
 | _,v,w => ∃ ad c,v = .agg (trC (.slice ad n c) tv most 0 (.slice none 0 0)) ∧ FwO w B (.slice ad n c) F
theorem nwR_keep {rs0 : Value} {n : Nat} {F : List FR} {tv : TV} {most : Int} {B : Nat} (p : Nat) (v : Value) (u w : World) (h : nwR rs0 n F tv most B p v u) (hb : Below u.heap.size u w) : nwR rs0 n F tv most B p v w:=by
 rcases p with _ | _ | _ | _ | p
 all_goals first
  | exact h
  | (obtain ⟨ad,c,h1,h2⟩:=h;exact ⟨ad,c,h1,h2.later hb⟩)
theorem tnew_any (ad : Option Addr) (n c : Nat) (F : List FR) (tv : TV) (most : Int) (w : World) (h : FlsAt w ad F) (hn : F.length = n) (hs : n ≤ 1000) (hu : ∀ r ∈ F,r.Un) :
  Calls Tryz.prog 7 #[.slice ad n c, .agg tv.cells, .int .i64 most] w fun e w' => Below w.heap.size w w' ∧ ((newF F tv most ≠ 0 ∧ e = .returned (.tuple #[.pointer none, .int .i64 (newF F tv most)])) ∨ (newF F tv most = 0 ∧ ∃ T ad' c',e = .returned (.tuple #[.pointer (some ⟨T,0,none⟩), .int .i64 0]) ∧ w.heap.size ≤ T ∧ Blk w' T 80 (trC (.slice ad' n c') tv most 0 (.slice none 0 0)) ∧ FwO w' w.heap.size (.slice ad' n c') F)):=by
 obtain ⟨RF,hRF⟩ : ∃ x,rowsF F = x:=⟨_,rfl⟩
 obtain ⟨TF,hTF⟩ : ∃ x,timesFault tv = x:=⟨_,rfl⟩
 obtain ⟨OB,hOB⟩ : ∃ x,outB most 1 1000 = x:=⟨_,rfl⟩
 obtain ⟨NF,hNF⟩ : ∃ x,newF F tv most = x:=⟨_,rfl⟩
 have HN1 : Hid (RF ≠ 0 → NF = RF):=Lib.hid fun h => by rw [← hNF];unfold newF;rw [hRF,if_pos h]
 have HN2 : Hid (RF = 0 → TF ≠ 0 → NF = TF):=Lib.hid fun h h2 => by rw [← hNF];unfold newF;rw [hRF,hTF,if_neg (by simp [h]),if_pos h2]
 have HN3 : Hid (RF = 0 → TF = 0 → OB = true → NF = 1):=Lib.hid fun h h2 h3 => by rw [← hNF];unfold newF;rw [hRF,hTF,hOB,if_neg (by simp [h]),if_neg (by simp [h2]),if_pos h3]
 have HN4 : Hid (RF = 0 → TF = 0 → OB = false → NF = 0):=Lib.hid fun h h2 h3 => by rw [← hNF];unfold newF;rw [hRF,hTF,hOB,if_neg (by simp [h]),if_neg (by simp [h2]),if_neg (by simp [h3])]
 have H1:=Lib.hid fun wx (hb : Below w.heap.size w wx) => fCheck_any ad n c F wx (h.below hb) hn (by omega) hu
 have H2:=Lib.hid fun wx => checkTimes_any tv wx
 have H3:=Lib.hid fun wx => outside_any most 1 1000 wx
 have H4 : Hid (RF = 0 → ∀ wx,Below w.heap.size w wx → Calls Tryz.prog 31 #[.slice ad n c] wx fun e w' => ∃ v,e = .returned v ∧ FwO w' wx.heap.size v F ∧ Below wx.heap.size wx w'):=Lib.hid fun h0 wx hb => by
  obtain ⟨k1,k2,k3⟩:=rowsF_ok (hRF.trans h0) hu
  exact rowsOf_any ad n c F wx (h.below hb) hn hs k2 k3
 rw [hRF] at H1
 rw [hTF] at H2
 rw [hOB] at H3
 rw [hNF]
 have HL:=Lib.hid hn
 clear h hs hu hRF hTF hOB hNF hn
 have hcs : tv.cells = #[.int .i64 tv.y, .int .i64 tv.t, .int .i64 tv.d, .int .i64 tv.o]:=rfl
 rw [hcs] at H2 ⊢
 have HK : Hid (Blk (w.alloc (.cells #[.int .i64 tv.y, .int .i64 tv.t, .int .i64 tv.d, .int .i64 tv.o] 29 (0,0))) w.heap.size 29 #[.int .i64 tv.y, .int .i64 tv.t, .int .i64 tv.d, .int .i64 tv.o]):=Lib.hid (Blk.new w _ _)
 have HB : Hid (Below w.heap.size w (w.alloc (.cells #[.int .i64 tv.y, .int .i64 tv.t, .int .i64 tv.d, .int .i64 tv.o] 29 (0,0)))):=Lib.hid (below_alloc (Below.refl _ _) _)
 clear hcs
 go_enter Tryz.func7,Tryz.ntmps7
 go_upto_region 1 with fail
 generalize w.alloc (.cells #[.int .i64 tv.y, .int .i64 tv.t, .int .i64 tv.d, .int .i64 tv.o] 29 (0,0)) = w1 at *
 obtain ⟨bx,hbx⟩ : ∃ bx,w.heap.size = bx:=⟨_,rfl⟩
 have HBX:=Lib.hid hbx
 rw [hbx] at HK ⊢
 clear hbx
 go_wp2_with fail
 refine (H1.out _ HB.out).mono ?_
 rintro e w2 ⟨rfl,hb⟩
 have HB2:=Lib.hid (HB.out.trans (hb.mono HB.out.size))
 have HK2:=Lib.hid (HK.out.below hb HK.out.lt)
 clear hb HB HK H1
 by_cases hF : RF = 0
 case neg =>
  have hF2 : (RF != 0) = true:=by simpa using hF
  obtain rfl:=HN1.out hF
  have HF:=Lib.hid hF
  clear hF HN1 HN2 HN3 HN4 H2 H3 H4
  go_wp2_with fail
  go_ret2
  exact ⟨HBX.out ▸ HB2.out, .inl ⟨HF.out,rfl⟩⟩
 replace HN2:=Lib.hid (HN2.out hF)
 replace HN3:=Lib.hid (HN3.out hF)
 replace HN4:=Lib.hid (HN4.out hF)
 replace H4:=Lib.hid (H4.out hF)
 clear HN1
 subst hF
 have d0:=HK2.out.cell 0
 have d1:=HK2.out.cell 1
 have d2:=HK2.out.cell 2
 have d3:=HK2.out.cell 3
 simp at d0 d1 d2 d3
 go_wp2_with fail
 refine (H2.out _).mono ?_
 rintro e w3 ⟨rfl,hb⟩
 have HB3:=Lib.hid (HB2.out.trans (hb.mono HB2.out.size))
 have HK3:=Lib.hid (HK2.out.below hb HK2.out.lt)
 clear hb HB2 HK2 H2 d0 d1 d2 d3
 by_cases hF : TF = 0
 case neg =>
  have hF2 : (TF != 0) = true:=by simpa using hF
  obtain rfl:=HN2.out hF
  have HF:=Lib.hid hF
  clear hF HN2 HN3 HN4 H3 H4
  go_wp2_with fail
  go_ret2
  exact ⟨HBX.out ▸ HB3.out, .inl ⟨HF.out,rfl⟩⟩
 replace HN3:=Lib.hid (HN3.out hF)
 replace HN4:=Lib.hid (HN4.out hF)
 clear HN2
 subst hF
 go_wp2_with fail
 refine (H3.out _).mono ?_
 rintro e w4 ⟨rfl,rfl⟩
 clear H3
 cases OB
 case true =>
  obtain rfl:=HN3.out rfl
  clear HN3 HN4 H4
  go_wp2_with fail
  go_ret2
  exact ⟨HBX.out ▸ HB3.out, .inl ⟨by decide,rfl⟩⟩
 obtain rfl:=HN4.out rfl
 clear HN3 HN4
 go_upto_region 9 with fail
 have d0:=HK3.out.cell 0
 have d1:=HK3.out.cell 1
 have d2:=HK3.out.cell 2
 have d3:=HK3.out.cell 3
 simp at d0 d1 d2 d3
 have m0:=Later.cell_of d0
 have m1:=Later.cell_of d1
 have m2:=Later.cell_of d2
 have m3:=Later.cell_of d3
 clear d0 d1 d2 d3
 refine wp_region_inv 5 0 (nwR (.slice ad n c) n F tv most bx) (fun _ wx => Below w3.heap.size w3 wx) (fun u v => Below u.heap.size u v) (fun _ => 0)
  (by kernel_rfl) (by kernel_rfl) (by decide) nwR_keep (below_drew (Below.refl _ _)) ?hX
 case' hX => (apply Exists.intro;refine ⟨fun T => ?hA,?hob,?hend⟩)
 case hA =>
  simp only [setAll,List.take_succ_cons,List.take_zero,Act.put,List.setIfInBounds_toArray,List.set_cons_succ,List.set_cons_zero,Nat.reduceAdd]
  exact rfl
 case hob =>
  go_light
  refine ⟨?_,?_,?_,?_,?_,trivial⟩
  all_goals (intro T wx n0 hC hn hp;dsimp only at hn ⊢;unfold Op1)
  ·go_simp
   exact ⟨rfl,Below.refl _ _⟩
  ·obtain ⟨h0, -⟩:=hp
   have h0 : T 0 = .slice ad n c:=h0
   go_simp
   refine (H4.out wx (HB3.out.trans (hC.mono HB3.out.size))).mono ?_
   rintro e w5 ⟨v,rfl,hO,hb⟩
   have hsz:=(HB3.out.trans (hC.mono HB3.out.size)).size
   rw [HBX.out] at hsz
   have hO2:=hO.weak hsz
   obtain ⟨a5,c5,rfl,_⟩:=hO.form
   rw [HL.out] at hO2 ⊢
   exact ⟨_,rfl,⟨_,_,rfl,hO2⟩,hC.trans (hb.mono hC.size),hb⟩
  ·have e0:=m0 ⟨wx,hC⟩
   have e1:=m1 ⟨wx,hC⟩
   have e2:=m2 ⟨wx,hC⟩
   have e3:=m3 ⟨wx,hC⟩
   simp only at e0 e1 e2 e3
   go_simp
   exact ⟨rfl,Below.refl _ _⟩
  ·go_simp
   exact ⟨rfl,Below.refl _ _⟩
  ·obtain ⟨⟨a1,c1,h1,hF1⟩,h2,h3, -⟩:=hp
   have h2 : T 2 = .agg #[.int .i64 tv.y, .int .i64 tv.t, .int .i64 tv.d, .int .i64 tv.o]:=h2
   have h3 : T 3 = .int .i64 most:=h3
   rw [h1] at hF1
   go_simp
   exact ⟨⟨_,_,rfl,hF1⟩,Below.refl _ _⟩
 case hend =>
  intro T w5 ⟨n0,hn0,hC⟩ hR
  obtain ⟨a4,c4,h4,hF4⟩:=hR 4 (by omega)
  simp only [trC] at h4
  have HB5:=Lib.hid (HB3.out.trans (hC.mono HB3.out.size))
  have HF5:=Lib.hid hF4
  have HT5 : Hid (Blk (w5.alloc (.cells #[.slice a4 n c4, .int .i64 tv.y, .int .i64 tv.t, .int .i64 tv.d, .int .i64 tv.o, .int .i64 most, .int .i64 0, .slice none 0 0] 80 (0,0))) w5.heap.size 80 (trC (.slice a4 n c4) tv most 0 (.slice none 0 0))):=Lib.hid (Blk.new w5 _ _)
  have HF6 : Hid (FwO (w5.alloc (.cells #[.slice a4 n c4, .int .i64 tv.y, .int .i64 tv.t, .int .i64 tv.d, .int .i64 tv.o, .int .i64 most, .int .i64 0, .slice none 0 0] 80 (0,0))) w.heap.size (.slice a4 n c4) F):=Lib.hid (by
   rw [HBX.out]
   exact HF5.out.later (below_alloc (Below.refl _ _) _))
  have hs5 : w.heap.size ≤ w5.heap.size:=HB5.out.size
  have HS5:=Lib.hid hs5
  clear hR hC hF4 HB3 HK3 m0 m1 m2 m3 H4 hs5
  simp only [List.drop_succ_cons,List.drop_zero]
  go_wp2_with fail
  go_ret2
  refine ⟨below_alloc HB5.out _,?_⟩
  first
   | exact .inr ⟨rfl,_,_,_,rfl,HS5.out,HT5.out,HF6.out⟩
   | exact ⟨_,rfl,HS5.out,_,_,HT5.out,HF6.out⟩
   | exact ⟨_,_,_,rfl,HS5.out,HT5.out,HF6.out⟩
theorem tset_any (T : Nat) (rs : Value) (tv : TV) (most last : Int) (lst : Value) (ad : Option Addr) (n c : Nat) (F : List FR) (w : World) (hT : Blk w T 80 (trC rs tv most last lst)) (h : FlsAt w ad F) (hn : F.length = n) (hs : n ≤ 1000) (hu : ∀ r ∈ F,r.Un) :
  Calls Tryz.prog 21 #[.pointer (some ⟨T,0,none⟩), .slice ad n c] w fun e w' => e = .returned (.int .i64 (rowsF F)) ∧ Chg T (.slice none 0 0) (.slice none 0 0) w w' ∧ ((rowsF F ≠ 0 ∧ Blk w' T 80 (trC rs tv most last lst)) ∨ (rowsF F = 0 ∧ ∃ ad' c',Blk w' T 80 (trC (.slice ad' n c') tv most last lst) ∧ FwO w' w.heap.size (.slice ad' n c') F)):=by
 obtain ⟨RF,hRF⟩ : ∃ x,rowsF F = x:=⟨_,rfl⟩
 have H1:=Lib.hid fun wx (hb : Below w.heap.size w wx) => fCheck_any ad n c F wx (h.below hb) hn (by omega) hu
 have H4 : Hid (RF = 0 → ∀ wx,Below w.heap.size w wx → Calls Tryz.prog 31 #[.slice ad n c] wx fun e w' => ∃ v,e = .returned v ∧ FwO w' wx.heap.size v F ∧ Below wx.heap.size wx w'):=Lib.hid fun h0 wx hb => by
  obtain ⟨k1,k2,k3⟩:=rowsF_ok (hRF.trans h0) hu
  exact rowsOf_any ad n c F wx (h.below hb) hn hs k2 k3
 rw [hRF] at H1
 rw [hRF]
 have HL:=Lib.hid hn
 have HT:=Lib.hid hT
 clear h hs hu hRF hn hT
 go_enter Tryz.func21,Tryz.ntmps21
 go_wp2_with fail
 refine (H1.out _ (by first | exact Below.refl _ _ | exact below_drew (Below.refl _ _))).mono ?_
 rintro e w2 ⟨rfl,hb⟩
 have HB2:=Lib.hid hb
 have HT2:=Lib.hid (HT.out.below hb HT.out.lt)
 clear hb H1
 by_cases hF : RF = 0
 case neg =>
  have hF2 : (RF != 0) = true:=by simpa using hF
  have HF:=Lib.hid hF
  clear hF H4
  go_wp2_with fail
  go_ret
  exact ⟨rfl,Chg.of_below HB2.out, .inl ⟨HF.out,HT2.out⟩⟩
 replace H4:=Lib.hid (H4.out hF)
 subst hF
 go_wp2_with fail
 refine (H4.out _ HB2.out).mono ?_
 rintro e w3 ⟨v,rfl,hO,hb⟩
 have HB3:=Lib.hid (HB2.out.trans (hb.mono HB2.out.size))
 have HT3:=Lib.hid (HT2.out.below hb HT2.out.lt)
 have HO3:=Lib.hid (hO.weak HB2.out.size)
 obtain ⟨a3,c3,rfl,_⟩:=hO.form
 rw [HL.out] at HO3 ⊢
 clear hO hb HB2 HT2 H4 HT
 have tf:=HT3.out.free
 have t0:=HT3.out.cell 0
 simp [trC] at t0
 go_wp2_with fail
 go_ret
 have hF:=HO3.out.keepT (KeepT.of_set (S:=[80]) (i:=0) (v:=.slice a3 n c3) HT3.out (by simp)) (by decide) (by decide) (by decide)
 have hT:=HT3.out.set 0 (.slice a3 n c3)
 first
  | exact ⟨rfl,(Chg.of_below HB3.out).trans Chg.of_set,_,_,hT,hF⟩
  | exact ⟨rfl,(Chg.of_below HB3.out).trans Chg.of_set, .inr ⟨rfl,_,_,hT,hF⟩⟩
end Go.Proofs.YthebgfnaomgcnaaGreat
namespace Go.Proofs
open Go.Shelf
def Tryz.insTk_ren : Go.Shelf.Ren:=⟨fun | 20 => 130 | n => n,fun | 24 => 65 | 22 => 42 | 3 => 3 | 25 => 101 | 4 => 4 | 0 => 0 | n => n,fun | n => n⟩
theorem Tryz.insTk : Go.Proofs.SlLaysF0.n20 Tryz.prog Tryz.insTk_ren:={
 mixed:=by kernel_rfl
 f20:=⟨Tryz.f130.name,by decide,Tryz.func130.trans (congrArg some (by kernel_rfl))⟩
 t0:=Tryz.underlying0
 a0:=Tryz.isAgg0
 z0:=Tryz.sizeOf0
 v0:=Tryz.zeroValue0
 t3:=Tryz.underlying3
 a3:=Tryz.isAgg3
 z3:=Tryz.sizeOf3
 v3:=Tryz.zeroValue3
 t4:=Tryz.underlying4
 a4:=Tryz.isAgg4
 z4:=Tryz.sizeOf4
 v4:=Tryz.zeroValue4
 t22:=Tryz.underlying42
 a22:=Tryz.isAgg42
 z22:=Tryz.sizeOf42
 v22:=Tryz.zeroValue42
 t25:=Tryz.underlying101
 a25:=Tryz.isAgg101
 z25:=Tryz.sizeOf101
 v25:=Tryz.zeroValue101 }
open Go.Sort Go.RowKit in
theorem Tryz.slices_ins_Tk {α : Type} [Inhabited α] (enc : α → List Value) (hk : ∀ x,(enc x).length = 12) (h1 : ∀ x, ∀ v ∈ enc x,v.oneCell' = true) (cf : α → α → Int) (g : Nat) (cb : Array Value) (blk off cap a b : Nat) (d : Array α) (w : World)
  (eg : ∀ args w,(callFunc g args).run Tryz.prog w = .ok (.enter g args) w) (hcmp : CmpLays Tryz.prog g cb enc 12 cf blk off d.size w) (hH : HoldsK enc 12 w blk off d) (hblk : blk < w.heap.size) (hab : a ≤ b) (hb : b ≤ d.size) (hsz : d.size < 4611686018427387904) :
  Calls Tryz.prog 130 #[.slice (some ⟨blk,off,none⟩) d.size cap, .int .i64 a, .int .i64 b, .func (.func g) #[] cb] w fun e w' =>
   e = .returned (.tuple #[]) ∧ ∃ n os,w' = sortWorldK enc 12 w blk off n (Go.Sort.insertionSort (ltOf cf) d a b) os :=
 AnyQ.insertionSortCmpFunc Tryz.insTk 12 Tryz.isAgg65 Tryz.sizeOf65 enc hk h1 cf g cb blk off cap a b d w eg hcmp hH hblk hab hb hsz
open Go.Sort Go.RowKit in
theorem Tryz.slices_ins_Tk_none (p : Option Addr) (cap : Nat) (fv : Value) (w : World) :
  Calls Tryz.prog 130 #[.slice p 0 cap, .int .i64 0, .int .i64 0,fv] w fun e w' => e = .returned (.tuple #[]) ∧ w' = w :=
 AnyF.insertionSortCmpFunc_none Tryz.insTk p cap fv w
end Go.Proofs
namespace Go.Proofs.YthebgfnaomgcnaaGreat
open Go.RowKit Go Go.Sort
instance : Inhabited TK:=⟨⟨FV.zero,0,false,false⟩⟩
def cfT (x y : TK) : Int:=wrap64 (x.last - y.last)
theorem ltT_eq : Go.Proofs.ltOf (fun x y => sgn (cfT x y)) = Go.Proofs.ltOf cfT:=by
 funext x y
 unfold Go.Proofs.ltOf sgn
 rw [decide_eq_decide]
 by_cases h1 : cfT x y < 0
 ·simp [h1]
 ·by_cases h2 : 0 < cfT x y
  ·simp [h1,h2]
  ·simp [h1,h2]
theorem size_insInnerT {α : Type} [Inhabited α] (lt : α → α → Bool) (a : Nat) : ∀ (j : Nat) (d : Array α),(Go.Sort.insInner lt a j d).size = d.size
 | 0,d => rfl
 | j + 1,d => by
   unfold Go.Sort.insInner
   split
   ·rw [size_insInnerT lt a j,Go.Sort.size_swp]
   ·rfl
theorem size_insOuterT {α : Type} [Inhabited α] (lt : α → α → Bool) (a b : Nat) : ∀ (n i : Nat) (d : Array α),b - i = n → (Go.Sort.insOuter lt a b i d).size = d.size
 | 0,i,d,h => by rw [Go.Sort.insOuter,if_neg (by omega)]
 | n + 1,i,d,h => by rw [Go.Sort.insOuter,if_pos (by omega),size_insOuterT lt a b n (i + 1) _ (by omega),size_insInnerT]
theorem size_insT {α : Type} [Inhabited α] (lt : α → α → Bool) (d : Array α) (a b : Nat) : (Go.Sort.insertionSort lt d a b).size = d.size:=size_insOuterT lt a b _ _ d rfl
def stabT (L : List TK) : List TK:=(Go.Sort.insertionSort (Go.Proofs.ltOf cfT) L.toArray 0 L.length).toList
section
variable {α : Type} [Inhabited α] {E : Lay α}
theorem cmpLaysG {P : Program} {g blk off size : Nat} {w : World} {cf : α → α → Int} (h : ∀ x y W,Calls P g #[.agg (E.enc x).toArray, .agg (E.enc y).toArray] W (RetD (.int .i64 (cf x y)) W)) : Go.Proofs.CmpLays P g #[] E.enc E.K cf blk off size w :=
 fun m os dk _ x y => by
  rw [Array.append_empty]
  exact (h x y _).mono fun _ _ ⟨he,hb⟩ => ⟨he,hb.grow⟩
theorem OwnK.sortWorld {w w' : World} {B g n c : Nat} {M : List α} (h : OwnK E w B (.slice (some ⟨g,0,none⟩) n c) M) {d' : Array α} {q : Nat} {os : Array Obj}
  (hds' : d'.size = M.length) (hw : w' = sortWorldK E.enc E.K w g 0 q d' os) :
  OwnK E w' B (.slice (some ⟨g,0,none⟩) n c) d'.toList ∧ w.grownBy w' (some g):=by
 subst hw
 obtain ⟨hn,hb,hc,hm,cur,hg,hs,ht⟩:=h.block
 have hlt:=lt_of_block hg
 have hF':=flat_all E d'
 have hfs' : (flatK E.enc E.K d').size = M.length * E.K:=by rw [size_flatK,hds']
 show OwnK E (grow (putRow id (Sort.ahead w q) g 0 (flatK E.enc E.K d')) os) B _ _ ∧ w.grownBy (grow (putRow id (Sort.ahead w q) g 0 (flatK E.enc E.K d')) os) (some g)
 generalize flatK E.enc E.K d' = F at hF' hfs' ⊢
 have hlen : d'.toList.length = M.length:=by simp [hds']
 generalize d'.toList = L at hF' hlen ⊢
 have hheap : ∀ i,i < w.heap.size → (grow (putRow id (Sort.ahead w q) g 0 F) os).heap[i]? = if g = i then some (.cells (putCells id 0 F cur) E.ty (0,0)) else w.heap[i]?:=by
  intro i hi
  simp only [grow,putRow,mapBlock,Sort.ahead]
  rw [Array.getElem?_append_left (by simpa using hi),Array.getElem?_modify]
  by_cases e : g = i
  ·subst e
   rw [if_pos rfl,if_pos rfl,hg]
   rfl
  ·rw [if_neg e,if_neg e]
 have hFc : F.size ≤ cur.size:=by
  rw [hfs',hs]
  exact Nat.mul_le_mul_right _ (by omega)
 obtain ⟨p1,p2⟩:=putK_take F cur hFc
 refine ⟨⟨by rw [E.all_len], .inr ⟨g,c,_,by rw [hlen,hn],hb,by rw [hheap g hlt,if_pos rfl],by omega,hm,by omega,by rw [hlen, ← hfs',p2];exact hF'⟩⟩,?_⟩
 refine ⟨rfl,rfl,rfl,by simp [grow,putRow,mapBlock,Sort.ahead],fun i hi hne => ?_⟩
 rw [hheap i hi,if_neg (fun e => hne (by rw [e]))]
end
theorem tcmp_any (x y : TK) (w : World) : Calls Tryz.prog 59 #[.agg (layTk.enc x).toArray, .agg (layTk.enc y).toArray] w (RetD (.int .i64 (cfT x y)) w):=by
 have HE : Hid (cfT x y = wrap64 (x.last - y.last)):=Lib.hid rfl
 rw [HE.out]
 show Calls Tryz.prog 59 #[.agg (tkC x).toArray, .agg (tkC y).toArray] w _
 obtain ⟨⟨fp,s1,h1,l1,s2,h2,l2,ff,ft⟩,la,an,dn⟩:=x
 obtain ⟨⟨fp2,s12,h12,l12,s22,h22,l22,ff2,ft2⟩,la2,an2,dn2⟩:=y
 simp only [tkC]
 clear HE
 have HX : Hid (Blk ((w.alloc (.cells #[.int .i64 fp, .bool s1, .int .u64 h1, .int .u64 l1, .bool s2, .int .u64 h2, .int .u64 l2, .int .i64 ff, .int .i64 ft, .int .i64 la, .bool an, .bool dn] 65 (0,0))).alloc (.cells #[.int .i64 fp2, .bool s12, .int .u64 h12, .int .u64 l12, .bool s22, .int .u64 h22, .int .u64 l22, .int .i64 ff2, .int .i64 ft2, .int .i64 la2, .bool an2, .bool dn2] 65 (0,0))) w.heap.size 65 #[.int .i64 fp, .bool s1, .int .u64 h1, .int .u64 l1, .bool s2, .int .u64 h2, .int .u64 l2, .int .i64 ff, .int .i64 ft, .int .i64 la, .bool an, .bool dn]):=Lib.hid ((Blk.new w _ _).alloc _)
 have HY : Hid (Blk ((w.alloc (.cells #[.int .i64 fp, .bool s1, .int .u64 h1, .int .u64 l1, .bool s2, .int .u64 h2, .int .u64 l2, .int .i64 ff, .int .i64 ft, .int .i64 la, .bool an, .bool dn] 65 (0,0))).alloc (.cells #[.int .i64 fp2, .bool s12, .int .u64 h12, .int .u64 l12, .bool s22, .int .u64 h22, .int .u64 l22, .int .i64 ff2, .int .i64 ft2, .int .i64 la2, .bool an2, .bool dn2] 65 (0,0))) (w.heap.size + 1) 65 #[.int .i64 fp2, .bool s12, .int .u64 h12, .int .u64 l12, .bool s22, .int .u64 h22, .int .u64 l22, .int .i64 ff2, .int .i64 ft2, .int .i64 la2, .bool an2, .bool dn2]):=Lib.hid (by
  have this:=Blk.new (w.alloc (.cells #[.int .i64 fp, .bool s1, .int .u64 h1, .int .u64 l1, .bool s2, .int .u64 h2, .int .u64 l2, .int .i64 ff, .int .i64 ft, .int .i64 la, .bool an, .bool dn] 65 (0,0))) 65 #[.int .i64 fp2, .bool s12, .int .u64 h12, .int .u64 l12, .bool s22, .int .u64 h22, .int .u64 l22, .int .i64 ff2, .int .i64 ft2, .int .i64 la2, .bool an2, .bool dn2]
  rw [World.size_alloc] at this
  exact this)
 have HB : Hid (BelD w ((w.alloc (.cells #[.int .i64 fp, .bool s1, .int .u64 h1, .int .u64 l1, .bool s2, .int .u64 h2, .int .u64 l2, .int .i64 ff, .int .i64 ft, .int .i64 la, .bool an, .bool dn] 65 (0,0))).alloc (.cells #[.int .i64 fp2, .bool s12, .int .u64 h12, .int .u64 l12, .bool s22, .int .u64 h22, .int .u64 l22, .int .i64 ff2, .int .i64 ft2, .int .i64 la2, .bool an2, .bool dn2] 65 (0,0)))):=Lib.hid (((BelD.refl _).alloc _).alloc _)
 go_enter Tryz.func59,Tryz.ntmps59
 go_upto_region 1 with fail
 generalize ((w.alloc (.cells #[.int .i64 fp, .bool s1, .int .u64 h1, .int .u64 l1, .bool s2, .int .u64 h2, .int .u64 l2, .int .i64 ff, .int .i64 ft, .int .i64 la, .bool an, .bool dn] 65 (0,0))).alloc (.cells #[.int .i64 fp2, .bool s12, .int .u64 h12, .int .u64 l12, .bool s22, .int .u64 h22, .int .u64 l22, .int .i64 ff2, .int .i64 ft2, .int .i64 la2, .bool an2, .bool dn2] 65 (0,0))) = w1 at *
 have x9:=HX.out.cell 9
 have y9:=HY.out.cell 9
 simp at x9 y9
 go_wp2_with fail
 go_ret
 exact ⟨rfl,HB.out⟩
theorem qcmp_any (x y : TK) (w : World) : Calls Tryz.prog 63 #[.agg (layTk.enc x).toArray, .agg (layTk.enc y).toArray] w (RetD (.int .i64 (sgn (cfT x y))) w):=by
 have HE : Hid (cfT x y = wrap64 (x.last - y.last)):=Lib.hid rfl
 rw [HE.out]
 show Calls Tryz.prog 63 #[.agg (tkC x).toArray, .agg (tkC y).toArray] w _
 obtain ⟨⟨fp,s1,h1,l1,s2,h2,l2,ff,ft⟩,la,an,dn⟩:=x
 obtain ⟨⟨fp2,s12,h12,l12,s22,h22,l22,ff2,ft2⟩,la2,an2,dn2⟩:=y
 simp only [tkC]
 clear HE
 have HX : Hid (Blk ((w.alloc (.cells #[.int .i64 fp, .bool s1, .int .u64 h1, .int .u64 l1, .bool s2, .int .u64 h2, .int .u64 l2, .int .i64 ff, .int .i64 ft, .int .i64 la, .bool an, .bool dn] 65 (0,0))).alloc (.cells #[.int .i64 fp2, .bool s12, .int .u64 h12, .int .u64 l12, .bool s22, .int .u64 h22, .int .u64 l22, .int .i64 ff2, .int .i64 ft2, .int .i64 la2, .bool an2, .bool dn2] 65 (0,0))) w.heap.size 65 #[.int .i64 fp, .bool s1, .int .u64 h1, .int .u64 l1, .bool s2, .int .u64 h2, .int .u64 l2, .int .i64 ff, .int .i64 ft, .int .i64 la, .bool an, .bool dn]):=Lib.hid ((Blk.new w _ _).alloc _)
 have HY : Hid (Blk ((w.alloc (.cells #[.int .i64 fp, .bool s1, .int .u64 h1, .int .u64 l1, .bool s2, .int .u64 h2, .int .u64 l2, .int .i64 ff, .int .i64 ft, .int .i64 la, .bool an, .bool dn] 65 (0,0))).alloc (.cells #[.int .i64 fp2, .bool s12, .int .u64 h12, .int .u64 l12, .bool s22, .int .u64 h22, .int .u64 l22, .int .i64 ff2, .int .i64 ft2, .int .i64 la2, .bool an2, .bool dn2] 65 (0,0))) (w.heap.size + 1) 65 #[.int .i64 fp2, .bool s12, .int .u64 h12, .int .u64 l12, .bool s22, .int .u64 h22, .int .u64 l22, .int .i64 ff2, .int .i64 ft2, .int .i64 la2, .bool an2, .bool dn2]):=Lib.hid (by
  have this:=Blk.new (w.alloc (.cells #[.int .i64 fp, .bool s1, .int .u64 h1, .int .u64 l1, .bool s2, .int .u64 h2, .int .u64 l2, .int .i64 ff, .int .i64 ft, .int .i64 la, .bool an, .bool dn] 65 (0,0))) 65 #[.int .i64 fp2, .bool s12, .int .u64 h12, .int .u64 l12, .bool s22, .int .u64 h22, .int .u64 l22, .int .i64 ff2, .int .i64 ft2, .int .i64 la2, .bool an2, .bool dn2]
  rw [World.size_alloc] at this
  exact this)
 have HB : Hid (BelD w ((w.alloc (.cells #[.int .i64 fp, .bool s1, .int .u64 h1, .int .u64 l1, .bool s2, .int .u64 h2, .int .u64 l2, .int .i64 ff, .int .i64 ft, .int .i64 la, .bool an, .bool dn] 65 (0,0))).alloc (.cells #[.int .i64 fp2, .bool s12, .int .u64 h12, .int .u64 l12, .bool s22, .int .u64 h22, .int .u64 l22, .int .i64 ff2, .int .i64 ft2, .int .i64 la2, .bool an2, .bool dn2] 65 (0,0)))):=Lib.hid (((BelD.refl _).alloc _).alloc _)
 go_enter Tryz.func63,Tryz.ntmps63
 go_upto_region 1 with fail
 generalize ((w.alloc (.cells #[.int .i64 fp, .bool s1, .int .u64 h1, .int .u64 l1, .bool s2, .int .u64 h2, .int .u64 l2, .int .i64 ff, .int .i64 ft, .int .i64 la, .bool an, .bool dn] 65 (0,0))).alloc (.cells #[.int .i64 fp2, .bool s12, .int .u64 h12, .int .u64 l12, .bool s22, .int .u64 h22, .int .u64 l22, .int .i64 ff2, .int .i64 ft2, .int .i64 la2, .bool an2, .bool dn2] 65 (0,0))) = w1 at *
 have x9:=HX.out.cell 9
 have y9:=HY.out.cell 9
 simp at x9 y9
 go_wp2_with fail
 refine (signD_any _ _).mono ?_
 rintro e w2 ⟨rfl,hb⟩
 have HB2:=Lib.hid (HB.out.trans hb)
 clear hb
 go_wp2_with fail
 go_ret
 exact ⟨rfl,HB2.out⟩
theorem insTk_any (gc : Nat) (cf : TK → TK → Int) (hcf : Go.Proofs.ltOf cf = Go.Proofs.ltOf cfT) (eg : ∀ args w,(callFunc gc args).run Tryz.prog w = .ok (.enter gc args) w)
  (hc : ∀ x y W,Calls Tryz.prog gc #[.agg (layTk.enc x).toArray, .agg (layTk.enc y).toArray] W (RetD (.int .i64 (cf x y)) W)) (B n c : Nat) (ad : Option Addr) (M : List TK) (w : World) (h : OwnK layTk w B (.slice ad n c) M) (hs : n < 20) :
  Calls Tryz.prog 130 #[.slice ad n c, .int .i64 0, .int .i64 (n : Int), .func (.func gc) #[] #[]] w fun e w' => e = .returned (.tuple #[]) ∧ OwnK layTk w' B (.slice ad n c) (stabT M) ∧ Grew w w' (.slice ad n c) (.slice ad n c):=by
 have hn : M.length = n:=by
  obtain ⟨_,_,hv,_⟩:=h.form
  injection hv with _ e _
  exact e.symm
 rcases Nat.eq_zero_or_pos n with h0 | h0
 ·subst h0
  have hM : M = []:=List.eq_nil_of_length_eq_zero hn
  subst hM
  refine (Tryz.slices_ins_Tk_none ad c (.func (.func gc) #[] #[]) w).mono ?_
  rintro e w' ⟨rfl,rfl⟩
  have e0 : stabT [] = []:=by
   unfold stabT
   have : (Go.Sort.insertionSort (Go.Proofs.ltOf cfT) ([] : List TK).toArray 0 0).size = 0:=by
    rw [size_insT];rfl
   exact List.eq_nil_of_length_eq_zero (by simpa using this)
  exact ⟨rfl,by rw [e0];exact h,Grew.refl _ _⟩
 ·obtain ⟨g,c',hv2, -⟩:=h.one (by omega)
  injection hv2 with hv2 q1 q2
  subst hv2
  clear q1 q2
  obtain ⟨hH,hlt⟩:=h.holds
  have hp:=Tryz.slices_ins_Tk layTk.enc layTk.len layTk.one cf gc #[] g 0 c 0 n M.toArray w eg (cmpLaysG hc) hH hlt (Nat.zero_le _) (by show n ≤ M.length;omega) (by show M.length < _;omega)
  have hsz : M.toArray.size = n:=hn
  rw [hsz] at hp
  refine hp.mono ?_
  rintro e w' ⟨rfl,q,os,hw⟩
  rw [hcf] at hw
  obtain ⟨k1,k2⟩:=h.sortWorld (d':=Go.Sort.insertionSort (Go.Proofs.ltOf cfT) M.toArray 0 n) (by rw [size_insT];rfl) hw
  refine ⟨rfl,?_,⟨k2, .inl rfl⟩⟩
  unfold stabT
  rw [hn]
  exact k1
theorem sortStableTk_any (gc : Nat) (cf : TK → TK → Int) (hcf : Go.Proofs.ltOf cf = Go.Proofs.ltOf cfT) (eg : ∀ args w,(callFunc gc args).run Tryz.prog w = .ok (.enter gc args) w)
  (hc : ∀ x y W,Calls Tryz.prog gc #[.agg (layTk.enc x).toArray, .agg (layTk.enc y).toArray] W (RetD (.int .i64 (cf x y)) W)) (B n c : Nat) (ad : Option Addr) (M : List TK) (w : World) (h : OwnK layTk w B (.slice ad n c) M) (hs : n < 20) :
  Calls Tryz.prog 58 #[.slice ad n c, .func (.func gc) #[] #[]] w fun e w' => e = .returned (.tuple #[]) ∧ OwnK layTk w' B (.slice ad n c) (stabT M) ∧ Grew w w' (.slice ad n c) (.slice ad n c):=by
 have HI:=Lib.hid (insTk_any gc cf hcf eg hc B n c ad M w h hs)
 have hst : Calls Tryz.prog 99 #[.slice ad n c, .int .i64 (n : Int), .func (.func gc) #[] #[]] w fun e w' => e = .returned (.tuple #[]) ∧ OwnK layTk w' B (.slice ad n c) (stabT M) ∧ Grew w w' (.slice ad n c) (.slice ad n c):=by
  clear eg hc hcf h
  have b1 : ¬ (20 : Int) ≤ (n : Int):=by omega
  have b2 : ¬ (20 : Int) < (n : Int):=by omega
  go_enter Tryz.func99,Tryz.ntmps99
  go_wp2_with fail
  refine wp_loop_rounds 1 ?_
  rw [rounds_succ]
  go_wp2_with fail
  refine HI.out.mono ?_
  rintro e w2 ⟨rfl,h1,h2⟩
  have H1:=Lib.hid h1
  have H2:=Lib.hid h2
  clear h1 h2
  go_wp2_with fail
  refine wp_loop_rounds 1 ?_
  rw [rounds_succ]
  go_wp2_with fail
  go_end0
  exact ⟨rfl,H1.out,H2.out⟩
 have HS:=Lib.hid hst
 clear hst HI eg hc hcf h
 go_enter Tryz.func58,Tryz.ntmps58
 go_wp2_with fail
 refine HS.out.mono ?_
 rintro e w2 ⟨rfl,h1,h2⟩
 have H1:=Lib.hid h1
 have H2:=Lib.hid h2
 clear h1 h2
 go_wp2_with fail
 go_end0
 exact ⟨rfl,H1.out,H2.out⟩
open Go.RowKit Go
def flowsM (tv : TV) (last at_ : Int) (L : List TK) : List TK:=if momF at_ last = 0 then stabT (liveM tv at_ L) else []
theorem own_baseF {α : Type} {E : Lay α} {w : World} {B : Nat} {v : Value} {L : List α} (h : OwnK E w B v L) : ∀ k,v.ownBlock = some k → B ≤ k:=fun k hk => (h.lt k hk).1
theorem tflows_any (T B : Nat) (rs : Value) (tv : TV) (most last : Int) (lst : Value) (L : List TK) (at_ : Int) (w : World) (hT : Blk w T 80 (trC rs tv most last lst)) (hL : OwnK layTk w B lst L) (hok : TkOk L) (hs : L.length < 20) :
  Calls Tryz.prog 22 #[.pointer (some ⟨T,0,none⟩), .int .i64 at_] w fun e w' => ∃ v,e = .returned (.tuple #[v, .int .i64 (momF at_ last)]) ∧ OwnK layTk w' w.heap.size v (flowsM tv last at_ L) ∧ Below w.heap.size w w':=by
 obtain ⟨MF,hMF⟩ : ∃ MF,momF at_ last = MF:=⟨_,rfl⟩
 obtain ⟨R,hR⟩ : ∃ R,flowsM tv last at_ L = R:=⟨_,rfl⟩
 have HR0 : Hid (MF ≠ 0 → R = []):=Lib.hid fun h => by rw [← hR];unfold flowsM;rw [hMF,if_neg h]
 have HR1 : Hid (MF = 0 → R = stabT (liveM tv at_ L)):=Lib.hid fun h => by rw [← hR];unfold flowsM;rw [hMF,if_pos h]
 have HA : Hid (MF = 0 → 0 ≤ at_ ∧ at_ < 345686400):=Lib.hid fun h => (momF_zero (hMF.trans h)).1
 have HTf:=Lib.hid fun wx (h : Blk wx T 80 (trC rs tv most last lst)) => timeFault_any T rs tv most last lst at_ wx h
 rw [hMF] at HTf
 rw [hMF,hR]
 clear hMF hR
 obtain ⟨w0,hw0⟩ : ∃ w0,(w.alloc (.cells #[.pointer (some ⟨T,0,none⟩)] 32 (0,0))).alloc (.cells #[.int .i64 at_] 3 (0,0)) = w0:=⟨_,rfl⟩
 have hb0 : Below w.heap.size w w0:=by rw [← hw0];exact below_alloc (below_alloc (Below.refl _ _) _) _
 have K1 : Hid (Blk w0 w.heap.size 32 #[.pointer (some ⟨T,0,none⟩)]):=Lib.hid (by rw [← hw0];exact (Blk.new w _ _).alloc _)
 have K3 : Hid (Blk w0 (w.heap.size + 1) 3 #[.int .i64 at_]):=Lib.hid (by
  rw [← hw0]
  have this:=Blk.new (w.alloc (.cells #[.pointer (some ⟨T,0,none⟩)] 32 (0,0))) 3 #[.int .i64 at_]
  rw [World.size_alloc] at this
  exact this)
 have HT0:=Lib.hid (hT.below hb0 hT.lt)
 have HL0:=Lib.hid (hL.later hb0)
 have HB0:=Lib.hid hb0
 have HOK:=Lib.hid hok
 obtain ⟨ad,c,hlst, -⟩:=hL.form
 clear hT hL hok hb0
 subst hlst
 obtain ⟨n,hn⟩ : ∃ n,L.length = n:=⟨_,rfl⟩
 have HN:=Lib.hid hn
 rw [hn] at HL0 HT0 hs HTf
 clear hn
 go_enter Tryz.func22,Tryz.ntmps22
 go_upto_region 1 with fail
 clear hw0
 generalize hp1 : w.heap.size = p1 at *
 have HP1 : Hid (p1 ≤ w.heap.size):=Lib.hid (Nat.le_of_eq hp1.symm)
 have HPE:=Lib.hid hp1
 clear hp1
 have k1:=K1.out.cell 0
 have k3:=K3.out.cell 0
 simp at k1 k3
 have K10:=K1
 have K30:=K3
 clear K1 K3
 go_wp2_with fail
 refine (HTf.out _ HT0.out).mono ?_
 rintro e w1 ⟨rfl,hb⟩
 clear HTf k1 k3
 have HT1:=Lib.hid (HT0.out.below hb HT0.out.lt)
 have HL1:=Lib.hid (HL0.out.later hb)
 have K11:=Lib.hid (K10.out.below hb K10.out.lt)
 have K31:=Lib.hid (K30.out.below hb K30.out.lt)
 have HB1:=Lib.hid (HB0.out.trans (hb.mono (Nat.le_trans HP1.out HB0.out.size)))
 clear hb HT0 HL0 K10 K30 HB0
 by_cases hF : MF = 0
 case neg =>
  have hF2 : (MF != 0) = true:=by simpa using hF
  obtain rfl:=HR0.out hF
  clear hF HR0 HR1 HA HT1 HL1 K11 K31
  go_wp2_with fail
  go_ret2
  exact ⟨_,rfl,OwnK.nil _ _ _,by rw [HPE.out];exact HB1.out⟩
 replace HA:=HA.out hF
 obtain rfl:=HR1.out hF
 subst hF
 clear HR0 HR1
 have k1:=K11.out.cell 0
 have k3:=K31.out.cell 0
 have tl:=HT1.out.cell 7
 simp [trC] at k1 k3 tl
 go_wp2_with fail
 refine (cloneTk_any ad n c L _ HL1.out.rd HN.out (by omega)).mono ?_
 rintro e w2 ⟨v2,rfl,hO2,hb⟩
 have HV2:=Lib.hid hO2
 have hg1:=Nat.le_trans HP1.out HB1.out.size
 have hsz12:=hb.size
 clear k1 k3 tl
 have HT2:=Lib.hid (HT1.out.below hb HT1.out.lt)
 have K12:=Lib.hid (K11.out.below hb K11.out.lt)
 have K32:=Lib.hid (K31.out.below hb K31.out.lt)
 have HB2:=Lib.hid (HB1.out.trans (hb.mono (Nat.le_trans HP1.out HB1.out.size)))
 clear hb HT1 HL1 K11 K31 HB1
 obtain ⟨a2,c2,hv2, -⟩:=hO2.form
 subst hv2
 rw [HN.out] at HV2 ⊢
 clear hO2
 have egs : ∀ args w,(callFunc 56 args).run Tryz.prog w = .ok (.enter 56 args) w:=Go.Proofs.enters_of Tryz.func56 (by kernel_rfl) rfl
 have HDF:=Lib.hid (deleteFuncTk_any 56 #[.pointer (some ⟨p1,0,none⟩), .pointer (some ⟨p1 + 1,0,none⟩)] (fun x => endB tv x at_) w1.heap.size a2 n c2 L w2 HV2.out (by omega) (by have:=HB2.out.size;have:=hsz12;omega) egs (fun y hy wz hk => tflows1_any T p1 (p1 + 1) rs most last (.slice ad n c) tv y at_ wz (HT2.out.keepT hk (by decide)) (K12.out.keepT hk (by decide)) (K32.out.keepT hk (by decide)) (HOK.out y hy) HA))
 clear egs HT2 K12 K32
 go_wp2_with fail
 refine HDF.out.mono ?_
 rintro e w3 ⟨v3,rfl,hO3,hG3⟩
 clear HDF
 have hb3 : Below p1 w2 w3:=hG3.below (Nat.le_trans HP1.out HB2.out.size) (fun k hk => Nat.le_trans hg1 (own_baseF HV2.out k hk))
 have HB3:=Lib.hid (HB2.out.trans hb3)
 have HV3 : Hid (OwnK layTk w3 w1.heap.size v3 (liveM tv at_ L)):=Lib.hid hO3
 have hl3 : (liveM tv at_ L).length < 20:=Nat.lt_of_le_of_lt (List.length_filter_le _ _) (by rw [HN.out];exact hs)
 clear hO3 hG3 hb3 HB2 HV2 HA HOK
 obtain ⟨LV,hLV⟩ : ∃ x,liveM tv at_ L = x:=⟨_,rfl⟩
 rw [hLV] at HV3 hl3
 have HLV:=Lib.hid hLV
 obtain ⟨a3,c3,hv3, -⟩:=HV3.out.form
 subst hv3
 obtain ⟨n3,hn3⟩ : ∃ n,LV.length = n:=⟨_,rfl⟩
 rw [hn3] at HV3 hl3
 try rw [hLV]
 try rw [hn3]
 clear hn3 hLV
 have eg2 : ∀ args w,(callFunc 59 args).run Tryz.prog w = .ok (.enter 59 args) w:=Go.Proofs.enters_of Tryz.func59 (by kernel_rfl) rfl
 have HSO:=Lib.hid (sortStableTk_any 59 cfT rfl eg2 tcmp_any w1.heap.size n3 c3 a3 LV w3 HV3.out hl3)
 clear eg2
 go_wp2_with fail
 refine HSO.out.mono ?_
 rintro e w4 ⟨rfl,hO4,hG4⟩
 have hb4 : Below p1 w3 w4:=hG4.below (Nat.le_trans HP1.out HB3.out.size) (fun k hk => Nat.le_trans hg1 (own_baseF HV3.out k hk))
 have HB4:=Lib.hid (HB3.out.trans hb4)
 have HV4:=Lib.hid (hO4.weak hg1)
 clear HSO hO4 hG4 hb4 HB3 HV3
 go_wp2_with fail
 go_ret2
 refine ⟨_,rfl,?_,by rw [HPE.out];exact HB4.out⟩
 rw [HPE.out,HLV.out]
 exact HV4.out
theorem qflows_any (T B : Nat) (rs : Value) (tv : TV) (most last : Int) (lst : Value) (L : List TK) (at_ : Int) (w : World) (hT : Blk w T 44 (tcC rs tv most last lst)) (hL : OwnK layTk w B lst L) (hok : TkOk L) (hs : L.length < 20) :
  Calls Tryz.prog 23 #[.pointer (some ⟨T,0,none⟩), .int .i64 at_] w fun e w' => ∃ v,e = .returned (.tuple #[v, .int .i64 (momF at_ last)]) ∧ OwnK layTk w' w.heap.size v (flowsM tv last at_ L) ∧ Below w.heap.size w w':=by
 obtain ⟨MF,hMF⟩ : ∃ MF,momF at_ last = MF:=⟨_,rfl⟩
 obtain ⟨R,hR⟩ : ∃ R,flowsM tv last at_ L = R:=⟨_,rfl⟩
 have HR0 : Hid (MF ≠ 0 → R = []):=Lib.hid fun h => by rw [← hR];unfold flowsM;rw [hMF,if_neg h]
 have HR1 : Hid (MF = 0 → R = stabT (liveM tv at_ L)):=Lib.hid fun h => by rw [← hR];unfold flowsM;rw [hMF,if_pos h]
 have HA : Hid (MF = 0 → 0 ≤ at_ ∧ at_ < 345686400):=Lib.hid fun h => (momF_zero (hMF.trans h)).1
 have HI:=Lib.hid fun wx => moment_any at_ wx
 obtain ⟨RB,hRB⟩ : ∃ R,(decide (0 ≤ at_) && decide (at_ < 345686400)) = R:=⟨_,rfl⟩
 have HM1 : Hid (RB = false → MF = 1):=Lib.hid fun e => by
  rw [← hMF]
  unfold momF
  rw [if_pos (by rw [e] at hRB;simp at hRB;omega)]
 have HM2 : Hid (RB = true → MF = if at_ < last then 7 else 0):=Lib.hid fun e => by
  rw [← hMF]
  unfold momF
  rw [if_neg (by rw [e] at hRB;simp at hRB;omega)]
 rw [hRB] at HI
 rw [hMF,hR]
 clear hMF hR hRB
 obtain ⟨w0,hw0⟩ : ∃ w0,(w.alloc (.cells #[.pointer (some ⟨T,0,none⟩)] 41 (0,0))).alloc (.cells #[.int .i64 at_] 3 (0,0)) = w0:=⟨_,rfl⟩
 have hb0 : Below w.heap.size w w0:=by rw [← hw0];exact below_alloc (below_alloc (Below.refl _ _) _) _
 have K1 : Hid (Blk w0 w.heap.size 41 #[.pointer (some ⟨T,0,none⟩)]):=Lib.hid (by rw [← hw0];exact (Blk.new w _ _).alloc _)
 have K3 : Hid (Blk w0 (w.heap.size + 1) 3 #[.int .i64 at_]):=Lib.hid (by
  rw [← hw0]
  have this:=Blk.new (w.alloc (.cells #[.pointer (some ⟨T,0,none⟩)] 41 (0,0))) 3 #[.int .i64 at_]
  rw [World.size_alloc] at this
  exact this)
 have HT0:=Lib.hid (hT.below hb0 hT.lt)
 have HL0:=Lib.hid (hL.later hb0)
 have HB0:=Lib.hid hb0
 have HOK:=Lib.hid hok
 obtain ⟨ad,c,hlst, -⟩:=hL.form
 clear hT hL hok hb0
 subst hlst
 obtain ⟨n,hn⟩ : ∃ n,L.length = n:=⟨_,rfl⟩
 have HN:=Lib.hid hn
 rw [hn] at HL0 HT0 hs
 clear hn
 go_enter Tryz.func23,Tryz.ntmps23
 go_upto_region 1 with fail
 clear hw0
 generalize hp1 : w.heap.size = p1 at *
 have HP1 : Hid (p1 ≤ w.heap.size):=Lib.hid (Nat.le_of_eq hp1.symm)
 have HPE:=Lib.hid hp1
 clear hp1
 have k1:=K1.out.cell 0
 have k3:=K3.out.cell 0
 simp at k1 k3
 have K10:=K1
 have K30:=K3
 clear K1 K3
 go_wp2_with fail
 refine (HI.out _).mono ?_
 rintro e w1 ⟨rfl,hb⟩
 clear HI k1 k3
 have HT1:=Lib.hid (HT0.out.below hb HT0.out.lt)
 have HL1:=Lib.hid (HL0.out.later hb)
 have K11:=Lib.hid (K10.out.below hb K10.out.lt)
 have K31:=Lib.hid (K30.out.below hb K30.out.lt)
 have HB1:=Lib.hid (HB0.out.trans (hb.mono (Nat.le_trans HP1.out HB0.out.size)))
 clear hb HT0 HL0 K10 K30 HB0
 cases RB
 case false =>
  obtain rfl:=HM1.out rfl
  obtain rfl:=HR0.out (by decide)
  clear HM1 HM2 HR0 HR1 HA HT1 HL1 K11 K31
  go_wp2_with fail
  go_ret2
  exact ⟨_,rfl,OwnK.nil _ _ _,by rw [HPE.out];exact HB1.out⟩
 have hm2:=HM2.out rfl
 clear HM1 HM2
 have k1:=K11.out.cell 0
 have k3:=K31.out.cell 0
 have t7:=HT1.out.cell 7
 simp [tcC] at k1 k3 t7
 have m1:=Later.cell_of k1
 have m3:=Later.cell_of k3
 have m7:=Later.cell_of t7
 clear k1 k3 t7
 go_upto_region 3 with fail
 by_cases hl : at_ < last
 case pos =>
  rw [if_pos hl] at hm2
  subst hm2
  obtain rfl:=HR0.out (by decide)
  clear HR0 HR1 HA
  refine wp_region_later (by kernel_rfl) (by kernel_rfl) ?_
  repeat (go_big_quiet_step (fail))
  refine wpQuiet_nil ?_
  first
   | (rintro w2 ⟨m2,hm2⟩
      have hb : Below w1.heap.size w1 w2:=by rw [hm2];exact m2.2
      clear hm2 m2)
   | (rintro ⟨w2,hb⟩
      simp only)
  have HB2:=Lib.hid (HB1.out.trans (hb.mono (Nat.le_trans HP1.out HB1.out.size)))
  go_wp2_with fail
  go_ret2
  exact ⟨_,rfl,OwnK.nil _ _ _,by rw [HPE.out];exact HB2.out⟩
 rw [if_neg hl] at hm2
 subst hm2
 replace HA:=HA.out rfl
 obtain rfl:=HR1.out rfl
 clear HR0 HR1
 refine wp_region_later (by kernel_rfl) (by kernel_rfl) ?_
 repeat (go_big_quiet_step (fail))
 refine wpQuiet_nil ?_
 first
  | (rintro w5 ⟨m2,hm2⟩
     have hb : Below w1.heap.size w1 w5:=by rw [hm2];exact m2.2
     clear hm2 m2)
  | (rintro ⟨w5,hb⟩
     simp only)
 have HB2:=Lib.hid (HB1.out.trans (hb.mono (Nat.le_trans HP1.out HB1.out.size)))
 have HT1:=Lib.hid (HT1.out.below hb HT1.out.lt)
 have HL1:=Lib.hid (HL1.out.later hb)
 have K11:=Lib.hid (K11.out.below hb K11.out.lt)
 have K31:=Lib.hid (K31.out.below hb K31.out.lt)
 have HB1:=HB2
 clear HB2 hb m1 m3 m7
 go_upto_region 5 with fail
 have k1:=K11.out.cell 0
 have k3:=K31.out.cell 0
 have tl:=HT1.out.cell 6
 simp [tcC] at k1 k3 tl
 go_wp2_with fail
 refine (cloneTk_any ad n c L _ HL1.out.rd HN.out (by omega)).mono ?_
 rintro e w2 ⟨v2,rfl,hO2,hb⟩
 have HV2:=Lib.hid hO2
 have hg1:=Nat.le_trans HP1.out HB1.out.size
 have hsz12:=hb.size
 clear k1 k3 tl
 have HT2:=Lib.hid (HT1.out.below hb HT1.out.lt)
 have K12:=Lib.hid (K11.out.below hb K11.out.lt)
 have K32:=Lib.hid (K31.out.below hb K31.out.lt)
 have HB2:=Lib.hid (HB1.out.trans (hb.mono (Nat.le_trans HP1.out HB1.out.size)))
 clear hb HT1 HL1 K11 K31 HB1
 obtain ⟨a2,c2,hv2, -⟩:=hO2.form
 subst hv2
 rw [HN.out] at HV2 ⊢
 clear hO2
 have egs : ∀ args w,(callFunc 61 args).run Tryz.prog w = .ok (.enter 61 args) w:=Go.Proofs.enters_of Tryz.func61 (by kernel_rfl) rfl
 have HDF:=Lib.hid (deleteFuncTk_any 61 #[.pointer (some ⟨p1,0,none⟩), .pointer (some ⟨p1 + 1,0,none⟩)] (fun x => endB tv x at_) w5.heap.size a2 n c2 L w2 HV2.out (by omega) (by have:=HB2.out.size;have:=hsz12;omega) egs (fun y hy wz hk => qflows1_any T p1 (p1 + 1) rs most last (.slice ad n c) tv y at_ wz (HT2.out.keepT hk (by decide)) (K12.out.keepT hk (by decide)) (K32.out.keepT hk (by decide)) (HOK.out y hy) HA))
 clear egs HT2 K12 K32
 go_wp2_with fail
 refine HDF.out.mono ?_
 rintro e w3 ⟨v3,rfl,hO3,hG3⟩
 clear HDF
 have hb3 : Below p1 w2 w3:=hG3.below (Nat.le_trans HP1.out HB2.out.size) (fun k hk => Nat.le_trans hg1 (own_baseF HV2.out k hk))
 have HB3:=Lib.hid (HB2.out.trans hb3)
 have HV3 : Hid (OwnK layTk w3 w5.heap.size v3 (liveM tv at_ L)):=Lib.hid hO3
 have hl3 : (liveM tv at_ L).length < 20:=Nat.lt_of_le_of_lt (List.length_filter_le _ _) (by rw [HN.out];exact hs)
 clear hO3 hG3 hb3 HB2 HV2 HA HOK
 obtain ⟨LV,hLV⟩ : ∃ x,liveM tv at_ L = x:=⟨_,rfl⟩
 rw [hLV] at HV3 hl3
 have HLV:=Lib.hid hLV
 obtain ⟨a3,c3,hv3, -⟩:=HV3.out.form
 subst hv3
 obtain ⟨n3,hn3⟩ : ∃ n,LV.length = n:=⟨_,rfl⟩
 rw [hn3] at HV3 hl3
 try rw [hLV]
 try rw [hn3]
 clear hn3 hLV
 have eg2 : ∀ args w,(callFunc 63 args).run Tryz.prog w = .ok (.enter 63 args) w:=Go.Proofs.enters_of Tryz.func63 (by kernel_rfl) rfl
 have HSO:=Lib.hid (sortStableTk_any 63 (fun x y => sgn (cfT x y)) ltT_eq eg2 qcmp_any w5.heap.size n3 c3 a3 LV w3 HV3.out hl3)
 clear eg2
 go_wp2_with fail
 refine HSO.out.mono ?_
 rintro e w4 ⟨rfl,hO4,hG4⟩
 have hb4 : Below p1 w3 w4:=hG4.below (Nat.le_trans HP1.out HB3.out.size) (fun k hk => Nat.le_trans hg1 (own_baseF HV3.out k hk))
 have HB4:=Lib.hid (HB3.out.trans hb4)
 have HV4:=Lib.hid (hO4.weak hg1)
 clear HSO hO4 hG4 hb4 HB3 HV3
 go_wp2_with fail
 go_ret2
 refine ⟨_,rfl,?_,by rw [HPE.out];exact HB4.out⟩
 rw [HPE.out,HLV.out]
 exact HV4.out
theorem tout_any (T B : Nat) (rs : Value) (tv : TV) (most last : Int) (lst : Value) (L : List TK) (x : PV) (pa : Option Addr) (n pc : Nat) (at_ : Int) (w : World) (hT : Blk w T 80 (trC rs tv most last lst)) (hL : OwnK layTk w B lst L) (hB : B ≤ w.heap.size) (hok : TkOk L) (hs : L.length ≤ 1000) (hm : 1 ≤ most ∧ most ≤ 1000) (hx : x.ok) (hp : x.pay = .slice pa n pc) :
  Calls Tryz.prog 19 #[.pointer (some ⟨T,0,none⟩), .agg x.cells, .int .i64 at_] w fun e w' => ∃ lst',e = .returned (.int .i64 (outM (pktFault x n) tv most last at_ x.flow (x.fin || x.rst) L).1) ∧ Blk w' T 80 (trC rs tv most (outM (pktFault x n) tv most last at_ x.flow (x.fin || x.rst) L).2.1 lst') ∧ OwnK layTk w' B lst' (outM (pktFault x n) tv most last at_ x.flow (x.fin || x.rst) L).2.2 ∧ Chg T lst lst' w w':=by
 obtain ⟨R,hR⟩ : ∃ R,outM (pktFault x n) tv most last at_ x.flow (x.fin || x.rst) L = R:=⟨_,rfl⟩
 obtain ⟨PF,hPF⟩ : ∃ PF,pktFault x n = PF:=⟨_,rfl⟩
 obtain ⟨MF,hMF⟩ : ∃ MF,momF at_ last = MF:=⟨_,rfl⟩
 obtain ⟨SB,hSB⟩ : ∃ SB,(seeM tv x.flow (x.fin || x.rst) at_ L).1 = SB:=⟨_,rfl⟩
 obtain ⟨SL,hSL⟩ : ∃ SL,(seeM tv x.flow (x.fin || x.rst) at_ L).2 = SL:=⟨_,rfl⟩
 obtain ⟨TL,hTL⟩ : ∃ TL,trackM most x.flow (x.fin || x.rst) at_ SL = TL:=⟨_,rfl⟩
 have hRR : R = (if PF ≠ 0 then (PF,last,L) else if MF ≠ 0 then (MF,last,L) else if SB = true then (0,at_,SL) else (0,at_,TL)):=by
  rw [← hR]
  unfold outM
  rw [hPF,hMF,hSB,hSL,hTL]
 have R1 : Hid (PF ≠ 0 → R = (PF,last,L)):=Lib.hid fun h => by rw [hRR,if_pos h]
 have R2 : Hid (PF = 0 → MF ≠ 0 → R = (MF,last,L)):=Lib.hid fun h h2 => by rw [hRR,if_neg (by simp [h]),if_pos h2]
 have R3 : Hid (PF = 0 → MF = 0 → SB = true → R = (0,at_,SL)):=Lib.hid fun h h2 h3 => by rw [hRR,if_neg (by simp [h]),if_neg (by simp [h2]),if_pos h3]
 have R4 : Hid (PF = 0 → MF = 0 → SB = false → R = (0,at_,TL)):=Lib.hid fun h h2 h3 => by rw [hRR,if_neg (by simp [h]),if_neg (by simp [h2]),if_neg (by simp [h3])]
 rw [hR]
 have HCk:=Lib.hid fun wx => checkPacket_any x pa n pc wx hx hp
 have HTf:=Lib.hid fun (wx : World) (h : Blk wx T 80 (trC rs tv most last lst)) => timeFault_any T rs tv most last lst at_ wx h
 rw [hPF] at HCk
 rw [hMF] at HTf
 have hm0 : PF = 0 → MF = 0 → momF at_ last = 0 ∧ pktFault x n = 0:=fun h h2 => ⟨hMF.trans h2,hPF.trans h⟩
 have HSee : Hid (PF = 0 → MF = 0 → ∀ wx,Blk wx T 80 (trC rs tv most last lst) → OwnK layTk wx B lst L → B ≤ wx.heap.size → Calls Tryz.prog 45 #[.pointer (some ⟨T,0,none⟩), .agg x.cells, .int .i64 at_] wx fun e w' => ∃ lst',e = .returned (.bool SB) ∧ Blk w' T 80 (trC rs tv most at_ lst') ∧ OwnK layTk w' B lst' SL ∧ Chg T lst lst' wx w'):=Lib.hid fun h h2 wx k1 k2 k3 => by
  have:=tsee_any T B rs tv most last lst L x at_ wx k1 k2 k3 hok hs (momF_zero (hm0 h h2 ).1).1
  rwa [hSB,hSL] at this
 have HTr : Hid (PF = 0 → MF = 0 → ∀ wx lst2,Blk wx T 80 (trC rs tv most at_ lst2) → OwnK layTk wx B lst2 SL → B ≤ wx.heap.size → Calls Tryz.prog 48 #[.pointer (some ⟨T,0,none⟩), .agg x.cells, .int .i64 at_] wx fun e w' => ∃ lst',e = .returned (.tuple #[]) ∧ Blk w' T 80 (trC rs tv most at_ lst') ∧ OwnK layTk w' B lst' TL ∧ Chg T lst2 lst' wx w'):=Lib.hid fun h h2 wx lst2 k1 k2 k3 => by
  have h9:=(seeM_ok (tv:=tv) (f:=x.flow) (fin:=x.fin || x.rst) hok (momF_zero (hm0 h h2 ).1).1).2
  rw [hSL] at h9
  have:=ttrack_any T B rs tv most at_ lst2 SL x at_ wx k1 k2 k3 (by omega) hm
  rwa [hTL] at this
 have HK : Hid (Blk (w.alloc (.cells x.cells 52 (0,0))) w.heap.size 52 x.cells):=Lib.hid (Blk.new w _ _)
 have hb0 : Below w.heap.size w (w.alloc (.cells x.cells 52 (0,0))):=below_alloc (Below.refl _ _) _
 have HT1:=Lib.hid (hT.below hb0 hT.lt)
 have HL1:=Lib.hid (hL.later hb0)
 have HC1 : Hid (Chg T lst lst w (w.alloc (.cells x.cells 52 (0,0)))):=Lib.hid (Chg.of_below hb0)
 have HB1 : Hid (B ≤ (w.alloc (.cells x.cells 52 (0,0))).heap.size):=Lib.hid (Nat.le_trans hB hb0.size)
 have hXs : x.cells.toList.length = 19:=rfl
 have hXz : (Tryz.prog.info? 52).map (·.size) = some 19:=by kernel_rfl
 have hXu : Tryz.prog.underlying 52 = some (.struct (Tryz.prog.fieldsOf 52)):=by kernel_rfl
 clear hT hL hb0 hB hok hs hm hx hp hR hPF hMF hSB hSL hTL hRR hm0 
 generalize x.cells = X at *
 go_enter Tryz.func19,Tryz.ntmps19
 go_upto_region 1 with fail
 generalize (w.alloc (.cells X 52 (0,0))) = w1 at *
 generalize w.heap.size = p at *
 have HR1 : Hid (w1.rangeAt p 0 X.toList):=Lib.hid (Blk.range HK.out)
 go_wp2_with (refine wpList_loadn rfl 52 _ rfl p 0 rfl _ _ HR1.out hXu rfl 19 hXz hXs ?_;try go_simp)
 refine (HCk.out _).mono ?_
 rintro e w2 ⟨rfl,hb⟩
 clear HR1 HCk
 have HT2:=Lib.hid (HT1.out.below hb HT1.out.lt)
 have HL2:=Lib.hid (HL1.out.later hb)
 have HC2 : Hid (Chg T lst lst w w2):=Lib.hid (HC1.out.trans (Chg.of_below hb))
 have HB2 : Hid (B ≤ w2.heap.size):=Lib.hid (Nat.le_trans HB1.out hb.size)
 have HK2:=Lib.hid (HK.out.below hb HK.out.lt)
 clear hb HT1 HL1 HC1 HB1 HK
 by_cases hF : PF = 0
 case neg =>
  have hF2 : (PF != 0) = true:=by simpa using hF
  obtain rfl:=R1.out hF
  clear hF R1 R2 R3 R4 HSee HTr HTf
  go_wp2_with fail
  go_ret
  first | exact ⟨rfl,_,HT2.out,HL2.out,HC2.out⟩ | exact ⟨_,rfl,HT2.out,HL2.out,HC2.out⟩
 replace R2:=Lib.hid (R2.out hF)
 replace R3:=Lib.hid (R3.out hF)
 replace R4:=Lib.hid (R4.out hF)
 replace HSee:=Lib.hid (HSee.out hF)
 replace HTr:=Lib.hid (HTr.out hF)
 clear R1
 subst hF
 go_wp2_with fail
 refine (HTf.out _ HT2.out).mono ?_
 rintro e w3 ⟨rfl,hb⟩
 clear HTf
 have HT3:=Lib.hid (HT2.out.below hb HT2.out.lt)
 have HL3:=Lib.hid (HL2.out.later hb)
 have HC3 : Hid (Chg T lst lst w w3):=Lib.hid (HC2.out.trans (Chg.of_below hb))
 have HB3 : Hid (B ≤ w3.heap.size):=Lib.hid (Nat.le_trans HB2.out hb.size)
 have HK3:=Lib.hid (HK2.out.below hb HK2.out.lt)
 clear hb HT2 HL2 HC2 HB2 HK2
 by_cases hF : MF = 0
 case neg =>
  have hF2 : (MF != 0) = true:=by simpa using hF
  obtain rfl:=R2.out hF
  clear hF R2 R3 R4 HSee HTr
  go_wp2_with fail
  go_ret
  first | exact ⟨rfl,_,HT3.out,HL3.out,HC3.out⟩ | exact ⟨_,rfl,HT3.out,HL3.out,HC3.out⟩
 replace R3:=Lib.hid (R3.out hF)
 replace R4:=Lib.hid (R4.out hF)
 replace HSee:=Lib.hid (HSee.out hF)
 replace HTr:=Lib.hid (HTr.out hF)
 clear R2
 subst hF
 have HR3 : Hid (w3.rangeAt p 0 X.toList):=Lib.hid (Blk.range HK3.out)
 go_wp2_with (refine wpList_loadn rfl 52 _ rfl p 0 rfl _ _ HR3.out hXu rfl 19 hXz hXs ?_;try go_simp)
 refine (HSee.out _ HT3.out HL3.out HB3.out).mono ?_
 rintro e w4 ⟨lst4,rfl,hT4,hL4,hC4⟩
 have hk:=KeepT.of_chg HT3.out HL3.out hC4
 have HT4:=Lib.hid hT4
 have HL4:=Lib.hid hL4
 have HC4 : Hid (Chg T lst lst4 w w4):=Lib.hid (HC3.out.trans hC4)
 have HB4 : Hid (B ≤ w4.heap.size):=Lib.hid (Nat.le_trans HB3.out hk.1)
 have HK4:=Lib.hid (HK3.out.keepT hk (by decide))
 clear hk hT4 hL4 hC4 HT3 HL3 HC3 HB3 HK3 HR3 HSee
 cases SB
 ·obtain rfl:=R4.out rfl
  clear R3 R4
  have HR4 : Hid (w4.rangeAt p 0 X.toList):=Lib.hid (Blk.range HK4.out)
  go_wp2_with (refine wpList_loadn rfl 52 _ rfl p 0 rfl _ _ HR4.out hXu rfl 19 hXz hXs ?_;try go_simp)
  refine (HTr.out _ _ HT4.out HL4.out HB4.out).mono ?_
  rintro e w6 ⟨lst6,rfl,hT6,hL6,hC6⟩
  have HT6:=Lib.hid hT6
  have HL6:=Lib.hid hL6
  have HC6 : Hid (Chg T lst lst6 w w6):=Lib.hid (HC4.out.trans hC6)
  clear hT6 hL6 hC6 HT4 HL4 HC4 HB4 HK4 HR4 HTr
  go_wp2_with fail
  go_ret
  first | exact ⟨rfl,_,HT6.out,HL6.out,HC6.out⟩ | exact ⟨_,rfl,HT6.out,HL6.out,HC6.out⟩
 ·obtain rfl:=R3.out rfl
  clear R3 R4 HTr
  go_wp2_with fail
  go_ret
  first | exact ⟨rfl,_,HT4.out,HL4.out,HC4.out⟩ | exact ⟨_,rfl,HT4.out,HL4.out,HC4.out⟩
theorem qout_any (T B : Nat) (rs : Value) (tv : TV) (most last : Int) (lst : Value) (L : List TK) (x : PV) (pa : Option Addr) (n pc : Nat) (at_ : Int) (w : World) (hT : Blk w T 44 (tcC rs tv most last lst)) (hL : OwnK layTk w B lst L) (hB : B ≤ w.heap.size) (hok : TkOk L) (hs : L.length ≤ 1000) (hm : 1 ≤ most ∧ most ≤ 1000) (hx : x.ok) (hp : x.pay = .slice pa n pc) :
  Calls Tryz.prog 20 #[.pointer (some ⟨T,0,none⟩), .agg x.cells, .int .i64 at_] w fun e w' => ∃ lst',e = .returned (.int .i64 (outM (pktFault x n) tv most last at_ x.flow (x.fin || x.rst) L).1) ∧ Blk w' T 44 (tcC rs tv most (outM (pktFault x n) tv most last at_ x.flow (x.fin || x.rst) L).2.1 lst') ∧ OwnK layTk w' B lst' (outM (pktFault x n) tv most last at_ x.flow (x.fin || x.rst) L).2.2 ∧ Chg T lst lst' w w':=by
 obtain ⟨R,hR⟩ : ∃ R,outM (pktFault x n) tv most last at_ x.flow (x.fin || x.rst) L = R:=⟨_,rfl⟩
 obtain ⟨PF,hPF⟩ : ∃ PF,pktFault x n = PF:=⟨_,rfl⟩
 obtain ⟨MF,hMF⟩ : ∃ MF,momF at_ last = MF:=⟨_,rfl⟩
 obtain ⟨SB,hSB⟩ : ∃ SB,(seeM tv x.flow (x.fin || x.rst) at_ L).1 = SB:=⟨_,rfl⟩
 obtain ⟨SL,hSL⟩ : ∃ SL,(seeM tv x.flow (x.fin || x.rst) at_ L).2 = SL:=⟨_,rfl⟩
 obtain ⟨TL,hTL⟩ : ∃ TL,trackM most x.flow (x.fin || x.rst) at_ SL = TL:=⟨_,rfl⟩
 have hRR : R = (if PF ≠ 0 then (PF,last,L) else if MF ≠ 0 then (MF,last,L) else if SB = true then (0,at_,SL) else (0,at_,TL)):=by
  rw [← hR]
  unfold outM
  rw [hPF,hMF,hSB,hSL,hTL]
 obtain ⟨E,hE⟩ : ∃ E,(if PF ≠ 0 then PF else MF) = E:=⟨_,rfl⟩
 have hE0 : E = 0 → PF = 0 ∧ MF = 0:=fun h => by
  by_cases h1 : PF = 0
  ·rw [if_neg (by simp [h1])] at hE;exact ⟨h1,hE.trans h⟩
  ·rw [if_pos h1] at hE;exact absurd (hE.trans h) h1
 have R1 : Hid (E ≠ 0 → R = (E,last,L)):=Lib.hid fun h => by
  rw [hRR]
  by_cases h1 : PF = 0
  ·rw [if_neg (by simp [h1])] at hE
   rw [if_neg (by simp [h1]),hE,if_pos h]
  ·rw [if_pos h1] at hE
   rw [if_pos h1,hE]
 have R3 : Hid (E = 0 → SB = true → R = (0,at_,SL)):=Lib.hid fun h h3 => by rw [hRR,if_neg (by simp [(hE0 h).1]),if_neg (by simp [(hE0 h).2]),if_pos h3]
 have R4 : Hid (E = 0 → SB = false → R = (0,at_,TL)):=Lib.hid fun h h3 => by rw [hRR,if_neg (by simp [(hE0 h).1]),if_neg (by simp [(hE0 h).2]),if_neg (by simp [h3])]
 rw [hR]
 have HTf:=Lib.hid fun (wx : World) (h : Blk wx T 44 (tcC rs tv most last lst)) => qfault_any T rs tv most last lst x pa n pc at_ wx h hx hp
 rw [hPF,hMF,hE] at HTf
 have hm0 : E = 0 → momF at_ last = 0 ∧ pktFault x n = 0:=fun h => ⟨hMF.trans (hE0 h).2,hPF.trans (hE0 h).1⟩
 have HSee : Hid (E = 0 → ∀ wx,Blk wx T 44 (tcC rs tv most last lst) → OwnK layTk wx B lst L → B ≤ wx.heap.size → Calls Tryz.prog 50 #[.pointer (some ⟨T,0,none⟩), .agg x.cells, .int .i64 at_] wx fun e w' => ∃ lst',e = .returned (.bool SB) ∧ Blk w' T 44 (tcC rs tv most at_ lst') ∧ OwnK layTk w' B lst' SL ∧ Chg T lst lst' wx w'):=Lib.hid fun h wx k1 k2 k3 => by
  have:=qsee_any T B rs tv most last lst L x at_ wx k1 k2 k3 hok hs (momF_zero (hm0 h ).1).1
  rwa [hSB,hSL] at this
 have HTr : Hid (E = 0 → ∀ wx lst2,Blk wx T 44 (tcC rs tv most at_ lst2) → OwnK layTk wx B lst2 SL → B ≤ wx.heap.size → Calls Tryz.prog 53 #[.pointer (some ⟨T,0,none⟩), .agg x.cells, .int .i64 at_] wx fun e w' => ∃ lst',e = .returned (.tuple #[]) ∧ Blk w' T 44 (tcC rs tv most at_ lst') ∧ OwnK layTk w' B lst' TL ∧ Chg T lst2 lst' wx w'):=Lib.hid fun h wx lst2 k1 k2 k3 => by
  have h9:=(seeM_ok (tv:=tv) (f:=x.flow) (fin:=x.fin || x.rst) hok (momF_zero (hm0 h ).1).1).2
  rw [hSL] at h9
  have:=qtrack_any T B rs tv most at_ lst2 SL x at_ wx k1 k2 k3 (by omega) hm
  rwa [hTL] at this
 have HK : Hid (Blk (w.alloc (.cells x.cells 52 (0,0))) w.heap.size 52 x.cells):=Lib.hid (Blk.new w _ _)
 have hb0 : Below w.heap.size w (w.alloc (.cells x.cells 52 (0,0))):=below_alloc (Below.refl _ _) _
 have HT1:=Lib.hid (hT.below hb0 hT.lt)
 have HL1:=Lib.hid (hL.later hb0)
 have HC1 : Hid (Chg T lst lst w (w.alloc (.cells x.cells 52 (0,0)))):=Lib.hid (Chg.of_below hb0)
 have HB1 : Hid (B ≤ (w.alloc (.cells x.cells 52 (0,0))).heap.size):=Lib.hid (Nat.le_trans hB hb0.size)
 have hXs : x.cells.toList.length = 19:=rfl
 have hXz : (Tryz.prog.info? 52).map (·.size) = some 19:=by kernel_rfl
 have hXu : Tryz.prog.underlying 52 = some (.struct (Tryz.prog.fieldsOf 52)):=by kernel_rfl
 clear hT hL hb0 hB hok hs hm hx hp hR hPF hMF hSB hSL hTL hRR hm0 hE hE0 
 generalize x.cells = X at *
 go_enter Tryz.func20,Tryz.ntmps20
 go_upto_region 1 with fail
 generalize (w.alloc (.cells X 52 (0,0))) = w1 at *
 generalize w.heap.size = p at *
 have HR1 : Hid (w1.rangeAt p 0 X.toList):=Lib.hid (Blk.range HK.out)
 go_wp2_with (refine wpList_loadn rfl 52 _ rfl p 0 rfl _ _ HR1.out hXu rfl 19 hXz hXs ?_;try go_simp)
 refine (HTf.out _ HT1.out).mono ?_
 rintro e w3 ⟨rfl,hb⟩
 clear HR1 HTf
 have HT3:=Lib.hid (HT1.out.below hb HT1.out.lt)
 have HL3:=Lib.hid (HL1.out.later hb)
 have HC3 : Hid (Chg T lst lst w w3):=Lib.hid (HC1.out.trans (Chg.of_below hb))
 have HB3 : Hid (B ≤ w3.heap.size):=Lib.hid (Nat.le_trans HB1.out hb.size)
 have HK3:=Lib.hid (HK.out.below hb HK.out.lt)
 clear hb HT1 HL1 HC1 HB1 HK
 by_cases hF : E = 0
 case neg =>
  have hF2 : (E != 0) = true:=by simpa using hF
  obtain rfl:=R1.out hF
  clear hF R1 R3 R4 HSee HTr
  go_wp2_with fail
  go_ret
  first | exact ⟨rfl,_,HT3.out,HL3.out,HC3.out⟩ | exact ⟨_,rfl,HT3.out,HL3.out,HC3.out⟩
 replace R3:=Lib.hid (R3.out hF)
 replace R4:=Lib.hid (R4.out hF)
 replace HSee:=Lib.hid (HSee.out hF)
 replace HTr:=Lib.hid (HTr.out hF)
 clear R1
 subst hF
 have HR3 : Hid (w3.rangeAt p 0 X.toList):=Lib.hid (Blk.range HK3.out)
 go_wp2_with (refine wpList_loadn rfl 52 _ rfl p 0 rfl _ _ HR3.out hXu rfl 19 hXz hXs ?_;try go_simp)
 refine (HSee.out _ HT3.out HL3.out HB3.out).mono ?_
 rintro e w4 ⟨lst4,rfl,hT4,hL4,hC4⟩
 have hk:=KeepT.of_chg HT3.out HL3.out hC4
 have HT4:=Lib.hid hT4
 have HL4:=Lib.hid hL4
 have HC4 : Hid (Chg T lst lst4 w w4):=Lib.hid (HC3.out.trans hC4)
 have HB4 : Hid (B ≤ w4.heap.size):=Lib.hid (Nat.le_trans HB3.out hk.1)
 have HK4:=Lib.hid (HK3.out.keepT hk (by decide))
 clear hk hT4 hL4 hC4 HT3 HL3 HC3 HB3 HK3 HR3 HSee
 cases SB
 ·obtain rfl:=R4.out rfl
  clear R3 R4
  have HR4 : Hid (w4.rangeAt p 0 X.toList):=Lib.hid (Blk.range HK4.out)
  go_wp2_with (refine wpList_loadn rfl 52 _ rfl p 0 rfl _ _ HR4.out hXu rfl 19 hXz hXs ?_;try go_simp)
  refine (HTr.out _ _ HT4.out HL4.out HB4.out).mono ?_
  rintro e w6 ⟨lst6,rfl,hT6,hL6,hC6⟩
  have HT6:=Lib.hid hT6
  have HL6:=Lib.hid hL6
  have HC6 : Hid (Chg T lst lst6 w w6):=Lib.hid (HC4.out.trans hC6)
  clear hT6 hL6 hC6 HT4 HL4 HC4 HB4 HK4 HR4 HTr
  go_wp2_with fail
  go_ret
  first | exact ⟨rfl,_,HT6.out,HL6.out,HC6.out⟩ | exact ⟨_,rfl,HT6.out,HL6.out,HC6.out⟩
 ·obtain rfl:=R3.out rfl
  clear R3 R4 HTr
  go_wp2_with fail
  go_ret
  first | exact ⟨rfl,_,HT4.out,HL4.out,HC4.out⟩ | exact ⟨_,rfl,HT4.out,HL4.out,HC4.out⟩
theorem tin_any (T B : Nat) (ra : Option Addr) (rn rc : Nat) (F : List FR) (B2 : Nat) (tv : TV) (most last : Int) (lst : Value) (L : List TK) (x : PV) (pa : Option Addr) (n pc : Nat) (at_ : Int) (w : World) (hT : Blk w T 80 (trC (.slice ra rn rc) tv most last lst)) (hL : OwnK layTk w B lst L) (hB : B ≤ w.heap.size) (hok : TkOk L) (hs : L.length ≤ 1000) (hm : 1 ≤ most ∧ most ≤ 1000) (hx : x.ok) (hp : x.pay = .slice pa n pc) (hr : FwO w B2 (.slice ra rn rc) F) (hv : ∀ r ∈ F,r.Ok) (hF : F.length ≤ 1000) :
  Calls Tryz.prog 17 #[.pointer (some ⟨T,0,none⟩), .agg x.cells, .int .i64 at_] w fun e w' => ∃ lst',e = .returned (.tuple #[.bool (inM (pktFault x n) (decV F x.flow) tv most last at_ x.flow (x.fin || x.rst) L).1.1, .int .i64 (inM (pktFault x n) (decV F x.flow) tv most last at_ x.flow (x.fin || x.rst) L).1.2]) ∧ Blk w' T 80 (trC (.slice ra rn rc) tv most (inM (pktFault x n) (decV F x.flow) tv most last at_ x.flow (x.fin || x.rst) L).2.1 lst') ∧ OwnK layTk w' B lst' (inM (pktFault x n) (decV F x.flow) tv most last at_ x.flow (x.fin || x.rst) L).2.2 ∧ Chg T lst lst' w w':=by
 obtain ⟨R,hR⟩ : ∃ R,inM (pktFault x n) (decV F x.flow) tv most last at_ x.flow (x.fin || x.rst) L = R:=⟨_,rfl⟩
 obtain ⟨PF,hPF⟩ : ∃ PF,pktFault x n = PF:=⟨_,rfl⟩
 obtain ⟨MF,hMF⟩ : ∃ MF,momF at_ last = MF:=⟨_,rfl⟩
 obtain ⟨SB,hSB⟩ : ∃ SB,(seeM tv x.flow (x.fin || x.rst) at_ L).1 = SB:=⟨_,rfl⟩
 obtain ⟨SL,hSL⟩ : ∃ SL,(seeM tv x.flow (x.fin || x.rst) at_ L).2 = SL:=⟨_,rfl⟩
 obtain ⟨TL,hTL⟩ : ∃ TL,trackM most x.flow (x.fin || x.rst) at_ SL = TL:=⟨_,rfl⟩
 obtain ⟨D,hD⟩ : ∃ D,decV F x.flow = D:=⟨_,rfl⟩
 have hRR : R = (if PF ≠ 0 then ((false,PF),last,L) else if MF ≠ 0 then ((false,MF),last,L) else if SB = true then ((true,0),at_,SL) else if D = true then ((true,0),at_,TL) else ((false,0),at_,SL)):=by
  rw [← hR]
  unfold inM
  rw [hD,hPF,hMF,hSB,hSL,hTL]
 have R1 : Hid (PF ≠ 0 → R = ((false,PF),last,L)):=Lib.hid fun h => by rw [hRR,if_pos h]
 have R2 : Hid (PF = 0 → MF ≠ 0 → R = ((false,MF),last,L)):=Lib.hid fun h h2 => by rw [hRR,if_neg (by simp [h]),if_pos h2]
 have R3 : Hid (PF = 0 → MF = 0 → SB = true → R = ((true,0),at_,SL)):=Lib.hid fun h h2 h3 => by rw [hRR,if_neg (by simp [h]),if_neg (by simp [h2]),if_pos h3]
 have R4 : Hid (PF = 0 → MF = 0 → SB = false → D = true → R = ((true,0),at_,TL)):=Lib.hid fun h h2 h3 h4 => by rw [hRR,if_neg (by simp [h]),if_neg (by simp [h2]),if_neg (by simp [h3]),if_pos h4]
 have R5 : Hid (PF = 0 → MF = 0 → SB = false → D = false → R = ((false,0),at_,SL)):=Lib.hid fun h h2 h3 h4 => by rw [hRR,if_neg (by simp [h]),if_neg (by simp [h2]),if_neg (by simp [h3]),if_neg (by simp [h4])]
 rw [hR]
 have HCk:=Lib.hid fun wx => checkPacket_any x pa n pc wx hx hp
 have HTf:=Lib.hid fun (wx : World) (h : Blk wx T 80 (trC (.slice ra rn rc) tv most last lst)) => timeFault_any T (.slice ra rn rc) tv most last lst at_ wx h
 rw [hPF] at HCk
 rw [hMF] at HTf
 have hm0 : PF = 0 → MF = 0 → momF at_ last = 0 ∧ pktFault x n = 0:=fun h h2 => ⟨hMF.trans h2,hPF.trans h⟩
 have HSee : Hid (PF = 0 → MF = 0 → ∀ wx,Blk wx T 80 (trC (.slice ra rn rc) tv most last lst) → OwnK layTk wx B lst L → B ≤ wx.heap.size → Calls Tryz.prog 45 #[.pointer (some ⟨T,0,none⟩), .agg x.cells, .int .i64 at_] wx fun e w' => ∃ lst',e = .returned (.bool SB) ∧ Blk w' T 80 (trC (.slice ra rn rc) tv most at_ lst') ∧ OwnK layTk w' B lst' SL ∧ Chg T lst lst' wx w'):=Lib.hid fun h h2 wx k1 k2 k3 => by
  have:=tsee_any T B (.slice ra rn rc) tv most last lst L x at_ wx k1 k2 k3 hok hs (momF_zero (hm0 h h2 ).1).1
  rwa [hSB,hSL] at this
 have HTr : Hid (PF = 0 → MF = 0 → ∀ wx lst2,Blk wx T 80 (trC (.slice ra rn rc) tv most at_ lst2) → OwnK layTk wx B lst2 SL → B ≤ wx.heap.size → Calls Tryz.prog 48 #[.pointer (some ⟨T,0,none⟩), .agg x.cells, .int .i64 at_] wx fun e w' => ∃ lst',e = .returned (.tuple #[]) ∧ Blk w' T 80 (trC (.slice ra rn rc) tv most at_ lst') ∧ OwnK layTk w' B lst' TL ∧ Chg T lst2 lst' wx w'):=Lib.hid fun h h2 wx lst2 k1 k2 k3 => by
  have h9:=(seeM_ok (tv:=tv) (f:=x.flow) (fin:=x.fin || x.rst) hok (momF_zero (hm0 h h2 ).1).1).2
  rw [hSL] at h9
  have:=ttrack_any T B (.slice ra rn rc) tv most at_ lst2 SL x at_ wx k1 k2 k3 (by omega) hm
  rwa [hTL] at this
 have HLt : Hid (PF = 0 → MF = 0 → ∀ wx,FwO wx B2 (.slice ra rn rc) F → Calls Tryz.prog 46 #[.slice ra rn rc, .agg x.flow.cells] wx (Ret (.bool D) wx)):=Lib.hid fun h h2 wx k1 => by
  obtain ⟨g1,g2,g3⟩:=pkt_num (hm0 h h2 ).2 hx
  obtain ⟨_,_,e,_⟩:=k1.form
  injection e with _ e _
  rw [g3, ← hD]
  exact flets_any ra rn rc F x.flow.p (flX x.flow) (flY x.flow) x.flow.fp x.flow.tp wx k1.at e.symm (by omega) hv g1 g2
 have HFl:=Lib.hid fun wx => flowOf_any x wx
 have HRw:=Lib.hid hr
 clear hr hv hF
 have HK : Hid (Blk (w.alloc (.cells x.cells 52 (0,0))) w.heap.size 52 x.cells):=Lib.hid (Blk.new w _ _)
 have hb0 : Below w.heap.size w (w.alloc (.cells x.cells 52 (0,0))):=below_alloc (Below.refl _ _) _
 have HT1:=Lib.hid (hT.below hb0 hT.lt)
 have HL1:=Lib.hid (hL.later hb0)
 have HC1 : Hid (Chg T lst lst w (w.alloc (.cells x.cells 52 (0,0)))):=Lib.hid (Chg.of_below hb0)
 have HB1 : Hid (B ≤ (w.alloc (.cells x.cells 52 (0,0))).heap.size):=Lib.hid (Nat.le_trans hB hb0.size)
 have HW1:=Lib.hid (HRw.out.later hb0)
 clear HRw
 have hXs : x.cells.toList.length = 19:=rfl
 have hXz : (Tryz.prog.info? 52).map (·.size) = some 19:=by kernel_rfl
 have hXu : Tryz.prog.underlying 52 = some (.struct (Tryz.prog.fieldsOf 52)):=by kernel_rfl
 clear hT hL hb0 hB hok hs hm hx hp hR hPF hMF hSB hSL hTL hRR hm0 hD 
 generalize x.flow.cells = FCL at *
 generalize x.cells = X at *
 go_enter Tryz.func17,Tryz.ntmps17
 go_upto_region 1 with fail
 generalize (w.alloc (.cells X 52 (0,0))) = w1 at *
 generalize w.heap.size = p at *
 have HR1 : Hid (w1.rangeAt p 0 X.toList):=Lib.hid (Blk.range HK.out)
 go_wp2_with (refine wpList_loadn rfl 52 _ rfl p 0 rfl _ _ HR1.out hXu rfl 19 hXz hXs ?_;try go_simp)
 refine (HCk.out _).mono ?_
 rintro e w2 ⟨rfl,hb⟩
 clear HR1 HCk
 have HT2:=Lib.hid (HT1.out.below hb HT1.out.lt)
 have HL2:=Lib.hid (HL1.out.later hb)
 have HC2 : Hid (Chg T lst lst w w2):=Lib.hid (HC1.out.trans (Chg.of_below hb))
 have HB2 : Hid (B ≤ w2.heap.size):=Lib.hid (Nat.le_trans HB1.out hb.size)
 have HK2:=Lib.hid (HK.out.below hb HK.out.lt)
 have HW2:=Lib.hid (HW1.out.later hb)
 clear hb HT1 HL1 HC1 HB1 HK HW1
 by_cases hF : PF = 0
 case neg =>
  have hF2 : (PF != 0) = true:=by simpa using hF
  obtain rfl:=R1.out hF
  clear hF R1 R2 R3 R4 R5 HSee HTr HTf
  go_wp2_with fail
  go_ret2
  first | exact ⟨rfl,_,HT2.out,HL2.out,HC2.out⟩ | exact ⟨_,rfl,HT2.out,HL2.out,HC2.out⟩
 replace R2:=Lib.hid (R2.out hF)
 replace R3:=Lib.hid (R3.out hF)
 replace R4:=Lib.hid (R4.out hF)
 replace HSee:=Lib.hid (HSee.out hF)
 replace HTr:=Lib.hid (HTr.out hF)
 replace R5:=Lib.hid (R5.out hF)
 replace HLt:=Lib.hid (HLt.out hF)
 clear R1
 subst hF
 go_wp2_with fail
 refine (HTf.out _ HT2.out).mono ?_
 rintro e w3 ⟨rfl,hb⟩
 clear HTf
 have HT3:=Lib.hid (HT2.out.below hb HT2.out.lt)
 have HL3:=Lib.hid (HL2.out.later hb)
 have HC3 : Hid (Chg T lst lst w w3):=Lib.hid (HC2.out.trans (Chg.of_below hb))
 have HB3 : Hid (B ≤ w3.heap.size):=Lib.hid (Nat.le_trans HB2.out hb.size)
 have HK3:=Lib.hid (HK2.out.below hb HK2.out.lt)
 have HW3:=Lib.hid (HW2.out.later hb)
 clear hb HT2 HL2 HC2 HB2 HK2 HW2
 by_cases hF : MF = 0
 case neg =>
  have hF2 : (MF != 0) = true:=by simpa using hF
  obtain rfl:=R2.out hF
  clear hF R2 R3 R4 R5 HSee HTr
  go_wp2_with fail
  go_ret2
  first | exact ⟨rfl,_,HT3.out,HL3.out,HC3.out⟩ | exact ⟨_,rfl,HT3.out,HL3.out,HC3.out⟩
 replace R3:=Lib.hid (R3.out hF)
 replace R4:=Lib.hid (R4.out hF)
 replace HSee:=Lib.hid (HSee.out hF)
 replace HTr:=Lib.hid (HTr.out hF)
 replace R5:=Lib.hid (R5.out hF)
 replace HLt:=Lib.hid (HLt.out hF)
 clear R2
 subst hF
 have HR3 : Hid (w3.rangeAt p 0 X.toList):=Lib.hid (Blk.range HK3.out)
 go_wp2_with (refine wpList_loadn rfl 52 _ rfl p 0 rfl _ _ HR3.out hXu rfl 19 hXz hXs ?_;try go_simp)
 refine (HSee.out _ HT3.out HL3.out HB3.out).mono ?_
 rintro e w4 ⟨lst4,rfl,hT4,hL4,hC4⟩
 have hk:=KeepT.of_chg HT3.out HL3.out hC4
 have HT4:=Lib.hid hT4
 have HL4:=Lib.hid hL4
 have HC4 : Hid (Chg T lst lst4 w w4):=Lib.hid (HC3.out.trans hC4)
 have HB4 : Hid (B ≤ w4.heap.size):=Lib.hid (Nat.le_trans HB3.out hk.1)
 have HK4:=Lib.hid (HK3.out.keepT hk (by decide))
 have HW4:=Lib.hid (HW3.out.keepT hk (by decide) (by decide) (by decide))
 clear HW3
 clear hk hT4 hL4 hC4 HT3 HL3 HC3 HB3 HK3 HR3 HSee
 cases SB
 case true =>
  obtain rfl:=R3.out rfl
  clear R3 R4 R5 HTr HLt HFl
  go_wp2_with fail
  go_ret2
  first | exact ⟨rfl,_,HT4.out,HL4.out,HC4.out⟩ | exact ⟨_,rfl,HT4.out,HL4.out,HC4.out⟩
 go_upto_region 9 with fail
 have t0:=HT4.out.cell 0
 simp [trC] at t0
 have m0:=Later.cell_of t0
 have HQ : Hid (∀ w',(∃ n : Later w4,w' = n.1) → w'.rangeAt p 0 X.toList):=Lib.hid fun w' ⟨n,e⟩ => by
  subst e
  exact range_below (Blk.range HK4.out) n.2 HK4.out.lt
 have hXz' : X.size = 19:=by simpa using hXs
 have hFl:=fun x : Later w4 => Calls.later x (HFl.out x.1)
 have hLt:=fun x : Later w4 => Calls.later x (HLt.out x.1 (HW4.out.later x.2))
 refine wp_region_later (by kernel_rfl) (by kernel_rfl) ?_
 repeat (first | go_big_quiet_step (first | (go_at_call 47;exact hFl _) | (go_at_call 46;exact hLt _)) | (refine wpQuiet_loadn rfl 52 _ rfl _ rfl p 0 rfl X HQ.out _ hXu rfl 19 hXz hXz' ?_;go_simp))
 refine wpQuiet_nil ?_
 first
  | (rintro w5 ⟨m5,hm5⟩
     have hb : Below w4.heap.size w4 w5:=by rw [hm5];exact m5.2
     clear hm5 m5)
  | (rintro ⟨w5,hb⟩
     simp only)
 have HT5:=Lib.hid (HT4.out.below hb HT4.out.lt)
 have HL5:=Lib.hid (HL4.out.later hb)
 have HC5 : Hid (Chg T lst lst4 w w5):=Lib.hid (HC4.out.trans (Chg.of_below hb))
 have HB5 : Hid (B ≤ w5.heap.size):=Lib.hid (Nat.le_trans HB4.out hb.size)
 have HK5:=Lib.hid (HK4.out.below hb HK4.out.lt)
 clear hb HT4 HL4 HC4 HB4 HK4 HW4 t0 m0 HQ hFl hLt HFl HLt R3
 cases D
 ·obtain rfl:=R5.out (by simp) (by simp)
  clear R4 R5 HTr
  go_wp2_with fail
  go_ret2
  first | exact ⟨rfl,_,HT5.out,HL5.out,HC5.out⟩ | exact ⟨_,rfl,HT5.out,HL5.out,HC5.out⟩
 ·obtain rfl:=R4.out (by simp) (by simp)
  clear R4 R5
  have HR5 : Hid (w5.rangeAt p 0 X.toList):=Lib.hid (Blk.range HK5.out)
  go_wp2_with (refine wpList_loadn rfl 52 _ rfl p 0 rfl _ _ HR5.out hXu rfl 19 hXz hXs ?_;try go_simp)
  refine (HTr.out _ _ HT5.out HL5.out HB5.out).mono ?_
  rintro e w6 ⟨lst6,rfl,hT6,hL6,hC6⟩
  have HT6:=Lib.hid hT6
  have HL6:=Lib.hid hL6
  have HC6 : Hid (Chg T lst lst6 w w6):=Lib.hid (HC5.out.trans hC6)
  clear hT6 hL6 hC6 HT5 HL5 HC5 HB5 HK5 HR5 HTr
  go_wp2_with fail
  go_ret2
  first | exact ⟨rfl,_,HT6.out,HL6.out,HC6.out⟩ | exact ⟨_,rfl,HT6.out,HL6.out,HC6.out⟩
theorem qin_any (T B : Nat) (ra : Option Addr) (rn rc : Nat) (F : List FR) (B2 : Nat) (tv : TV) (most last : Int) (lst : Value) (L : List TK) (x : PV) (pa : Option Addr) (n pc : Nat) (at_ : Int) (w : World) (hT : Blk w T 44 (tcC (.slice ra rn rc) tv most last lst)) (hL : OwnK layTk w B lst L) (hB : B ≤ w.heap.size) (hok : TkOk L) (hs : L.length ≤ 1000) (hm : 1 ≤ most ∧ most ≤ 1000) (hx : x.ok) (hp : x.pay = .slice pa n pc) (hr : FlO w B2 (.slice ra rn rc) F) (hv : ∀ r ∈ F,r.Ok) (hF : F.length ≤ 1000) :
  Calls Tryz.prog 18 #[.pointer (some ⟨T,0,none⟩), .agg x.cells, .int .i64 at_] w fun e w' => ∃ lst',e = .returned (.tuple #[.bool (inM (pktFault x n) (decV F x.flow) tv most last at_ x.flow (x.fin || x.rst) L).1.1, .int .i64 (inM (pktFault x n) (decV F x.flow) tv most last at_ x.flow (x.fin || x.rst) L).1.2]) ∧ Blk w' T 44 (tcC (.slice ra rn rc) tv most (inM (pktFault x n) (decV F x.flow) tv most last at_ x.flow (x.fin || x.rst) L).2.1 lst') ∧ OwnK layTk w' B lst' (inM (pktFault x n) (decV F x.flow) tv most last at_ x.flow (x.fin || x.rst) L).2.2 ∧ Chg T lst lst' w w':=by
 obtain ⟨R,hR⟩ : ∃ R,inM (pktFault x n) (decV F x.flow) tv most last at_ x.flow (x.fin || x.rst) L = R:=⟨_,rfl⟩
 obtain ⟨PF,hPF⟩ : ∃ PF,pktFault x n = PF:=⟨_,rfl⟩
 obtain ⟨MF,hMF⟩ : ∃ MF,momF at_ last = MF:=⟨_,rfl⟩
 obtain ⟨SB,hSB⟩ : ∃ SB,(seeM tv x.flow (x.fin || x.rst) at_ L).1 = SB:=⟨_,rfl⟩
 obtain ⟨SL,hSL⟩ : ∃ SL,(seeM tv x.flow (x.fin || x.rst) at_ L).2 = SL:=⟨_,rfl⟩
 obtain ⟨TL,hTL⟩ : ∃ TL,trackM most x.flow (x.fin || x.rst) at_ SL = TL:=⟨_,rfl⟩
 obtain ⟨D,hD⟩ : ∃ D,decV F x.flow = D:=⟨_,rfl⟩
 have hRR : R = (if PF ≠ 0 then ((false,PF),last,L) else if MF ≠ 0 then ((false,MF),last,L) else if SB = true then ((true,0),at_,SL) else if D = true then ((true,0),at_,TL) else ((false,0),at_,SL)):=by
  rw [← hR]
  unfold inM
  rw [hD,hPF,hMF,hSB,hSL,hTL]
 obtain ⟨E,hE⟩ : ∃ E,(if PF ≠ 0 then PF else MF) = E:=⟨_,rfl⟩
 have hE0 : E = 0 → PF = 0 ∧ MF = 0:=fun h => by
  by_cases h1 : PF = 0
  ·rw [if_neg (by simp [h1])] at hE;exact ⟨h1,hE.trans h⟩
  ·rw [if_pos h1] at hE;exact absurd (hE.trans h) h1
 have R1 : Hid (E ≠ 0 → R = ((false,E),last,L)):=Lib.hid fun h => by
  rw [hRR]
  by_cases h1 : PF = 0
  ·rw [if_neg (by simp [h1])] at hE
   rw [if_neg (by simp [h1]),hE,if_pos h]
  ·rw [if_pos h1] at hE
   rw [if_pos h1,hE]
 have R3 : Hid (E = 0 → SB = true → R = ((true,0),at_,SL)):=Lib.hid fun h h3 => by rw [hRR,if_neg (by simp [(hE0 h).1]),if_neg (by simp [(hE0 h).2]),if_pos h3]
 have R4 : Hid (E = 0 → SB = false → D = true → R = ((true,0),at_,TL)):=Lib.hid fun h h3 h4 => by rw [hRR,if_neg (by simp [(hE0 h).1]),if_neg (by simp [(hE0 h).2]),if_neg (by simp [h3]),if_pos h4]
 have R5 : Hid (E = 0 → SB = false → D = false → R = ((false,0),at_,SL)):=Lib.hid fun h h3 h4 => by rw [hRR,if_neg (by simp [(hE0 h).1]),if_neg (by simp [(hE0 h).2]),if_neg (by simp [h3]),if_neg (by simp [h4])]
 rw [hR]
 have HTf:=Lib.hid fun (wx : World) (h : Blk wx T 44 (tcC (.slice ra rn rc) tv most last lst)) => qfault_any T (.slice ra rn rc) tv most last lst x pa n pc at_ wx h hx hp
 rw [hPF,hMF,hE] at HTf
 have hm0 : E = 0 → momF at_ last = 0 ∧ pktFault x n = 0:=fun h => ⟨hMF.trans (hE0 h).2,hPF.trans (hE0 h).1⟩
 have HSee : Hid (E = 0 → ∀ wx,Blk wx T 44 (tcC (.slice ra rn rc) tv most last lst) → OwnK layTk wx B lst L → B ≤ wx.heap.size → Calls Tryz.prog 50 #[.pointer (some ⟨T,0,none⟩), .agg x.cells, .int .i64 at_] wx fun e w' => ∃ lst',e = .returned (.bool SB) ∧ Blk w' T 44 (tcC (.slice ra rn rc) tv most at_ lst') ∧ OwnK layTk w' B lst' SL ∧ Chg T lst lst' wx w'):=Lib.hid fun h wx k1 k2 k3 => by
  have:=qsee_any T B (.slice ra rn rc) tv most last lst L x at_ wx k1 k2 k3 hok hs (momF_zero (hm0 h ).1).1
  rwa [hSB,hSL] at this
 have HTr : Hid (E = 0 → ∀ wx lst2,Blk wx T 44 (tcC (.slice ra rn rc) tv most at_ lst2) → OwnK layTk wx B lst2 SL → B ≤ wx.heap.size → Calls Tryz.prog 53 #[.pointer (some ⟨T,0,none⟩), .agg x.cells, .int .i64 at_] wx fun e w' => ∃ lst',e = .returned (.tuple #[]) ∧ Blk w' T 44 (tcC (.slice ra rn rc) tv most at_ lst') ∧ OwnK layTk w' B lst' TL ∧ Chg T lst2 lst' wx w'):=Lib.hid fun h wx lst2 k1 k2 k3 => by
  have h9:=(seeM_ok (tv:=tv) (f:=x.flow) (fin:=x.fin || x.rst) hok (momF_zero (hm0 h ).1).1).2
  rw [hSL] at h9
  have:=qtrack_any T B (.slice ra rn rc) tv most at_ lst2 SL x at_ wx k1 k2 k3 (by omega) hm
  rwa [hTL] at this
 have HLt : Hid (E = 0 → ∀ wx,FlO wx B2 (.slice ra rn rc) F → Calls Tryz.prog 51 #[.slice ra rn rc, .agg x.flow.cells] wx (Ret (.bool D) wx)):=Lib.hid fun h wx k1 => by
  obtain ⟨g1,g2,g3⟩:=pkt_num (hm0 h ).2 hx
  obtain ⟨_,_,e,_⟩:=k1.form
  injection e with _ e _
  rw [g3, ← hD]
  exact decidesOf_any ra rn rc F x.flow.p (flX x.flow) (flY x.flow) x.flow.fp x.flow.tp wx k1.at e.symm (by omega) hv g1 g2
 have HFl:=Lib.hid fun wx => flowFrom_any x wx
 have HRw:=Lib.hid hr
 clear hr hv hF
 have HK : Hid (Blk (w.alloc (.cells x.cells 52 (0,0))) w.heap.size 52 x.cells):=Lib.hid (Blk.new w _ _)
 have hb0 : Below w.heap.size w (w.alloc (.cells x.cells 52 (0,0))):=below_alloc (Below.refl _ _) _
 have HT1:=Lib.hid (hT.below hb0 hT.lt)
 have HL1:=Lib.hid (hL.later hb0)
 have HC1 : Hid (Chg T lst lst w (w.alloc (.cells x.cells 52 (0,0)))):=Lib.hid (Chg.of_below hb0)
 have HB1 : Hid (B ≤ (w.alloc (.cells x.cells 52 (0,0))).heap.size):=Lib.hid (Nat.le_trans hB hb0.size)
 have HW1:=Lib.hid (HRw.out.later hb0)
 clear HRw
 have hXs : x.cells.toList.length = 19:=rfl
 have hXz : (Tryz.prog.info? 52).map (·.size) = some 19:=by kernel_rfl
 have hXu : Tryz.prog.underlying 52 = some (.struct (Tryz.prog.fieldsOf 52)):=by kernel_rfl
 clear hT hL hb0 hB hok hs hm hx hp hR hPF hMF hSB hSL hTL hRR hm0 hD hE hE0 
 generalize x.flow.cells = FCL at *
 generalize x.cells = X at *
 go_enter Tryz.func18,Tryz.ntmps18
 go_upto_region 1 with fail
 generalize (w.alloc (.cells X 52 (0,0))) = w1 at *
 generalize w.heap.size = p at *
 have HR1 : Hid (w1.rangeAt p 0 X.toList):=Lib.hid (Blk.range HK.out)
 go_wp2_with (refine wpList_loadn rfl 52 _ rfl p 0 rfl _ _ HR1.out hXu rfl 19 hXz hXs ?_;try go_simp)
 refine (HTf.out _ HT1.out).mono ?_
 rintro e w3 ⟨rfl,hb⟩
 clear HR1 HTf
 have HT3:=Lib.hid (HT1.out.below hb HT1.out.lt)
 have HL3:=Lib.hid (HL1.out.later hb)
 have HC3 : Hid (Chg T lst lst w w3):=Lib.hid (HC1.out.trans (Chg.of_below hb))
 have HB3 : Hid (B ≤ w3.heap.size):=Lib.hid (Nat.le_trans HB1.out hb.size)
 have HK3:=Lib.hid (HK.out.below hb HK.out.lt)
 have HW3:=Lib.hid (HW1.out.later hb)
 clear hb HT1 HL1 HC1 HB1 HK HW1
 by_cases hF : E = 0
 case neg =>
  have hF2 : (E != 0) = true:=by simpa using hF
  obtain rfl:=R1.out hF
  clear hF R1 R3 R4 R5 HSee HTr
  go_wp2_with fail
  go_ret2
  first | exact ⟨rfl,_,HT3.out,HL3.out,HC3.out⟩ | exact ⟨_,rfl,HT3.out,HL3.out,HC3.out⟩
 replace R3:=Lib.hid (R3.out hF)
 replace R4:=Lib.hid (R4.out hF)
 replace HSee:=Lib.hid (HSee.out hF)
 replace HTr:=Lib.hid (HTr.out hF)
 replace R5:=Lib.hid (R5.out hF)
 replace HLt:=Lib.hid (HLt.out hF)
 clear R1
 subst hF
 have HR3 : Hid (w3.rangeAt p 0 X.toList):=Lib.hid (Blk.range HK3.out)
 go_wp2_with (refine wpList_loadn rfl 52 _ rfl p 0 rfl _ _ HR3.out hXu rfl 19 hXz hXs ?_;try go_simp)
 refine (HSee.out _ HT3.out HL3.out HB3.out).mono ?_
 rintro e w4 ⟨lst4,rfl,hT4,hL4,hC4⟩
 have hk:=KeepT.of_chg HT3.out HL3.out hC4
 have HT4:=Lib.hid hT4
 have HL4:=Lib.hid hL4
 have HC4 : Hid (Chg T lst lst4 w w4):=Lib.hid (HC3.out.trans hC4)
 have HB4 : Hid (B ≤ w4.heap.size):=Lib.hid (Nat.le_trans HB3.out hk.1)
 have HK4:=Lib.hid (HK3.out.keepT hk (by decide))
 have HW4:=Lib.hid (HW3.out.keepT hk (by decide) (by decide) (by decide))
 clear HW3
 clear hk hT4 hL4 hC4 HT3 HL3 HC3 HB3 HK3 HR3 HSee
 cases SB
 case true =>
  obtain rfl:=R3.out rfl
  clear R3 R4 R5 HTr HLt HFl
  go_wp2_with fail
  go_ret2
  first | exact ⟨rfl,_,HT4.out,HL4.out,HC4.out⟩ | exact ⟨_,rfl,HT4.out,HL4.out,HC4.out⟩
 go_upto_region 6 with fail
 have t0:=HT4.out.cell 0
 simp [tcC] at t0
 have m0:=Later.cell_of t0
 have HQ : Hid (∀ w',(∃ n : Later w4,w' = n.1) → w'.rangeAt p 0 X.toList):=Lib.hid fun w' ⟨n,e⟩ => by
  subst e
  exact range_below (Blk.range HK4.out) n.2 HK4.out.lt
 have hXz' : X.size = 19:=by simpa using hXs
 have hFl:=fun x : Later w4 => Calls.later x (HFl.out x.1)
 have hLt:=fun x : Later w4 => Calls.later x (HLt.out x.1 (HW4.out.later x.2))
 refine wp_region_later (by kernel_rfl) (by kernel_rfl) ?_
 repeat (first | go_big_quiet_step (first | (go_at_call 52;exact hFl _) | (go_at_call 51;exact hLt _)) | (refine wpQuiet_loadn rfl 52 _ rfl _ rfl p 0 rfl X HQ.out _ hXu rfl 19 hXz hXz' ?_;go_simp))
 refine wpQuiet_nil ?_
 first
  | (rintro w5 ⟨m5,hm5⟩
     have hb : Below w4.heap.size w4 w5:=by rw [hm5];exact m5.2
     clear hm5 m5)
  | (rintro ⟨w5,hb⟩
     simp only)
 have HT5:=Lib.hid (HT4.out.below hb HT4.out.lt)
 have HL5:=Lib.hid (HL4.out.later hb)
 have HC5 : Hid (Chg T lst lst4 w w5):=Lib.hid (HC4.out.trans (Chg.of_below hb))
 have HB5 : Hid (B ≤ w5.heap.size):=Lib.hid (Nat.le_trans HB4.out hb.size)
 have HK5:=Lib.hid (HK4.out.below hb HK4.out.lt)
 clear hb HT4 HL4 HC4 HB4 HK4 HW4 t0 m0 HQ hFl hLt HFl HLt R3
 cases D
 ·obtain rfl:=R5.out (by simp) (by simp)
  clear R4 R5 HTr
  go_wp2_with fail
  go_ret2
  first | exact ⟨rfl,_,HT5.out,HL5.out,HC5.out⟩ | exact ⟨_,rfl,HT5.out,HL5.out,HC5.out⟩
 ·obtain rfl:=R4.out (by simp) (by simp)
  clear R4 R5
  have HR5 : Hid (w5.rangeAt p 0 X.toList):=Lib.hid (Blk.range HK5.out)
  go_wp2_with (refine wpList_loadn rfl 52 _ rfl p 0 rfl _ _ HR5.out hXu rfl 19 hXz hXs ?_;try go_simp)
  refine (HTr.out _ _ HT5.out HL5.out HB5.out).mono ?_
  rintro e w6 ⟨lst6,rfl,hT6,hL6,hC6⟩
  have HT6:=Lib.hid hT6
  have HL6:=Lib.hid hL6
  have HC6 : Hid (Chg T lst lst6 w w6):=Lib.hid (HC5.out.trans hC6)
  clear hT6 hL6 hC6 HT5 HL5 HC5 HB5 HK5 HR5 HTr
  go_wp2_with fail
  go_ret2
  first | exact ⟨rfl,_,HT6.out,HL6.out,HC6.out⟩ | exact ⟨_,rfl,HT6.out,HL6.out,HC6.out⟩
end Go.Proofs.YthebgfnaomgcnaaGreat
namespace Go.Proofs.YthebgfnaomgcnaaGreat.Ph
open Go Go.Proofs.YthebgfnaomgcnaaGreat
section
variable {P : Program} {ops : Array Oper} {Q : Exit → Act → World → Prop} {N total : Nat} {a0 : Act}
variable {R : Nat → Value → Nat → World → Prop} {C : Nat → World → Prop} {S : Nat → World → Nat → World → Prop} {cost : Nat → Nat}
def Ob (P : Program) (ops : Array Oper) (a0 : Act) (R : Nat → Value → Nat → World → Prop) (C : Nat → World → Prop) (S : Nat → World → Nat → World → Prop) (cost : Nat → Nat) (total N : Nat) (i : Nat) (o : Oper) : Prop :=
 ∀ (T : Nat → Value) (w : World) (n : Nat),C n w → n + cost i ≤ total → (∀ p,p < ops.size → bef ops i p = true → R p (T p) n w) →
  if Region.wanted o (yielded ops (setAll (ops.toList.take N) 0 T a0).tmps) then
   Op1 P o (setAll (ops.toList.take N) 0 T a0).eval w fun v w' => R i v (n + cost i) w' ∧ C (n + cost i) w' ∧ S n w (n + cost i) w'
  else R i undef (n + cost i) w ∧ C (n + cost i) w ∧ S n w (n + cost i) w
theorem region_any (hB : InvB ops N a0.tmps.size) (hS : ∀ p v n w n' w',R p v n w → S n w n' w' → R p v n' w')
  (htot : sumCost cost (Array.replicate ops.size true) ops.size ≤ total)
  (hob : ∀ (i : Nat) (o : Oper),ops[i]? = some o → i < N → Ob P ops a0 R C S cost total N i o)
  (hend : ∀ T w,(∃ n,n ≤ total ∧ C n w ∧ ∀ p,p < N → R p (T p) n w) → wpList P ops Q (ops.toList.drop N) (setAll (ops.toList.take N) 0 T a0) w) :
  ∀ (fuel : Nat) (listed : Array Bool) (a : Act) (w : World),listed.size = ops.size → fuel + cnt listed ops.size = ops.size →
   (∀ j,j < ops.size → listed.getD j false = true → ∀ p,p < ops.size → bef ops j p = true → listed.getD p false = true) →
   ((∃ T,(∀ j,N ≤ j → listed.getD j false = false) ∧ Fits ops a0 listed T a ∧ C (sumCost cost listed ops.size) w ∧ ∀ j,j < ops.size → listed.getD j false = true → R j (T j) (sumCost cost listed ops.size) w) ∨
    (∃ k,N ≤ k ∧ k ≤ ops.size ∧ (∀ j,j < ops.size → (listed.getD j false = true ↔ j < k)) ∧ wpList P ops Q (ops.toList.drop k) a w)) →
   wpAny P .any ops Q fuel listed a w:=by
 -- the whole head is there: the two frames are one
 have whole : ∀ (listed : Array Bool) (T : Nat → Value) (a : Act),(∀ j,N ≤ j → listed.getD j false = false) → (∀ j,j < N → listed.getD j false = true) → Fits ops a0 listed T a → a = setAll (ops.toList.take N) 0 T a0:=by
  intro listed T a ht hh hF
  have h1 : a.defers = (setAll (ops.toList.take N) 0 T a0).defers:=by rw [setAll_defers,hF.defers]
  have h2 : a.tmps = (setAll (ops.toList.take N) 0 T a0).tmps:=by
   refine Array.ext_getElem? fun t => ?_
   rcases Nat.lt_or_ge t a0.tmps.size with hts | hts
   ·rw [setAll_get T t _ 0 a0 hts]
    cases hw : lastW t (ops.toList.take N) 0 with
    | some j =>
      obtain ⟨_,o',ho',hd⟩:=lastW_some _ _ hw
      simp only [Nat.sub_zero,List.getElem?_take] at ho'
      split at ho'
      ·rename_i hjN
       exact hF.set j o' t (by simpa using ho') (hh j hjN) hd
      ·cases ho'
    | none =>
      refine hF.rest t fun j o' hj hlj hd => ?_
      have hjN : j < N:=by
       rcases Nat.lt_or_ge j N with h | h
       ·exact h
       ·rw [ht j h] at hlj;cases hlj
      exact lastW_none _ _ hw j o' (by rw [List.getElem?_take,if_pos hjN];simpa using hj) hd
   ·rw [Array.getElem?_eq_none (by rw [hF.size];exact hts),Array.getElem?_eq_none (by rw [setAll_size];exact hts)]
  cases a;cases hb : setAll (ops.toList.take N) 0 T a0;simp_all
 -- nothing ready: all is listed
 have allListed : ∀ (listed : Array Bool),listed.size = ops.size → Region.ready .any ops listed = [] → ∀ j,j < ops.size → listed.getD j false = true:=by
  intro listed hsz hr j
  induction j using Nat.strongRecOn with
  | _ j ih =>
    intro hj
    cases hlj : listed.getD j false with
    | true => rfl
    | false =>
      exfalso
      obtain ⟨o,ho⟩ : ∃ o,ops[j]? = some o:=⟨ops[j],Array.getElem?_eq_getElem hj⟩
      have : j ∈ Region.ready .any ops listed:=mem_ready.2 ⟨by simpa [Array.getD,hsz,hj] using hlj,o,ho,fun e he hb => ih e.on (hB.back j o e ho he hb) (by have:=hB.back j o e ho he hb;omega)⟩
      rw [hr] at this;cases this
 -- the end
 have fin : ∀ (listed : Array Bool) (a : Act) (w : World),(∀ j,j < ops.size → listed.getD j false = true) →
   ((∃ T,(∀ j,N ≤ j → listed.getD j false = false) ∧ Fits ops a0 listed T a ∧ C (sumCost cost listed ops.size) w ∧ ∀ j,j < ops.size → listed.getD j false = true → R j (T j) (sumCost cost listed ops.size) w) ∨
    (∃ k,N ≤ k ∧ k ≤ ops.size ∧ (∀ j,j < ops.size → (listed.getD j false = true ↔ j < k)) ∧ wpList P ops Q (ops.toList.drop k) a w)) → Q .normal a w:=by
  intro listed a w hall h
  rcases h with ⟨T,ht,hF,hC,hR⟩ | ⟨k,hk1,hk2,hk3,hk4⟩
  ·have hN : N = ops.size:=by
    rcases Nat.lt_or_ge N ops.size with h | h
    ·have h1:=ht N (Nat.le_refl _)
     rw [hall N h] at h1;cases h1
    ·have:=hB.le;omega
   have ha:=whole listed T a ht (fun j hj => hall j (by omega)) hF
   have:=hend T w ⟨_,Nat.le_trans (sumCost_le _) htot,hC,fun p hp => hR p (by omega) (hall p (by omega))⟩
   rw [← ha,List.drop_eq_nil_of_le (by simp;omega)] at this
   exact this
  ·have : k = ops.size:=by
    rcases Nat.lt_or_ge k ops.size with h | h
    ·have:=(hk3 k h).1 (hall k h);omega
    ·omega
   rw [List.drop_eq_nil_of_le (by simp;omega)] at hk4
   exact hk4
 intro fuel
 induction fuel with
 | zero =>
   intro listed a w hsz hf hd h
   have hall:=cnt_full ops.size (by omega : cnt listed ops.size = ops.size)
   refine ⟨?_,fin listed a w hall h⟩
   refine List.eq_nil_iff_forall_not_mem.2 fun i hi => ?_
   obtain ⟨h1,o,ho,_⟩:=mem_ready.1 hi
   have:=hall i (Array.getElem?_eq_some_iff.1 ho).1
   rw [(getD_false h1).2] at this;cases this
 | succ fuel ih =>
   intro listed a w hsz hf hd h
   refine ⟨fun hr => fin listed a w (allListed listed hsz hr) h,fun i hi => ?_⟩
   obtain ⟨h1,o,ho,hafter⟩:=mem_ready.1 hi
   have hilt : i < ops.size:=(Array.getElem?_eq_some_iff.1 ho).1
   have hset : ∀ j,(listed.setIfInBounds i true).getD j false = true ↔ (j = i ∨ listed.getD j false = true):=fun j => by
    by_cases hj : i = j
    ·subst hj;simp [Array.getD,hsz,hilt]
    ·rw [getD_set_ne false hj];simp [Ne.symm hj]
   have hbef : ∀ p,p < ops.size → bef ops i p = true → listed.getD p false = true:=fun p hp hb => by
    obtain ⟨e,he,hbi,hor⟩:=hB.clos i p o ho hp hb
    have h2:=hafter e he hbi
    rcases hor with rfl | hor
    ·exact h2
    ·exact hd e.on (by have:=hB.back i o e ho he hbi;omega) h2 p hp hor
   have hsz' : (listed.setIfInBounds i true).size = ops.size:=by simpa using hsz
   have hf' : fuel + cnt (listed.setIfInBounds i true) ops.size = ops.size:=by
    have:=sumCost_set (cost:=fun _ => 1) h1 ops.size
    simp only [cnt,hilt,if_true] at this hf ⊢
    omega
   have hd' : ∀ j,j < ops.size → (listed.setIfInBounds i true).getD j false = true → ∀ p,p < ops.size → bef ops j p = true → (listed.setIfInBounds i true).getD p false = true:=by
    intro j hj hl p hp hb
    rcases (hset j).1 hl with rfl | hl'
    ·exact (hset p).2 (.inr (hbef p hp hb))
    ·exact (hset p).2 (.inr (hd j hj hl' p hp hb))
   rcases h with ⟨T,ht,hF,hC,hR⟩ | ⟨k,hk1,hk2,hk3,hk4⟩
   ·rcases Nat.lt_or_ge i N with hiN | hiN
    ·-- a step of the head
     have hpN : ∀ p,bef ops i p = true → p < ops.size → listed.getD p false = true ∧ p < N:=fun p hb hp => by
      have:=hbef p hp hb
      refine ⟨this,?_⟩
      rcases Nat.lt_or_ge p N with h | h
      ·exact h
      ·rw [ht p h] at this;cases this
     have hag:=hF.agree hB ht ho hpN
     have hsum:=sumCost_set (cost:=cost) h1 ops.size
     simp only [hilt,if_true] at hsum
     have hlim : sumCost cost listed ops.size + cost i ≤ total:=by rw [← hsum];exact Nat.le_trans (sumCost_le _) htot
     have hO:=hob i o ho hiN T w _ hC hlim fun p hp hb => hR p hp (hbef p hp hb)
     have next : ∀ v w',R i v (sumCost cost listed ops.size + cost i) w' ∧ C (sumCost cost listed ops.size + cost i) w' ∧ S (sumCost cost listed ops.size) w (sumCost cost listed ops.size + cost i) w' → wpAny P .any ops Q fuel (listed.setIfInBounds i true) (a.put o.dst v) w':=fun v w' ⟨q1,q2,q3⟩ =>
      ih _ _ _ hsz' hf' hd' (.inl ⟨fun j => if j = i then v else T j,fun j hj => by
        rw [getD_set_ne false (by omega)];exact ht j hj,hF.put hB ho h1 v,by rw [hsum];exact q2,fun j hj hl => by
        by_cases hji : j = i
        ·subst hji;rw [hsum];simpa using q1
        ·simp only [hji,if_false]
         rw [hsum];exact hS j _ _ _ _ _ (hR j hj (((hset j).1 hl).resolve_left hji)) q3⟩)
     unfold wpOp
     simp only [ho]
     rw [wanted_of_get (a:=a) (b:=setAll (ops.toList.take N) 0 T a0) o hag]
     split
     ·rename_i hw
      rw [if_pos hw] at hO
      refine .inl (Op1.wp (post:=fun v w' => R i v (sumCost cost listed ops.size + cost i) w' ∧ C (sumCost cost listed ops.size + cost i) w' ∧ S (sumCost cost listed ops.size) w (sumCost cost listed ops.size + cost i) w') ?_ next)
      unfold Op1 at hO ⊢
      rw [execOp_congr o (Region.noSelect_spec hB.sel i o · · ho) (eval_of_get o hag)]
      exact hO
     ·rename_i hw
      rw [if_neg hw] at hO
      exact next undef w hO
    ·-- the tail begins
     have hall : ∀ j,j < i → listed.getD j false = true:=fun j hj => hbef j (by omega) (hB.tail i j hiN hilt hj)
     have hiN' : i = N:=by
      rcases Nat.lt_or_ge N i with h | h
      ·have h2:=ht N (Nat.le_refl _)
       rw [hall N h] at h2;cases h2
      ·omega
     subst hiN'
     have ha:=whole listed T a ht hall hF
     have hw:=hend T w ⟨_,Nat.le_trans (sumCost_le _) htot,hC,fun p hp => hR p (by omega) (hall p hp)⟩
     rw [← ha] at hw
     have hdr : ops.toList.drop i = o :: ops.toList.drop (i + 1):=by
      rw [List.drop_eq_getElem_cons (by simpa using hilt)]
      congr 1
      have:=(Array.getElem?_eq_some_iff.1 ho).2
      simpa using this
     rw [hdr] at hw
     have hwop : wpOp P ops Q i (wpList P ops Q (ops.toList.drop (i + 1))) a w:=by unfold wpOp;simp only [ho];exact hw
     refine wpOp_mono (fun a' w' h' => ih _ _ _ hsz' hf' hd' (.inr ⟨i + 1,by omega,by omega,fun j hj => ?_,h'⟩)) hwop
     rw [hset j]
     constructor
     ·rintro (rfl | hl)
      ·omega
      ·rcases Nat.lt_or_ge j i with h | h
       ·omega
       ·rw [ht j h] at hl;cases hl
     ·intro hj'
      by_cases hji : j = i
      ·exact .inl hji
      ·exact .inr (hall j (by omega))
   ·-- a step of the tail
    have hik : i = k:=by
     have hnl:=(getD_false h1).2
     have h2 : ¬ i < k:=fun hlt => by rw [(hk3 i hilt).2 hlt] at hnl;cases hnl
     rcases Nat.lt_or_ge k i with h | h
     ·have h3:=hbef k (by omega) (hB.tail i k (by omega) hilt h)
      have:=(hk3 k (by omega)).1 h3;omega
     ·omega
    subst hik
    have hdr : ops.toList.drop i = o :: ops.toList.drop (i + 1):=by
     rw [List.drop_eq_getElem_cons (by simpa using hilt)]
     congr 1
     have:=(Array.getElem?_eq_some_iff.1 ho).2
     simpa using this
    rw [hdr] at hk4
    have hwop : wpOp P ops Q i (wpList P ops Q (ops.toList.drop (i + 1))) a w:=by unfold wpOp;simp only [ho];exact hk4
    refine wpOp_mono (fun a' w' h' => ih _ _ _ hsz' hf' hd' (.inr ⟨i + 1,by omega,by omega,fun j hj => ?_,h'⟩)) hwop
    rw [hset j,hk3 j hj]
    omega
def AfterAll (R : Nat → Value → Nat → World → Prop) (T : Nat → Value) (n : Nat) (w : World) : List Edge → Prop
 | [] => True
 | e :: l => match Region.binds .any e with
  | true => R e.on (T e.on) n w ∧ AfterAll R T n w l
  | false => AfterAll R T n w l
theorem afterAll_of {R : Nat → Value → Nat → World → Prop} {T : Nat → Value} {n : Nat} {w : World} : ∀ (l : List Edge),(∀ e ∈ l,Region.binds .any e = true → R e.on (T e.on) n w) → AfterAll R T n w l
 | [],_ => trivial
 | e :: l,h => by
   have ih:=afterAll_of l fun e' he' => h e' (List.mem_cons_of_mem _ he')
   unfold AfterAll
   cases hb : Region.binds .any e with
   | true => exact ⟨h e (List.mem_cons_self ..) hb,ih⟩
   | false => exact ih
def Ob' (P : Program) (A : (Nat → Value) → Act) (R : Nat → Value → Nat → World → Prop) (C : Nat → World → Prop) (S : Nat → World → Nat → World → Prop) (cost : Nat → Nat) (total : Nat) (i : Nat) (o : Oper) : Prop :=
 ∀ (T : Nat → Value) (w : World) (n : Nat),C n w → n + cost i ≤ total → AfterAll R T n w o.after.toList →
  match o.guard with
  | none => Op1 P o (A T).eval w fun v w' => R i v (n + cost i) w' ∧ C (n + cost i) w' ∧ S n w (n + cost i) w'
  | some (g,want) => (T g = .bool want → Op1 P o (A T).eval w fun v w' => R i v (n + cost i) w' ∧ C (n + cost i) w' ∧ S n w (n + cost i) w') ∧
    (T g ≠ .bool want → R i undef (n + cost i) w ∧ C (n + cost i) w ∧ S n w (n + cost i) w)
def ObAll (P : Program) (A : (Nat → Value) → Act) (R : Nat → Value → Nat → World → Prop) (C : Nat → World → Prop) (S : Nat → World → Nat → World → Prop) (cost : Nat → Nat) (total : Nat) : List Oper → Nat → Prop
 | [],_ => True
 | o :: l,k => Ob' P A R C S cost total k o ∧ ObAll P A R C S cost total l (k + 1)
theorem ObAll.get {A : (Nat → Value) → Act} : ∀ (l : List Oper) (k : Nat),ObAll P A R C S cost total l k → ∀ (i : Nat) (o : Oper),l[i]? = some o → Ob' P A R C S cost total (k + i) o
 | [],_,_,i,o,ho => by simp at ho
 | o' :: l,k,h,i,o,ho => by
   cases i with
   | zero => simp at ho;subst ho;exact h.1
   | succ i =>
     have:=ObAll.get l (k + 1) h.2 i o (by simpa using ho)
     rwa [show k + (i + 1) = k + 1 + i by omega]
theorem ob_of {A : (Nat → Value) → Act} (hB : InvB ops N a0.tmps.size) (hE : edgeB ops = true) {i : Nat} {o : Oper} (ho : ops[i]? = some o) (hi : i < N) (hA : ∀ T,setAll (ops.toList.take N) 0 T a0 = A T) (h : Ob' P A R C S cost total i o) : Ob P ops a0 R C S cost total N i o:=by
 intro T w n hC hn hp
 have hlt:=(Array.getElem?_eq_some_iff.1 ho).1
 have hE':=hE
 simp only [edgeB,List.all_eq_true,List.mem_range] at hE'
 have hEi:=hE' i hlt
 simp only [ho,Bool.and_eq_true] at hEi
 obtain ⟨he1,he2⟩:=hEi
 rw [Array.all_eq_true_iff_forall_mem] at he1
 have hAft : AfterAll R T n w o.after.toList:=afterAll_of _ fun e he hb => by
  have hm : e ∈ o.after:=by simpa using he
  have h1:=he1 e hm
  simp only [hb,Bool.not_true,Bool.false_or] at h1
  exact hp e.on (by have:=hB.back i o e ho hm hb;omega) h1
 have h0:=h T w n hC hn hAft
 unfold Region.wanted
 cases hg : o.guard with
 | none =>
   simp only [hg] at h0
   rw [hA T]
   exact h0
 | some gw =>
   obtain ⟨g,want⟩:=gw
   simp only [hg] at h0 he2
   obtain ⟨hbg,hgs⟩:=hB.guard i o g want ho hg
   obtain ⟨og,hog⟩ : ∃ og,ops[g]? = some og:=⟨ops[g],Array.getElem?_eq_getElem hgs⟩
   simp only [hog,Option.bind_some] at he2
   obtain ⟨d,hd⟩:=Option.isSome_iff_exists.1 he2
   have hgi : g < i:=by
    have : ∀ k, ∀ (i : Nat) (o : Oper),i < k → ops[i]? = some o → ∀ p,p < ops.size → bef ops i p = true → p < i:=by
     intro k
     induction k with
     | zero => intro i o hk;omega
     | succ k ih =>
       intro i o hk hio p hps hb
       obtain ⟨e,he,hbi,hor⟩:=hB.clos i p o hio hps hb
       have h5:=hB.back i o e hio he hbi
       rcases hor with rfl | hor
       ·exact h5
       ·obtain ⟨o',ho'⟩ : ∃ o',ops[e.on]? = some o':=⟨ops[e.on]'(by have:=(Array.getElem?_eq_some_iff.1 hio).1;omega),Array.getElem?_eq_getElem _⟩
        have:=ih e.on o' (by omega) ho' p hps hor
        omega
    exact this (i + 1) i o (by omega) ho g hgs hbg
   have hts : d < a0.tmps.size:=hB.size g og d hog hd
   have hget : (setAll (ops.toList.take N) 0 T a0).tmps[d]? = some (T g):=by
    rw [setAll_get T d _ 0 a0 hts]
    cases hw : lastW d (ops.toList.take N) 0 with
    | some j =>
      obtain ⟨_,o',ho',hd'⟩:=lastW_some _ _ hw
      simp only [Nat.sub_zero,List.getElem?_take] at ho'
      split at ho'
      ·have hj : ops[j]? = some o':=by simpa using ho'
       have:=hB.uniq j g o' og d hj hog hd' hd
       simp [this]
      ·cases ho'
    | none =>
      exfalso
      exact lastW_none _ _ hw g og (by rw [List.getElem?_take,if_pos (by omega)];simpa using hog) hd
   have hy : yielded ops (setAll (ops.toList.take N) 0 T a0).tmps g = match T g with | .bool b => some b | _ => none:=by
    unfold yielded
    simp only [hog,Option.bind_some,hd,hget]
    cases T g <;> rfl
   simp only [hy]
   by_cases hT : T g = .bool want
   ·simp only [hT]
    simp only [beq_self_eq_true,if_true]
    rw [hA T]
    exact h0.1 hT
   ·have hf : ((match T g with | .bool b => some b | _ => none) == some want) = false:=by
     cases hv : T g <;> simp
     intro e
     exact hT (by rw [hv,e])
    simp only [hf]
    exact h0.2 hT
end
theorem wp_region_ph {P : Program} {Q : Exit → Act → World → Prop} {id : Nat} {l : List Oper} {a0 : Act} {w : World} (N total : Nat) (R : Nat → Value → Nat → World → Prop) (C : Nat → World → Prop) (S : Nat → World → Nat → World → Prop) (cost : Nat → Nat)
  (hm : P.follows .mixedOrders = true) (hB : (invB l.toArray N a0.tmps.size && edgeB l.toArray) = true) (htot : sumCost cost (Array.replicate l.toArray.size true) l.toArray.size ≤ total)
  (hS : ∀ p v n w n' w',R p v n w → S n w n' w' → R p v n' w') (hC : C 0 w.drew)
  (h : ∃ A : (Nat → Value) → Act,(∀ T,setAll (l.take N) 0 T a0 = A T) ∧ ObAll P A R C S cost total (l.take N) 0 ∧
   ∀ T w',(∃ n,n ≤ total ∧ C n w' ∧ ∀ p,p < N → R p (T p) n w') → wpList P l.toArray Q (l.drop N) (A T) w') :
  (Code.region id l.toArray true).wp P Q a0 w:=by
 obtain ⟨A,hA,hob,hend⟩:=h
 simp only [Bool.and_eq_true] at hB
 refine wp_region_any hm ?_
 have key:=region_any (P:=P) (Q:=Q) (ops:=l.toArray) (a0:=a0) (R:=R) (C:=C) (S:=S) (cost:=cost) (total:=total) (invB_spec hB.1) hS htot
  (fun i o ho hi => ob_of (invB_spec hB.1) hB.2 ho hi (fun T => by simpa using hA T) (by
   have:=ObAll.get _ _ hob i o (by rw [List.getElem?_take,if_pos hi];simpa using ho)
   simpa using this))
  (fun T w' hc => by
   have:=hend T w' hc
   rw [← hA T] at this
   simpa using this)
  l.toArray.size (Array.replicate l.toArray.size false) a0 w.drew (by simp)
 have h0 : ∀ j,(Array.replicate l.toArray.size false).getD j false = false:=fun j => getD_replicate_false _ _
 have hz : ∀ (c : Nat → Nat) k,sumCost c (Array.replicate l.toArray.size false) k = 0:=by
  intro c k
  induction k with
  | zero => rfl
  | succ k ih => simp only [sumCost,ih,h0];rfl
 have hF : Fits l.toArray a0 (Array.replicate l.toArray.size false) (fun _ => undef) a0:=by
  refine ⟨rfl,rfl,?_,fun t _ => rfl⟩
  intro j o d _ hl
  rw [h0] at hl
  cases hl
 refine key (by simp only [cnt,hz];omega) ?_ (.inl ⟨fun _ => undef,fun j _ => h0 j,hF,by rw [hz];exact hC,?_⟩)
 ·intro j _ hl
  rw [h0] at hl
  cases hl
 ·intro j _ hl
  rw [h0] at hl
  cases hl
end Go.Proofs.YthebgfnaomgcnaaGreat.Ph
