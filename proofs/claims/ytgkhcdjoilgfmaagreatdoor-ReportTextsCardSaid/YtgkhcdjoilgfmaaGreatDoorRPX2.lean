/-
  Small functions on numbers and addresses: Outside, in, CheckAddr, AddrFault, HasPorts.
  Addresses with their first bits alone: low, Length, Masked, Filled.
  Prefixes: CheckPrefix.
  The reference's wide numbers: an address as nine digits.
  Numbers in digits of 2^16: low bits struck or filled, digit by digit.
  A region that draws its order: all but its last operations give one value in every later world; the last ones, which wait for all others, are walked in order.
  The reference's first and last address of a prefix: digits struck or filled, bit by bit.
  The reference's firstOf and lastOf: the digits of an address, low bits struck or filled.
-/
import Derived.Test.YtgkhcdjoilgfmaaGreatDoorRPX1
import Derived.BigQuiet
import Derived.Lib.Hide
import Derived.WalkKit
import Derived.StillTail
import Derived.StillTailTactics
import Derived.Laws.Tables
import Derived.Laws.Rows
set_option linter.unusedVariables false
set_option maxRecDepth 100000
set_option maxHeartbeats 2000000
namespace Go.Proofs.YtgkhcdjoilgfmaaGreatDoor
open Go.RowKit
def outB (n lo hi:Int):Bool:=decide (n < lo) || decide (hi < n)
def inB (n lo hi:Int):Bool:=decide (lo≤n) && decide (n≤hi)
theorem inB_out (n lo hi:Int):inB n lo hi=!outB n lo hi:=by unfold inB outB;rw [Bool.eq_iff_iff];simp
def aFault (six:Bool) (hi lo:Int):Int:=if six=false∧(hi ≠ 0 ∨ 4294967296≤lo) then 3 else 0
theorem aFault_vals (six:Bool) (hi lo:Int):aFault six hi lo=0 ∨ aFault six hi lo=3:=by unfold aFault;split <;> simp
def hasPorts (p:Int):Bool:=p == 6 || p == 17
theorem outside_any (n lo hi:Int) (w:World):Calls Tryz.prog 125 #[.int .i64 n, .int .i64 lo, .int .i64 hi] w fun e w' => e=.returned (.bool (outB n lo hi))∧w=w':=by
 go_enter Tryz.func125,Tryz.ntmps125
 go_wp2
 all_goals (go_ret;exact ⟨by simp [outB, *] <;> omega,rfl⟩)
theorem in_any (n lo hi:Int) (w:World):Calls Tryz.prog 67 #[.int .i64 n, .int .i64 lo, .int .i64 hi] w fun e w' => e=.returned (.bool (inB n lo hi))∧w=w':=by
 go_enter Tryz.func67,Tryz.ntmps67
 go_wp2
 all_goals (go_ret;refine ⟨?_,rfl⟩;first | (simp [inB, *];done) | (simp [inB, *];intros;omega))
theorem checkAddr_any (six:Bool) (hi lo:Int) (w:World) (h1:U64 hi) (h2:U64 lo):Calls Tryz.prog 133 #[vAddr six hi lo] w fun e w' => e=.returned (.int .i64 (aFault six hi lo))∧∃ o,w'=w.alloc o:=by
 unfold vAddr
 go_enter Tryz.func133,Tryz.ntmps133
 go_wp2
 all_goals (go_ret;refine ⟨?_,_,rfl⟩)
 all_goals (cases six <;> simp_all [aFault] <;> omega)
theorem addrFault_any (six:Bool) (hi lo:Int) (w:World) (h1:U64 hi) (h2:U64 lo):Calls Tryz.prog 126 #[vAddr six hi lo] w fun e w' => e=.returned (.int .i64 (aFault six hi lo))∧∃ o,w'=w.alloc o:=by
 obtain ⟨h10,h11⟩:=h1
 obtain ⟨h20,h21⟩:=h2
 unfold vAddr
 go_enter Tryz.func126,Tryz.ntmps126
 go_wp2
 all_goals (go_ret;refine ⟨?_,_,rfl⟩)
 all_goals (cases six <;> simp_all [aFault] <;> omega)
theorem hasPorts_any (p:Int) (w:World):Calls Tryz.prog 207 #[.int .i64 p] w fun e w' => e=.returned (.bool (hasPorts p))∧w=w':=by
 go_enter Tryz.func207,Tryz.ntmps207
 go_wp2
 all_goals (go_ret;exact ⟨by simp_all [hasPorts],rfl⟩)
open Go.RowKit Go
def vA (six:Bool) (hi lo:Nat):Value:=.agg #[.bool six, .int .u64 (hi:Int), .int .u64 (lo:Int)]
theorem u64_and65535 (n:Nat):bits .and .u64 (n:Int) 65535=((n % 65536:Nat):Int):=by
 have h127:(BitVec.ofInt 64 65535).toNat=2 ^ 16 - 1:=by decide
 have key:(BitVec.ofInt 64 (n:Int) &&& BitVec.ofInt 64 65535).toNat=n % 65536:=by
  rw [BitVec.toNat_and,BitVec.toNat_ofInt,h127,Nat.and_two_pow_sub_one_eq_mod]
  omega
 show IntKind.u64.wrap ((BitVec.ofInt 64 (n:Int) &&& BitVec.ofInt 64 65535).toNat:Nat)=_
 rw [key,IntKind.wrap_u64]
 omega
theorem dig (x m:Nat) (hx:x < 18446744073709551616):wrap64 (bits .and .u64 ((x:Int) / (m:Int)) 65535)=((x / m % 65536:Nat):Int):=by
 have e:(x:Int) / (m:Int)=((x / m:Nat):Int):=by rw [Int.natCast_ediv]
 rw [e,u64_and65535]
 unfold wrap64
 have:x / m % 65536 < 65536:=Nat.mod_lt _ (by decide)
 omega
def wCells (six:Bool) (hi lo:Nat):Array Value:=#[.int .i64 ((lo % 65536:Nat):Int), .int .i64 ((lo / 65536 % 65536:Nat):Int), .int .i64 ((lo / 4294967296 % 65536:Nat):Int), .int .i64 ((lo / 281474976710656 % 65536:Nat):Int), .int .i64 ((hi % 65536:Nat):Int), .int .i64 ((hi / 65536 % 65536:Nat):Int), .int .i64 ((hi / 4294967296 % 65536:Nat):Int), .int .i64 ((hi / 281474976710656 % 65536:Nat):Int), .int .i64 (if six=true then 1 else 0)]
theorem of_any (six:Bool) (hi lo:Nat) (w:World) (h1:hi < 18446744073709551616) (h2:lo < 18446744073709551616) :
  Calls Tryz.prog 83 #[vA six hi lo] w (Ret (.agg (wCells six hi lo)) w):=by
 have d0:wrap64 (bits .and .u64 (lo:Int) 65535)=(lo:Int) % 65536:=by rw [u64_and65535];unfold wrap64;omega
 have d7:wrap64 (bits .and .u64 (hi:Int) 65535)=(hi:Int) % 65536:=by rw [u64_and65535];unfold wrap64;omega
 have d1:=dig lo 65536 h2
 have d2:=dig lo 4294967296 h2
 have d3:=dig lo 281474976710656 h2
 have d4:=dig hi 65536 h1
 have d5:=dig hi 4294967296 h1
 have d6:=dig hi 281474976710656 h1
 have hwc:Hid (wCells six hi lo=#[.int .i64 ((lo % 65536:Nat):Int), .int .i64 ((lo / 65536 % 65536:Nat):Int), .int .i64 ((lo / 4294967296 % 65536:Nat):Int), .int .i64 ((lo / 281474976710656 % 65536:Nat):Int), .int .i64 ((hi % 65536:Nat):Int), .int .i64 ((hi / 65536 % 65536:Nat):Int), .int .i64 ((hi / 4294967296 % 65536:Nat):Int), .int .i64 ((hi / 281474976710656 % 65536:Nat):Int), .int .i64 (if six=true then 1 else 0)]):=Lib.hid rfl
 generalize (lo / 65536 % 65536:Nat)=r1 at *
 generalize (lo / 4294967296 % 65536:Nat)=r2 at *
 generalize (lo / 281474976710656 % 65536:Nat)=r3 at *
 generalize (hi / 65536 % 65536:Nat)=r4 at *
 generalize (hi / 4294967296 % 65536:Nat)=r5 at *
 generalize (hi / 281474976710656 % 65536:Nat)=r6 at *
 generalize wCells six hi lo=wc at *
 have HD:=Lib.hid (And.intro d0 (And.intro d1 (And.intro d2 (And.intro d3 (And.intro d7 (And.intro d4 (And.intro d5 d6)))))))
 clear d0 d1 d2 d3 d4 d5 d6 d7
 unfold vA
 go_enter Tryz.func83,Tryz.ntmps83
 go_wp2
 refine wp_loop_rounds 6 ?_
 rw [rounds_succ]
 go_wp2_with (rw [rounds_succ])
 all_goals
  refine bodyPost_ret (v:=.agg wc) (by rw [hwc.out];simp [results,Tryz.results83,go_sem, *];exact HD.out) rfl ⟨rfl,by repeat (first | exact Below.refl _ _ | apply below_alloc | apply below_drewN)⟩
open Go
theorem digits4 (n:Nat) (hn:n < 18446744073709551616):n=n % 65536 + 65536 * (n / 65536 % 65536 + 65536 * (n / 4294967296 % 65536 + 65536 * (n / 281474976710656 % 65536))):=by omega
section
variable {P:Program} {ops:Array Oper} {md:Region.Mode} {C:World→Prop}
def anyQL (P:Program) (md:Region.Mode) (ops:Array Oper) (C:World→Prop) (n:Nat) (L:Array Bool→Act→Prop):Nat→Array Bool→Act→Prop
 | 0,listed,a => L listed a
 | f + 1,listed,a => Region.ready md ops listed ≠ []∧∀ i ∈ Region.ready md ops listed,i < n∧qOp P ops C i (anyQL P md ops C n L f (listed.setIfInBounds i true)) a
theorem any_of_QL {n g:Nat} {L:Array Bool→Act→Prop} {Q':Exit→Act→World→Prop} (hL:∀ listed a w,C w→L listed a→wpAny P md ops Q' g listed a w) :
  ∀ (f:Nat) (listed:Array Bool) (a:Act) (w:World),C w→anyQL P md ops C n L f listed a→wpAny P md ops Q' (f + g) listed a w
 | 0,_,_,_,hw,h => by rw [Nat.zero_add];exact hL _ _ _ hw h
 | f + 1,_,_,_,hw,h => by
   rw [show f + 1 + g=(f + g) + 1 by omega]
   exact ⟨fun h0 => absurd h0 h.1,fun i hi => wpOp_of_qOp hw (fun a' w' hw' h' => any_of_QL hL f _ a' w' hw' h') (h.2 i hi).2⟩
theorem QL_first {n i:Nat} {oi:Oper} {v:Value} {L:Array Bool→Act→Prop} (hi:ops[i]?=some oi) (hsel:∀ (j:Nat) (o:Oper) cs b,ops[j]?=some o→o.op ≠ .select cs b)
  (hs:Region.sinkB md ops n=true) (hc:Region.chainB md ops n=true) (hn:n < ops.size) (hin:i < n)
  (hdone:∀ listed a,L listed a→∀ j ∈ Region.ready md ops listed,n≤j) :
  ∀ (f:Nat) (listed:Array Bool) (a:Act),HeadInv md ops n listed →
   (∀ j oj,ops[j]?=some oj→j ≠ i→listed.getD j true=false→(∀ e ∈ oj.after,Region.binds md e=true→e.on ≠ i)→oi.apart ops oj=true) →
   i ∈ Region.ready md ops listed→YieldsIn P ops C oi v a →
   anyQL P md ops C n L f (listed.setIfInBounds i true) (a.put oi.dst v)→anyQL P md ops C n L (f + 1) listed a:=by
 intro f
 induction f with
 | zero =>
   intro listed a inv _ hr hy H
   have hun:=(mem_ready.1 hr).1
   refine ⟨fun h => (by rw [h] at hr;cases hr),fun j hj => ?_⟩
   have hjn:j < n:=by
    rcases Nat.lt_or_ge j n with h | h
    ·exact h
    ·exact absurd hj (tail_waits hs hc hn inv _ i rfl hin hun j h)
   refine ⟨hjn,?_⟩
   by_cases hji:j=i
   ·subst hji;exact hy.qOp hi H
   ·have:=hdone _ _ H j (ready_mono hj hji)
    omega
 | succ f ih =>
   intro listed a inv hfree hr hy H
   have hun:=(mem_ready.1 hr).1
   refine ⟨fun h => (by rw [h] at hr;cases hr),fun j hj => ?_⟩
   have hjn:j < n:=by
    rcases Nat.lt_or_ge j n with h | h
    ·exact h
    ·exact absurd hj (tail_waits hs hc hn inv _ i rfl hin hun j h)
   refine ⟨hjn,?_⟩
   by_cases hji:j=i
   ·subst hji;exact hy.qOp hi H
   ·have h1:=(H.2 j (ready_mono hj hji)).2
    obtain ⟨hjun,oj,hoj,hall⟩:=mem_ready.1 hj
    have hnot:∀ e ∈ oj.after,Region.binds md e=true→e.on ≠ i:=fun e he hb heq => by
     have h1:=hall e he hb
     rw [heq,getD_both hun] at h1
     cases h1
    have h2:=qOp_put hoj (hfree j oj hoj hji hjun hnot) (fun cs b => hsel i oi cs b hi) (fun cs b => hsel j oj cs b hoj) hy h1
    have hfree':∀ k ok,ops[k]?=some ok→k ≠ i→(listed.setIfInBounds j true).getD k true=false →
      (∀ e ∈ ok.after,Region.binds md e=true→e.on ≠ i)→oi.apart ops ok=true:=fun k ok hk hki hun hno => by
     refine hfree k ok hk hki ?_ hno
     by_cases hjk:j=k
     ·subst hjk;exact hjun
     ·rw [getD_set_ne true hjk] at hun;exact hun
    refine qOp_mono (fun a' h3 => ih (listed.setIfInBounds j true) a' (inv.set hj hjn) hfree' (ready_mono hr (Ne.symm hji)) h3.1 ?_) h2
    rw [Array.setIfInBounds_comm _ _ hji]
    exact h3.2
theorem QL_lex {n g:Nat} {Lq:Act→Prop} (hsel:Region.noSelect ops=true) (hs:Region.sinkB md ops n=true) (hc:Region.chainB md ops n=true) (hn:n < ops.size) :
  ∀ (l:List Oper) (k:Nat) (listed:Array Bool) (a:Act),(∀ j,j < l.length→l[j]?=ops[k + j]?)→k + l.length=n→HeadInv md ops n listed →
  Region.lexHead md ops g l.length k listed=true→wpQuiet P ops C Lq l a →
  anyQL P md ops C n (fun listed' a' => Region.seqB md ops g n listed'=true∧Lq a') l.length listed a
 | [],k,listed,a,_,hk,_,hB,h => by
   have:k=n:=by simpa using hk
   subst this
   exact ⟨by simpa [Region.lexHead] using hB,h⟩
 | o :: l,k,listed,a,hl,hk,inv,hB,h => by
   have h0:ops[k]?=some o:=by simpa using (hl 0 (by simp)).symm
   simp only [List.length_cons,Region.lexHead,Bool.and_eq_true] at hB
   obtain ⟨⟨hr,hf⟩,hB'⟩:=hB
   have hkn:k < n:=by simp only [List.length_cons] at hk;omega
   have hr':k ∈ Region.ready md ops listed:=by simpa using hr
   have hst:qOp P ops C k (wpQuiet P ops C Lq l) a:=by unfold qOp;simp only [h0];exact h
   obtain ⟨v,hy,hK⟩:=yieldsIn_of_qOp h0 hst
   exact QL_first h0 (Region.noSelect_spec hsel) hs hc hn hkn (fun listed' a' hL => seqB_ready hL.1) l.length listed a inv (Region.free_spec h0 hf) hr' hy
    (QL_lex hsel hs hc hn l (k + 1) _ _ (fun j hj => by have:=hl (j + 1) (by simp;omega);simpa [Nat.add_assoc,Nat.add_comm 1 j] using this) (by simp only [List.length_cons] at hk;omega) (inv.set hr' hkn) hB' hK)
theorem wp_region_later_tail {id:Nat} {Q:Exit→Act→World→Prop} {a:Act} {W:World} {l:List Oper} (n:Nat) (hm:P.follows .mixedOrders=true) (hB:Region.lexTailB .any l.toArray n=true)
  (h:wpQuiet P l.toArray (fun w' => ∃ m:Later W,w'=m.1) (fun a' => ∀ w',(∃ m:Later W,w'=m.1)→wpList P l.toArray Q (l.drop n) a' w') (l.take n) a):(Code.region id l.toArray true).wp P Q a W:=by
 simp only [Region.lexTailB,Bool.and_eq_true,decide_eq_true_eq] at hB
 obtain ⟨⟨⟨⟨hsel,hn⟩,hs⟩,hc⟩,hlex⟩:=hB
 have hn':n < l.length:=by simpa using hn
 have htl:(l.take n).length=n:=by simp;omega
 have hdl:(l.drop n).length=l.toArray.size - n:=by simp
 have inv0:HeadInv .any l.toArray n (Array.replicate l.toArray.size false) :=
  ⟨by simp,fun j oj _ hl => (by rw [getD_replicate_false] at hl;cases hl),fun t _ ht => getD_in (by simpa using ht) (getD_replicate_false _ _)⟩
 have H:=QL_lex (md:=.any) (g:=l.toArray.size - n) hsel hs hc hn (l.take n) 0 _ a (fun j hj => by
  have hj':j < n:=by rw [htl] at hj;exact hj
  simp [hj']) (by simpa using htl) inv0 (by rw [htl];exact hlex) h
 refine wp_region_any hm ?_
 have:=any_of_QL (Q':=Q) (g:=l.toArray.size - n) (fun listed a' w' hw' hL => by
  have:=wpAny_of_seq (md:=.any) (Q':=Q) (l.drop n) n listed a' w' (fun j => by simp [List.getElem?_drop]) (by rw [hdl];exact hL.1) (hL.2 w' hw')
  rwa [hdl] at this) _ _ _ { W with drawn:=W.drawn + 1 } ⟨⟨W.drew,below_drew (Below.refl _ _)⟩,rfl⟩ H
 rw [htl,show n + (l.toArray.size - n)=l.toArray.size by omega] at this
 exact this
end
def dg (hi lo:Nat):Nat→Nat
 | 0 => lo % 65536
 | 1 => lo / 65536 % 65536
 | 2 => lo / 4294967296 % 65536
 | 3 => lo / 281474976710656 % 65536
 | 4 => hi % 65536
 | 5 => hi / 65536 % 65536
 | 6 => hi / 4294967296 % 65536
 | _ => hi / 281474976710656 % 65536
theorem dg_lt (hi lo d:Nat):dg hi lo d < 65536:=by
 unfold dg
 split <;> exact Nat.mod_lt _ (by decide)
def wv (six:Bool) (f:Nat→Nat):Array Value:=#[.int .i64 ((f 0:Nat):Int), .int .i64 ((f 1:Nat):Int), .int .i64 ((f 2:Nat):Int), .int .i64 ((f 3:Nat):Int), .int .i64 ((f 4:Nat):Int), .int .i64 ((f 5:Nat):Int), .int .i64 ((f 6:Nat):Int), .int .i64 ((f 7:Nat):Int), .int .i64 (if six=true then 1 else 0)]
theorem wCells_wv (six:Bool) (hi lo:Nat):wCells six hi lo=wv six (dg hi lo):=rfl
theorem lt8 {d:Nat} (h:d < 8):d=0 ∨ d=1 ∨ d=2 ∨ d=3 ∨ d=4 ∨ d=5 ∨ d=6 ∨ d=7:=by omega
theorem wv_get (six:Bool) (f:Nat→Nat) (d:Nat) (h:d < 8):(wv six f)[d]?=some (.int .i64 ((f d:Nat):Int)):=by
 rcases lt8 h with rfl | rfl | rfl | rfl | rfl | rfl | rfl | rfl <;> rfl
theorem wv_one (six:Bool) (f:Nat→Nat):(wv six f).all (·.oneCell')=true:=by simp [wv,Value.oneCell']
theorem belowRow {u v:World} (h:Below u.heap.size u v) {B:Nat} (hB:u.heap.size≤B) (c:Array Value):Below u.heap.size u (v.setRow B c) :=
 ⟨h.os,h.tape,h.output,by rw [setRow_size];exact h.size,fun i hi => (setRow_other v B i c (by omega)).trans (h.block i hi)⟩
theorem Blk.row {w:World} {B:Nat} {t:TypeId} {cs:Array Value} (h:Blk w B t cs) (c2:Array Value):Blk (w.setRow B c2) B t c2:=setRow_heap w B _ _ _ _ h
end Go.Proofs.YtgkhcdjoilgfmaaGreatDoor
