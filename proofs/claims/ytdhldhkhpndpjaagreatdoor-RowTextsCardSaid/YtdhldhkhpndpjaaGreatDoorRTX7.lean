/-
  What stays while the stream moves on, and while cells of a block are set.
  The reference's order of addresses; the count of draws never goes down.
  Flows: view.FlowFault and the reference's FlowFault are the same function; Back and BackOf.
  The sum of bytes: filter.Sum and the reference's CheckSumOf are the same function of the bytes.
  The last of the law's marks: filtered is true.
  Generators of flows and times: contracts of Flow, Times.
  Flows turned round, and times: back, Back, BackOf, CheckTimes, TimesFault, Times, filtered.
  Reports: how they lie; when they are equal; their order.
-/
import Derived.Test.YtdhldhkhpndpjaaGreatDoorRTX6
import Derived.Test.YtdhldhkhpndpjaaGreatDoorRTX1
import Derived.Test.YtdhldhkhpndpjaaGreatDoorRTX2
import Derived.Laws.StructEq
import Derived.Lib.Bytealg
import Derived.Lib.Small
set_option linter.unusedVariables false
set_option maxRecDepth 100000
set_option maxHeartbeats 1000000
namespace Go.Proofs.YtdhldhkhpndpjaaGreatDoor
open Go.RowKit Go
theorem KeepT.of_gen {b m m':Nat} {w w':World} (h:Strm w b m) (hg:Gen b w w' m'):KeepT [25] w w':=by
 obtain ⟨ad,n,c,k,zs,hb,_⟩:=h.ex
 exact KeepT.of_grown hg.g hb (by simp)
theorem KeepT.of_set {S:List TypeId} {w:World} {B i:Nat} {v:Value} {t:TypeId} {cs:Array Value} (h:Blk w B t cs) (ht:t ∈ S):KeepT S w (w.setCell ⟨B,i,none⟩ v) :=
 ⟨by simp,fun g hg => by
  by_cases e:g=B
  ·subst e;exact .inr ⟨cs,t,(0,0),h,ht⟩
  ·exact .inl (Below.heap_setCell _ _ _ _ e)⟩
theorem KeepT.alloc {S:List TypeId} {u w:World} (h:KeepT S u w) (o:Obj):KeepT S u (w.alloc o):=h.trans (KeepT.of_below (below_alloc (Below.refl _ _) _))
theorem RdInts.grown {w w':World} {b g o n:Nat} {zs:List Int} (h:RdInts w g o n zs) (hg:w.grownBy w' (some b)) (hne:g ≠ b):RdInts w' g o n zs :=
 ⟨h.1,Nat.lt_of_lt_of_le h.2.1 hg.size,fun i hi => (World.cell?_of_block (w:=w) (hg.block g h.2.1 (fun e => hne (Option.some.inj e)))).trans (h.2.2 i hi)⟩
open Go.RowKit
structure RdB (w:World) (ad:Option Addr) (bs:List UInt8):Prop where
 small:bs.length≤140737488351232
 cell:∀ i,i < bs.length→∃ g o,ad=some ⟨g,o,none⟩∧g < w.heap.size∧w.cell? ⟨g,o + i,none⟩=some (.int .u8 ((bs.getD i 0).toNat:Int))
def sumB:List UInt8→Bool→Nat
 | [],_ => 0
 | c :: l,true => c.toNat * 256 + sumB l false
 | c :: l,false => c.toNat + sumB l true
def foldSum (n:Nat):Nat:=if n=0 then 0 else (n - 1) % 65535 + 1
theorem sumB_le:∀ (l:List UInt8) (e:Bool),sumB l e≤65280 * l.length
 | [],_ => by simp [sumB]
 | c :: l,true => by have:=sumB_le l false;have:=c.toNat_lt;simp only [sumB,List.length_cons];omega
 | c :: l,false => by have:=sumB_le l true;have:=c.toNat_lt;simp only [sumB,List.length_cons];omega
theorem sumB_snoc:∀ (l:List UInt8) (e:Bool) (c:UInt8),sumB (l ++ [c]) e=sumB l e + if (decide (l.length % 2=0))=e then c.toNat * 256 else c.toNat
 | [],true,c => by simp [sumB]
 | [],false,c => by simp [sumB]
 | d :: l,true,c => by
   simp only [List.cons_append,sumB,sumB_snoc l false c,List.length_cons]
   have h1:(l.length % 2=0) ↔ ¬ ((l.length + 1) % 2=0):=by omega
   by_cases h:l.length % 2=0
   ·have h2:=h1.1 h;simp [h,h2];omega
   ·have h2:(l.length + 1) % 2=0:=by omega
    simp [h,h2];omega
 | d :: l,false,c => by
   simp only [List.cons_append,sumB,sumB_snoc l true c,List.length_cons]
   by_cases h:l.length % 2=0
   ·have h2:¬ (l.length + 1) % 2=0:=by omega
    simp [h,h2];omega
   ·have h2:(l.length + 1) % 2=0:=by omega
    simp [h,h2];omega
theorem sumB_take (bs:List UInt8) (k:Nat) (hk:k < bs.length):sumB (bs.take (k + 1)) true=sumB (bs.take k) true + if k % 2=0 then (bs.getD k 0).toNat * 256 else (bs.getD k 0).toNat:=by
 rw [List.take_succ_eq_append_getElem hk,sumB_snoc,List.length_take,Nat.min_eq_left (by omega)]
 simp [List.getD,List.getElem?_eq_getElem hk]
theorem foldSum_step (n:Nat) (h:65535 < n):foldSum (n / 65536 + n % 65536)=foldSum n:=by
 unfold foldSum
 have h1:n / 65536 + n % 65536 ≠ 0:=by omega
 rw [if_neg h1,if_neg (by omega)]
 omega
theorem foldSum_small (n:Nat) (h:n≤65535):foldSum n=n:=by unfold foldSum;split <;> omega
theorem i64_and65535s (n:Int):bits .and .i64 n 65535=n % 65536:=by
 have h127:(BitVec.ofInt 64 65535).toNat=2 ^ 16 - 1:=by decide
 have key:(BitVec.ofInt 64 n &&& BitVec.ofInt 64 65535).toNat=(n % ((2 ^ 64:Nat):Int)).toNat % 2 ^ 16:=by
  rw [BitVec.toNat_and,BitVec.toNat_ofInt,h127,Nat.and_two_pow_sub_one_eq_mod]
 show IntKind.i64.wrap ((BitVec.ofInt 64 n &&& BitVec.ofInt 64 65535).toNat:Nat)=n % 65536
 rw [key,IntKind.wrap_i64]
 omega
theorem sum_any (ad:Option Addr) (c:Nat) (bs:List UInt8) (w:World) (h:RdB w ad bs) :
  Calls Tryz.prog 124 #[.slice ad bs.length c] w fun e w' => e=.returned (.int .i64 (65535 - (foldSum (sumB bs true):Int)))∧w=w':=by
 have hs:=h.small
 generalize hn:bs.length=n
 rw [hn] at hs
 have Hn:=Lib.hid hn
 clear hn
 go_enter Tryz.func124,Tryz.ntmps124
 go_wp2
 go_loop [3,8] (fun t i => ∃ k:Nat,k≤n∧i=.int .i64 k∧t=.int .i64 (sumB (bs.take k) true)) (fun _ i => n - (intOf i).toNat)
 case atStart => exact ⟨0,Nat.zero_le _,rfl,by simp [sumB]⟩
 case round =>
  obtain ⟨k,hk,rfl,rfl⟩:=hrel
  by_cases hlt:k < n
  ·obtain ⟨g,o,had,hg,hc⟩:=h.cell k (by rw [Hn.out];exact hlt)
   have hsm:=sumB_take bs k (by rw [Hn.out];exact hlt)
   have hb:sumB (bs.take k) true≤65280 * k:=by have:=sumB_le (bs.take k) true;have h2:=List.length_take_le k bs;omega
   have hcb:=(bs.getD k 0).toNat_lt
   generalize (bs.getD k 0).toNat=x at hc hsm hcb
   generalize sumB (bs.take k) true=s at hsm hb ⊢
   have Hs:=Lib.hid hsm
   clear hsm
   subst had
   go_wp2
   all_goals
    refine ⟨⟨k + 1,by omega,by go_num,?_⟩,by simp [intOf];omega⟩
    rw [Hs.out]
    have hpar:(((k:Int) % 2 == 0)=true∧k % 2=0) ∨ (((k:Int) % 2 == 0)=false∧¬ k % 2=0):=by
     by_cases h2:k % 2=0
     ·exact .inl ⟨by simp;omega,h2⟩
     ·exact .inr ⟨by simp;omega,h2⟩
    rcases hpar with ⟨h2,h3⟩ | ⟨h2,h3⟩ <;> simp_all
  ·obtain rfl:k=n:=by omega
   have he:bs.take k=bs:=List.take_of_length_le (by rw [Hn.out];exact Nat.le_refl _)
   rw [he]
   have hb:=sumB_le bs true
   rw [Hn.out] at hb
   obtain ⟨s,hs⟩:∃ s,s=sumB bs true:=⟨_,rfl⟩
   rw [← hs] at hb ⊢
   have Hs:=Lib.hid hs
   clear he h hs
   go_wp2
   go_loop [3] (fun t => ∃ m:Nat,m≤s∧foldSum m=foldSum s∧t=.int .i64 m) (fun t => (intOf t).toNat)
   case atStart => exact ⟨s,Nat.le_refl _,rfl,rfl⟩
   case round =>
    obtain ⟨m,hm,hf,rfl⟩:=hrel
    have HF:=Lib.hid hf
    clear hf
    have ha:=i64_and65535s (m:Int)
    by_cases hgt:65535 < m
    ·go_wp2
     refine ⟨⟨m / 65536 + m % 65536,by omega,by rw [foldSum_step m hgt,HF.out],by simp⟩,by simp [intOf];omega⟩
    ·go_wp2
     go_ret
     exact ⟨by rw [← Hs.out, ← HF.out,foldSum_small m (by omega)];rfl,rfl⟩
theorem filtered_any (w:World):Calls Tryz.prog 37 #[] w (Ret (.bool true) w):=by
 have hr:RdB (w.alloc (.cells #[.int .u8 0, .int .u8 1] 5 (0,0))) (some ⟨w.heap.size,0,none⟩) [0,1]:=by
  refine ⟨by decide,fun i hi => ⟨w.heap.size,0,rfl,by simp,?_⟩⟩
  have hb:=Blk.new w 5 #[.int .u8 0, .int .u8 1]
  have hi:i < 2:=hi
  rw [Blk.cell hb]
  match i,hi with
  | 0,_ => rfl
  | 1,_ => rfl
 have hs:foldSum (sumB [0,1] true)=1:=by decide
 go_enter Tryz.func37,Tryz.ntmps37
 go_wp2_with fail
 refine (sum_any _ 2 [0,1] _ hr).mono ?_
 rintro e w1 ⟨rfl,rfl⟩
 rw [hs]
 go_wp2_with fail
 go_ret
 exact ⟨rfl,below_alloc (Below.refl _ _) _⟩
def FV.back (f:FV):FV:=⟨f.p,f.s2,f.h2,f.l2,f.s1,f.h1,f.l1,f.tp,f.fp⟩
/-! times -/
structure TV where
 y:Int
 t:Int
 d:Int
 o:Int
def TV.cells (x:TV):Array Value:=#[.int .i64 x.y, .int .i64 x.t, .int .i64 x.d, .int .i64 x.o]
def TV.ok (x:TV):Prop:=I41 x.y∧I41 x.t∧I41 x.d∧I41 x.o
def TV.zero:TV:=⟨0,0,0,0⟩
structure RP where
 node:ByteArray
 hour:Int
 out:Bool
 f:FV
 pk:Int
 sz:Int
def RP.Sm (r:RP):Prop:=r.f.ok∧-1125899906842624≤r.hour∧r.hour≤1125899906842624∧r.node.size≤200000
def RB:Type:={r:RP // r.Sm}
theorem fvz_ok:FV.zero.ok:=by
 unfold FV.zero FV.ok I41 U64
 simp
instance:Inhabited RB:=⟨⟨⟨⟨#[]⟩,0,false,FV.zero,0,0⟩,fvz_ok,by show -1125899906842624≤(0:Int);decide,by show (0:Int)≤1125899906842624;decide,by decide⟩⟩
end Go.Proofs.YtdhldhkhpndpjaaGreatDoor
