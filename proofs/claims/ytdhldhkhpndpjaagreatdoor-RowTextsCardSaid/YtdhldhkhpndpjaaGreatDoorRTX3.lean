/-
  The address of a wide number.
  The reference's prefixes: PrefixFault, MaskOf, LastOf.
  Two wide numbers compared.
  The reference's PrefixFault and MaskOf.
  Slices that a call owns, and slices that can be read: append, for every element type. Lemmas of this claim's own.
  The mark of the address laws: addressed is true. And the small functions errs, when.
  Decimal and hexadecimal numerals of small numbers: strconv.FormatUint, FormatInt, Itoa over the laid tables.
  Prefixes and addresses compared: equal ones.
-/
import Derived.Test.YtdhldhkhpndpjaaGreatDoorRTX2
import Derived.ChangeKeysEq
import Derived.Laws.StructEq
import Derived.Test.YtdhldhkhpndpjaaGreatDoorRTX1
import Derived.Maps.AppendAt
import Derived.Lib.Hide
import Derived.Test.YtdhldhkhpndpjaaGreatDoorRTX4
import Derived.Lib.AppendIntMem
import Derived.LaidSub
import Derived.MakeChecks
set_option linter.unusedVariables false
set_option maxRecDepth 100000
set_option maxHeartbeats 4000000
namespace Go.Proofs.YtdhldhkhpndpjaaGreatDoor
open Go.RowKit Go
def PS (f:Nat→Nat) (o:Nat):Nat→Nat
 | 0 => 0
 | k + 1 => PS f o k + f (o + k) * 2 ^ (16 * k)
theorem PS_lt (f:Nat→Nat) (hf:∀ d,f d < 65536) (o:Nat):∀ k,PS f o k < 2 ^ (16 * k)
 | 0 => by simp [PS]
 | k + 1 => by
   have h1:=PS_lt f hf o k
   have h2:=hf (o + k)
   have e:2 ^ (16 * (k + 1))=65536 * 2 ^ (16 * k):=by rw [Nat.mul_add,Nat.pow_add,Nat.mul_comm]
   unfold PS
   rw [e]
   have h3:f (o + k) * 2 ^ (16 * k)≤65535 * 2 ^ (16 * k):=Nat.mul_le_mul_right _ (by omega)
   omega
theorem PS_four (f:Nat→Nat) (o:Nat):PS f o 4=f o + 65536 * (f (o + 1) + 65536 * (f (o + 2) + 65536 * f (o + 3))):=by
 simp only [PS,Nat.add_zero,Nat.mul_zero,Nat.pow_zero,Nat.mul_one,Nat.zero_add,Nat.reduceMul,Nat.reducePow]
 omega
theorem shl_cast (x s:Nat) (hx:x < 65536) (hs:s≤48):IntKind.u64.wrap ((x:Int) * 2 ^ s)=((x * 2 ^ s:Nat):Int):=by
 have e:(x:Int) * 2 ^ s=((x * 2 ^ s:Nat):Int):=by rw [Int.natCast_mul,Int.natCast_pow];rfl
 have h1:x * 2 ^ s≤65535 * 2 ^ 48:=Nat.mul_le_mul (by omega) (Nat.pow_le_pow_right (by decide) hs)
 rw [e,IntKind.wrap_u64]
 generalize x * 2 ^ s=y at *
 omega
theorem wideAddr_any (six:Bool) (f:Nat→Nat) (w:World) (hf:∀ d,f d < 65536) :
  Calls Tryz.prog 95 #[.agg (wv six f)] w (Ret (vA six (PS f 4 4) (PS f 0 4)) w):=by
 have Hf:=Lib.hid hf
 clear hf
 have HA0:Blk (w.alloc (.cells (wv six f) 121 (0,0))) w.heap.size 121 (wv six f):=Blk.new w _ _
 have HA1:Hid (Blk (((w.alloc (.cells (wv six f) 121 (0,0))).alloc (.cells #[.bool false, .int .u64 0, .int .u64 0] 28 (0,0))).alloc (.cells #[.bool false, .int .u64 0, .int .u64 0] 28 (0,0))) w.heap.size 121 (wv six f)):=Lib.hid ((HA0.alloc _).alloc _)
 have HR1:Hid (Blk (((w.alloc (.cells (wv six f) 121 (0,0))).alloc (.cells #[.bool false, .int .u64 0, .int .u64 0] 28 (0,0))).alloc (.cells #[.bool false, .int .u64 0, .int .u64 0] 28 (0,0))) (w.heap.size + 1) 28 #[.bool false, .int .u64 0, .int .u64 0]):=Lib.hid (by
  have:=Blk.new (w.alloc (.cells (wv six f) 121 (0,0))) 28 #[.bool false, .int .u64 0, .int .u64 0]
  rw [World.size_alloc] at this
  exact this.alloc _)
 have HZ1:Hid (Blk (((w.alloc (.cells (wv six f) 121 (0,0))).alloc (.cells #[.bool false, .int .u64 0, .int .u64 0] 28 (0,0))).alloc (.cells #[.bool false, .int .u64 0, .int .u64 0] 28 (0,0))) (w.heap.size + 1 + 1) 28 #[.bool false, .int .u64 ((PS f 4 0:Nat):Int), .int .u64 ((PS f 0 0:Nat):Int)]):=Lib.hid (by
  have:=Blk.new ((w.alloc (.cells (wv six f) 121 (0,0))).alloc (.cells #[.bool false, .int .u64 0, .int .u64 0] 28 (0,0))) 28 #[.bool false, .int .u64 0, .int .u64 0]
  rw [World.size_alloc,World.size_alloc] at this
  exact this)
 have HB1:Hid (Below w.heap.size w (((w.alloc (.cells (wv six f) 121 (0,0))).alloc (.cells #[.bool false, .int .u64 0, .int .u64 0] 28 (0,0))).alloc (.cells #[.bool false, .int .u64 0, .int .u64 0] 28 (0,0)))):=Lib.hid (below_alloc (below_alloc (below_alloc (Below.refl _ _) _) _) _)
 clear HA0
 have hsz:=Tryz.sizeOf121
 go_enter Tryz.func95,Tryz.ntmps95
 go_upto_region 2 with fail
 generalize ((w.alloc (.cells (wv six f) 121 (0,0))).alloc (.cells #[.bool false, .int .u64 0, .int .u64 0] 28 (0,0))).alloc (.cells #[.bool false, .int .u64 0, .int .u64 0] 28 (0,0))=w1 at *
 generalize hw0:w.heap.size=W at *
 have Hw0:=Lib.hid hw0
 clear hw0
 go_wp2
 go_loopw [4,5] (fun iv i wr => ∃ k:Nat,k≤4∧i=.int .i64 k∧Hid (Blk wr W 121 (wv six f))∧Hid (Blk wr (W + 1) 28 #[.bool false, .int .u64 0, .int .u64 0])∧Hid (Blk wr (W + 1 + 1) 28 #[.bool false, .int .u64 ((PS f 4 k:Nat):Int), .int .u64 ((PS f 0 k:Nat):Int)])∧Hid (Below W w wr)) (fun _ i _ => 4 - (intOf i).toNat)
 case atStart => exact ⟨0,Nat.zero_le _,rfl,HA1,HR1,HZ1,HB1⟩
 case round =>
  clear HA1 HR1 HZ1 HB1
  obtain ⟨k,hk,rfl,HA,HR,HZ,HB⟩:=hrel
  by_cases hlt:k < 4
  ·have Hop0:=Lib.hid (or_join (PS f 0 k) (f (0 + k)) (16 * k) (PS_lt f Hf.out 0 k) (by omega) (Hf.out _))
   have Hop4:=Lib.hid (or_join (PS f 4 k) (f (4 + k)) (16 * k) (PS_lt f Hf.out 4 k) (by omega) (Hf.out _))
   have c0:=HA.out.cell k
   rw [wv_get _ _ _ (by omega)] at c0
   have c4:=HA.out.cell (4 + k)
   rw [wv_get _ _ _ (by omega)] at c4
   rw [Nat.zero_add] at Hop0
   have HN0:Hid (PS f 0 (k + 1)=PS f 0 k + f k * 2 ^ (16 * k)):=Lib.hid (by conv => lhs;unfold PS;rw [Nat.zero_add])
   have HN4:Hid (PS f 4 (k + 1)=PS f 4 k + f (4 + k) * 2 ^ (16 * k)):=Lib.hid rfl
   have hx:=Hf.out k
   have hy:=Hf.out (4 + k)
   rw [← HN0.out] at Hop0
   rw [← HN4.out] at Hop4
   have z1:=HZ.out.cell 1
   have z2:=HZ.out.cell 2
   have zf:=HZ.out.free
   simp at z1 z2
   have HZ2:Hid (∀ w',Blk w' (W + 1 + 1) 28 #[.bool false, .int .u64 ((PS f 4 k:Nat):Int), .int .u64 ((PS f 0 k:Nat):Int)]→Blk (w'.setCell ⟨W + 1 + 1,2,none⟩ (.int .u64 ((PS f 0 (k + 1):Nat):Int))) (W + 1 + 1) 28 #[.bool false, .int .u64 ((PS f 4 k:Nat):Int), .int .u64 ((PS f 0 (k + 1):Nat):Int)]):=Lib.hid fun w' h => h.set 2 _
   have HZ3:Hid (∀ w',Blk w' (W + 1 + 1) 28 #[.bool false, .int .u64 ((PS f 4 k:Nat):Int), .int .u64 ((PS f 0 (k + 1):Nat):Int)]→Blk (w'.setCell ⟨W + 1 + 1,1,none⟩ (.int .u64 ((PS f 4 (k + 1):Nat):Int))) (W + 1 + 1) 28 #[.bool false, .int .u64 ((PS f 4 (k + 1):Nat):Int), .int .u64 ((PS f 0 (k + 1):Nat):Int)]):=Lib.hid fun w' h => h.set 1 _
   have E0:Hid (bits .or .u64 ((PS f 0 k:Nat):Int) (IntKind.u64.wrap (((f k:Nat):Int) * 2 ^ (16 * k)))=((PS f 0 (k + 1):Nat):Int)):=Lib.hid (by
    rw [← Hop0.out];congr 1
    exact shl_cast (f k) (16 * k) (Hf.out _) (by omega))
   have E4:Hid (bits .or .u64 ((PS f 4 k:Nat):Int) (IntKind.u64.wrap (((f (4 + k):Nat):Int) * 2 ^ (16 * k)))=((PS f 4 (k + 1):Nat):Int)):=Lib.hid (by
    rw [← Hop4.out];congr 1
    exact shl_cast (f (4 + k)) (16 * k) (Hf.out _) (by omega))
   clear Hop0 Hop4
   generalize hg1:PS f 0 (k + 1)=l1 at *
   generalize hg4:PS f 4 (k + 1)=h1 at *
   replace hg1:=Lib.hid hg1
   replace hg4:=Lib.hid hg4
   generalize PS f 0 k=l0 at *
   generalize PS f 4 k=h0 at *
   generalize f k=x at *
   generalize f (4 + k)=y at *
   obtain ⟨sh,hsh⟩:∃ sh,16 * k=sh:=⟨_,rfl⟩
   rw [hsh] at E0 E4
   obtain ⟨j,hj⟩:∃ j,4 + k=j:=⟨_,rfl⟩
   rw [hj] at c4
   have e1:(16:Int) * (k:Int)=(sh:Int):=by omega
   have e2:(4:Int) + (k:Int)=(j:Int):=by omega
   have e3:IntKind.i64.wrap (sh:Int)=(sh:Int):=by rw [IntKind.wrap_i64];omega
   have e4:IntKind.i64.wrap (j:Int)=(j:Int):=by rw [IntKind.wrap_i64];omega
   have e5:IntKind.u64.wrap (x:Int)=(x:Int):=by rw [IntKind.wrap_u64];omega
   have e6:IntKind.u64.wrap (y:Int)=(y:Int):=by rw [IntKind.wrap_u64];omega
   have b1:(0:Int)≤(k:Int):=by omega
   have b2:(k:Int) < 9:=by omega
   have b3:(0:Int)≤(j:Int):=by omega
   have b4:(j:Int) < 9:=by omega
   have b5:¬ (sh:Int) < 0:=by omega
   have b6:sh < 64:=by omega
   clear HN0 HN4 hsh hj
   have r0:World.cell? { heap:=wr.heap,tape:=wr.tape,drawn:=wr.drawn + 1,os:=wr.os,output:=wr.output } ⟨W,k,none⟩=some (.int .i64 (x:Int)):=c0
   have r1:World.cell? { heap:=wr.heap,tape:=wr.tape,drawn:=wr.drawn + 1,os:=wr.os,output:=wr.output } ⟨W + 1 + 1,2,none⟩=some (.int .u64 (l0:Int)):=z2
   go_upto_region 5 with fail
   go_still_tail 11,(by kernel_rfl)
   rw [E0.out]
   change wpList _ _ _ _ _ wr.drew
   have HA5:Hid (Blk (wr.drew.setCell ⟨W + 1 + 1,2,none⟩ (.int .u64 (l1:Int))) W 121 (wv six f)):=Lib.hid (Blk.far (HA.out.drewN 1) (by omega) _ _)
   have HR5:Hid (Blk (wr.drew.setCell ⟨W + 1 + 1,2,none⟩ (.int .u64 (l1:Int))) (W + 1) 28 #[.bool false, .int .u64 0, .int .u64 0]):=Lib.hid (Blk.far (HR.out.drewN 1) (by omega) _ _)
   have HZ5:=Lib.hid (HZ2.out wr.drew (HZ.out.drewN 1))
   have HB5:Hid (Below W w (wr.drew.setCell ⟨W + 1 + 1,2,none⟩ (.int .u64 (l1:Int)))):=Lib.hid (by
    have h1:=HB.out
    rw [← Hw0.out] at h1 ⊢
    exact below_set (below_drew h1) (by omega) _ _)
   have hd1:wr.drew.cell? ⟨W + 1 + 1,2,none⟩=some (.int .u64 (l0:Int)):=z2
   have hd2:wr.drew.frozen? ⟨W + 1 + 1,2,none⟩=false:=zf 2
   have q0:(wr.drew.setCell ⟨W + 1 + 1,2,none⟩ (.int .u64 (l1:Int))).cell? ⟨W,j,none⟩=some (.int .i64 (y:Int)):=by
    rw [HA5.out.cell j];rw [← HA.out.cell j];exact c4
   have q1:(wr.drew.setCell ⟨W + 1 + 1,2,none⟩ (.int .u64 (l1:Int))).cell? ⟨W + 1 + 1,1,none⟩=some (.int .u64 (h0:Int)):=by
    rw [HZ5.out.cell 1];rfl
   clear r0 r1 c0 c4 z1 z2 zf HA HR HZ HB HZ2 E0
   generalize wr.drew=w5 at *
   go_upto_region 6 with fail
   clear hd1 hd2
   generalize w5.setCell ⟨W + 1 + 1,2,none⟩ (.int .u64 (l1:Int))=w6 at *
   have r0:World.cell? { heap:=w6.heap,tape:=w6.tape,drawn:=w6.drawn + 1,os:=w6.os,output:=w6.output } ⟨W,j,none⟩=some (.int .i64 (y:Int)):=q0
   have r1:World.cell? { heap:=w6.heap,tape:=w6.tape,drawn:=w6.drawn + 1,os:=w6.os,output:=w6.output } ⟨W + 1 + 1,1,none⟩=some (.int .u64 (h0:Int)):=q1
   go_still_tail 12,(by kernel_rfl)
   rw [E4.out]
   change wpList _ _ _ _ _ w6.drew
   have HA7:Hid (Blk (w6.drew.setCell ⟨W + 1 + 1,1,none⟩ (.int .u64 (h1:Int))) W 121 (wv six f)):=Lib.hid (Blk.far (HA5.out.drewN 1) (by omega) _ _)
   have HR7:Hid (Blk (w6.drew.setCell ⟨W + 1 + 1,1,none⟩ (.int .u64 (h1:Int))) (W + 1) 28 #[.bool false, .int .u64 0, .int .u64 0]):=Lib.hid (Blk.far (HR5.out.drewN 1) (by omega) _ _)
   have HZ7:=Lib.hid (HZ3.out w6.drew (HZ5.out.drewN 1))
   have HB7:Hid (Below W w (w6.drew.setCell ⟨W + 1 + 1,1,none⟩ (.int .u64 (h1:Int)))):=Lib.hid (by
    have h1:=HB5.out
    rw [← Hw0.out] at h1 ⊢
    exact below_set (below_drew h1) (by omega) _ _)
   have hd1:w6.drew.cell? ⟨W + 1 + 1,1,none⟩=some (.int .u64 (h0:Int)):=q1
   have hd2:w6.drew.frozen? ⟨W + 1 + 1,1,none⟩=false:=(HZ5.out.drewN 1).free 1
   clear r0 r1 q0 q1 HA5 HR5 HZ5 HB5 HZ3 E4 e1 e2 e3 e4 e5 e6
   generalize w6.drew=w7 at *
   go_wp2
   exact ⟨⟨k + 1,by omega,by go_num,HA7,HR7,Lib.hid (by rw [hg1.out,hg4.out];exact HZ7.out),HB7⟩,by simp [intOf];omega⟩
  ·obtain rfl:k=4:=by omega
   have c8:wr.cell? ⟨W,8,none⟩=some (.int .i64 (if six=true then 1 else 0)):=by rw [HA.out.cell 8];rfl
   generalize PS f 4 4=h4 at *
   generalize PS f 0 4=l4 at *
   have z0:=HZ.out.cell 0
   have z1:=HZ.out.cell 1
   have z2:=HZ.out.cell 2
   have zf:=HZ.out.free
   have r0:=HR.out.cell 0
   have r1:=HR.out.cell 1
   have r2:=HR.out.cell 2
   have rf:=HR.out.free
   simp at z0 z1 z2 r0 r1 r2
   have hne:W + 1 + 1 ≠ W + 1:=by omega
   cases six
   all_goals
    simp at c8
    go_wp2
    refine bodyPost_ret (v:=.agg #[.bool _, .int .u64 (h4:Int), .int .u64 (l4:Int)]) (by simp [results,Tryz.results95,go_sem,r0,r1,r2]) rfl ⟨rfl,?_⟩
    rw [Hw0.out]
    repeat refine Below.setCell ?_ (by first | (simp;omega) | simp) _
    exact HB.out
theorem clrF_lt (hi lo k d:Nat):clrF hi lo k d < 65536:=Nat.lt_of_le_of_lt (clr_le _ _) (dg_lt _ _ _)
theorem filF_lt (hi lo k d:Nat):filF hi lo k d < 65536:=fil_lt _ _ (dg_lt _ _ _) (Nat.min_le_right _ _)
theorem clr_lo (hi lo k:Nat) (h:lo < 18446744073709551616):PS (clrF hi lo k) 0 4=clr lo (min k 64):=by
 rw [PS_four,clr_digits lo k h]
 rfl
theorem clr_hi (hi lo k:Nat) (h:hi < 18446744073709551616):PS (clrF hi lo k) 4 4=clr hi (min (k - 64) 64):=by
 rw [PS_four,clr_digits hi (k - 64) h]
 simp only [clrF,dg,Nat.reduceAdd,Nat.reduceMul,Nat.sub_sub]
theorem fil_lo (hi lo k:Nat) (h:lo < 18446744073709551616):PS (filF hi lo k) 0 4=fil lo (min k 64):=by
 rw [PS_four,fil_digits lo k h]
 rfl
theorem fil_hi (hi lo k:Nat) (h:hi < 18446744073709551616):PS (filF hi lo k) 4 4=fil hi (min (k - 64) 64):=by
 rw [PS_four,fil_digits hi (k - 64) h]
 simp only [filF,dg,Nat.reduceAdd,Nat.reduceMul,Nat.sub_sub]
theorem mHi_clr (six:Bool) (hi n:Nat):mHi six hi n=clr hi (min (lenN six - n - 64) 64):=by
 unfold mHi clr
 rw [Nat.min_eq_left (by have:=lenN_le six;omega)]
theorem mLo_clr (six:Bool) (lo n:Nat):mLo six lo n=clr lo (min (lenN six - n) 64):=rfl
theorem fHi_fil (six:Bool) (hi n:Nat):fHi six hi n=fil hi (min (lenN six - n - 64) 64):=by
 unfold fHi mHi fil
 rw [Nat.min_eq_left (by have:=lenN_le six;omega)]
theorem fLo_fil (six:Bool) (lo n:Nat):fLo six lo n=fil lo (min (lenN six - n) 64):=rfl
theorem PS_dg_lo (hi lo:Nat) (h:lo < 18446744073709551616):PS (dg hi lo) 0 4=lo:=by
 rw [PS_four];exact (digits4 lo h).symm
theorem PS_dg_hi (hi lo:Nat) (h:hi < 18446744073709551616):PS (dg hi lo) 4 4=hi:=by
 rw [PS_four];exact (digits4 hi h).symm
theorem PS_congr {f g:Nat→Nat} (h:∀ d,d < 8→f d=g d):PS f 0 4=PS g 0 4∧PS f 4 4=PS g 4 4:=by
 rw [PS_four,PS_four,PS_four,PS_four]
 rw [h 0 (by decide),h (0 + 1) (by decide),h (0 + 2) (by decide),h (0 + 3) (by decide),h 4 (by decide),h (4 + 1) (by decide),h (4 + 2) (by decide),h (4 + 3) (by decide)]
 exact ⟨rfl,rfl⟩
theorem PS_inj {f g:Nat→Nat} (hf:∀ d,f d < 65536) (hg:∀ d,g d < 65536) (h0:PS f 0 4=PS g 0 4) (h4:PS f 4 4=PS g 4 4):∀ d,d < 8→f d=g d:=by
 rw [PS_four,PS_four] at h0 h4
 simp only [Nat.zero_add,Nat.reduceAdd] at h0 h4
 have f0:=hf 0;have f1:=hf 1;have f2:=hf 2;have f3:=hf 3;have f4:=hf 4;have f5:=hf 5;have f6:=hf 6;have f7:=hf 7
 have g0:=hg 0;have g1:=hg 1;have g2:=hg 2;have g3:=hg 3;have g4:=hg 4;have g5:=hg 5;have g6:=hg 6;have g7:=hg 7
 intro d hd
 rcases lt8 hd with rfl | rfl | rfl | rfl | rfl | rfl | rfl | rfl <;> omega
theorem wv_inj {six:Bool} {f g:Nat→Nat}:wv six f=wv six g ↔ ∀ d,d < 8→f d=g d:=by
 refine ⟨fun h => ?_,wv_congr⟩
 unfold wv at h
 simp only [Array.mk.injEq,List.cons.injEq,Value.int.injEq,true_and,and_true] at h
 intro d hd
 rcases lt8 hd with rfl | rfl | rfl | rfl | rfl | rfl | rfl | rfl <;> omega
theorem first_same (six:Bool) (hi lo n:Nat) (h1:hi < 18446744073709551616) (h2:lo < 18446744073709551616) :
  (wv six (clrF hi lo (lenN six - n))=wv six (dg hi lo)) ↔ (mHi six hi n=hi∧mLo six lo n=lo):=by
 rw [wv_inj,mHi_clr,mLo_clr, ← clr_lo hi lo _ h2, ← clr_hi hi lo _ h1]
 constructor
 ·intro h
  obtain ⟨e0,e4⟩:=PS_congr h
  exact ⟨e4.trans (PS_dg_hi hi lo h1),e0.trans (PS_dg_lo hi lo h2)⟩
 ·intro ⟨e4,e0⟩
  exact PS_inj (clrF_lt hi lo _) (dg_lt hi lo) (e0.trans (PS_dg_lo hi lo h2).symm) (e4.trans (PS_dg_hi hi lo h1).symm)
def ivs (X:List Int):Array Value:=(X.map (Value.int .i64)).toArray
theorem ivs_get (X:List Int) (i:Nat) (h:i < X.length):(ivs X)[i]?=some (.int .i64 (X.getD i 0)):=by
 simp [ivs,List.getD,h]
theorem items_int (X Y:List Int) (w:World):∀ is:List Nat,(∀ i ∈ is,i < X.length∧i < Y.length) →
  (Op.eqItems 9999 3 1 (ivs X) (ivs Y) is).run Tryz.prog w=.ok (decide (∀ i ∈ is,X.getD i 0=Y.getD i 0)) w
 | [],_ => by simp [Op.eqItems]
 | i :: is,h => by
   have ih:=items_int X Y w is fun j hj => h j (List.mem_cons_of_mem _ hj)
   obtain ⟨h1,h2⟩:=h i List.mem_cons_self
   have e1:=ivs_get X i h1
   have e2:=ivs_get Y i h2
   have he:=fun x y:Int => run_equalIn_int (P:=Tryz.prog) w 9998 3 .i64 .i64 x y (by kernel_rfl)
   have a3:=Tryz.isAgg3
   have z3:=Tryz.sizeOf3
   have p1:(part 3 (ivs X) (i * 1)).run Tryz.prog w=.ok (.int .i64 (X.getD i 0)) w:=by
    rw [Nat.mul_one];unfold part;simp [Sem.run_bind,a3,e1]
   have p2:(part 3 (ivs Y) (i * 1)).run Tryz.prog w=.ok (.int .i64 (Y.getD i 0)) w:=by
    rw [Nat.mul_one];unfold part;simp [Sem.run_bind,a3,e2]
   simp only [Op.eqItems,Sem.run_bind,p1,p2,Result.andThen_ok,he]
   by_cases hxy:X.getD i 0=Y.getD i 0
   ·have hf:decide (∀ j ∈ i :: is,X.getD j 0=Y.getD j 0)=decide (∀ j ∈ is,X.getD j 0=Y.getD j 0):=by
     rw [decide_eq_decide];simp only [List.mem_cons,forall_eq_or_imp,hxy,true_and]
    rw [hf,hxy]
    simp [ih]
   ·have hf:decide (∀ j ∈ i :: is,X.getD j 0=Y.getD j 0)=false:=by
     rw [decide_eq_false_iff_not];intro hh;exact hxy (hh i List.mem_cons_self)
    have hb:(X.getD i 0 == Y.getD i 0)=false:=beq_false_of_ne hxy
    rw [hf,hb]
    rfl
def wl (six:Bool) (f:Nat→Nat):List Int:=[(f 0:Nat),(f 1:Nat),(f 2:Nat),(f 3:Nat),(f 4:Nat),(f 5:Nat),(f 6:Nat),(f 7:Nat),if six=true then 1 else 0]
theorem wv_ivs (six:Bool) (f:Nat→Nat):wv six f=ivs (wl six f):=rfl
theorem wide_eq (s1 s2:Bool) (f g:Nat→Nat) (w:World):(Op.equalIn 10000 121 (.agg (wv s1 f)) (.agg (wv s2 g))).run Tryz.prog w=.ok (decide (wl s1 f=wl s2 g)) w:=by
 obtain ⟨i,hi⟩:∃ i,Tryz.prog.info? 3=some i:=Option.isSome_iff_exists.1 (by kernel_rfl)
 have hu:Tryz.prog.underlying 121=some (.array 9 3):=by kernel_rfl
 have hc:Tryz.prog.cellsOf 3=1:=by kernel_rfl
 rw [wv_ivs,wv_ivs,show (10000:Nat)=9999 + 1 from rfl,run_equalIn_array (P:=Tryz.prog) w 9999 (t:=121) _ _ hu hi,hc,items_int _ _ w (List.range 9) (fun i h => by have:=List.mem_range.1 h;simp [wl];omega)]
 congr 1
 rw [decide_eq_decide]
 constructor
 ·intro h
  exact List.ext_getElem (by rfl) fun i h1 h2 => by
   have:=h i (List.mem_range.2 h1)
   simpa [List.getD,h1,h2] using this
 ·intro h i _
  rw [h]
theorem wide_neq (s1 s2:Bool) (f g:Nat→Nat) (w:World):(binOp .neq 121 (.agg (wv s1 f)) (.agg (wv s2 g))).run Tryz.prog w=.ok (.bool (!decide (wl s1 f=wl s2 g))) w:=by
 rw [run_neq_struct,wide_eq];rfl
theorem wide_guard (op:BinOp) (x y:Operand) (xs ys:Array Value) (w:World):(eqGuard op 121 x y (.agg xs) (.agg ys)).run Tryz.prog w=.ok () w :=
 run_eqGuard_agg w _ _ _ _ _ _ (by kernel_rfl)
theorem wl_inj {s1 s2:Bool} {f g:Nat→Nat}:wl s1 f=wl s2 g ↔ (s1=s2∧∀ d,d < 8→f d=g d):=by
 unfold wl
 simp only [List.cons.injEq,and_true]
 constructor
 ·intro h
  refine ⟨?_,fun d hd => ?_⟩
  ·cases s1 <;> cases s2 <;> simp at h ⊢
  ·rcases lt8 hd with rfl | rfl | rfl | rfl | rfl | rfl | rfl | rfl <;> omega
 ·rintro ⟨rfl,h⟩
  rw [h 0 (by decide),h 1 (by decide),h 2 (by decide),h 3 (by decide),h 4 (by decide),h 5 (by decide),h 6 (by decide),h 7 (by decide)]
  simp
theorem wl_first (six:Bool) (hi lo n:Nat) (h1:hi < 18446744073709551616) (h2:lo < 18446744073709551616) :
  decide (wl six (clrF hi lo (lenN six - n))=wl six (dg hi lo))=decide (mHi six hi n=hi∧mLo six lo n=lo):=by
 rw [decide_eq_decide, ← first_same six hi lo n h1 h2,wl_inj,wv_inj]
 simp
def vP (six:Bool) (hi lo:Nat) (bits:Int):Value:=.agg #[.bool six, .int .u64 (hi:Int), .int .u64 (lo:Int), .int .i64 bits]
theorem prefixFault_any (six:Bool) (hi lo:Nat) (bits:Int) (w:World) (h1:hi < 18446744073709551616) (h2:lo < 18446744073709551616) :
  Calls Tryz.prog 59 #[vP six hi lo bits] w (Ret (.int .i64 (pFault six hi lo bits)) w):=by
 unfold vP
 have HA:=Lib.hid (fun wx => addrFault_any six hi lo wx ⟨by omega,by omega⟩ ⟨by omega,by omega⟩)
 have hP:Blk (w.alloc (.cells #[.bool six, .int .u64 (hi:Int), .int .u64 (lo:Int), .int .i64 bits] 30 (0,0))) w.heap.size 30 #[.bool six, .int .u64 (hi:Int), .int .u64 (lo:Int), .int .i64 bits]:=Blk.new w _ _
 have hB:Below w.heap.size w (w.alloc (.cells #[.bool six, .int .u64 (hi:Int), .int .u64 (lo:Int), .int .i64 bits] 30 (0,0))):=below_alloc (Below.refl _ _) _
 obtain ⟨pf,hpf⟩:∃ pf,pFault six hi lo bits=pf:=⟨_,rfl⟩
 rw [hpf]
 replace hpf:=Lib.hid hpf
 go_enter Tryz.func59,Tryz.ntmps59
 go_upto_region 1 with fail
 have HP:=Lib.hid hP
 have HB:=Lib.hid hB
 clear hP hB
 generalize w.alloc (.cells #[.bool six, .int .u64 (hi:Int), .int .u64 (lo:Int), .int .i64 bits] 30 (0,0))=w1 at *
 generalize hP0:w.heap.size=P0 at *
 replace hP0:=Lib.hid hP0
 have a0:=HP.out.cell 0
 have a1:=HP.out.cell 1
 have a2:=HP.out.cell 2
 have a3:=HP.out.cell 3
 have af:=HP.out.free
 simp at a0 a1 a2 a3
 go_wp2_with fail
 refine (HA.out _).mono ?_
 rintro e w2 ⟨rfl,o,rfl⟩
 have HP2:=Lib.hid (HP.out.alloc o)
 have HB2:=Lib.hid (HB.out.trans ((below_alloc (Below.refl w1.heap.size w1) o).mono (Nat.le_of_lt HP.out.lt)))
 have hlt2:=HP2.out.lt
 clear a0 a1 a2 a3 af HP HB
 generalize w1.alloc o=w2 at *
 obtain ⟨af0,haf⟩:∃ z,aFault six hi lo=z:=⟨_,rfl⟩
 rw [haf]
 by_cases hz:af0=0
 ·subst hz
  go_upto_region 4 with fail
  have a0:=HP2.out.cell 0
  have a1:=HP2.out.cell 1
  have a2:=HP2.out.cell 2
  have a3:=HP2.out.cell 3
  simp at a0 a1 a2 a3
  have l0:=Later.cell_of a0
  have l1:=Later.cell_of a1
  have l2:=Later.cell_of a2
  have l3:=Later.cell_of a3
  have hL:=fun n:Later w2 => Calls.later n (lengthQ_any six hi lo n.1)
  have hO:=fun n:Later w2 => Calls.later_same n (in_any bits 0 (lenN six:Nat) n.1)
  unfold vA at hL
  refine wp_region_later (by kernel_rfl) (by kernel_rfl) ?_
  repeat (go_big_quiet_step (first | (go_at_call 78;exact hL _) | (go_at_call 77;exact hO _)))
  refine wpQuiet_nil ?_
  rintro w5 ⟨n5,rfl⟩
  clear a0 a1 a2 a3 l0 l1 l2 l3 hL hO
  obtain ⟨ob,hob⟩:∃ z,inB bits 0 (lenN six:Nat)=z:=⟨_,rfl⟩
  rw [hob]
  have HB5:=Lib.hid (HB2.out.trans (n5.2.mono (Nat.le_of_lt hlt2)))
  have HP5:=Lib.hid (HP2.out.below n5.2 hlt2)
  have hlt5:=HP5.out.lt
  generalize n5.1=w5 at *
  have hob2:outB bits 0 (lenN six:Nat)=!ob:=by rw [← hob,inB_out];simp
  cases ob
  ·go_wp2_with fail
   have hP0':=hP0.out
   subst hP0'
   go_ret
   refine ⟨?_,HB5.out⟩
   rw [← hpf.out,pFault,if_neg (by rw [haf];decide),if_pos (by rw [hob2];rfl)]
   rfl
  ·go_upto_region 6 with fail
   have hb:0≤bits∧bits≤(lenN six:Nat):=by
    unfold inB at hob
    simp at hob
    omega
   obtain ⟨bn,rfl⟩:=Int.eq_ofNat_of_zero_le hb.1
   have hln:=lenN_le six
   have a0:=HP5.out.cell 0
   have a1:=HP5.out.cell 1
   have a2:=HP5.out.cell 2
   have a3:=HP5.out.cell 3
   simp at a0 a1 a2 a3
   have l0:=Later.cell_of a0
   have l1:=Later.cell_of a1
   have l2:=Later.cell_of a2
   have l3:=Later.cell_of a3
   have hF:=fun n:Later w5 => Calls.later n (firstOf_any six hi lo bn (lenN six - bn) n.1 h1 h2 (by omega) (by omega) (by omega))
   have hO:=fun n:Later w5 => Calls.later n (of_any six hi lo n.1 h1 h2)
   simp only [wCells_wv] at hO
   unfold vA at hF hO
   have hN:=fun w => wide_neq six six (clrF hi lo (lenN six - bn)) (dg hi lo) w
   rw [wl_first six hi lo bn h1 h2] at hN
   have hG:=wide_guard .neq
   have hpf2:pf=if mHi six hi bn ≠ hi ∨ mLo six lo bn ≠ lo then 3 else 0:=by
    rw [← hpf.out,pFault,if_neg (by rw [haf];decide),if_neg (by rw [hob2];decide)]
    rfl
   obtain ⟨z,hz⟩:∃ z,decide (mHi six hi bn=hi∧mLo six lo bn=lo)=z:=⟨_,rfl⟩
   rw [hz] at hN
   have Hpf2:Hid (pf=if z=true then 0 else 3):=Lib.hid (by
    rw [hpf2, ← hz]
    by_cases h:mHi six hi bn=hi∧mLo six lo bn=lo
    ·rw [if_neg (by omega),if_pos (by simpa using h)]
    ·rw [if_pos (by omega),if_neg (by simpa using h)])
   clear hpf2 hz hob hob2 hb
   generalize wv six (clrF hi lo (lenN six - bn))=WF at *
   generalize wv six (dg hi lo)=WD at *
   refine wp_region_later (by kernel_rfl) (by kernel_rfl) ?_
   repeat (go_big_quiet_step (first | (go_at_call 155;exact hF _) | (go_at_call 93;exact hO _)))
   refine wpQuiet_nil ?_
   rintro w6 ⟨n6,rfl⟩
   have HB6:=Lib.hid (HB5.out.trans (n6.2.mono (Nat.le_of_lt hlt5)))
   clear a0 a1 a2 a3 l0 l1 l2 l3 hF hO hN hG
   cases z
   all_goals
    go_wp2_with fail
    have hP0':=hP0.out
    subst hP0'
    go_ret
    exact ⟨by rw [Hpf2.out];rfl,HB6.out⟩
 ·have hz':(af0 != 0)=true:=by simpa using hz
  go_wp2_with fail
  have hP0':=hP0.out
  subst hP0'
  go_ret
  refine ⟨?_,HB2.out⟩
  have h3:af0=3:=by have:=aFault_vals six hi lo;rw [haf] at this;omega
  rw [← hpf.out,pFault,if_pos (by rw [haf];exact hz),h3]
  rfl
theorem maskOf_any (six:Bool) (hi lo n:Nat) (w:World) (h1:hi < 18446744073709551616) (h2:lo < 18446744073709551616) (hn:n≤128) :
  Calls Tryz.prog 142 #[vA six hi lo, .int .i64 (n:Int)] w (Ret (vP six (mHi six hi n) (mLo six lo n) (n:Int)) w):=by
 have hln:=lenN_le six
 have HF:=Lib.hid fun wx => firstOf_any six hi lo n (lenN six - n) wx h1 h2 (by omega) (by omega) (by omega)
 have HW:=Lib.hid fun wx => wideAddr_any six (clrF hi lo (lenN six - n)) wx (clrF_lt hi lo _)
 rw [clr_lo hi lo _ h2,clr_hi hi lo _ h1, ← mHi_clr, ← mLo_clr] at HW
 generalize wv six (clrF hi lo (lenN six - n))=WF at *
 generalize mHi six hi n=mh at *
 generalize mLo six lo n=ml at *
 unfold vA at HF HW ⊢
 unfold vP
 have HR0:Blk ((w.alloc (.cells #[.bool six, .int .u64 (hi:Int), .int .u64 (lo:Int)] 28 (0,0))).alloc (.cells #[.bool false, .int .u64 0, .int .u64 0, .int .i64 0] 30 (0,0))) (w.heap.size + 1) 30 #[.bool false, .int .u64 0, .int .u64 0, .int .i64 0]:=by
  have:=Blk.new (w.alloc (.cells #[.bool six, .int .u64 (hi:Int), .int .u64 (lo:Int)] 28 (0,0))) 30 #[.bool false, .int .u64 0, .int .u64 0, .int .i64 0]
  rw [World.size_alloc] at this
  exact this
 have HR:=Lib.hid HR0
 have HB:Hid (Below w.heap.size w ((w.alloc (.cells #[.bool six, .int .u64 (hi:Int), .int .u64 (lo:Int)] 28 (0,0))).alloc (.cells #[.bool false, .int .u64 0, .int .u64 0, .int .i64 0] 30 (0,0)))):=Lib.hid (below_alloc (below_alloc (Below.refl _ _) _) _)
 clear HR0
 go_enter Tryz.func142,Tryz.ntmps142
 go_wp2_with fail
 refine (HF.out _).mono ?_
 rintro e w2 ⟨rfl,hb⟩
 have HR2:=Lib.hid (HR.out.below hb HR.out.lt)
 have HB2:=Lib.hid (HB.out.trans (hb.mono HB.out.size))
 clear hb HR HB HF
 go_wp2_with fail
 refine (HW.out _).mono ?_
 rintro e w3 ⟨rfl,hb⟩
 have HR3:=Lib.hid (HR2.out.below hb HR2.out.lt)
 have HB3:=Lib.hid (HB2.out.trans (hb.mono HB2.out.size))
 clear hb HR2 HB2 HW
 have r0:=HR3.out.cell 0
 have r1:=HR3.out.cell 1
 have r2:=HR3.out.cell 2
 have r3:=HR3.out.cell 3
 have rf:=HR3.out.free
 simp at r0 r1 r2 r3
 go_wp2_with fail
 refine bodyPost_ret (v:=.agg #[.bool six, .int .u64 (mh:Int), .int .u64 (ml:Int), .int .i64 (n:Int)]) (by simp [results,Tryz.results142,go_sem,r0,r1,r2,r3]) rfl ⟨rfl,?_⟩
 repeat refine Below.setCell ?_ (by first | (simp;omega) | simp) _
 exact HB3.out
structure EI (P:Program) (t e:TypeId) (size bytes:Nat):Prop where
 ht:P.underlying t=some (.slice e)
 hi:∃ i z,P.info? e=some i∧i.zero=some z∧i.size=size∧i.bytes=bytes∧z.cells.size=size
 hsz:0 < size
theorem EI.mk' {P:Program} {t e:TypeId} {size bytes:Nat} {z:Value} (ht:P.underlying t=some (.slice e)) (h:(P.info? e).map (fun i => (i.zero,i.size,i.bytes))=some (some z,size,bytes)) (hz:z.cells.size=size) (hsz:0 < size):EI P t e size bytes:=by
 obtain ⟨i,h0,h1,h2,h3⟩:=info_parts h
 exact ⟨ht,⟨i,z,h0,h1,h2,h3,hz⟩,hsz⟩
def Src (w:World) (ad:Option Addr) (m size:Nat) (news:List Value):Prop :=
 news.length=m * size∧∀ j u,news[j]?=some u→∃ a,ad=some a∧a.block < w.heap.size∧w.cell? (a.add j)=some u
structure Grew (w w':World) (v v':Value):Prop where
 g:w.grownBy w' v.ownBlock
 o:v'.ownBlock=v.ownBlock ∨ ∃ k,v'.ownBlock=some k∧w.heap.size≤k
theorem Grew.refl (w:World) (v:Value):Grew w w v v:=⟨World.grownBy.refl w _, .inl rfl⟩
theorem Grew.allocFirst {a b:World} {u v:Value} {o:Obj} (h:Grew (a.alloc o) b u v):Grew a b u v:=by
 refine ⟨(World.grownBy_alloc a o _).trans h.g,?_⟩
 rcases h.o with e | ⟨k,e,hk⟩
 ·exact .inl e
 ·exact .inr ⟨k,e,by simp at hk;omega⟩
theorem Grew.below {a b:World} {u v:Value} {B:Nat} (h:Grew a b u v) (hB:B≤a.heap.size) (hu:∀ k,u.ownBlock=some k→B≤k):Below B a b :=
 (Below.refl B a).grown h.g hB hu
theorem own_form {w:World} {base:Nat} {e:TypeId} {size:Nat} {v:Value} {n:Nat} {xs:List Value} (h:w.ownsRow base e size v n xs):∃ ad c,v=.slice ad n c∧Src w ad n size xs∧n≤c∧c≤maxLen:=by
 rcases h.2 with ⟨rfl,rfl⟩ | ⟨g,cap,cur,rfl,hb,hg,hn,hc,hs,ht⟩
 ·have hx:xs=[]:=List.eq_nil_of_length_eq_zero (by simpa using h.1)
  subst hx
  exact ⟨none,0,rfl,⟨by simp,fun j u hu => by simp at hu⟩,Nat.le_refl _,by unfold maxLen;omega⟩
 ·exact ⟨_,cap,rfl,⟨h.1,fun j u hu => ⟨_,rfl,lt_of_block hg,h.cells (g:=g) rfl j u hu⟩⟩,hn,hc⟩
theorem own_base {w:World} {base:Nat} {e:TypeId} {size:Nat} {v:Value} {n:Nat} {xs:List Value} (h:w.ownsRow base e size v n xs):∀ k,v.ownBlock=some k→base≤k:=fun k hk => (h.lt k hk).1
theorem own_lt {w:World} {base:Nat} {e:TypeId} {size:Nat} {v:Value} {n:Nat} {xs:List Value} (h:w.ownsRow base e size v n xs):∀ k,v.ownBlock=some k→k < w.heap.size:=fun k hk => (h.lt k hk).2
theorem own_weak {w:World} {base base':Nat} {e:TypeId} {size:Nat} {v:Value} {n:Nat} {xs:List Value} (h:w.ownsRow base e size v n xs) (hb:base'≤base):w.ownsRow base' e size v n xs:=by
 refine ⟨h.1,?_⟩
 rcases h.2 with h2 | ⟨g,cap,cur,hv,hg,r⟩
 ·exact .inl h2
 ·exact .inr ⟨g,cap,cur,hv,Nat.le_trans hb hg,r⟩
theorem own_below {w w':World} {base B:Nat} {e:TypeId} {size:Nat} {v:Value} {n:Nat} {xs:List Value} (h:w.ownsRow base e size v n xs) (hb:Below B w w') (hB:∀ k,v.ownBlock=some k→k < B):w'.ownsRow base e size v n xs:=by
 refine ⟨h.1,?_⟩
 rcases h.2 with h2 | ⟨g,cap,cur,rfl,hg,hh,r⟩
 ·exact .inl h2
 ·exact .inr ⟨g,cap,cur,rfl,hg,(hb.block g (hB g rfl)).trans hh,r⟩
theorem own_later {w w':World} {base:Nat} {e:TypeId} {size:Nat} {v:Value} {n:Nat} {xs:List Value} (h:w.ownsRow base e size v n xs) (hb:Below w.heap.size w w'):w'.ownsRow base e size v n xs:=own_below h hb fun k hk => own_lt h k hk
theorem src_later {w w':World} {ad:Option Addr} {m size:Nat} {news:List Value} (h:Src w ad m size news) (hb:Below w.heap.size w w'):Src w' ad m size news :=
 ⟨h.1,fun j u hu => by
  obtain ⟨a,e,hlt,hc⟩:=h.2 j u hu
  have hlt':(a.add j).block < w.heap.size:=by unfold Addr.add;split <;> exact hlt
  exact ⟨a,e,Nat.lt_of_lt_of_le hlt hb.size,(hb.cell hlt').trans hc⟩⟩
section
variable {P:Program}
theorem run_append_src {t e:TypeId} {size bytes:Nat} (E:EI P t e size bytes) (w:World) (base:Nat) (ty:TypeId) (v:Value) (n:Nat) (xs:List Value) (hown:w.ownsRow base e size v n xs)
  (ad:Option Addr) (m c:Nat) (news:List Value) (hsrc:Src w ad m size news) (h1:∀ u ∈ news,u.oneCell'=true)
  (h63:n + m≤maxLen) (hbytes:(n + m) * bytes≤140737488355328) (hbase:base≤w.heap.size) :
  ∃ v' w',(Builtin.append_ #[t,t] ty #[v, .slice ad m c]).run P w=.ok v' w'∧w'.ownsRow base e size v' (n + m) (xs ++ news)∧Grew w w' v v':=by
 obtain ⟨ht,⟨i,z,hi,hz,hs,hb,hzs⟩,hsz⟩:=E
 cases ad with
 | some a =>
   have hcells:∀ j u,news[j]?=some u→w.cell? (a.add j)=some u:=fun j u hu => by
    obtain ⟨a',e,_,hc⟩:=hsrc.2 j u hu
    injection e with e;subst e;exact hc
   obtain ⟨v',w',hr,h2,h3,_,h5⟩:=run_append_own_at (P:=P) w base t ty e i z size bytes ht hi hz hs hb hzs hsz v n xs hown a m c news hsrc.1 hcells h1 h63 hbytes hbase
   exact ⟨v',w',hr,h2,h3,h5.imp id fun h => ⟨_,h,Nat.le_refl _⟩⟩
 | none =>
   have hn:news=[]:=by
    cases news with
    | nil => rfl
    | cons x l => obtain ⟨a,e,_⟩:=hsrc.2 0 x rfl;cases e
   subst hn
   have hm:m=0:=by
    have h0:m * size=0:=by have:=hsrc.1;simpa using this.symm
    rcases Nat.mul_eq_zero.1 h0 with h | h <;> omega
   subst hm
   have hr:(Builtin.append_ #[t,t] ty #[v, .slice none 0 c]).run P w=.ok v w:=by
    rcases hown.2 with ⟨rfl,rfl⟩ | ⟨g,cap,cur,rfl,_,_,hnc,_⟩
    ·simp [Builtin.append_,run_underlying ht,sizeOf,typeInfo,hi,Builtin.lenOf,Builtin.firstCells]
    ·simp [Builtin.append_,run_underlying ht,sizeOf,typeInfo,hi,Builtin.lenOf,Builtin.firstCells,hnc,storeCells]
   exact ⟨v,w,hr,by simpa using hown,Grew.refl w v⟩
theorem wpList_app {t e:TypeId} {size bytes:Nat} (E:EI P t e size bytes) {w:World} {ops:Array Oper} {rest:List Oper} {o:Oper} {a:Act} {Q:Exit→Act→World→Prop} (hgd:o.guard=none) (s x:Operand)
  (ho:o.op=.call { callee:=.builtin .append,args:=#[s,x],argTypes:=#[t,t] })
  {base:Nat} {v:Value} {n:Nat} {xs:List Value} (hs:a.eval s=v) (hown:w.ownsRow base e size v n xs)
  {ad:Option Addr} {m c:Nat} {news:List Value} (hx:a.eval x=.slice ad m c) (hsrc:Src w ad m size news) (h1:∀ u ∈ news,u.oneCell'=true)
  (h63:n + m≤maxLen) (hbytes:(n + m) * bytes≤140737488355328) (hbase:base≤w.heap.size)
  (h:∀ v' w',w'.ownsRow base e size v' (n + m) (xs ++ news)→Grew w w' v v'→wpList P ops Q rest (a.put o.dst v') w') :
  wpList P ops Q (o :: rest) a w:=by
 refine wpList_plain hgd fun K hK => ?_
 obtain ⟨v',w',hr,h2,h3⟩:=run_append_src E w base o.type v n xs hown ad m c news hsrc h1 h63 hbytes hbase
 unfold Oper.wp execOp
 simp only [ho,resolve,invoke,builtin,Sem.run_bind,Sem.run_pure,Result.andThen_ok,List.map_toArray,List.map_cons,List.map_nil,hs,hx,hr]
 exact hK _ _ (h v' w' h2 h3)
end
theorem src_one_new (w:World) (x:Value) (t:TypeId):Src (w.alloc (.cells #[x] t)) (some ⟨w.heap.size,0,none⟩) 1 1 [x] :=
 ⟨rfl,fun j u hu => ⟨_,rfl,by simp,cell_one_new w x t j u hu⟩⟩
theorem iFmtU_small (i:Nat) (h:i < 100) (w:World):Calls Tryz.prog 306 #[.int .u64 (i:Int), .int .i64 10] w fun e w' => e=.returned (.string ⟨(Lib.decDigits i).toArray⟩)∧w'=w:=by
 have hc:=Tryz.internal_strconv_small i h w
 generalize Lib.decDigits i=s at *
 have hi:(i:Int) < 100:=by omega
 have e1:IntKind.i64.wrap (i:Int)=(i:Int):=by rw [IntKind.wrap_i64];omega
 have Hc:=Lib.hid hc
 clear hc
 go_enter Tryz.func306,Tryz.ntmps306
 go_wp2_with fail
 refine Hc.out.mono ?_
 rintro e w' ⟨rfl,rfl⟩
 go_wp2_with fail
 go_ret
 exact ⟨rfl,rfl⟩
theorem fmtU_small (i:Nat) (h:i < 100) (w:World):Calls Tryz.prog 240 #[.int .u64 (i:Int), .int .i64 10] w fun e w' => e=.returned (.string ⟨(Lib.decDigits i).toArray⟩)∧w'=w:=by
 have hc:=iFmtU_small i h w
 generalize Lib.decDigits i=s at *
 have Hc:=Lib.hid hc
 clear hc
 go_enter Tryz.func240,Tryz.ntmps240
 go_wp2_with fail
 refine Hc.out.mono ?_
 rintro e w' ⟨rfl,rfl⟩
 go_wp2_with fail
 go_ret
 exact ⟨rfl,rfl⟩
def encSs (L:List ByteArray):List Value:=L.map Value.string
def OwnS (w:World) (base:Nat) (v:Value) (L:List ByteArray):Prop:=w.ownsRow base 9 1 v L.length (encSs L)
theorem strE:EI Tryz.prog 154 9 1 16:=EI.mk' (z:=.string ⟨#[]⟩) Tryz.underlying154 (by kernel_rfl) rfl (by decide)
theorem OwnS.nil (w:World) (base:Nat):OwnS w base (.slice none 0 0) []:=World.ownsRow_nil w base _ 1
theorem OwnS.later {w w':World} {base:Nat} {v:Value} {L:List ByteArray} (h:OwnS w base v L) (hb:Below w.heap.size w w'):OwnS w' base v L:=own_later h hb
theorem OwnS.snoc {w:World} {B:Nat} {v:Value} {L:List ByteArray} {s:ByteArray} (h:w.ownsRow B 9 1 v (L.length + 1) (encSs L ++ [.string s])):OwnS w B v (L ++ [s]):=by
 show w.ownsRow _ _ _ _ _ _
 rw [List.length_append,encSs,List.map_append]
 exact h
theorem OwnS.one {w:World} {B:Nat} {v:Value} {L:List ByteArray} (h:OwnS w B v L) (hl:1≤L.length) :
  ∃ g c,v=.slice (some ⟨g,0,none⟩) L.length c∧B≤g∧g < w.heap.size∧L.length≤c∧c≤maxLen∧∀ (j:Nat) x,L[j]?=some x→w.cell? ⟨g,j,none⟩=some (.string x):=by
 rcases h.2 with ⟨rfl,h0⟩ | ⟨g,cap,cur,rfl,hb,hg,hc,hm,hs,ht⟩
 ·omega
 ·refine ⟨g,cap,rfl,hb,lt_of_block hg,hc,hm,fun j x hx => ?_⟩
  have hj:j < L.length:=by
   rcases Nat.lt_or_ge j L.length with h | h
   ·exact h
   ·rw [List.getElem?_eq_none h] at hx;cases hx
  rw [cell_of_row w g _ _ _ _ hg]
  have h2:(encSs L)[j]?=some (.string x):=by simp [encSs,hx]
  rw [← ht,List.getElem?_take,if_pos (by omega),Array.getElem?_toList] at h2
  exact h2
open Go.RowKit Go Go.Sort
theorem tab_below {w w':World} {name:String} {k:IntKind} {zs:List Int} (h:Lib.TabIs Tryz.prog w name k zs) (hb:Below w.heap.size w w'):Lib.TabIs Tryz.prog w' name k zs:=by
 unfold Lib.TabIs World.var? at *
 cases hg:Tryz.prog.globalNamed name with
 | none => simp [hg] at h
 | some g =>
   simp only [hg,Option.bind_some] at h ⊢
   have hlt:g < w.heap.size:=by
    rcases Nat.lt_or_ge g w.heap.size with h' | h'
    ·exact h'
    ·rw [Array.getElem?_eq_none h'] at h;simp at h
   rw [hb.block g hlt]
   exact h
theorem below_grow {B:Nat} {u w:World} (h:Below B u w) (hB:B≤w.heap.size) (k:Nat) (os:Array Obj):Below B u (grow (w.drewN k) os) :=
 ⟨h.os,h.tape,h.output,Nat.le_trans h.size (by show w.heap.size≤(w.heap ++ os).size;simp),fun i hi => (Lib.heap_grow_old w k os i (Nat.lt_of_lt_of_le hi hB)).trans (h.block i hi)⟩
def Tabs (w : World) : Prop := Lib.TabIs Tryz.prog w "internal/strconv.uint64pow10" .u64 Lib.pow10Tab ∧ T16 w
theorem Tabs.below {w w':World} (h:Tabs w) (hb:Below w.heap.size w w'):Tabs w':=⟨tab_below h.1 hb,h.2.below hb⟩
theorem iFmtU_big (u : Nat) (h1 : 100 ≤ u) (h2 : u < 18446744073709551616) (w : World) (htab : Lib.TabIs Tryz.prog w "internal/strconv.uint64pow10" .u64 Lib.pow10Tab) :
  Calls Tryz.prog 306 #[.int .u64 (u:Int), .int .i64 10] w (Ret (.string ⟨(Lib.decDigits u).toArray⟩) w):=by
 have hu64:u < 18446744073709551616:=by omega
 have hnd20:Lib.nDigits u≤20:=by have:=Lib.numDigits_eq u (by omega) hu64;split at this <;> omega
 have hal:Tryz.prog.arrayLen 308=24:=by kernel_rfl
 have hsl:∀ W,(Instr.sliceAt 308 (.pointer (some ⟨w.heap.size,0,none⟩)) none (some (.int .i64 (Lib.nDigits u:Int))) none).run Tryz.prog W=.ok (.slice (some ⟨w.heap.size,0,none⟩) (Lib.nDigits u) 24) W:=fun W => by
  rw [run_sliceAt_array_h W 308 ⟨w.heap.size,0,none⟩ (by kernel_rfl) .i64 (Lib.nDigits u:Int) (by omega) (by rw [hal];omega)]
  go_simp
 have hH0:=Lib.holds_zero0 w 308 (Lib.nDigits u) (by omega)
 have hfmt:=Tryz.internal_strconv_formatBase10 w.heap.size 0 24 u (Array.replicate (Lib.nDigits u) 0) (w.alloc (.cells Lib.zeros24 308)) hH0 (by rw [Array.size_replicate];exact Lib.lt_pow_nDigits u) hu64 (by rw [Array.size_replicate];omega)
 rw [Array.size_replicate] at hfmt
 unfold Lib.zeros24 at hfmt hH0
 have HH0:=Lib.hid hH0
 have Hfmt:=Lib.hid hfmt
 have Hnd:=Lib.hid (Tryz.internal_strconv_numDigits u (by omega) hu64 (w.alloc (.cells #[.int .u8 0, .int .u8 0, .int .u8 0, .int .u8 0, .int .u8 0, .int .u8 0, .int .u8 0, .int .u8 0, .int .u8 0, .int .u8 0, .int .u8 0, .int .u8 0, .int .u8 0, .int .u8 0, .int .u8 0, .int .u8 0, .int .u8 0, .int .u8 0, .int .u8 0, .int .u8 0, .int .u8 0, .int .u8 0, .int .u8 0, .int .u8 0] 308)) (Lib.tabIs_alloc htab _))
 have hu3:¬ (u:Int) < 100:=by omega
 clear hH0 hal hfmt htab
 go_enter Tryz.func306,Tryz.ntmps306
 go_wp2_with fail
 refine Hnd.out.mono ?_
 rintro e w' ⟨rfl,rfl⟩
 clear Hnd
 go_wp2_with fail
 refine Hfmt.out.mono ?_
 rintro e w' ⟨rfl,k,v',dk,rfl,hF⟩
 have hcv:(convert 135 9 (.slice (some ⟨w.heap.size,0,none⟩) (Lib.nDigits u) 24)).run Tryz.prog ((putRow (fun (b:UInt8) => Value.int .u8 (b.toNat:Int)) (w.alloc (.cells #[.int .u8 0, .int .u8 0, .int .u8 0, .int .u8 0, .int .u8 0, .int .u8 0, .int .u8 0, .int .u8 0, .int .u8 0, .int .u8 0, .int .u8 0, .int .u8 0, .int .u8 0, .int .u8 0, .int .u8 0, .int .u8 0, .int .u8 0, .int .u8 0, .int .u8 0, .int .u8 0, .int .u8 0, .int .u8 0, .int .u8 0, .int .u8 0] 308)) w.heap.size 0 dk).drewN k)=.ok (.string ⟨(Lib.decDigits u).toArray⟩) ((putRow (fun (b:UInt8) => Value.int .u8 (b.toNat:Int)) (w.alloc (.cells #[.int .u8 0, .int .u8 0, .int .u8 0, .int .u8 0, .int .u8 0, .int .u8 0, .int .u8 0, .int .u8 0, .int .u8 0, .int .u8 0, .int .u8 0, .int .u8 0, .int .u8 0, .int .u8 0, .int .u8 0, .int .u8 0, .int .u8 0, .int .u8 0, .int .u8 0, .int .u8 0, .int .u8 0, .int .u8 0, .int .u8 0, .int .u8 0] 308)) w.heap.size 0 dk).drewN k):=by
  have h:=run_convert_bytes_back (P:=Tryz.prog) ((putRow (fun (b:UInt8) => Value.int .u8 (b.toNat:Int)) (w.alloc (.cells #[.int .u8 0, .int .u8 0, .int .u8 0, .int .u8 0, .int .u8 0, .int .u8 0, .int .u8 0, .int .u8 0, .int .u8 0, .int .u8 0, .int .u8 0, .int .u8 0, .int .u8 0, .int .u8 0, .int .u8 0, .int .u8 0, .int .u8 0, .int .u8 0, .int .u8 0, .int .u8 0, .int .u8 0, .int .u8 0, .int .u8 0, .int .u8 0] 308)) w.heap.size 0 dk).drewN k) 135 9 5 ⟨w.heap.size,0,none⟩ 24 (Lib.decDigits u) (by kernel_rfl) (by kernel_rfl) (by kernel_rfl) (fun j hj => by
   rw [Lib.row_is_numeral hF j hj,Lib.add_plain,World.cell?_drewN]
   exact cell?_putRow (fun (b:UInt8) => Value.int .u8 (b.toNat:Int)) _ w.heap.size 0 _ dk HH0.out (by rw [hF.size,Array.size_replicate]) j (by rw [hF.size];rw [Lib.decDigits_length] at hj;exact hj))
  rw [Lib.decDigits_length] at h
  exact h
 obtain ⟨os,eo⟩:=Lib.fin_at w (.cells #[.int .u8 0, .int .u8 0, .int .u8 0, .int .u8 0, .int .u8 0, .int .u8 0, .int .u8 0, .int .u8 0, .int .u8 0, .int .u8 0, .int .u8 0, .int .u8 0, .int .u8 0, .int .u8 0, .int .u8 0, .int .u8 0, .int .u8 0, .int .u8 0, .int .u8 0, .int .u8 0, .int .u8 0, .int .u8 0, .int .u8 0, .int .u8 0] 308) dk k 0
 have HB:Hid (Below w.heap.size w ((putRow (fun (b:UInt8) => Value.int .u8 (b.toNat:Int)) (w.alloc (.cells #[.int .u8 0, .int .u8 0, .int .u8 0, .int .u8 0, .int .u8 0, .int .u8 0, .int .u8 0, .int .u8 0, .int .u8 0, .int .u8 0, .int .u8 0, .int .u8 0, .int .u8 0, .int .u8 0, .int .u8 0, .int .u8 0, .int .u8 0, .int .u8 0, .int .u8 0, .int .u8 0, .int .u8 0, .int .u8 0, .int .u8 0, .int .u8 0] 308)) w.heap.size 0 dk).drewN k)):=Lib.hid (by rw [eo];exact below_grow (Below.refl _ _) (Nat.le_refl _) _ _)
 clear eo hF HH0 Hfmt
 go_wp2
 go_ret
 exact ⟨rfl,HB.out⟩
theorem fmtU10_any (u : Nat) (h2 : u < 18446744073709551616) (w : World) (htab : Lib.TabIs Tryz.prog w "internal/strconv.uint64pow10" .u64 Lib.pow10Tab) :
  Calls Tryz.prog 240 #[.int .u64 (u:Int), .int .i64 10] w (Ret (.string ⟨(Lib.decDigits u).toArray⟩) w):=by
 rcases Nat.lt_or_ge u 100 with h | h
 ·refine (fmtU_small u h w).mono ?_
  rintro e w' ⟨rfl,rfl⟩
  exact ⟨rfl,Below.refl _ _⟩
 ·have H:=Lib.hid (iFmtU_big u h h2 w htab)
  generalize Lib.decDigits u=s at *
  clear htab
  go_enter Tryz.func240,Tryz.ntmps240
  go_wp2_with fail
  refine H.out.mono ?_
  rintro e w' ⟨rfl,hb⟩
  go_wp2_with fail
  go_ret
  exact ⟨rfl,hb⟩
theorem itoa_any (u : Nat) (h2 : u < 1000) (w : World) (htab : Lib.TabIs Tryz.prog w "internal/strconv.uint64pow10" .u64 Lib.pow10Tab) :
  Calls Tryz.prog 111 #[.int .i64 (u:Int)] w (Ret (.string ⟨(Lib.decDigits u).toArray⟩) w):=by
 refine (Tryz.strconv_Itoa (u:Int) (by omega) (by omega) w htab).mono ?_
 rintro e w' ⟨rfl,k,os,rfl⟩
 exact ⟨by rw [Lib.itoa_nonneg],below_grow (Below.refl _ _) (Nat.le_refl _) _ _⟩
theorem bits_any (u:Nat) (w:World) (hu:u < 65536) (h:T16 w):Calls Tryz.prog 313 #[.slice none 0 0, .int .u64 (u:Int), .int .i64 16, .bool false, .bool false] w (Ret (.tuple #[.slice none 0 0, .string (hexS u)]) w):=by
 rcases Nat.lt_or_ge u 16 with h1 | h1
 ·exact bits1_any u w (by omega) h1 h
 rcases Nat.lt_or_ge u 256 with h2 | h2
 ·exact bits2_any u w h1 h2 h
 rcases Nat.lt_or_ge u 4096 with h3 | h3
 ·exact bits3_any u w h2 h3 h
 ·exact bits4_any u w h3 hu h
theorem iFmtU16_any (u:Nat) (w:World) (hu:u < 65536) (h:T16 w):Calls Tryz.prog 306 #[.int .u64 (u:Int), .int .i64 16] w (Ret (.string (hexS u)) w):=by
 have H:=Lib.hid fun wx (hb:Below w.heap.size w wx) => bits_any u wx hu (h.below hb)
 generalize hexS u=s at *
 clear h
 go_enter Tryz.func306,Tryz.ntmps306
 go_wp2_with fail
 refine (H.out _ (by first | exact Below.refl _ _ | exact below_alloc (Below.refl _ _) _)).mono ?_
 rintro e w' ⟨rfl,hb⟩
 go_wp2_with fail
 go_ret
 exact ⟨rfl,by first | exact hb | exact (below_alloc (Below.refl _ _) _).trans (hb.mono (by simp))⟩
theorem fmtU16_any (u:Nat) (w:World) (hu:u < 65536) (h:T16 w):Calls Tryz.prog 240 #[.int .u64 (u:Int), .int .i64 16] w (Ret (.string (hexS u)) w):=by
 have H:=Lib.hid (iFmtU16_any u w hu h)
 generalize hexS u=s at *
 clear h
 go_enter Tryz.func240,Tryz.ntmps240
 go_wp2_with fail
 refine H.out.mono ?_
 rintro e w' ⟨rfl,hb⟩
 go_wp2_with fail
 go_ret
 exact ⟨rfl,hb⟩
theorem iFmtI16_any (u:Nat) (w:World) (hu:u < 65536) (h:T16 w):Calls Tryz.prog 255 #[.int .i64 (u:Int), .int .i64 16] w (Ret (.string (hexS u)) w):=by
 have H:=Lib.hid fun wx (hb:Below w.heap.size w wx) => bits_any u wx hu (h.below hb)
 generalize hexS u=s at *
 have e1:IntKind.u64.wrap (u:Int)=(u:Int):=by rw [IntKind.wrap_u64];omega
 have e2:¬ (u:Int) < 0:=by omega
 clear h
 go_enter Tryz.func255,Tryz.ntmps255
 go_wp2_with fail
 refine (H.out _ (by first | exact Below.refl _ _ | exact below_alloc (Below.refl _ _) _)).mono ?_
 rintro e w' ⟨rfl,hb⟩
 go_wp2_with fail
 go_ret
 exact ⟨rfl,by first | exact hb | exact (below_alloc (Below.refl _ _) _).trans (hb.mono (by simp))⟩
theorem fmtI16_any (u:Nat) (w:World) (hu:u < 65536) (h:T16 w):Calls Tryz.prog 207 #[.int .i64 (u:Int), .int .i64 16] w (Ret (.string (hexS u)) w):=by
 have H:=Lib.hid (iFmtI16_any u w hu h)
 generalize hexS u=s at *
 clear h
 go_enter Tryz.func207,Tryz.ntmps207
 go_wp2_with fail
 refine H.out.mono ?_
 rintro e w' ⟨rfl,hb⟩
 go_wp2_with fail
 go_ret
 exact ⟨rfl,hb⟩
theorem addrEq (s1 s2:Bool) (h1 h2 l1 l2:Int) (d:Nat) (w:World):(Op.equalIn (d + 2) 28 (.agg #[.bool s1, .int .u64 h1, .int .u64 l1]) (.agg #[.bool s2, .int .u64 h2, .int .u64 l2])).run Tryz.prog w=.ok (decide ((s1,h1,l1)=(s2,h2,l2))) w:=by
 have u4:=Tryz.underlying4
 have a4:=Tryz.isAgg4
 have z4:=Tryz.sizeOf4
 have u27:=Tryz.underlying26
 have a27:=Tryz.isAgg26
 have z27:=Tryz.sizeOf26
 have hS:Tryz.prog.underlying 28=some (.struct (Tryz.prog.fieldsOf 28)):=by kernel_rfl
 have hp:Tryz.prog.stoodInHeld 28=false:=by kernel_rfl
 rw [run_equalIn_agg w (d + 1) 28 _ _ hS hp]
 simp only [Program.fieldsOf,Tryz.underlying28]
 go_simp
 cases s1 <;> cases s2 <;> by_cases e1:h1=h2 <;> by_cases e2:l1=l2 <;> simp [e1,e2]
theorem pfxEq (s1 s2:Bool) (h1 h2 l1 l2 b1 b2:Int) (w:World):(Op.equalIn 10000 30 (.agg #[.bool s1, .int .u64 h1, .int .u64 l1, .int .i64 b1]) (.agg #[.bool s2, .int .u64 h2, .int .u64 l2, .int .i64 b2])).run Tryz.prog w=.ok (decide ((s1,h1,l1,b1)=(s2,h2,l2,b2))) w:=by
 have hA:=addrEq s1 s2 h1 h2 l1 l2 9997
 have u3:=Tryz.underlying3
 have a3:=Tryz.isAgg3
 have z3:=Tryz.sizeOf3
 have a29:=Tryz.isAgg28
 have z29:=Tryz.sizeOf28
 have hS:Tryz.prog.underlying 30=some (.struct (Tryz.prog.fieldsOf 30)):=by kernel_rfl
 have hp:Tryz.prog.stoodInHeld 30=false:=by kernel_rfl
 rw [show (10000:Nat)=9999 + 1 from rfl,run_equalIn_agg w 9999 30 _ _ hS hp]
 simp only [Program.fieldsOf,Tryz.underlying30]
 simp only [show (9997:Nat) + 2=9999 from rfl] at hA
 go_simp
 cases s1 <;> cases s2 <;> by_cases e1:h1=h2 <;> by_cases e2:l1=l2 <;> by_cases e3:b1=b2 <;> simp [e1,e2,e3]
theorem pfx_neq (s1 s2:Bool) (h1 h2 l1 l2 b1 b2:Int) (w:World):(binOp .neq 30 (.agg #[.bool s1, .int .u64 h1, .int .u64 l1, .int .i64 b1]) (.agg #[.bool s2, .int .u64 h2, .int .u64 l2, .int .i64 b2])).run Tryz.prog w=.ok (.bool (!decide ((s1,h1,l1,b1)=(s2,h2,l2,b2)))) w:=by
 rw [run_neq_struct,pfxEq];rfl
end Go.Proofs.YtdhldhkhpndpjaaGreatDoor
