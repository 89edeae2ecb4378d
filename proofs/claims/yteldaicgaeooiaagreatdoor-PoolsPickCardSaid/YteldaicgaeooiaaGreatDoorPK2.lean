/-
  Prefixes: CheckPrefix.
  The reference's wide numbers: an address as nine digits.
  Numbers in digits of 2^16: low bits struck or filled, digit by digit.
  A region that draws its order: all but its last operations give one value in every later world; the last ones, which wait for all others, are walked in order.
  The reference's first and last address of a prefix: digits struck or filled, bit by bit.
  The reference's firstOf and lastOf: the digits of an address, low bits struck or filled.
  The address of a wide number.
  The reference's prefixes: PrefixFault, MaskOf, LastOf.
-/
import Derived.Test.YteldaicgaeooiaaGreatDoorPK1
import Derived.BigQuiet
import Derived.Lib.Hide
import Derived.WalkKit
import Derived.StillTail
import Derived.StillTailTactics
import Derived.Laws.Tables
import Derived.Laws.Rows
set_option linter.unusedVariables false
set_option maxRecDepth 100000
set_option maxHeartbeats 4000000
namespace Go.Proofs.YteldaicgaeooiaaGreatDoor
open Go.RowKit Go
def pFault (six:Bool) (hi lo:Nat) (bits:Int):Int :=
 if aFault six hi lo ≠ 0 then 3 else if outB bits 0 (lenN six)=true then 1 else if mHi six hi bits.toNat ≠ hi ∨ mLo six lo bits.toNat ≠ lo then 3 else 0
theorem checkPrefix_any (six:Bool) (hi lo:Nat) (bits:Int) (w:World) (h1:hi < 18446744073709551616) (h2:lo < 18446744073709551616) :
  Calls Tryz.prog 46 #[.agg #[.bool six, .int .u64 (hi:Int), .int .u64 (lo:Int), .int .i64 bits]] w (Ret (.int .i64 (pFault six hi lo bits)) w):=by
 have HA:=Lib.hid (fun wx => checkAddr_any six hi lo wx ⟨by omega,by omega⟩ ⟨by omega,by omega⟩)
 have hP:Blk (w.alloc (.cells #[.bool six, .int .u64 (hi:Int), .int .u64 (lo:Int), .int .i64 bits] 30 (0,0))) w.heap.size 30 #[.bool six, .int .u64 (hi:Int), .int .u64 (lo:Int), .int .i64 bits]:=Blk.new w _ _
 have hB:Below w.heap.size w (w.alloc (.cells #[.bool six, .int .u64 (hi:Int), .int .u64 (lo:Int), .int .i64 bits] 30 (0,0))):=below_alloc (Below.refl _ _) _
 obtain ⟨pf,hpf⟩:∃ pf,pFault six hi lo bits=pf:=⟨_,rfl⟩
 rw [hpf]
 replace hpf:=Lib.hid hpf
 go_enter Tryz.func46,Tryz.ntmps46
 go_upto_region 1 with fail
 have HP:=Lib.hid hP
 have HB:=Lib.hid hB
 clear hP hB
 generalize w.alloc (.cells #[.bool six, .int .u64 (hi:Int), .int .u64 (lo:Int), .int .i64 bits] 30 (0,0))=w1 at *
 generalize hP0:w.heap.size=P0 at *
 replace hP0:=Lib.hid hP0
 have a0:=HP.out.cell 0
 have a1:=HP.out.cell 1
 have a2:=HP.out.cell 2
 have a3:=HP.out.cell 3
 have af:=HP.out.free
 simp at a0 a1 a2 a3
 go_wp2_with fail
 refine (HA.out _).mono ?_
 rintro e w2 ⟨rfl,o,rfl⟩
 have HP2:=Lib.hid (HP.out.alloc o)
 have HB2:=Lib.hid (HB.out.trans ((below_alloc (Below.refl w1.heap.size w1) o).mono (Nat.le_of_lt HP.out.lt)))
 have hlt2:=HP2.out.lt
 clear a0 a1 a2 a3 af HP HB
 generalize w1.alloc o=w2 at *
 obtain ⟨af0,haf⟩:∃ z,aFault six hi lo=z:=⟨_,rfl⟩
 rw [haf]
 by_cases hz:af0=0
 ·subst hz
  go_upto_region 3 with fail
  have a0:=HP2.out.cell 0
  have a1:=HP2.out.cell 1
  have a2:=HP2.out.cell 2
  have a3:=HP2.out.cell 3
  simp at a0 a1 a2 a3
  have l0:=Later.cell_of a0
  have l1:=Later.cell_of a1
  have l2:=Later.cell_of a2
  have l3:=Later.cell_of a3
  have hL:=fun n:Later w2 => Calls.later n (length_any six hi lo n.1)
  have hO:=fun n:Later w2 => Calls.later_same n (outside_any bits 0 (lenN six:Nat) n.1)
  unfold vA at hL
  refine wp_region_later (by kernel_rfl) (by kernel_rfl) ?_
  repeat (go_big_quiet_step (first | (go_at_call 62;exact hL _) | (go_at_call 95;exact hO _)))
  refine wpQuiet_nil ?_
  rintro w5 ⟨n5,rfl⟩
  clear a0 a1 a2 a3 l0 l1 l2 l3 hL hO
  obtain ⟨ob,hob⟩:∃ z,outB bits 0 (lenN six:Nat)=z:=⟨_,rfl⟩
  rw [hob]
  have HB5:=Lib.hid (HB2.out.trans (n5.2.mono (Nat.le_of_lt hlt2)))
  have HP5:=Lib.hid (HP2.out.below n5.2 hlt2)
  have hlt5:=HP5.out.lt
  generalize n5.1=w5 at *
  cases ob
  ·go_upto_region 5 with fail
   have hb:0≤bits∧bits≤(lenN six:Nat):=by
    unfold outB at hob
    simp at hob
    omega
   obtain ⟨bn,rfl⟩:=Int.eq_ofNat_of_zero_le hb.1
   have a0:=HP5.out.cell 0
   have a1:=HP5.out.cell 1
   have a2:=HP5.out.cell 2
   have a3:=HP5.out.cell 3
   simp at a0 a1 a2 a3
   have l0:=Later.cell_of a0
   have l1:=Later.cell_of a1
   have l2:=Later.cell_of a2
   have l3:=Later.cell_of a3
   have hM:=fun n:Later w5 => Calls.later n (masked_any six hi lo bn n.1 h1 h2 (by omega))
   unfold vA at hM
   have hpf2:pf=if mHi six hi bn ≠ hi ∨ mLo six lo bn ≠ lo then 3 else 0:=by
    rw [← hpf.out,pFault,if_neg (by rw [haf];decide),if_neg (by rw [hob];decide)]
    rfl
   generalize mHi six hi bn=mh at *
   generalize mLo six lo bn=ml at *
   have hx:(mh=hi∧ml=lo) ∨ (¬ (mh:Int)=(hi:Int)) ∨ (mh=hi∧¬ (ml:Int)=(lo:Int)):=by omega
   rcases hx with ⟨rfl,rfl⟩ | e1 | ⟨rfl,e2⟩
   ·have hp0:pf=0:=by rw [hpf2,if_neg (by omega)]
    subst hp0
    refine wp_region_later (by kernel_rfl) (by kernel_rfl) ?_
    repeat (go_big_quiet_step ((go_at_call 104;exact hM _)))
    refine wpQuiet_nil ?_
    rintro w6 ⟨n6,rfl⟩
    have HB6:=Lib.hid (HB5.out.trans (n6.2.mono (Nat.le_of_lt hlt5)))
    clear a0 a1 a2 a3 l0 l1 l2 l3 hM
    go_wp2_with fail
    have hP0':=hP0.out
    subst hP0'
    go_ret
    exact ⟨rfl,HB6.out⟩
   ·have hp0:pf=3:=by rw [hpf2,if_pos (by omega)]
    subst hp0
    refine wp_region_later (by kernel_rfl) (by kernel_rfl) ?_
    repeat (go_big_quiet_step ((go_at_call 104;exact hM _)))
    refine wpQuiet_nil ?_
    rintro w6 ⟨n6,rfl⟩
    have HB6:=Lib.hid (HB5.out.trans (n6.2.mono (Nat.le_of_lt hlt5)))
    clear a0 a1 a2 a3 l0 l1 l2 l3 hM
    go_wp2_with fail
    have hP0':=hP0.out
    subst hP0'
    go_ret
    exact ⟨rfl,HB6.out⟩
   ·have hp0:pf=3:=by rw [hpf2,if_pos (by omega)]
    subst hp0
    refine wp_region_later (by kernel_rfl) (by kernel_rfl) ?_
    repeat (go_big_quiet_step ((go_at_call 104;exact hM _)))
    refine wpQuiet_nil ?_
    rintro w6 ⟨n6,rfl⟩
    have HB6:=Lib.hid (HB5.out.trans (n6.2.mono (Nat.le_of_lt hlt5)))
    clear a0 a1 a2 a3 l0 l1 l2 l3 hM
    go_wp2_with fail
    have hP0':=hP0.out
    subst hP0'
    go_ret
    exact ⟨rfl,HB6.out⟩
  ·go_wp2_with fail
   have hP0':=hP0.out
   subst hP0'
   go_ret
   refine ⟨?_,HB5.out⟩
   rw [← hpf.out,pFault,if_neg (by rw [haf];decide),if_pos hob]
   rfl
 ·have hz':(af0 != 0)=true:=by simpa using hz
  go_wp2_with fail
  have hP0':=hP0.out
  subst hP0'
  go_ret
  refine ⟨?_,HB2.out⟩
  rw [← hpf.out,pFault,if_pos (by rw [haf];exact hz)]
  rfl
theorem u64_and65535 (n:Nat):bits .and .u64 (n:Int) 65535=((n % 65536:Nat):Int):=by
 have h127:(BitVec.ofInt 64 65535).toNat=2 ^ 16 - 1:=by decide
 have key:(BitVec.ofInt 64 (n:Int) &&& BitVec.ofInt 64 65535).toNat=n % 65536:=by
  rw [BitVec.toNat_and,BitVec.toNat_ofInt,h127,Nat.and_two_pow_sub_one_eq_mod]
  omega
 show IntKind.u64.wrap ((BitVec.ofInt 64 (n:Int) &&& BitVec.ofInt 64 65535).toNat:Nat)=_
 rw [key,IntKind.wrap_u64]
 omega
theorem dig (x m:Nat) (hx:x < 18446744073709551616):wrap64 (bits .and .u64 ((x:Int) / (m:Int)) 65535)=((x / m % 65536:Nat):Int):=by
 have e:(x:Int) / (m:Int)=((x / m:Nat):Int):=by rw [Int.natCast_ediv]
 rw [e,u64_and65535]
 unfold wrap64
 have:x / m % 65536 < 65536:=Nat.mod_lt _ (by decide)
 omega
def wCells (six:Bool) (hi lo:Nat):Array Value:=#[.int .i64 ((lo % 65536:Nat):Int), .int .i64 ((lo / 65536 % 65536:Nat):Int), .int .i64 ((lo / 4294967296 % 65536:Nat):Int), .int .i64 ((lo / 281474976710656 % 65536:Nat):Int), .int .i64 ((hi % 65536:Nat):Int), .int .i64 ((hi / 65536 % 65536:Nat):Int), .int .i64 ((hi / 4294967296 % 65536:Nat):Int), .int .i64 ((hi / 281474976710656 % 65536:Nat):Int), .int .i64 (if six=true then 1 else 0)]
theorem of_any (six:Bool) (hi lo:Nat) (w:World) (h1:hi < 18446744073709551616) (h2:lo < 18446744073709551616) :
  Calls Tryz.prog 72 #[vA six hi lo] w (Ret (.agg (wCells six hi lo)) w):=by
 have d0:wrap64 (bits .and .u64 (lo:Int) 65535)=(lo:Int) % 65536:=by rw [u64_and65535];unfold wrap64;omega
 have d7:wrap64 (bits .and .u64 (hi:Int) 65535)=(hi:Int) % 65536:=by rw [u64_and65535];unfold wrap64;omega
 have d1:=dig lo 65536 h2
 have d2:=dig lo 4294967296 h2
 have d3:=dig lo 281474976710656 h2
 have d4:=dig hi 65536 h1
 have d5:=dig hi 4294967296 h1
 have d6:=dig hi 281474976710656 h1
 have hwc:Hid (wCells six hi lo=#[.int .i64 ((lo % 65536:Nat):Int), .int .i64 ((lo / 65536 % 65536:Nat):Int), .int .i64 ((lo / 4294967296 % 65536:Nat):Int), .int .i64 ((lo / 281474976710656 % 65536:Nat):Int), .int .i64 ((hi % 65536:Nat):Int), .int .i64 ((hi / 65536 % 65536:Nat):Int), .int .i64 ((hi / 4294967296 % 65536:Nat):Int), .int .i64 ((hi / 281474976710656 % 65536:Nat):Int), .int .i64 (if six=true then 1 else 0)]):=Lib.hid rfl
 generalize (lo / 65536 % 65536:Nat)=r1 at *
 generalize (lo / 4294967296 % 65536:Nat)=r2 at *
 generalize (lo / 281474976710656 % 65536:Nat)=r3 at *
 generalize (hi / 65536 % 65536:Nat)=r4 at *
 generalize (hi / 4294967296 % 65536:Nat)=r5 at *
 generalize (hi / 281474976710656 % 65536:Nat)=r6 at *
 generalize wCells six hi lo=wc at *
 have HD:=Lib.hid (And.intro d0 (And.intro d1 (And.intro d2 (And.intro d3 (And.intro d7 (And.intro d4 (And.intro d5 d6)))))))
 clear d0 d1 d2 d3 d4 d5 d6 d7
 unfold vA
 go_enter Tryz.func72,Tryz.ntmps72
 go_wp2
 refine wp_loop_rounds 6 ?_
 rw [rounds_succ]
 go_wp2_with (rw [rounds_succ])
 all_goals
  refine bodyPost_ret (v:=.agg wc) (by rw [hwc.out];simp [results,Tryz.results72,go_sem, *];exact HD.out) rfl ⟨rfl,by repeat (first | exact Below.refl _ _ | apply below_alloc | apply below_drewN)⟩
open Go
def clr (x k:Nat):Nat:=x - x % 2 ^ k
def fil (x k:Nat):Nat:=x - x % 2 ^ k + (2 ^ k - 1)
theorem clr_zero (x:Nat):clr x 0=x:=by simp [clr,Nat.mod_one]
theorem fil_zero (x:Nat):fil x 0=x:=by simp [fil,Nat.mod_one]
theorem mod_low (x y k:Nat) (hk:k≤16):(x + 65536 * y) % 2 ^ k=x % 2 ^ k:=by
 have e:65536=2 ^ k * 2 ^ (16 - k):=by rw [← Nat.pow_add,show k + (16 - k)=16 by omega]
 rw [e,Nat.mul_assoc,Nat.add_mul_mod_self_left]
theorem mod_high (x y k:Nat) (hx:x < 65536) (hk:16≤k):(x + 65536 * y) % 2 ^ k=x + 65536 * (y % 2 ^ (k - 16)):=by
 have e:2 ^ k=65536 * 2 ^ (k - 16):=by rw [show 65536=2 ^ 16 from rfl, ← Nat.pow_add,show 16 + (k - 16)=k by omega]
 rw [e,Nat.mod_mul,Nat.add_mul_mod_self_left,Nat.mod_eq_of_lt hx,Nat.add_mul_div_left _ _ (by decide:0 < 65536),Nat.div_eq_of_lt hx,Nat.zero_add]
theorem clr_join (x y k m:Nat) (hx:x < 65536):clr (x + 65536 * y) (min k (16 + m))=clr x (min k 16) + 65536 * clr y (min (k - 16) m):=by
 unfold clr
 rcases Nat.le_total k 16 with h | h
 ·rw [Nat.min_eq_left (by omega:k≤16 + m),Nat.min_eq_left h,show k - 16=0 by omega,Nat.zero_min,mod_low x y k h,Nat.pow_zero,Nat.mod_one]
  have:=Nat.mod_le x (2 ^ k)
  omega
 ·rw [mod_high x y _ hx (by omega),Nat.min_eq_right h,Nat.mod_eq_of_lt hx,show min k (16 + m) - 16=min (k - 16) m by omega,Nat.mul_sub]
  omega
theorem fil_join (x y k m:Nat) (hx:x < 65536):fil (x + 65536 * y) (min k (16 + m))=fil x (min k 16) + 65536 * fil y (min (k - 16) m):=by
 unfold fil
 rcases Nat.le_total k 16 with h | h
 ·rw [Nat.min_eq_left (by omega:k≤16 + m),Nat.min_eq_left h,show k - 16=0 by omega,Nat.zero_min,mod_low x y k h,Nat.pow_zero,Nat.mod_one]
  have:=Nat.mod_le x (2 ^ k)
  omega
 ·have e:min k (16 + m)=16 + min (k - 16) m:=by omega
  rw [mod_high x y _ hx (by omega),Nat.min_eq_right h,Nat.mod_eq_of_lt hx,show min k (16 + m) - 16=min (k - 16) m by omega,e,Nat.pow_add]
  have h1:=Nat.mod_le y (2 ^ (min (k - 16) m))
  have h2:=Nat.one_le_two_pow (n:=min (k - 16) m)
  omega
theorem digits4 (n:Nat) (hn:n < 18446744073709551616):n=n % 65536 + 65536 * (n / 65536 % 65536 + 65536 * (n / 4294967296 % 65536 + 65536 * (n / 281474976710656 % 65536))):=by omega
theorem clr_digits (n k:Nat) (hn:n < 18446744073709551616) :
  clr n (min k 64)=clr (n % 65536) (min k 16) + 65536 * (clr (n / 65536 % 65536) (min (k - 16) 16) + 65536 * (clr (n / 4294967296 % 65536) (min (k - 32) 16) + 65536 * clr (n / 281474976710656 % 65536) (min (k - 48) 16))):=by
 have h0:n % 65536 < 65536:=Nat.mod_lt _ (by decide)
 have h1:n / 65536 % 65536 < 65536:=Nat.mod_lt _ (by decide)
 have h2:n / 4294967296 % 65536 < 65536:=Nat.mod_lt _ (by decide)
 have e:=digits4 n hn
 generalize n % 65536=x0 at *
 generalize n / 65536 % 65536=x1 at *
 generalize n / 4294967296 % 65536=x2 at *
 generalize n / 281474976710656 % 65536=x3 at *
 subst e
 rw [show (64:Nat)=16 + 48 from rfl,clr_join _ _ _ _ h0,show (48:Nat)=16 + 32 from rfl,clr_join _ _ _ _ h1,show (32:Nat)=16 + 16 from rfl,clr_join _ _ _ _ h2]
 simp only [Nat.sub_sub,Nat.reduceAdd]
theorem fil_digits (n k:Nat) (hn:n < 18446744073709551616) :
  fil n (min k 64)=fil (n % 65536) (min k 16) + 65536 * (fil (n / 65536 % 65536) (min (k - 16) 16) + 65536 * (fil (n / 4294967296 % 65536) (min (k - 32) 16) + 65536 * fil (n / 281474976710656 % 65536) (min (k - 48) 16))):=by
 have h0:n % 65536 < 65536:=Nat.mod_lt _ (by decide)
 have h1:n / 65536 % 65536 < 65536:=Nat.mod_lt _ (by decide)
 have h2:n / 4294967296 % 65536 < 65536:=Nat.mod_lt _ (by decide)
 have e:=digits4 n hn
 generalize n % 65536=x0 at *
 generalize n / 65536 % 65536=x1 at *
 generalize n / 4294967296 % 65536=x2 at *
 generalize n / 281474976710656 % 65536=x3 at *
 subst e
 rw [show (64:Nat)=16 + 48 from rfl,fil_join _ _ _ _ h0,show (48:Nat)=16 + 32 from rfl,fil_join _ _ _ _ h1,show (32:Nat)=16 + 16 from rfl,fil_join _ _ _ _ h2]
 simp only [Nat.sub_sub,Nat.reduceAdd]
theorem clr_le (x k:Nat):clr x k≤x:=Nat.sub_le _ _
theorem clr_shift (x k:Nat):clr x k=(x >>> k) <<< k:=by
 unfold clr
 rw [Nat.shiftLeft_eq,Nat.shiftRight_eq_div_pow,Nat.mul_comm]
 have:=Nat.div_add_mod x (2 ^ k)
 omega
theorem clr_tb (x k i:Nat):(clr x k).testBit i=(decide (k≤i) && x.testBit i):=by
 rw [clr_shift,Nat.testBit_shiftLeft,Nat.testBit_shiftRight]
 by_cases h:k≤i
 ·simp [h,show k + (i - k)=i by omega]
 ·simp [h]
theorem fil_or (x k:Nat):fil x k=clr x k ||| (2 ^ k - 1):=by
 have h1:=Nat.one_le_two_pow (n:=k)
 unfold fil clr
 have hd:=Nat.div_add_mod x (2 ^ k)
 have e:x - x % 2 ^ k=2 ^ k * (x / 2 ^ k):=by omega
 rw [e, ← Nat.two_pow_add_eq_or_of_lt (by omega)]
theorem fil_tb (x k i:Nat):(fil x k).testBit i=(decide (i < k) || x.testBit i):=by
 rw [fil_or,Nat.testBit_or,clr_tb,Nat.testBit_two_pow_sub_one]
 by_cases h:i < k
 ·simp [h]
 ·simp [h,Nat.not_lt.1 h]
theorem fil_lt (x k:Nat) (hx:x < 65536) (hk:k≤16):fil x k < 65536:=by
 have hp:2 ^ k≤2 ^ 16:=Nat.pow_le_pow_right (by decide) hk
 have h1:=Nat.one_le_two_pow (n:=k)
 rw [fil_or]
 exact Nat.or_lt_two_pow (n:=16) (Nat.lt_of_le_of_lt (clr_le x k) hx) (by omega)
theorem andNot_bit (x j:Nat) (hx:x < 65536) (hj:j < 16):bits .andNot .i64 ((clr x j:Nat):Int) ((2 ^ j:Nat):Int)=((clr x (j + 1):Nat):Int):=by
 have h64:(65536:Nat) < 2 ^ 64:=by decide
 have hc:=clr_le x j
 have hc2:=clr_le x (j + 1)
 have hpj:2 ^ j < 2 ^ 64:=Nat.pow_lt_pow_right (by decide) (by omega)
 have key:(BitVec.ofNat 64 (clr x j) &&& ~~~ BitVec.ofNat 64 (2 ^ j)).toNat=clr x (j + 1):=by
  refine Nat.eq_of_testBit_eq fun i => ?_
  rw [BitVec.testBit_toNat,BitVec.getLsbD_and,BitVec.getLsbD_not,BitVec.getLsbD_ofNat,BitVec.getLsbD_ofNat,clr_tb,clr_tb,Nat.testBit_two_pow]
  by_cases hi:i < 64
  ·by_cases h1:j=i
   ·subst h1;simp [show ¬ j + 1≤j by omega]
   ·by_cases h2:j≤i
    ·simp [hi,h1,h2,show j + 1≤i by omega]
    ·simp [h2,show ¬ j + 1≤i by omega]
  ·have h4:x.testBit i=false:=Nat.testBit_lt_two_pow (Nat.lt_of_lt_of_le hx (by rw [show 65536=2 ^ 16 from rfl];exact Nat.pow_le_pow_right (by decide) (by omega)))
   simp [hi,h4]
 have o1:BitVec.ofInt 64 ((clr x j:Nat):Int)=BitVec.ofNat 64 (clr x j):=BitVec.ofInt_natCast ..
 have o2:BitVec.ofInt 64 ((2 ^ j:Nat):Int)=BitVec.ofNat 64 (2 ^ j):=BitVec.ofInt_natCast ..
 show IntKind.i64.wrap ((BitVec.ofInt 64 ((clr x j:Nat):Int) &&& ~~~ BitVec.ofInt 64 ((2 ^ j:Nat):Int)).toNat:Nat)=_
 rw [o1,o2,key,IntKind.wrap_i64]
 omega
theorem or_bit (x j:Nat) (hx:x < 65536) (hj:j < 16):bits .or .i64 ((fil x j:Nat):Int) ((2 ^ j:Nat):Int)=((fil x (j + 1):Nat):Int):=by
 have h64:(65536:Nat) < 2 ^ 64:=by decide
 have hc:=fil_lt x j hx (by omega)
 have hc2:=fil_lt x (j + 1) hx (by omega)
 have hpj:2 ^ j < 2 ^ 64:=Nat.pow_lt_pow_right (by decide) (by omega)
 have key:(BitVec.ofNat 64 (fil x j) ||| BitVec.ofNat 64 (2 ^ j)).toNat=fil x (j + 1):=by
  rw [BitVec.toNat_or,BitVec.toNat_ofNat,BitVec.toNat_ofNat,Nat.mod_eq_of_lt (by omega),Nat.mod_eq_of_lt hpj]
  refine Nat.eq_of_testBit_eq fun i => ?_
  rw [Nat.testBit_or,fil_tb,fil_tb,Nat.testBit_two_pow]
  by_cases h1:j=i
  ·subst h1;simp
  ·by_cases h2:i < j
   ·simp [h2,show i < j + 1 by omega]
   ·simp [h1,h2,show ¬ i < j + 1 by omega]
 have o1:BitVec.ofInt 64 ((fil x j:Nat):Int)=BitVec.ofNat 64 (fil x j):=BitVec.ofInt_natCast ..
 have o2:BitVec.ofInt 64 ((2 ^ j:Nat):Int)=BitVec.ofNat 64 (2 ^ j):=BitVec.ofInt_natCast ..
 show IntKind.i64.wrap ((BitVec.ofInt 64 ((fil x j:Nat):Int) ||| BitVec.ofInt 64 ((2 ^ j:Nat):Int)).toNat:Nat)=_
 rw [o1,o2,key,IntKind.wrap_i64]
 omega
theorem or_join (a b k:Nat) (ha:a < 2 ^ k) (hk:k≤48) (hb:b < 65536):bits .or .u64 (a:Int) ((b * 2 ^ k:Nat):Int)=((a + b * 2 ^ k:Nat):Int):=by
 have hp:2 ^ k≤2 ^ 48:=Nat.pow_le_pow_right (by decide) hk
 have hp1:=Nat.one_le_two_pow (n:=k)
 have hbk:b * 2 ^ k≤65535 * 2 ^ 48:=Nat.mul_le_mul (by omega) hp
 have hbk2:a + b * 2 ^ k < 2 ^ 64:=by
  have:65535 * 2 ^ 48 + 2 ^ 48≤2 ^ 64:=by decide
  omega
 have key:(BitVec.ofNat 64 a ||| BitVec.ofNat 64 (b * 2 ^ k)).toNat=a + b * 2 ^ k:=by
  rw [BitVec.toNat_or,BitVec.toNat_ofNat,BitVec.toNat_ofNat,Nat.mod_eq_of_lt (by omega),Nat.mod_eq_of_lt (by omega),Nat.or_comm,Nat.mul_comm b, ← Nat.two_pow_add_eq_or_of_lt ha]
  omega
 have o1:BitVec.ofInt 64 (a:Int)=BitVec.ofNat 64 a:=BitVec.ofInt_natCast ..
 have o2:BitVec.ofInt 64 ((b * 2 ^ k:Nat):Int)=BitVec.ofNat 64 (b * 2 ^ k):=BitVec.ofInt_natCast ..
 show IntKind.u64.wrap ((BitVec.ofInt 64 (a:Int) ||| BitVec.ofInt 64 ((b * 2 ^ k:Nat):Int)).toNat:Nat)=_
 rw [o1,o2,key,IntKind.wrap_u64]
 omega
theorem clr_at (x i d:Nat) (h:i / 16=d):clr x (min (i - 16 * d) 16)=clr x (i % 16):=by
 congr 1;omega
theorem clr_next (x i d:Nat) (h:i / 16=d):clr x (min (i + 1 - 16 * d) 16)=clr x (i % 16 + 1):=by
 congr 1;omega
theorem clr_else (x i d:Nat) (h:i / 16 ≠ d):clr x (min (i + 1 - 16 * d) 16)=clr x (min (i - 16 * d) 16):=by
 congr 1;omega
theorem fil_at (x i d:Nat) (h:i / 16=d):fil x (min (i - 16 * d) 16)=fil x (i % 16):=by
 congr 1;omega
theorem fil_next (x i d:Nat) (h:i / 16=d):fil x (min (i + 1 - 16 * d) 16)=fil x (i % 16 + 1):=by
 congr 1;omega
theorem fil_else (x i d:Nat) (h:i / 16 ≠ d):fil x (min (i + 1 - 16 * d) 16)=fil x (min (i - 16 * d) 16):=by
 congr 1;omega
section
variable {P:Program} {ops:Array Oper} {md:Region.Mode} {C:World→Prop}
def anyQL (P:Program) (md:Region.Mode) (ops:Array Oper) (C:World→Prop) (n:Nat) (L:Array Bool→Act→Prop):Nat→Array Bool→Act→Prop
 | 0,listed,a => L listed a
 | f + 1,listed,a => Region.ready md ops listed ≠ []∧∀ i ∈ Region.ready md ops listed,i < n∧qOp P ops C i (anyQL P md ops C n L f (listed.setIfInBounds i true)) a
theorem any_of_QL {n g:Nat} {L:Array Bool→Act→Prop} {Q':Exit→Act→World→Prop} (hL:∀ listed a w,C w→L listed a→wpAny P md ops Q' g listed a w) :
  ∀ (f:Nat) (listed:Array Bool) (a:Act) (w:World),C w→anyQL P md ops C n L f listed a→wpAny P md ops Q' (f + g) listed a w
 | 0,_,_,_,hw,h => by rw [Nat.zero_add];exact hL _ _ _ hw h
 | f + 1,_,_,_,hw,h => by
   rw [show f + 1 + g=(f + g) + 1 by omega]
   exact ⟨fun h0 => absurd h0 h.1,fun i hi => wpOp_of_qOp hw (fun a' w' hw' h' => any_of_QL hL f _ a' w' hw' h') (h.2 i hi).2⟩
theorem QL_first {n i:Nat} {oi:Oper} {v:Value} {L:Array Bool→Act→Prop} (hi:ops[i]?=some oi) (hsel:∀ (j:Nat) (o:Oper) cs b,ops[j]?=some o→o.op ≠ .select cs b)
  (hs:Region.sinkB md ops n=true) (hc:Region.chainB md ops n=true) (hn:n < ops.size) (hin:i < n)
  (hdone:∀ listed a,L listed a→∀ j ∈ Region.ready md ops listed,n≤j) :
  ∀ (f:Nat) (listed:Array Bool) (a:Act),HeadInv md ops n listed →
   (∀ j oj,ops[j]?=some oj→j ≠ i→listed.getD j true=false→(∀ e ∈ oj.after,Region.binds md e=true→e.on ≠ i)→oi.apart ops oj=true) →
   i ∈ Region.ready md ops listed→YieldsIn P ops C oi v a →
   anyQL P md ops C n L f (listed.setIfInBounds i true) (a.put oi.dst v)→anyQL P md ops C n L (f + 1) listed a:=by
 intro f
 induction f with
 | zero =>
   intro listed a inv _ hr hy H
   have hun:=(mem_ready.1 hr).1
   refine ⟨fun h => (by rw [h] at hr;cases hr),fun j hj => ?_⟩
   have hjn:j < n:=by
    rcases Nat.lt_or_ge j n with h | h
    ·exact h
    ·exact absurd hj (tail_waits hs hc hn inv _ i rfl hin hun j h)
   refine ⟨hjn,?_⟩
   by_cases hji:j=i
   ·subst hji;exact hy.qOp hi H
   ·have:=hdone _ _ H j (ready_mono hj hji)
    omega
 | succ f ih =>
   intro listed a inv hfree hr hy H
   have hun:=(mem_ready.1 hr).1
   refine ⟨fun h => (by rw [h] at hr;cases hr),fun j hj => ?_⟩
   have hjn:j < n:=by
    rcases Nat.lt_or_ge j n with h | h
    ·exact h
    ·exact absurd hj (tail_waits hs hc hn inv _ i rfl hin hun j h)
   refine ⟨hjn,?_⟩
   by_cases hji:j=i
   ·subst hji;exact hy.qOp hi H
   ·have h1:=(H.2 j (ready_mono hj hji)).2
    obtain ⟨hjun,oj,hoj,hall⟩:=mem_ready.1 hj
    have hnot:∀ e ∈ oj.after,Region.binds md e=true→e.on ≠ i:=fun e he hb heq => by
     have h1:=hall e he hb
     rw [heq,getD_both hun] at h1
     cases h1
    have h2:=qOp_put hoj (hfree j oj hoj hji hjun hnot) (fun cs b => hsel i oi cs b hi) (fun cs b => hsel j oj cs b hoj) hy h1
    have hfree':∀ k ok,ops[k]?=some ok→k ≠ i→(listed.setIfInBounds j true).getD k true=false →
      (∀ e ∈ ok.after,Region.binds md e=true→e.on ≠ i)→oi.apart ops ok=true:=fun k ok hk hki hun hno => by
     refine hfree k ok hk hki ?_ hno
     by_cases hjk:j=k
     ·subst hjk;exact hjun
     ·rw [getD_set_ne true hjk] at hun;exact hun
    refine qOp_mono (fun a' h3 => ih (listed.setIfInBounds j true) a' (inv.set hj hjn) hfree' (ready_mono hr (Ne.symm hji)) h3.1 ?_) h2
    rw [Array.setIfInBounds_comm _ _ hji]
    exact h3.2
theorem QL_lex {n g:Nat} {Lq:Act→Prop} (hsel:Region.noSelect ops=true) (hs:Region.sinkB md ops n=true) (hc:Region.chainB md ops n=true) (hn:n < ops.size) :
  ∀ (l:List Oper) (k:Nat) (listed:Array Bool) (a:Act),(∀ j,j < l.length→l[j]?=ops[k + j]?)→k + l.length=n→HeadInv md ops n listed →
  Region.lexHead md ops g l.length k listed=true→wpQuiet P ops C Lq l a →
  anyQL P md ops C n (fun listed' a' => Region.seqB md ops g n listed'=true∧Lq a') l.length listed a
 | [],k,listed,a,_,hk,_,hB,h => by
   have:k=n:=by simpa using hk
   subst this
   exact ⟨by simpa [Region.lexHead] using hB,h⟩
 | o :: l,k,listed,a,hl,hk,inv,hB,h => by
   have h0:ops[k]?=some o:=by simpa using (hl 0 (by simp)).symm
   simp only [List.length_cons,Region.lexHead,Bool.and_eq_true] at hB
   obtain ⟨⟨hr,hf⟩,hB'⟩:=hB
   have hkn:k < n:=by simp only [List.length_cons] at hk;omega
   have hr':k ∈ Region.ready md ops listed:=by simpa using hr
   have hst:qOp P ops C k (wpQuiet P ops C Lq l) a:=by unfold qOp;simp only [h0];exact h
   obtain ⟨v,hy,hK⟩:=yieldsIn_of_qOp h0 hst
   exact QL_first h0 (Region.noSelect_spec hsel) hs hc hn hkn (fun listed' a' hL => seqB_ready hL.1) l.length listed a inv (Region.free_spec h0 hf) hr' hy
    (QL_lex hsel hs hc hn l (k + 1) _ _ (fun j hj => by have:=hl (j + 1) (by simp;omega);simpa [Nat.add_assoc,Nat.add_comm 1 j] using this) (by simp only [List.length_cons] at hk;omega) (inv.set hr' hkn) hB' hK)
theorem wp_region_later_tail {id:Nat} {Q:Exit→Act→World→Prop} {a:Act} {W:World} {l:List Oper} (n:Nat) (hm:P.follows .mixedOrders=true) (hB:Region.lexTailB .any l.toArray n=true)
  (h:wpQuiet P l.toArray (fun w' => ∃ m:Later W,w'=m.1) (fun a' => ∀ w',(∃ m:Later W,w'=m.1)→wpList P l.toArray Q (l.drop n) a' w') (l.take n) a):(Code.region id l.toArray true).wp P Q a W:=by
 simp only [Region.lexTailB,Bool.and_eq_true,decide_eq_true_eq] at hB
 obtain ⟨⟨⟨⟨hsel,hn⟩,hs⟩,hc⟩,hlex⟩:=hB
 have hn':n < l.length:=by simpa using hn
 have htl:(l.take n).length=n:=by simp;omega
 have hdl:(l.drop n).length=l.toArray.size - n:=by simp
 have inv0:HeadInv .any l.toArray n (Array.replicate l.toArray.size false) :=
  ⟨by simp,fun j oj _ hl => (by rw [getD_replicate_false] at hl;cases hl),fun t _ ht => getD_in (by simpa using ht) (getD_replicate_false _ _)⟩
 have H:=QL_lex (md:=.any) (g:=l.toArray.size - n) hsel hs hc hn (l.take n) 0 _ a (fun j hj => by
  have hj':j < n:=by rw [htl] at hj;exact hj
  simp [hj']) (by simpa using htl) inv0 (by rw [htl];exact hlex) h
 refine wp_region_any hm ?_
 have:=any_of_QL (Q':=Q) (g:=l.toArray.size - n) (fun listed a' w' hw' hL => by
  have:=wpAny_of_seq (md:=.any) (Q':=Q) (l.drop n) n listed a' w' (fun j => by simp [List.getElem?_drop]) (by rw [hdl];exact hL.1) (hL.2 w' hw')
  rwa [hdl] at this) _ _ _ { W with drawn:=W.drawn + 1 } ⟨⟨W.drew,below_drew (Below.refl _ _)⟩,rfl⟩ H
 rw [htl,show n + (l.toArray.size - n)=l.toArray.size by omega] at this
 exact this
end
def dg (hi lo:Nat):Nat→Nat
 | 0 => lo % 65536
 | 1 => lo / 65536 % 65536
 | 2 => lo / 4294967296 % 65536
 | 3 => lo / 281474976710656 % 65536
 | 4 => hi % 65536
 | 5 => hi / 65536 % 65536
 | 6 => hi / 4294967296 % 65536
 | _ => hi / 281474976710656 % 65536
theorem dg_lt (hi lo d:Nat):dg hi lo d < 65536:=by
 unfold dg
 split <;> exact Nat.mod_lt _ (by decide)
def wv (six:Bool) (f:Nat→Nat):Array Value:=#[.int .i64 ((f 0:Nat):Int), .int .i64 ((f 1:Nat):Int), .int .i64 ((f 2:Nat):Int), .int .i64 ((f 3:Nat):Int), .int .i64 ((f 4:Nat):Int), .int .i64 ((f 5:Nat):Int), .int .i64 ((f 6:Nat):Int), .int .i64 ((f 7:Nat):Int), .int .i64 (if six=true then 1 else 0)]
theorem wCells_wv (six:Bool) (hi lo:Nat):wCells six hi lo=wv six (dg hi lo):=rfl
theorem lt8 {d:Nat} (h:d < 8):d=0 ∨ d=1 ∨ d=2 ∨ d=3 ∨ d=4 ∨ d=5 ∨ d=6 ∨ d=7:=by omega
theorem wv_get (six:Bool) (f:Nat→Nat) (d:Nat) (h:d < 8):(wv six f)[d]?=some (.int .i64 ((f d:Nat):Int)):=by
 rcases lt8 h with rfl | rfl | rfl | rfl | rfl | rfl | rfl | rfl <;> rfl
theorem wv_set (six:Bool) (f:Nat→Nat) (d:Nat) (h:d < 8) (x:Nat):(wv six f).setIfInBounds d (.int .i64 (x:Int))=wv six (fun j => if j=d then x else f j):=by
 rcases lt8 h with rfl | rfl | rfl | rfl | rfl | rfl | rfl | rfl <;> rfl
theorem wv_one (six:Bool) (f:Nat→Nat):(wv six f).all (·.oneCell')=true:=by simp [wv,Value.oneCell']
theorem wv_congr {six:Bool} {f g:Nat→Nat} (h:∀ d,d < 8→f d=g d):wv six f=wv six g:=by
 unfold wv
 rw [h 0 (by decide),h 1 (by decide),h 2 (by decide),h 3 (by decide),h 4 (by decide),h 5 (by decide),h 6 (by decide),h 7 (by decide)]
def clrF (hi lo k:Nat) (d:Nat):Nat:=clr (dg hi lo d) (min (k - 16 * d) 16)
def filF (hi lo k:Nat) (d:Nat):Nat:=fil (dg hi lo d) (min (k - 16 * d) 16)
theorem belowRow {u v:World} (h:Below u.heap.size u v) {B:Nat} (hB:u.heap.size≤B) (c:Array Value):Below u.heap.size u (v.setRow B c) :=
 ⟨h.os,h.tape,h.output,by rw [setRow_size];exact h.size,fun i hi => (setRow_other v B i c (by omega)).trans (h.block i hi)⟩
theorem Blk.rowFar {w:World} {A B:Nat} {t:TypeId} {cs:Array Value} (h:Blk w A t cs) (hne:A ≠ B) (c2:Array Value):Blk (w.setRow B c2) A t cs:=(setRow_other w B A c2 hne).trans h
theorem Blk.row {w:World} {B:Nat} {t:TypeId} {cs:Array Value} (h:Blk w B t cs) (c2:Array Value):Blk (w.setRow B c2) B t c2:=setRow_heap w B _ _ _ _ h
theorem clrF_zero (six:Bool) (hi lo:Nat):wv six (clrF hi lo 0)=wv six (dg hi lo):=wv_congr fun d _ => by unfold clrF;rw [Nat.zero_sub,Nat.zero_min,clr_zero]
theorem clrF_step (six:Bool) (hi lo i:Nat) (h:i < 128):(wv six (clrF hi lo i)).setIfInBounds (i / 16) (.int .i64 ((clr (dg hi lo (i / 16)) (i % 16 + 1):Nat):Int))=wv six (clrF hi lo (i + 1)):=by
 rw [wv_set _ _ _ (by omega)]
 refine wv_congr fun d _ => ?_
 unfold clrF
 by_cases e:d=i / 16
 ·rw [if_pos e,clr_next _ _ _ e.symm,e]
 ·rw [if_neg e,clr_else _ _ _ (Ne.symm e)]
theorem clrF_at (hi lo i:Nat):clrF hi lo i (i / 16)=clr (dg hi lo (i / 16)) (i % 16):=clr_at _ _ _ rfl
theorem filF_zero (six:Bool) (hi lo:Nat):wv six (filF hi lo 0)=wv six (dg hi lo):=wv_congr fun d _ => by unfold filF;rw [Nat.zero_sub,Nat.zero_min,fil_zero]
theorem filF_step (six:Bool) (hi lo i:Nat) (h:i < 128):(wv six (filF hi lo i)).setIfInBounds (i / 16) (.int .i64 ((fil (dg hi lo (i / 16)) (i % 16 + 1):Nat):Int))=wv six (filF hi lo (i + 1)):=by
 rw [wv_set _ _ _ (by omega)]
 refine wv_congr fun d _ => ?_
 unfold filF
 by_cases e:d=i / 16
 ·rw [if_pos e,fil_next _ _ _ e.symm,e]
 ·rw [if_neg e,fil_else _ _ _ (Ne.symm e)]
theorem filF_at (hi lo i:Nat):filF hi lo i (i / 16)=fil (dg hi lo (i / 16)) (i % 16):=fil_at _ _ _ rfl
theorem firstOf_any (six:Bool) (hi lo:Nat) (bits:Int) (n:Nat) (w:World) (h1:hi < 18446744073709551616) (h2:lo < 18446744073709551616) (hb1:-1000≤bits∧bits≤1099511627777) (hb2:((lenN six:Nat):Int) - bits≤128) (hn:(((lenN six:Nat):Int) - bits).toNat=n) :
  Calls Tryz.prog 97 #[vA six hi lo, .int .i64 bits] w (Ret (.agg (wv six (clrF hi lo n))) w):=by
 have hln:=lenN_le six
 have HO:Hid (∀ wx,Calls Tryz.prog 72 #[vA six hi lo] wx (Ret (.agg (wv six (dg hi lo))) wx)):=Lib.hid fun wx => of_any six hi lo wx h1 h2
 have HL:=Lib.hid fun wx => lengthQ_any six hi lo wx
 have Hz:=Lib.hid (clrF_zero six hi lo)
 have hn1:n≤128:=by omega
 have Hn:=Lib.hid hn
 obtain ⟨ln,hl⟩:∃ ln,lenN six=ln:=⟨_,rfl⟩
 rw [hl] at HL hb2 Hn hln
 clear hl hn
 unfold vA at HO HL
 try unfold vA
 have HA0:Blk (w.alloc (.cells #[.bool six, .int .u64 (hi:Int), .int .u64 (lo:Int)] 28 (0,0))) w.heap.size 28 #[.bool six, .int .u64 (hi:Int), .int .u64 (lo:Int)]:=Blk.new w _ _
 have HR0:Blk ((w.alloc (.cells #[.bool six, .int .u64 (hi:Int), .int .u64 (lo:Int)] 28 (0,0))).alloc (.cells #[.int .i64 0, .int .i64 0, .int .i64 0, .int .i64 0, .int .i64 0, .int .i64 0, .int .i64 0, .int .i64 0, .int .i64 0] 101 (0,0))) (w.heap.size + 1) 101 #[.int .i64 0, .int .i64 0, .int .i64 0, .int .i64 0, .int .i64 0, .int .i64 0, .int .i64 0, .int .i64 0, .int .i64 0]:=by
  have:=Blk.new (w.alloc (.cells #[.bool six, .int .u64 (hi:Int), .int .u64 (lo:Int)] 28 (0,0))) 101 #[.int .i64 0, .int .i64 0, .int .i64 0, .int .i64 0, .int .i64 0, .int .i64 0, .int .i64 0, .int .i64 0, .int .i64 0]
  rw [World.size_alloc] at this
  exact this
 have HA1:=Lib.hid (HA0.alloc (.cells #[.int .i64 0, .int .i64 0, .int .i64 0, .int .i64 0, .int .i64 0, .int .i64 0, .int .i64 0, .int .i64 0, .int .i64 0] 101 (0,0)))
 have HR1:=Lib.hid HR0
 have HB1:Hid (Below w.heap.size w ((w.alloc (.cells #[.bool six, .int .u64 (hi:Int), .int .u64 (lo:Int)] 28 (0,0))).alloc (.cells #[.int .i64 0, .int .i64 0, .int .i64 0, .int .i64 0, .int .i64 0, .int .i64 0, .int .i64 0, .int .i64 0, .int .i64 0] 101 (0,0)))):=Lib.hid (below_alloc (below_alloc (Below.refl _ _) _) _)
 clear HA0 HR0
 go_enter Tryz.func97,Tryz.ntmps97
 go_wp2_with fail
 refine (HO.out _).mono ?_
 rintro e w2 ⟨rfl,hb⟩
 have hA1:=HA1.out.lt
 have hR1:=HR1.out.lt
 have HA2:=Lib.hid ((HA1.out.below hb hA1).alloc (.cells #[.int .i64 0, .int .i64 0, .int .i64 0, .int .i64 0, .int .i64 0, .int .i64 0, .int .i64 0, .int .i64 0, .int .i64 0] 101 (0,0)))
 have HR2:=Lib.hid ((HR1.out.below hb hR1).alloc (.cells #[.int .i64 0, .int .i64 0, .int .i64 0, .int .i64 0, .int .i64 0, .int .i64 0, .int .i64 0, .int .i64 0, .int .i64 0] 101 (0,0)))
 have hs2:=hb.size
 have HB2:Hid (Below w.heap.size w (w2.alloc (.cells #[.int .i64 0, .int .i64 0, .int .i64 0, .int .i64 0, .int .i64 0, .int .i64 0, .int .i64 0, .int .i64 0, .int .i64 0] 101 (0,0)))):=Lib.hid (below_alloc (HB1.out.trans (hb.mono HB1.out.size)) _)
 have HZ2:Hid (Blk (w2.alloc (.cells #[.int .i64 0, .int .i64 0, .int .i64 0, .int .i64 0, .int .i64 0, .int .i64 0, .int .i64 0, .int .i64 0, .int .i64 0] 101 (0,0))) w2.heap.size 101 #[.int .i64 0, .int .i64 0, .int .i64 0, .int .i64 0, .int .i64 0, .int .i64 0, .int .i64 0, .int .i64 0, .int .i64 0]):=Lib.hid (Blk.new w2 _ _)
 have hw2:w.heap.size + 2≤w2.heap.size:=by simp at hs2;omega
 clear hb HA1 HR1 HB1 hs2 hA1 hR1 HO
 have HW3:Hid (Blk ((w2.alloc (.cells #[.int .i64 0, .int .i64 0, .int .i64 0, .int .i64 0, .int .i64 0, .int .i64 0, .int .i64 0, .int .i64 0, .int .i64 0] 101 (0,0))).setRow w2.heap.size (wv six (dg hi lo))) w2.heap.size 101 (wv six (dg hi lo))):=Lib.hid (HZ2.out.row _)
 have HA3:=Lib.hid (HA2.out.rowFar (show w.heap.size ≠ w2.heap.size by omega) (wv six (dg hi lo)))
 have HR3:=Lib.hid (HR2.out.rowFar (show w.heap.size + 1 ≠ w2.heap.size by omega) (wv six (dg hi lo)))
 have HB3:=Lib.hid (belowRow HB2.out (show w.heap.size≤w2.heap.size by omega) (wv six (dg hi lo)))
 clear HA2 HR2 HB2
 have a0:=HA3.out.cell 0
 have a1:=HA3.out.cell 1
 have a2:=HA3.out.cell 2
 simp at a0 a1 a2
 go_wp2_with (refine wpList_store_row rfl 101 (.tmp 5) (.tmp 8) rfl w2.heap.size (wv six (dg hi lo)) rfl rfl 101 #[.int .i64 0, .int .i64 0, .int .i64 0, .int .i64 0, .int .i64 0, .int .i64 0, .int .i64 0, .int .i64 0, .int .i64 0] HZ2.out (by kernel_rfl) rfl (wv_one _ _) ?_)
 clear HZ2
 generalize (w2.alloc (.cells #[.int .i64 0, .int .i64 0, .int .i64 0, .int .i64 0, .int .i64 0, .int .i64 0, .int .i64 0, .int .i64 0, .int .i64 0] 101 (0,0))).setRow w2.heap.size (wv six (dg hi lo))=w3 at *
 generalize w2.heap.size=W at *
 go_wp2_with fail
 refine (HL.out _).mono ?_
 rintro e w4 ⟨rfl,hb⟩
 have HA4:=Lib.hid (HA3.out.below hb HA3.out.lt)
 have HR4:=Lib.hid (HR3.out.below hb HR3.out.lt)
 have HW4:Hid (Blk w4 W 101 (wv six (clrF hi lo 0))):=Lib.hid (by rw [Hz.out];exact HW3.out.below hb HW3.out.lt)
 have HB4:=Lib.hid (HB3.out.trans (hb.mono HB3.out.size))
 clear hb HA3 HR3 HW3 HB3 HL Hz a0 a1 a2
 go_wp2_with fail
 go_loopw [6,13] (fun iv i wr => ∃ k:Nat,k≤n∧i=.int .i64 k∧Hid (Blk wr W 101 (wv six (clrF hi lo k)))∧Hid (Blk wr (w.heap.size + 1) 101 #[.int .i64 0, .int .i64 0, .int .i64 0, .int .i64 0, .int .i64 0, .int .i64 0, .int .i64 0, .int .i64 0, .int .i64 0])∧Hid (Below w.heap.size w wr)) (fun _ i _ => n - (intOf i).toNat)
 case atStart => exact ⟨0,Nat.zero_le _,rfl,HW4,HR4,HB4⟩
 case round =>
  clear HW4 HR4 HB4 HA4
  obtain ⟨k,hk,rfl,HW,HR,HB⟩:=hrel
  have hnn:=Hn.out
  by_cases hlt:k < n
  ·have hc1:(k:Int) < (ln:Int) - bits:=by omega
   have hk128:k < 128:=by omega
   have Hst:=Lib.hid (clrF_step six hi lo k hk128)
   have Hat:=Lib.hid (clrF_at hi lo k)
   have Hop:=Lib.hid (andNot_bit (dg hi lo (k / 16)) (k % 16) (dg_lt _ _ _) (by omega))
   have hcell:=HW.out.cell (k / 16)
   rw [wv_get _ _ _ (by omega),Hat.out] at hcell
   have hfr:=HW.out.free (k / 16)
   obtain ⟨q,hq⟩:∃ q,k / 16=q:=⟨_,rfl⟩
   obtain ⟨r,hr⟩:∃ r,k % 16=r:=⟨_,rfl⟩
   rw [hq,hr] at Hst Hop hcell
   rw [hq] at hfr
   have e1:(k:Int) / 16=(q:Int):=by omega
   have e2:(k:Int) % 16=(r:Int):=by omega
   have hq8:q < 8:=by omega
   have hr16:r < 16:=by omega
   have hp2:(2:Nat) ^ r≤32768:=by
    have:=Nat.pow_le_pow_right (n:=2) (by decide) (show r≤15 by omega)
    exact this
   have e3:((2 ^ r:Nat):Int)=(2:Int) ^ r:=by rw [Int.natCast_pow];rfl
   rw [e3] at Hop
   have eW:IntKind.i64.wrap ((2:Int) ^ r)=(2:Int) ^ r:=by
    rw [← e3,IntKind.wrap_i64]
    generalize (2:Nat) ^ r=pn at *
    omega
   have hw5:∃ c0:Nat,clr (dg hi lo q) r=c0:=⟨_,rfl⟩
   obtain ⟨c0,hc0⟩:=hw5
   obtain ⟨c1,hc1'⟩:∃ c1:Nat,clr (dg hi lo q) (r + 1)=c1:=⟨_,rfl⟩
   rw [hc0] at Hop hcell
   rw [hc1'] at Hop Hst
   clear hc0 hc1' hp2 Hat hnn e3
   have HWn:Hid (∀ w',Blk w' W 101 (wv six (clrF hi lo k))→Blk (w'.setCell ⟨W,q,none⟩ (.int .i64 (c1:Int))) W 101 (wv six (clrF hi lo (k + 1)))):=Lib.hid fun w' h => by
    have:=h.set q (.int .i64 (c1:Int))
    rw [Hst.out] at this
    exact this
   clear Hst
   have hWl:w.heap.size + 2≤W:=hw2
   have hcell':World.cell? { heap:=wr.heap,tape:=wr.tape,drawn:=wr.drawn + 1,os:=wr.os,output:=wr.output } ⟨W,q,none⟩=some (.int .i64 (c0:Int)):=hcell
   have e5:IntKind.i64.wrap (q:Int)=(q:Int):=by rw [IntKind.wrap_i64];omega
   have e6:IntKind.i64.wrap (r:Int)=(r:Int):=by rw [IntKind.wrap_i64];omega
   have b1:(0:Int)≤(q:Int):=by omega
   have b2:(q:Int) < 9:=by omega
   have e7:(k:Int).tmod 16=(r:Int):=by rw [Int.tmod_eq_emod_of_nonneg (by omega)];exact e2
   have b3:¬ (r:Int) < 0:=by omega
   have b4:(0:Int)≤(r:Int):=by omega
   go_upto_region 5 with fail
   go_still_tail 9,(by kernel_rfl)
   rw [Hop.out]
   change wpList _ _ _ _ _ wr.drew
   have HW5:Hid (Blk (wr.drew.setCell ⟨W,q,none⟩ (.int .i64 (c1:Int))) W 101 (wv six (clrF hi lo (k + 1)))):=Lib.hid (HWn.out wr.drew (HW.out.drewN 1))
   have HR5:Hid (Blk (wr.drew.setCell ⟨W,q,none⟩ (.int .i64 (c1:Int))) (w.heap.size + 1) 101 #[.int .i64 0, .int .i64 0, .int .i64 0, .int .i64 0, .int .i64 0, .int .i64 0, .int .i64 0, .int .i64 0, .int .i64 0]):=Lib.hid (Blk.far (HR.out.drewN 1) (by omega) _ _)
   have HB5:Hid (Below w.heap.size w (wr.drew.setCell ⟨W,q,none⟩ (.int .i64 (c1:Int)))):=Lib.hid (below_set (below_drew HB.out) (by omega) _ _)
   have hd1:wr.drew.cell? ⟨W,q,none⟩=some (.int .i64 (c0:Int)):=hcell
   have hd2:wr.drew.frozen? ⟨W,q,none⟩=false:=hfr
   clear hcell' hcell hfr HWn HW HR HB Hop e1 e2 e5 e6 e7
   generalize wr.drew=w5 at *
   go_wp2
   exact ⟨⟨k + 1,by omega,by go_num,HW5,HR5,HB5⟩,by simp [intOf];omega⟩
  ·obtain rfl:k=n:=by omega
   have hc1:¬ (k:Int) < (ln:Int) - bits:=by omega
   go_wp2_with (first | refine wpList_load_row rfl 101 (.tmp 5) rfl W rfl 101 (wv six (clrF hi lo k)) (0,0) _ HW.out Tryz.underlying101 rfl (by kernel_rfl) ?_ | refine wpList_store_row rfl 101 (.tmp 4) (.tmp 26) rfl (w.heap.size + 1) (wv six (clrF hi lo k)) rfl rfl 101 #[.int .i64 0, .int .i64 0, .int .i64 0, .int .i64 0, .int .i64 0, .int .i64 0, .int .i64 0, .int .i64 0, .int .i64 0] HR.out (by kernel_rfl) rfl (wv_one _ _) ?_)
   refine bodyPost_ret (v:=.agg (wv six (clrF hi lo k))) (results_cell_row Tryz.results97 _ _ (w.heap.size + 1) 101 (wv six (clrF hi lo k)) (0,0) _ rfl (HR.out.row _) Tryz.underlying101 rfl (by kernel_rfl)) rfl ⟨rfl,belowRow HB.out (by omega) _⟩
theorem lastOf_any (six:Bool) (hi lo:Nat) (bits:Int) (n:Nat) (w:World) (h1:hi < 18446744073709551616) (h2:lo < 18446744073709551616) (hb1:-1000≤bits∧bits≤1099511627777) (hb2:((lenN six:Nat):Int) - bits≤128) (hn:(((lenN six:Nat):Int) - bits).toNat=n) :
  Calls Tryz.prog 134 #[.agg #[.bool six, .int .u64 (hi:Int), .int .u64 (lo:Int), .int .i64 bits]] w (Ret (.agg (wv six (filF hi lo n))) w):=by
 have hln:=lenN_le six
 have HO:Hid (∀ wx,Calls Tryz.prog 72 #[vA six hi lo] wx (Ret (.agg (wv six (dg hi lo))) wx)):=Lib.hid fun wx => of_any six hi lo wx h1 h2
 have HL:=Lib.hid fun wx => lengthQ_any six hi lo wx
 have Hz:=Lib.hid (filF_zero six hi lo)
 have hn1:n≤128:=by omega
 have Hn:=Lib.hid hn
 obtain ⟨ln,hl⟩:∃ ln,lenN six=ln:=⟨_,rfl⟩
 rw [hl] at HL hb2 Hn hln
 clear hl hn
 unfold vA at HO HL
 try unfold vA
 have HA0:Blk (w.alloc (.cells #[.bool six, .int .u64 (hi:Int), .int .u64 (lo:Int), .int .i64 bits] 30 (0,0))) w.heap.size 30 #[.bool six, .int .u64 (hi:Int), .int .u64 (lo:Int), .int .i64 bits]:=Blk.new w _ _
 have HR0:Blk ((w.alloc (.cells #[.bool six, .int .u64 (hi:Int), .int .u64 (lo:Int), .int .i64 bits] 30 (0,0))).alloc (.cells #[.int .i64 0, .int .i64 0, .int .i64 0, .int .i64 0, .int .i64 0, .int .i64 0, .int .i64 0, .int .i64 0, .int .i64 0] 101 (0,0))) (w.heap.size + 1) 101 #[.int .i64 0, .int .i64 0, .int .i64 0, .int .i64 0, .int .i64 0, .int .i64 0, .int .i64 0, .int .i64 0, .int .i64 0]:=by
  have:=Blk.new (w.alloc (.cells #[.bool six, .int .u64 (hi:Int), .int .u64 (lo:Int), .int .i64 bits] 30 (0,0))) 101 #[.int .i64 0, .int .i64 0, .int .i64 0, .int .i64 0, .int .i64 0, .int .i64 0, .int .i64 0, .int .i64 0, .int .i64 0]
  rw [World.size_alloc] at this
  exact this
 have HA1:=Lib.hid (HA0.alloc (.cells #[.int .i64 0, .int .i64 0, .int .i64 0, .int .i64 0, .int .i64 0, .int .i64 0, .int .i64 0, .int .i64 0, .int .i64 0] 101 (0,0)))
 have HR1:=Lib.hid HR0
 have HB1:Hid (Below w.heap.size w ((w.alloc (.cells #[.bool six, .int .u64 (hi:Int), .int .u64 (lo:Int), .int .i64 bits] 30 (0,0))).alloc (.cells #[.int .i64 0, .int .i64 0, .int .i64 0, .int .i64 0, .int .i64 0, .int .i64 0, .int .i64 0, .int .i64 0, .int .i64 0] 101 (0,0)))):=Lib.hid (below_alloc (below_alloc (Below.refl _ _) _) _)
 clear HA0 HR0
 go_enter Tryz.func134,Tryz.ntmps134
 go_wp2_with fail
 refine (HO.out _).mono ?_
 rintro e w2 ⟨rfl,hb⟩
 have hA1:=HA1.out.lt
 have hR1:=HR1.out.lt
 have HA2:=Lib.hid ((HA1.out.below hb hA1).alloc (.cells #[.int .i64 0, .int .i64 0, .int .i64 0, .int .i64 0, .int .i64 0, .int .i64 0, .int .i64 0, .int .i64 0, .int .i64 0] 101 (0,0)))
 have HR2:=Lib.hid ((HR1.out.below hb hR1).alloc (.cells #[.int .i64 0, .int .i64 0, .int .i64 0, .int .i64 0, .int .i64 0, .int .i64 0, .int .i64 0, .int .i64 0, .int .i64 0] 101 (0,0)))
 have hs2:=hb.size
 have HB2:Hid (Below w.heap.size w (w2.alloc (.cells #[.int .i64 0, .int .i64 0, .int .i64 0, .int .i64 0, .int .i64 0, .int .i64 0, .int .i64 0, .int .i64 0, .int .i64 0] 101 (0,0)))):=Lib.hid (below_alloc (HB1.out.trans (hb.mono HB1.out.size)) _)
 have HZ2:Hid (Blk (w2.alloc (.cells #[.int .i64 0, .int .i64 0, .int .i64 0, .int .i64 0, .int .i64 0, .int .i64 0, .int .i64 0, .int .i64 0, .int .i64 0] 101 (0,0))) w2.heap.size 101 #[.int .i64 0, .int .i64 0, .int .i64 0, .int .i64 0, .int .i64 0, .int .i64 0, .int .i64 0, .int .i64 0, .int .i64 0]):=Lib.hid (Blk.new w2 _ _)
 have hw2:w.heap.size + 2≤w2.heap.size:=by simp at hs2;omega
 clear hb HA1 HR1 HB1 hs2 hA1 hR1 HO
 have HW3:Hid (Blk ((w2.alloc (.cells #[.int .i64 0, .int .i64 0, .int .i64 0, .int .i64 0, .int .i64 0, .int .i64 0, .int .i64 0, .int .i64 0, .int .i64 0] 101 (0,0))).setRow w2.heap.size (wv six (dg hi lo))) w2.heap.size 101 (wv six (dg hi lo))):=Lib.hid (HZ2.out.row _)
 have HA3:=Lib.hid (HA2.out.rowFar (show w.heap.size ≠ w2.heap.size by omega) (wv six (dg hi lo)))
 have HR3:=Lib.hid (HR2.out.rowFar (show w.heap.size + 1 ≠ w2.heap.size by omega) (wv six (dg hi lo)))
 have HB3:=Lib.hid (belowRow HB2.out (show w.heap.size≤w2.heap.size by omega) (wv six (dg hi lo)))
 clear HA2 HR2 HB2
 have a0:=HA3.out.cell 0
 have a1:=HA3.out.cell 1
 have a2:=HA3.out.cell 2
 have a3:=HA3.out.cell 3
 simp at a0 a1 a2 a3
 go_wp2_with (refine wpList_store_row rfl 101 (.tmp 3) (.tmp 7) rfl w2.heap.size (wv six (dg hi lo)) rfl rfl 101 #[.int .i64 0, .int .i64 0, .int .i64 0, .int .i64 0, .int .i64 0, .int .i64 0, .int .i64 0, .int .i64 0, .int .i64 0] HZ2.out (by kernel_rfl) rfl (wv_one _ _) ?_)
 clear HZ2
 generalize (w2.alloc (.cells #[.int .i64 0, .int .i64 0, .int .i64 0, .int .i64 0, .int .i64 0, .int .i64 0, .int .i64 0, .int .i64 0, .int .i64 0] 101 (0,0))).setRow w2.heap.size (wv six (dg hi lo))=w3 at *
 generalize w2.heap.size=W at *
 have l0:=Later.cell_of a0
 have l1:=Later.cell_of a1
 have l2:=Later.cell_of a2
 have l3:=Later.cell_of a3
 have hL:=fun n:Later w3 => Calls.later n (HL.out n.1)
 simp only [Act.put]
 refine wp_region_later (by kernel_rfl) (by kernel_rfl) ?_
 repeat (go_big_quiet_step ((go_at_call 57;exact hL _)))
 refine wpQuiet_nil ?_
 rintro w4 ⟨n4,hn4⟩
 have hb:Below w3.heap.size w3 w4:=by rw [hn4];exact n4.2
 clear hn4 n4
 clear hL l0 l1 l2 l3
 have HA4:=Lib.hid (HA3.out.below hb HA3.out.lt)
 have HR4:=Lib.hid (HR3.out.below hb HR3.out.lt)
 have HW4:Hid (Blk w4 W 101 (wv six (filF hi lo 0))):=Lib.hid (by rw [Hz.out];exact HW3.out.below hb HW3.out.lt)
 have HB4:=Lib.hid (HB3.out.trans (hb.mono HB3.out.size))
 clear hb HA3 HR3 HW3 HB3 HL Hz a0 a1 a2 a3
 go_wp2_with fail
 go_loopw [4,14] (fun iv i wr => ∃ k:Nat,k≤n∧i=.int .i64 k∧Hid (Blk wr W 101 (wv six (filF hi lo k)))∧Hid (Blk wr (w.heap.size + 1) 101 #[.int .i64 0, .int .i64 0, .int .i64 0, .int .i64 0, .int .i64 0, .int .i64 0, .int .i64 0, .int .i64 0, .int .i64 0])∧Hid (Below w.heap.size w wr)) (fun _ i _ => n - (intOf i).toNat)
 case atStart => exact ⟨0,Nat.zero_le _,rfl,HW4,HR4,HB4⟩
 case round =>
  clear HW4 HR4 HB4 HA4
  obtain ⟨k,hk,rfl,HW,HR,HB⟩:=hrel
  have hnn:=Hn.out
  by_cases hlt:k < n
  ·have hc1:(k:Int) < (ln:Int) - bits:=by omega
   have hk128:k < 128:=by omega
   have Hst:=Lib.hid (filF_step six hi lo k hk128)
   have Hat:=Lib.hid (filF_at hi lo k)
   have Hop:=Lib.hid (or_bit (dg hi lo (k / 16)) (k % 16) (dg_lt _ _ _) (by omega))
   have hcell:=HW.out.cell (k / 16)
   rw [wv_get _ _ _ (by omega),Hat.out] at hcell
   have hfr:=HW.out.free (k / 16)
   obtain ⟨q,hq⟩:∃ q,k / 16=q:=⟨_,rfl⟩
   obtain ⟨r,hr⟩:∃ r,k % 16=r:=⟨_,rfl⟩
   rw [hq,hr] at Hst Hop hcell
   rw [hq] at hfr
   have e1:(k:Int) / 16=(q:Int):=by omega
   have e2:(k:Int) % 16=(r:Int):=by omega
   have hq8:q < 8:=by omega
   have hr16:r < 16:=by omega
   have hp2:(2:Nat) ^ r≤32768:=by
    have:=Nat.pow_le_pow_right (n:=2) (by decide) (show r≤15 by omega)
    exact this
   have e3:((2 ^ r:Nat):Int)=(2:Int) ^ r:=by rw [Int.natCast_pow];rfl
   rw [e3] at Hop
   have eW:IntKind.i64.wrap ((2:Int) ^ r)=(2:Int) ^ r:=by
    rw [← e3,IntKind.wrap_i64]
    generalize (2:Nat) ^ r=pn at *
    omega
   have hw5:∃ c0:Nat,fil (dg hi lo q) r=c0:=⟨_,rfl⟩
   obtain ⟨c0,hc0⟩:=hw5
   obtain ⟨c1,hc1'⟩:∃ c1:Nat,fil (dg hi lo q) (r + 1)=c1:=⟨_,rfl⟩
   rw [hc0] at Hop hcell
   rw [hc1'] at Hop Hst
   clear hc0 hc1' hp2 Hat hnn e3
   have HWn:Hid (∀ w',Blk w' W 101 (wv six (filF hi lo k))→Blk (w'.setCell ⟨W,q,none⟩ (.int .i64 (c1:Int))) W 101 (wv six (filF hi lo (k + 1)))):=Lib.hid fun w' h => by
    have:=h.set q (.int .i64 (c1:Int))
    rw [Hst.out] at this
    exact this
   clear Hst
   have hWl:w.heap.size + 2≤W:=hw2
   have hcell':World.cell? { heap:=wr.heap,tape:=wr.tape,drawn:=wr.drawn + 1,os:=wr.os,output:=wr.output } ⟨W,q,none⟩=some (.int .i64 (c0:Int)):=hcell
   have e5:IntKind.i64.wrap (q:Int)=(q:Int):=by rw [IntKind.wrap_i64];omega
   have e6:IntKind.i64.wrap (r:Int)=(r:Int):=by rw [IntKind.wrap_i64];omega
   have b1:(0:Int)≤(q:Int):=by omega
   have b2:(q:Int) < 9:=by omega
   have e7:(k:Int).tmod 16=(r:Int):=by rw [Int.tmod_eq_emod_of_nonneg (by omega)];exact e2
   have b3:¬ (r:Int) < 0:=by omega
   have b4:(0:Int)≤(r:Int):=by omega
   go_upto_region 5 with fail
   go_still_tail 9,(by kernel_rfl)
   rw [Hop.out]
   change wpList _ _ _ _ _ wr.drew
   have HW5:Hid (Blk (wr.drew.setCell ⟨W,q,none⟩ (.int .i64 (c1:Int))) W 101 (wv six (filF hi lo (k + 1)))):=Lib.hid (HWn.out wr.drew (HW.out.drewN 1))
   have HR5:Hid (Blk (wr.drew.setCell ⟨W,q,none⟩ (.int .i64 (c1:Int))) (w.heap.size + 1) 101 #[.int .i64 0, .int .i64 0, .int .i64 0, .int .i64 0, .int .i64 0, .int .i64 0, .int .i64 0, .int .i64 0, .int .i64 0]):=Lib.hid (Blk.far (HR.out.drewN 1) (by omega) _ _)
   have HB5:Hid (Below w.heap.size w (wr.drew.setCell ⟨W,q,none⟩ (.int .i64 (c1:Int)))):=Lib.hid (below_set (below_drew HB.out) (by omega) _ _)
   have hd1:wr.drew.cell? ⟨W,q,none⟩=some (.int .i64 (c0:Int)):=hcell
   have hd2:wr.drew.frozen? ⟨W,q,none⟩=false:=hfr
   clear hcell' hcell hfr HWn HW HR HB Hop e1 e2 e5 e6 e7
   generalize wr.drew=w5 at *
   go_wp2
   exact ⟨⟨k + 1,by omega,by go_num,HW5,HR5,HB5⟩,by simp [intOf];omega⟩
  ·obtain rfl:k=n:=by omega
   have hc1:¬ (k:Int) < (ln:Int) - bits:=by omega
   go_wp2_with (first | refine wpList_load_row rfl 101 (.tmp 3) rfl W rfl 101 (wv six (filF hi lo k)) (0,0) _ HW.out Tryz.underlying101 rfl (by kernel_rfl) ?_ | refine wpList_store_row rfl 101 (.tmp 2) (.tmp 27) rfl (w.heap.size + 1) (wv six (filF hi lo k)) rfl rfl 101 #[.int .i64 0, .int .i64 0, .int .i64 0, .int .i64 0, .int .i64 0, .int .i64 0, .int .i64 0, .int .i64 0, .int .i64 0] HR.out (by kernel_rfl) rfl (wv_one _ _) ?_)
   refine bodyPost_ret (v:=.agg (wv six (filF hi lo k))) (results_cell_row Tryz.results134 _ _ (w.heap.size + 1) 101 (wv six (filF hi lo k)) (0,0) _ rfl (HR.out.row _) Tryz.underlying101 rfl (by kernel_rfl)) rfl ⟨rfl,belowRow HB.out (by omega) _⟩
def PS (f:Nat→Nat) (o:Nat):Nat→Nat
 | 0 => 0
 | k + 1 => PS f o k + f (o + k) * 2 ^ (16 * k)
theorem PS_lt (f:Nat→Nat) (hf:∀ d,f d < 65536) (o:Nat):∀ k,PS f o k < 2 ^ (16 * k)
 | 0 => by simp [PS]
 | k + 1 => by
   have h1:=PS_lt f hf o k
   have h2:=hf (o + k)
   have e:2 ^ (16 * (k + 1))=65536 * 2 ^ (16 * k):=by rw [Nat.mul_add,Nat.pow_add,Nat.mul_comm]
   unfold PS
   rw [e]
   have h3:f (o + k) * 2 ^ (16 * k)≤65535 * 2 ^ (16 * k):=Nat.mul_le_mul_right _ (by omega)
   omega
theorem PS_four (f:Nat→Nat) (o:Nat):PS f o 4=f o + 65536 * (f (o + 1) + 65536 * (f (o + 2) + 65536 * f (o + 3))):=by
 simp only [PS,Nat.add_zero,Nat.mul_zero,Nat.pow_zero,Nat.mul_one,Nat.zero_add,Nat.reduceMul,Nat.reducePow]
 omega
theorem shl_cast (x s:Nat) (hx:x < 65536) (hs:s≤48):IntKind.u64.wrap ((x:Int) * 2 ^ s)=((x * 2 ^ s:Nat):Int):=by
 have e:(x:Int) * 2 ^ s=((x * 2 ^ s:Nat):Int):=by rw [Int.natCast_mul,Int.natCast_pow];rfl
 have h1:x * 2 ^ s≤65535 * 2 ^ 48:=Nat.mul_le_mul (by omega) (Nat.pow_le_pow_right (by decide) hs)
 rw [e,IntKind.wrap_u64]
 generalize x * 2 ^ s=y at *
 omega
theorem wideAddr_any (six:Bool) (f:Nat→Nat) (w:World) (hf:∀ d,f d < 65536) :
  Calls Tryz.prog 74 #[.agg (wv six f)] w (Ret (vA six (PS f 4 4) (PS f 0 4)) w):=by
 have Hf:=Lib.hid hf
 clear hf
 have HA0:Blk (w.alloc (.cells (wv six f) 101 (0,0))) w.heap.size 101 (wv six f):=Blk.new w _ _
 have HA1:Hid (Blk (((w.alloc (.cells (wv six f) 101 (0,0))).alloc (.cells #[.bool false, .int .u64 0, .int .u64 0] 28 (0,0))).alloc (.cells #[.bool false, .int .u64 0, .int .u64 0] 28 (0,0))) w.heap.size 101 (wv six f)):=Lib.hid ((HA0.alloc _).alloc _)
 have HR1:Hid (Blk (((w.alloc (.cells (wv six f) 101 (0,0))).alloc (.cells #[.bool false, .int .u64 0, .int .u64 0] 28 (0,0))).alloc (.cells #[.bool false, .int .u64 0, .int .u64 0] 28 (0,0))) (w.heap.size + 1) 28 #[.bool false, .int .u64 0, .int .u64 0]):=Lib.hid (by
  have:=Blk.new (w.alloc (.cells (wv six f) 101 (0,0))) 28 #[.bool false, .int .u64 0, .int .u64 0]
  rw [World.size_alloc] at this
  exact this.alloc _)
 have HZ1:Hid (Blk (((w.alloc (.cells (wv six f) 101 (0,0))).alloc (.cells #[.bool false, .int .u64 0, .int .u64 0] 28 (0,0))).alloc (.cells #[.bool false, .int .u64 0, .int .u64 0] 28 (0,0))) (w.heap.size + 1 + 1) 28 #[.bool false, .int .u64 ((PS f 4 0:Nat):Int), .int .u64 ((PS f 0 0:Nat):Int)]):=Lib.hid (by
  have:=Blk.new ((w.alloc (.cells (wv six f) 101 (0,0))).alloc (.cells #[.bool false, .int .u64 0, .int .u64 0] 28 (0,0))) 28 #[.bool false, .int .u64 0, .int .u64 0]
  rw [World.size_alloc,World.size_alloc] at this
  exact this)
 have HB1:Hid (Below w.heap.size w (((w.alloc (.cells (wv six f) 101 (0,0))).alloc (.cells #[.bool false, .int .u64 0, .int .u64 0] 28 (0,0))).alloc (.cells #[.bool false, .int .u64 0, .int .u64 0] 28 (0,0)))):=Lib.hid (below_alloc (below_alloc (below_alloc (Below.refl _ _) _) _) _)
 clear HA0
 have hsz:=Tryz.sizeOf101
 go_enter Tryz.func74,Tryz.ntmps74
 go_upto_region 2 with fail
 generalize ((w.alloc (.cells (wv six f) 101 (0,0))).alloc (.cells #[.bool false, .int .u64 0, .int .u64 0] 28 (0,0))).alloc (.cells #[.bool false, .int .u64 0, .int .u64 0] 28 (0,0))=w1 at *
 generalize hw0:w.heap.size=W at *
 have Hw0:=Lib.hid hw0
 clear hw0
 go_wp2
 go_loopw [4,5] (fun iv i wr => ∃ k:Nat,k≤4∧i=.int .i64 k∧Hid (Blk wr W 101 (wv six f))∧Hid (Blk wr (W + 1) 28 #[.bool false, .int .u64 0, .int .u64 0])∧Hid (Blk wr (W + 1 + 1) 28 #[.bool false, .int .u64 ((PS f 4 k:Nat):Int), .int .u64 ((PS f 0 k:Nat):Int)])∧Hid (Below W w wr)) (fun _ i _ => 4 - (intOf i).toNat)
 case atStart => exact ⟨0,Nat.zero_le _,rfl,HA1,HR1,HZ1,HB1⟩
 case round =>
  clear HA1 HR1 HZ1 HB1
  obtain ⟨k,hk,rfl,HA,HR,HZ,HB⟩:=hrel
  by_cases hlt:k < 4
  ·have Hop0:=Lib.hid (or_join (PS f 0 k) (f (0 + k)) (16 * k) (PS_lt f Hf.out 0 k) (by omega) (Hf.out _))
   have Hop4:=Lib.hid (or_join (PS f 4 k) (f (4 + k)) (16 * k) (PS_lt f Hf.out 4 k) (by omega) (Hf.out _))
   have c0:=HA.out.cell k
   rw [wv_get _ _ _ (by omega)] at c0
   have c4:=HA.out.cell (4 + k)
   rw [wv_get _ _ _ (by omega)] at c4
   rw [Nat.zero_add] at Hop0
   have HN0:Hid (PS f 0 (k + 1)=PS f 0 k + f k * 2 ^ (16 * k)):=Lib.hid (by conv => lhs;unfold PS;rw [Nat.zero_add])
   have HN4:Hid (PS f 4 (k + 1)=PS f 4 k + f (4 + k) * 2 ^ (16 * k)):=Lib.hid rfl
   have hx:=Hf.out k
   have hy:=Hf.out (4 + k)
   rw [← HN0.out] at Hop0
   rw [← HN4.out] at Hop4
   have z1:=HZ.out.cell 1
   have z2:=HZ.out.cell 2
   have zf:=HZ.out.free
   simp at z1 z2
   have HZ2:Hid (∀ w',Blk w' (W + 1 + 1) 28 #[.bool false, .int .u64 ((PS f 4 k:Nat):Int), .int .u64 ((PS f 0 k:Nat):Int)]→Blk (w'.setCell ⟨W + 1 + 1,2,none⟩ (.int .u64 ((PS f 0 (k + 1):Nat):Int))) (W + 1 + 1) 28 #[.bool false, .int .u64 ((PS f 4 k:Nat):Int), .int .u64 ((PS f 0 (k + 1):Nat):Int)]):=Lib.hid fun w' h => h.set 2 _
   have HZ3:Hid (∀ w',Blk w' (W + 1 + 1) 28 #[.bool false, .int .u64 ((PS f 4 k:Nat):Int), .int .u64 ((PS f 0 (k + 1):Nat):Int)]→Blk (w'.setCell ⟨W + 1 + 1,1,none⟩ (.int .u64 ((PS f 4 (k + 1):Nat):Int))) (W + 1 + 1) 28 #[.bool false, .int .u64 ((PS f 4 (k + 1):Nat):Int), .int .u64 ((PS f 0 (k + 1):Nat):Int)]):=Lib.hid fun w' h => h.set 1 _
   have E0:Hid (bits .or .u64 ((PS f 0 k:Nat):Int) (IntKind.u64.wrap (((f k:Nat):Int) * 2 ^ (16 * k)))=((PS f 0 (k + 1):Nat):Int)):=Lib.hid (by
    rw [← Hop0.out];congr 1
    exact shl_cast (f k) (16 * k) (Hf.out _) (by omega))
   have E4:Hid (bits .or .u64 ((PS f 4 k:Nat):Int) (IntKind.u64.wrap (((f (4 + k):Nat):Int) * 2 ^ (16 * k)))=((PS f 4 (k + 1):Nat):Int)):=Lib.hid (by
    rw [← Hop4.out];congr 1
    exact shl_cast (f (4 + k)) (16 * k) (Hf.out _) (by omega))
   clear Hop0 Hop4
   generalize hg1:PS f 0 (k + 1)=l1 at *
   generalize hg4:PS f 4 (k + 1)=h1 at *
   replace hg1:=Lib.hid hg1
   replace hg4:=Lib.hid hg4
   generalize PS f 0 k=l0 at *
   generalize PS f 4 k=h0 at *
   generalize f k=x at *
   generalize f (4 + k)=y at *
   obtain ⟨sh,hsh⟩:∃ sh,16 * k=sh:=⟨_,rfl⟩
   rw [hsh] at E0 E4
   obtain ⟨j,hj⟩:∃ j,4 + k=j:=⟨_,rfl⟩
   rw [hj] at c4
   have e1:(16:Int) * (k:Int)=(sh:Int):=by omega
   have e2:(4:Int) + (k:Int)=(j:Int):=by omega
   have e3:IntKind.i64.wrap (sh:Int)=(sh:Int):=by rw [IntKind.wrap_i64];omega
   have e4:IntKind.i64.wrap (j:Int)=(j:Int):=by rw [IntKind.wrap_i64];omega
   have e5:IntKind.u64.wrap (x:Int)=(x:Int):=by rw [IntKind.wrap_u64];omega
   have e6:IntKind.u64.wrap (y:Int)=(y:Int):=by rw [IntKind.wrap_u64];omega
   have b1:(0:Int)≤(k:Int):=by omega
   have b2:(k:Int) < 9:=by omega
   have b3:(0:Int)≤(j:Int):=by omega
   have b4:(j:Int) < 9:=by omega
   have b5:¬ (sh:Int) < 0:=by omega
   have b6:sh < 64:=by omega
   clear HN0 HN4 hsh hj
   have r0:World.cell? { heap:=wr.heap,tape:=wr.tape,drawn:=wr.drawn + 1,os:=wr.os,output:=wr.output } ⟨W,k,none⟩=some (.int .i64 (x:Int)):=c0
   have r1:World.cell? { heap:=wr.heap,tape:=wr.tape,drawn:=wr.drawn + 1,os:=wr.os,output:=wr.output } ⟨W + 1 + 1,2,none⟩=some (.int .u64 (l0:Int)):=z2
   go_upto_region 5 with fail
   go_still_tail 11,(by kernel_rfl)
   rw [E0.out]
   change wpList _ _ _ _ _ wr.drew
   have HA5:Hid (Blk (wr.drew.setCell ⟨W + 1 + 1,2,none⟩ (.int .u64 (l1:Int))) W 101 (wv six f)):=Lib.hid (Blk.far (HA.out.drewN 1) (by omega) _ _)
   have HR5:Hid (Blk (wr.drew.setCell ⟨W + 1 + 1,2,none⟩ (.int .u64 (l1:Int))) (W + 1) 28 #[.bool false, .int .u64 0, .int .u64 0]):=Lib.hid (Blk.far (HR.out.drewN 1) (by omega) _ _)
   have HZ5:=Lib.hid (HZ2.out wr.drew (HZ.out.drewN 1))
   have HB5:Hid (Below W w (wr.drew.setCell ⟨W + 1 + 1,2,none⟩ (.int .u64 (l1:Int)))):=Lib.hid (by
    have h1:=HB.out
    rw [← Hw0.out] at h1 ⊢
    exact below_set (below_drew h1) (by omega) _ _)
   have hd1:wr.drew.cell? ⟨W + 1 + 1,2,none⟩=some (.int .u64 (l0:Int)):=z2
   have hd2:wr.drew.frozen? ⟨W + 1 + 1,2,none⟩=false:=zf 2
   have q0:(wr.drew.setCell ⟨W + 1 + 1,2,none⟩ (.int .u64 (l1:Int))).cell? ⟨W,j,none⟩=some (.int .i64 (y:Int)):=by
    rw [HA5.out.cell j];rw [← HA.out.cell j];exact c4
   have q1:(wr.drew.setCell ⟨W + 1 + 1,2,none⟩ (.int .u64 (l1:Int))).cell? ⟨W + 1 + 1,1,none⟩=some (.int .u64 (h0:Int)):=by
    rw [HZ5.out.cell 1];rfl
   clear r0 r1 c0 c4 z1 z2 zf HA HR HZ HB HZ2 E0
   generalize wr.drew=w5 at *
   go_upto_region 6 with fail
   clear hd1 hd2
   generalize w5.setCell ⟨W + 1 + 1,2,none⟩ (.int .u64 (l1:Int))=w6 at *
   have r0:World.cell? { heap:=w6.heap,tape:=w6.tape,drawn:=w6.drawn + 1,os:=w6.os,output:=w6.output } ⟨W,j,none⟩=some (.int .i64 (y:Int)):=q0
   have r1:World.cell? { heap:=w6.heap,tape:=w6.tape,drawn:=w6.drawn + 1,os:=w6.os,output:=w6.output } ⟨W + 1 + 1,1,none⟩=some (.int .u64 (h0:Int)):=q1
   go_still_tail 12,(by kernel_rfl)
   rw [E4.out]
   change wpList _ _ _ _ _ w6.drew
   have HA7:Hid (Blk (w6.drew.setCell ⟨W + 1 + 1,1,none⟩ (.int .u64 (h1:Int))) W 101 (wv six f)):=Lib.hid (Blk.far (HA5.out.drewN 1) (by omega) _ _)
   have HR7:Hid (Blk (w6.drew.setCell ⟨W + 1 + 1,1,none⟩ (.int .u64 (h1:Int))) (W + 1) 28 #[.bool false, .int .u64 0, .int .u64 0]):=Lib.hid (Blk.far (HR5.out.drewN 1) (by omega) _ _)
   have HZ7:=Lib.hid (HZ3.out w6.drew (HZ5.out.drewN 1))
   have HB7:Hid (Below W w (w6.drew.setCell ⟨W + 1 + 1,1,none⟩ (.int .u64 (h1:Int)))):=Lib.hid (by
    have h1:=HB5.out
    rw [← Hw0.out] at h1 ⊢
    exact below_set (below_drew h1) (by omega) _ _)
   have hd1:w6.drew.cell? ⟨W + 1 + 1,1,none⟩=some (.int .u64 (h0:Int)):=q1
   have hd2:w6.drew.frozen? ⟨W + 1 + 1,1,none⟩=false:=(HZ5.out.drewN 1).free 1
   clear r0 r1 q0 q1 HA5 HR5 HZ5 HB5 HZ3 E4 e1 e2 e3 e4 e5 e6
   generalize w6.drew=w7 at *
   go_wp2
   exact ⟨⟨k + 1,by omega,by go_num,HA7,HR7,Lib.hid (by rw [hg1.out,hg4.out];exact HZ7.out),HB7⟩,by simp [intOf];omega⟩
  ·obtain rfl:k=4:=by omega
   have c8:wr.cell? ⟨W,8,none⟩=some (.int .i64 (if six=true then 1 else 0)):=by rw [HA.out.cell 8];rfl
   generalize PS f 4 4=h4 at *
   generalize PS f 0 4=l4 at *
   have z0:=HZ.out.cell 0
   have z1:=HZ.out.cell 1
   have z2:=HZ.out.cell 2
   have zf:=HZ.out.free
   have r0:=HR.out.cell 0
   have r1:=HR.out.cell 1
   have r2:=HR.out.cell 2
   have rf:=HR.out.free
   simp at z0 z1 z2 r0 r1 r2
   have hne:W + 1 + 1 ≠ W + 1:=by omega
   cases six
   all_goals
    simp at c8
    go_wp2
    refine bodyPost_ret (v:=.agg #[.bool _, .int .u64 (h4:Int), .int .u64 (l4:Int)]) (by simp [results,Tryz.results74,go_sem,r0,r1,r2]) rfl ⟨rfl,?_⟩
    rw [Hw0.out]
    repeat refine Below.setCell ?_ (by first | (simp;omega) | simp) _
    exact HB.out
theorem clrF_lt (hi lo k d:Nat):clrF hi lo k d < 65536:=Nat.lt_of_le_of_lt (clr_le _ _) (dg_lt _ _ _)
theorem filF_lt (hi lo k d:Nat):filF hi lo k d < 65536:=fil_lt _ _ (dg_lt _ _ _) (Nat.min_le_right _ _)
theorem clr_lo (hi lo k:Nat) (h:lo < 18446744073709551616):PS (clrF hi lo k) 0 4=clr lo (min k 64):=by
 rw [PS_four,clr_digits lo k h]
 rfl
theorem clr_hi (hi lo k:Nat) (h:hi < 18446744073709551616):PS (clrF hi lo k) 4 4=clr hi (min (k - 64) 64):=by
 rw [PS_four,clr_digits hi (k - 64) h]
 simp only [clrF,dg,Nat.reduceAdd,Nat.reduceMul,Nat.sub_sub]
theorem fil_lo (hi lo k:Nat) (h:lo < 18446744073709551616):PS (filF hi lo k) 0 4=fil lo (min k 64):=by
 rw [PS_four,fil_digits lo k h]
 rfl
theorem fil_hi (hi lo k:Nat) (h:hi < 18446744073709551616):PS (filF hi lo k) 4 4=fil hi (min (k - 64) 64):=by
 rw [PS_four,fil_digits hi (k - 64) h]
 simp only [filF,dg,Nat.reduceAdd,Nat.reduceMul,Nat.sub_sub]
theorem mHi_clr (six:Bool) (hi n:Nat):mHi six hi n=clr hi (min (lenN six - n - 64) 64):=by
 unfold mHi clr
 rw [Nat.min_eq_left (by have:=lenN_le six;omega)]
theorem mLo_clr (six:Bool) (lo n:Nat):mLo six lo n=clr lo (min (lenN six - n) 64):=rfl
theorem fHi_fil (six:Bool) (hi n:Nat):fHi six hi n=fil hi (min (lenN six - n - 64) 64):=by
 unfold fHi mHi fil
 rw [Nat.min_eq_left (by have:=lenN_le six;omega)]
theorem fLo_fil (six:Bool) (lo n:Nat):fLo six lo n=fil lo (min (lenN six - n) 64):=rfl
theorem PS_dg_lo (hi lo:Nat) (h:lo < 18446744073709551616):PS (dg hi lo) 0 4=lo:=by
 rw [PS_four];exact (digits4 lo h).symm
theorem PS_dg_hi (hi lo:Nat) (h:hi < 18446744073709551616):PS (dg hi lo) 4 4=hi:=by
 rw [PS_four];exact (digits4 hi h).symm
theorem PS_congr {f g:Nat→Nat} (h:∀ d,d < 8→f d=g d):PS f 0 4=PS g 0 4∧PS f 4 4=PS g 4 4:=by
 rw [PS_four,PS_four,PS_four,PS_four]
 rw [h 0 (by decide),h (0 + 1) (by decide),h (0 + 2) (by decide),h (0 + 3) (by decide),h 4 (by decide),h (4 + 1) (by decide),h (4 + 2) (by decide),h (4 + 3) (by decide)]
 exact ⟨rfl,rfl⟩
theorem PS_inj {f g:Nat→Nat} (hf:∀ d,f d < 65536) (hg:∀ d,g d < 65536) (h0:PS f 0 4=PS g 0 4) (h4:PS f 4 4=PS g 4 4):∀ d,d < 8→f d=g d:=by
 rw [PS_four,PS_four] at h0 h4
 simp only [Nat.zero_add,Nat.reduceAdd] at h0 h4
 have f0:=hf 0;have f1:=hf 1;have f2:=hf 2;have f3:=hf 3;have f4:=hf 4;have f5:=hf 5;have f6:=hf 6;have f7:=hf 7
 have g0:=hg 0;have g1:=hg 1;have g2:=hg 2;have g3:=hg 3;have g4:=hg 4;have g5:=hg 5;have g6:=hg 6;have g7:=hg 7
 intro d hd
 rcases lt8 hd with rfl | rfl | rfl | rfl | rfl | rfl | rfl | rfl <;> omega
theorem wv_inj {six:Bool} {f g:Nat→Nat}:wv six f=wv six g ↔ ∀ d,d < 8→f d=g d:=by
 refine ⟨fun h => ?_,wv_congr⟩
 unfold wv at h
 simp only [Array.mk.injEq,List.cons.injEq,Value.int.injEq,true_and,and_true] at h
 intro d hd
 rcases lt8 hd with rfl | rfl | rfl | rfl | rfl | rfl | rfl | rfl <;> omega
theorem first_same (six:Bool) (hi lo n:Nat) (h1:hi < 18446744073709551616) (h2:lo < 18446744073709551616) :
  (wv six (clrF hi lo (lenN six - n))=wv six (dg hi lo)) ↔ (mHi six hi n=hi∧mLo six lo n=lo):=by
 rw [wv_inj,mHi_clr,mLo_clr, ← clr_lo hi lo _ h2, ← clr_hi hi lo _ h1]
 constructor
 ·intro h
  obtain ⟨e0,e4⟩:=PS_congr h
  exact ⟨e4.trans (PS_dg_hi hi lo h1),e0.trans (PS_dg_lo hi lo h2)⟩
 ·intro ⟨e4,e0⟩
  exact PS_inj (clrF_lt hi lo _) (dg_lt hi lo) (e0.trans (PS_dg_lo hi lo h2).symm) (e4.trans (PS_dg_hi hi lo h1).symm)
end Go.Proofs.YteldaicgaeooiaaGreatDoor
