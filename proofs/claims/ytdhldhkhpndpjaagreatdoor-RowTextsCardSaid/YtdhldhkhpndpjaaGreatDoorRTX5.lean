/-
  Addresses as numbers: comparing digit by digit; what a prefix holds, whether one lies in another, what two have in common.
  Generators of prefixes: RightPrefix, Prefix.
  Prefixes of the program: span.Last, Contains, Inside; addr.Mask, Last, Contains, Inside.
  Prefixes of sites: Via, ViaOf, Site, SiteOf.
  Prefixes of the program: addr.Last, Contains, Inside, Common, checkPrefixes.
  Prefixes of the program: addr.Inside, Common.
  Prefixes of the reference: sign, cmp, LastOf, Holds, Within, CommonOf.
  Orders of addresses: cmp.Compare, cmp.Or, span.Compare, addr.Compare of the program; Order of the reference: both compare the addresses' numbers.
-/
import Derived.Test.YtdhldhkhpndpjaaGreatDoorRTX3
import Derived.StillTailTactics
set_option linter.unusedVariables false
set_option maxRecDepth 100000
set_option maxHeartbeats 1000000
namespace Go.Proofs.YtdhldhkhpndpjaaGreatDoor
open Go
/-! ### Digits -/
def PW (F:Nat→Nat):Nat→Nat
 | 0 => 0
 | k + 1 => PW F k + F k * 65536 ^ k
theorem PW_lt {F:Nat→Nat} (h:∀ d,F d < 65536):∀ k,PW F k < 65536 ^ k
 | 0 => by simp [PW]
 | k + 1 => by
   have h1:=PW_lt h k
   have h2:=h k
   have h3:F k * 65536 ^ k≤65535 * 65536 ^ k:=Nat.mul_le_mul_right _ (by omega)
   rw [PW,Nat.pow_succ]
   omega
theorem PW_digit {F G:Nat→Nat} (hF:∀ d,F d < 65536) {i:Nat} (h:F i < G i):PW F (i + 1) < PW G (i + 1):=by
 have h1:=PW_lt hF i
 have h2:(F i + 1) * 65536 ^ i≤G i * 65536 ^ i:=Nat.mul_le_mul_right _ h
 rw [Nat.add_mul,Nat.one_mul] at h2
 simp only [PW]
 omega
theorem PW_above {F G:Nat→Nat} {i:Nat}:∀ k,(∀ j,i≤j→j < i + k→F j=G j)→PW F (i + k) + PW G i=PW G (i + k) + PW F i
 | 0,_ => by simp only [Nat.add_zero];omega
 | k + 1,h => by
   have h1:=PW_above k fun j h1 h2 => h j h1 (by omega)
   have h2:=h (i + k) (by omega) (by omega)
   rw [← Nat.add_assoc,PW,PW,h2]
   omega
def cN (a b:Nat):Int:=if a < b then -1 else if b < a then 1 else 0
theorem cN_le (a b:Nat):(cN a b≤0) ↔ a≤b:=by unfold cN;split <;> (try split) <;> omega
theorem cmp_top {F G:Nat→Nat} (hF:∀ d,F d < 65536) (hG:∀ d,G d < 65536) {i:Nat} (hi:i < 9) (hab:∀ j,i < j→j < 9→F j=G j) (hne:F i ≠ G i):cN (PW F 9) (PW G 9)=if F i < G i then -1 else 1:=by
 have h1:=PW_above (F:=F) (G:=G) (i:=i + 1) (9 - (i + 1)) fun j h1 h2 => hab j (by omega) (by omega)
 rw [show i + 1 + (9 - (i + 1))=9 by omega] at h1
 unfold cN
 rcases Nat.lt_or_ge (F i) (G i) with h | h
 ·have:=PW_digit hF h
  rw [if_pos h,if_pos (show PW F 9 < PW G 9 by omega)]
 ·have:=PW_digit hG (show G i < F i by omega)
  rw [if_neg (show ¬ F i < G i by omega),if_neg (show ¬ PW F 9 < PW G 9 by omega),if_pos (show PW G 9 < PW F 9 by omega)]
theorem PW_congr {F G:Nat→Nat}:∀ k,(∀ j,j < k→F j=G j)→PW F k=PW G k
 | 0,_ => rfl
 | k + 1,h => by rw [PW,PW,PW_congr k fun j hj => h j (by omega),h k (by omega)]
theorem cN_same (a:Nat):cN a a=0:=by unfold cN;rw [if_neg (Nat.lt_irrefl a),if_neg (Nat.lt_irrefl a)]
theorem cmp_same {F G:Nat→Nat} (hab:∀ j,j < 9→F j=G j):cN (PW F 9) (PW G 9)=0:=by
 rw [PW_congr 9 hab,cN_same]
def dv (six:Bool) (f:Nat→Nat) (d:Nat):Nat:=if d < 8 then f d else if six=true then 1 else 0
theorem dv_lt {six:Bool} {f:Nat→Nat} (h:∀ d,f d < 65536) (d:Nat):dv six f d < 65536:=by
 unfold dv;split
 ·exact h d
 ·split <;> decide
def numA (six:Bool) (hi lo:Nat):Nat:=(if six=true then 1 else 0) * 2 ^ 128 + hi * 2 ^ 64 + lo
theorem PW_num (six:Bool) (f:Nat→Nat):PW (dv six f) 9=numA six (PS f 4 4) (PS f 0 4):=by
 rw [PS_four,PS_four]
 simp only [PW,dv,numA,Nat.reduceLT,Nat.reducePow,Nat.reduceAdd,if_true,Nat.zero_add,Nat.mul_one,Nat.lt_irrefl,if_false]
 omega
/-! ### Masks of whole numbers -/
theorem big_low (x y k:Nat) (hk:k≤64):(x + 2 ^ 64 * y) % 2 ^ k=x % 2 ^ k:=by
 have e:2 ^ 64=2 ^ k * 2 ^ (64 - k):=by rw [← Nat.pow_add,show k + (64 - k)=64 by omega]
 rw [e,Nat.mul_assoc,Nat.add_mul_mod_self_left]
theorem big_high (x y k:Nat) (hx:x < 2 ^ 64) (hk:64≤k):(x + 2 ^ 64 * y) % 2 ^ k=x + 2 ^ 64 * (y % 2 ^ (k - 64)):=by
 have e:2 ^ k=2 ^ 64 * 2 ^ (k - 64):=by rw [← Nat.pow_add,show 64 + (k - 64)=k by omega]
 rw [e,Nat.mod_mul,Nat.add_mul_mod_self_left,Nat.mod_eq_of_lt hx,Nat.add_mul_div_left _ _ (by decide:0 < 2 ^ 64),Nat.div_eq_of_lt hx,Nat.zero_add]
theorem clr_big (hi lo k:Nat) (hl:lo < 2 ^ 64) (hk:k≤128):clr hi (min (k - 64) 64) * 2 ^ 64 + clr lo (min k 64)=clr (hi * 2 ^ 64 + lo) k:=by
 unfold clr
 rw [show hi * 2 ^ 64 + lo=lo + 2 ^ 64 * hi by omega]
 rcases Nat.le_total k 64 with h | h
 ·rw [big_low lo hi k h,Nat.min_eq_left h,show k - 64=0 by omega,Nat.zero_min,Nat.pow_zero,Nat.mod_one]
  have:=Nat.mod_le lo (2 ^ k)
  omega
 ·rw [big_high lo hi k hl h,Nat.min_eq_right h,Nat.min_eq_left (by omega),Nat.mod_eq_of_lt hl]
  have:=Nat.mod_le hi (2 ^ (k - 64))
  omega
theorem fil_big (hi lo k:Nat) (hl:lo < 2 ^ 64) (hk:k≤128):fil hi (min (k - 64) 64) * 2 ^ 64 + fil lo (min k 64)=fil (hi * 2 ^ 64 + lo) k:=by
 unfold fil
 rw [show hi * 2 ^ 64 + lo=lo + 2 ^ 64 * hi by omega]
 rcases Nat.le_total k 64 with h | h
 ·rw [big_low lo hi k h,Nat.min_eq_left h,show k - 64=0 by omega,Nat.zero_min,Nat.pow_zero,Nat.mod_one]
  have:=Nat.mod_le lo (2 ^ k)
  omega
 ·have e:2 ^ k=2 ^ 64 * 2 ^ (k - 64):=by rw [← Nat.pow_add,show 64 + (k - 64)=k by omega]
  rw [big_high lo hi k hl h,Nat.min_eq_right h,Nat.min_eq_left (by omega),Nat.mod_eq_of_lt hl,e]
  have:=Nat.mod_le hi (2 ^ (k - 64))
  have:=Nat.one_le_two_pow (n:=k - 64)
  omega
/-! ### Prefixes -/
def AOK (six:Bool) (hi lo:Nat):Prop:=hi < 2 ^ 64∧lo < 2 ^ 64∧(six=false→hi=0∧lo < 2 ^ 32)
def POK (six:Bool) (hi lo n:Nat):Prop:=AOK six hi lo∧n≤lenN six∧mHi six hi n=hi∧mLo six lo n=lo
def xA (hi lo:Nat):Nat:=hi * 2 ^ 64 + lo
theorem mask_x (six:Bool) (hi lo n:Nat) (hl:lo < 2 ^ 64):xA (mHi six hi n) (mLo six lo n)=clr (xA hi lo) (lenN six - n):=by
 rw [mHi_clr,mLo_clr]
 exact clr_big hi lo (lenN six - n) hl (by have:=lenN_le six;omega)
theorem fill_x (six:Bool) (hi lo n:Nat) (hl:lo < 2 ^ 64):xA (fHi six hi n) (fLo six lo n)=fil (xA hi lo) (lenN six - n):=by
 rw [fHi_fil,fLo_fil]
 exact fil_big hi lo (lenN six - n) hl (by have:=lenN_le six;omega)
theorem numA_x (six:Bool) (hi lo:Nat):numA six hi lo=(if six=true then 1 else 0) * 2 ^ 128 + xA hi lo:=by
 unfold numA xA;omega
theorem mLo_lt2 (six:Bool) (lo n:Nat) (h:lo < 2 ^ 64):mLo six lo n < 2 ^ 64:=Nat.lt_of_le_of_lt (Nat.sub_le _ _) h
theorem fHi_lt (six:Bool) (hi n:Nat) (h:hi < 2 ^ 64):fHi six hi n < 2 ^ 64:=by
 rw [fHi_fil,fil_or]
 refine Nat.or_lt_two_pow (Nat.lt_of_le_of_lt (clr_le _ _) h) ?_
 have:2 ^ min (lenN six - n - 64) 64≤2 ^ 64:=Nat.pow_le_pow_right (by decide) (Nat.min_le_right _ _)
 have:=Nat.one_le_two_pow (n:=min (lenN six - n - 64) 64)
 omega
theorem fLo_lt (six:Bool) (lo n:Nat) (h:lo < 2 ^ 64):fLo six lo n < 2 ^ 64:=by
 rw [fLo_fil,fil_or]
 refine Nat.or_lt_two_pow (Nat.lt_of_le_of_lt (clr_le _ _) h) ?_
 have:2 ^ min (lenN six - n) 64≤2 ^ 64:=Nat.pow_le_pow_right (by decide) (Nat.min_le_right _ _)
 have:=Nat.one_le_two_pow (n:=min (lenN six - n) 64)
 omega
theorem POK.last {six:Bool} {hi lo n:Nat} (h:POK six hi lo n):AOK six (fHi six hi n) (fLo six lo n):=by
 refine ⟨fHi_lt _ _ _ h.1.1,fLo_lt _ _ _ h.1.2.1,fun e => ?_⟩
 subst e
 obtain ⟨h1,h2⟩:=h.1.2.2 rfl
 subst h1
 have hn:n≤32:=h.2.1
 constructor
 ·rw [fHi_fil]
  have:min (lenN false - n - 64) 64=0:=by show min (32 - n - 64) 64=0;omega
  rw [this,fil_zero]
 ·rw [fLo_fil,fil_or]
  have hk:min (lenN false - n) 64≤32:=by show min (32 - n) 64≤32;omega
  have h3:2 ^ min (lenN false - n) 64≤2 ^ 32:=Nat.pow_le_pow_right (by decide) hk
  have:=Nat.one_le_two_pow (n:=min (lenN false - n) 64)
  exact Nat.or_lt_two_pow (Nat.lt_of_le_of_lt (clr_le _ _) h2) (by omega)
theorem clr_mono (x j k:Nat) (h:j≤k):clr (clr x j) k=clr x k:=by
 refine Nat.eq_of_testBit_eq fun i => ?_
 rw [clr_tb,clr_tb,clr_tb]
 by_cases h1:k≤i
 ·simp [h1,show j≤i by omega]
 ·simp [h1]
/-! ### What two prefixes have in common -/
def down (E:Nat→Bool):Nat→Nat
 | 0 => 0
 | n + 1 => if E (n + 1)=true then n + 1 else down E n
theorem mask_pok {s:Bool} {h l:Nat} (ha:AOK s h l) {n:Nat} (hn:n≤lenN s):POK s (mHi s h n) (mLo s l n) n:=by
 refine ⟨⟨Nat.lt_of_le_of_lt (Nat.sub_le _ _) ha.1,mLo_lt2 _ _ _ ha.2.1,fun e => ?_⟩,hn,?_,?_⟩
 ·obtain ⟨h1,h2⟩:=ha.2.2 e
  exact ⟨by unfold mHi;rw [h1];simp,Nat.lt_of_le_of_lt (Nat.sub_le _ _) h2⟩
 ·rw [mHi_clr,mHi_clr,clr_mono _ _ _ (Nat.le_refl _)]
 ·rw [mLo_clr,mLo_clr,clr_mono _ _ _ (Nat.le_refl _)]
open Go.RowKit Go
def U64N (x:Nat):Prop:=x < 18446744073709551616
theorem mHi_lt {six:Bool} {hi n:Nat} (h:U64N hi):U64N (mHi six hi n):=Nat.lt_of_le_of_lt (Nat.sub_le _ _) h
theorem mLo_lt {six:Bool} {lo n:Nat} (h:U64N lo):U64N (mLo six lo n):=Nat.lt_of_le_of_lt (Nat.sub_le _ _) h
theorem nat_of_U64 {x:Int} (h:U64 x):∃ n:Nat,x=(n:Int)∧U64N n:=by
 obtain ⟨n,rfl⟩:=Int.eq_ofNat_of_zero_le h.1
 have h1:=h.2
 exact ⟨n,rfl,by unfold U64N;omega⟩
theorem Gen.below0 {b m:Nat} {u v w:World} (h:Gen b u v m) (k:Below v.heap.size v w) (hb:b < v.heap.size):Gen b u w m:=h.below k h.g.size hb
def PfxGen (b:Nat) (w:World) (m:Nat) (e:Ending) (w':World):Prop :=
 ∃ (six:Bool) (hi lo:Nat) (bits:Int),e=.returned (vP six hi lo bits)∧U64N hi∧U64N lo∧(-1099511627777≤bits∧bits≤1099511627777)∧Gen b w w' m
theorem rightPrefix_gen (b m:Nat) (w:World) (h:Strm w b m) (hm:m + 10 < 1099511627776) :
  Calls Tryz.prog 144 #[.pointer (some ⟨b,0,none⟩)] w (PfxGen b w (m + 5)):=by
 have hblt:=h.lt
 have HG0:Hid (Gen b w (w.alloc (.cells #[.bool false, .int .u64 0, .int .u64 0, .int .i64 0] 30 (0,0))) m):=Lib.hid ((Gen.start h).alloc _)
 have HR0:Hid (Blk (w.alloc (.cells #[.bool false, .int .u64 0, .int .u64 0, .int .i64 0] 30 (0,0))) w.heap.size 30 #[.bool false, .int .u64 0, .int .u64 0, .int .i64 0]):=Lib.hid (Blk.new w _ _)
 clear h
 go_enter Tryz.func144,Tryz.ntmps144
 go_wp2_with fail
 refine (mAddr_gen b m _ HG0.out.s (by omega)).mono ?_
 rintro e w1 ⟨six,hi0,lo0,rfl,⟨hu1,hu2, -⟩,hg⟩
 obtain ⟨hi,rfl,h1⟩:=nat_of_U64 hu1
 obtain ⟨lo,rfl,h2⟩:=nat_of_U64 hu2
 have HU:=Lib.hid (And.intro h1 h2)
 have HG1:=Lib.hid ((HG0.out.trans hg).alloc (.cells #[.bool six, .int .u64 (hi:Int), .int .u64 (lo:Int)] 28 (0,0)))
 have HR1:=Lib.hid ((HR0.out.keep hg.g (by omega)).alloc (.cells #[.bool six, .int .u64 (hi:Int), .int .u64 (lo:Int)] 28 (0,0)))
 have HA1:Hid (Blk (w1.alloc (.cells #[.bool six, .int .u64 (hi:Int), .int .u64 (lo:Int)] 28 (0,0))) w1.heap.size 28 #[.bool six, .int .u64 (hi:Int), .int .u64 (lo:Int)]):=Lib.hid (Blk.new w1 _ _)
 have hw1:w.heap.size < w1.heap.size:=HR0.out.keep hg.g (by omega) |> Blk.lt
 clear hu1 hu2 h1 h2 hg HG0 HR0
 unfold vAddr
 go_upto_region 2 with fail
 generalize w1.alloc (.cells #[.bool six, .int .u64 (hi:Int), .int .u64 (lo:Int)] 28 (0,0))=w2 at *
 generalize w1.heap.size=F at *
 have key:∀ (n:Nat) (wx:World),n≤128→Calls Tryz.prog 142 #[.agg #[.bool six, .int .u64 (hi:Int), .int .u64 (lo:Int)], .int .i64 (n:Int)] wx (Ret (vP six (mHi six hi n) (mLo six lo n) (n:Int)) wx):=fun n wx hn => maskOf_any six hi lo n wx HU.out.1 HU.out.2 hn
 have HK:=Lib.hid key
 clear key
 go_wp2_with fail
 refine (pick_new b (m + 3) _ _ _ _ [0,8,24,27,28,29,30,31,32] _ HG1.out.s rfl (by omega) rfl (by decide) rfl).mono ?_
 rintro e w3 ⟨x,rfl,hx,hg⟩
 have hxb:0≤x∧x≤128:=by simp at hx;omega
 obtain ⟨n,rfl⟩:=Int.eq_ofNat_of_zero_le hxb.1
 have hn:n≤128:=by omega
 have HG3:=Lib.hid (HG1.out.trans hg)
 have HR3:=Lib.hid (HR1.out.keep hg.g (by omega))
 have HA3:=Lib.hid (HA1.out.keep hg.g (by omega))
 clear hx hxb hg HG1 HR1 HA1
 have a0:=HA3.out.cell 0
 have a1:=HA3.out.cell 1
 have a2:=HA3.out.cell 2
 simp at a0 a1 a2
 cases six
 ·go_wp2_with fail
  refine (HK.out n _ hn).mono ?_
  rintro e w5 ⟨rfl,hb⟩
  have HG5:=Lib.hid (HG3.out.below0 hb HG3.out.s.lt)
  have HR5:=Lib.hid (HR3.out.below hb HR3.out.lt)
  have h1:U64N (mHi false hi n):=mHi_lt HU.out.1
  have h2:U64N (mLo false lo n):=mLo_lt HU.out.2
  generalize mHi false hi n=mh at *
  generalize mLo false lo n=ml at *
  have HU2:=Lib.hid (And.intro h1 h2)
  clear h1 h2 hb a0 a1 a2 HG3 HR3 HA3
  have r0:=HR5.out.cell 0
  have r1:=HR5.out.cell 1
  have r2:=HR5.out.cell 2
  have r3:=HR5.out.cell 3
  have rf:=HR5.out.free
  simp at r0 r1 r2 r3
  unfold vP
  go_wp2_with fail
  refine bodyPost_ret (v:=.agg #[.bool false, .int .u64 (mh:Int), .int .u64 (ml:Int), .int .i64 (n:Int)]) (by simp [results,Tryz.results144,go_sem,r0,r1,r2,r3]) rfl ⟨false,mh,ml,n,rfl,HU2.out.1,HU2.out.2,by omega,?_⟩
  repeat refine Gen.setCell ?_ _ _ (Nat.le_refl _) hblt
  exact HG5.out.mono (by omega)
 ·go_wp2_with fail
  refine (pick_new b (m + 3 + 1) _ _ _ _ [0,8,32,48,63,64,65,96,127,128] _ HG3.out.s rfl (by omega) rfl (by decide) rfl).mono ?_
  rintro e w4 ⟨x,rfl,hx,hg⟩
  have hxb:0≤x∧x≤128:=by simp at hx;omega
  obtain ⟨n2,rfl⟩:=Int.eq_ofNat_of_zero_le hxb.1
  have hn2:n2≤128:=by omega
  have HG4:=Lib.hid (HG3.out.trans hg)
  have HR4:=Lib.hid (HR3.out.keep hg.g (by omega))
  have HA4:=Lib.hid (HA3.out.keep hg.g (by omega))
  clear hx hxb hg HG3 HR3 HA3 a0 a1 a2
  have a0:=HA4.out.cell 0
  have a1:=HA4.out.cell 1
  have a2:=HA4.out.cell 2
  simp at a0 a1 a2
  go_wp2_with fail
  refine (HK.out n2 _ hn2).mono ?_
  rintro e w5 ⟨rfl,hb⟩
  have HG5:=Lib.hid (HG4.out.below0 hb HG4.out.s.lt)
  have HR5:=Lib.hid (HR4.out.below hb HR4.out.lt)
  have h1:U64N (mHi true hi n2):=mHi_lt HU.out.1
  have h2:U64N (mLo true lo n2):=mLo_lt HU.out.2
  generalize mHi true hi n2=mh at *
  generalize mLo true lo n2=ml at *
  have HU2:=Lib.hid (And.intro h1 h2)
  clear h1 h2 hb a0 a1 a2 HG4 HR4 HA4
  have r0:=HR5.out.cell 0
  have r1:=HR5.out.cell 1
  have r2:=HR5.out.cell 2
  have r3:=HR5.out.cell 3
  have rf:=HR5.out.free
  simp at r0 r1 r2 r3
  unfold vP
  go_wp2_with fail
  refine bodyPost_ret (v:=.agg #[.bool true, .int .u64 (mh:Int), .int .u64 (ml:Int), .int .i64 (n2:Int)]) (by simp [results,Tryz.results144,go_sem,r0,r1,r2,r3]) rfl ⟨true,mh,ml,n2,rfl,HU2.out.1,HU2.out.2,by omega,?_⟩
  repeat refine Gen.setCell ?_ _ _ (Nat.le_refl _) hblt
  exact HG5.out.mono (by omega)
theorem prefix_gen (b m:Nat) (w:World) (h:Strm w b m) (hm:m + 20 < 1099511627776) :
  Calls Tryz.prog 51 #[.pointer (some ⟨b,0,none⟩)] w (PfxGen b w (m + 14)):=by
 have hblt:=h.lt
 have HG0:Hid (Gen b w (w.alloc (.cells #[.bool false, .int .u64 0, .int .u64 0, .int .i64 0] 30 (0,0))) m):=Lib.hid ((Gen.start h).alloc _)
 have HR0:Hid (Blk (w.alloc (.cells #[.bool false, .int .u64 0, .int .u64 0, .int .i64 0] 30 (0,0))) w.heap.size 30 #[.bool false, .int .u64 0, .int .u64 0, .int .i64 0]):=Lib.hid (Blk.new w _ _)
 clear h
 go_enter Tryz.func51,Tryz.ntmps51
 go_wp2_with fail
 refine (rightPrefix_gen b m _ HG0.out.s (by omega)).mono ?_
 rintro e w1 ⟨six,hi,lo,bits,rfl,h1,h2,h3,hg⟩
 have HU:=Lib.hid (And.intro h1 (And.intro h2 h3))
 have HG1:=Lib.hid ((HG0.out.trans hg).alloc (.cells #[.bool six, .int .u64 (hi:Int), .int .u64 (lo:Int), .int .i64 bits] 30 (0,0)))
 have HR1:=Lib.hid ((HR0.out.keep hg.g (by omega)).alloc (.cells #[.bool six, .int .u64 (hi:Int), .int .u64 (lo:Int), .int .i64 bits] 30 (0,0)))
 have HA1:Hid (Blk (w1.alloc (.cells #[.bool six, .int .u64 (hi:Int), .int .u64 (lo:Int), .int .i64 bits] 30 (0,0))) w1.heap.size 30 #[.bool six, .int .u64 (hi:Int), .int .u64 (lo:Int), .int .i64 bits]):=Lib.hid (Blk.new w1 _ _)
 have hw1:w.heap.size < w1.heap.size:=HR0.out.keep hg.g (by omega) |> Blk.lt
 clear h1 h2 h3 hg HG0 HR0
 unfold vP
 go_wp2_with fail
 generalize w1.alloc (.cells #[.bool six, .int .u64 (hi:Int), .int .u64 (lo:Int), .int .i64 bits] 30 (0,0))=w2 at *
 generalize w1.heap.size=F at *
 refine (flip_gen b (m + 5) _ _ HG1.out.s (by omega) (by omega)).mono ?_
 rintro e w3 ⟨kk,rfl,hg⟩
 have HG3:=Lib.hid (HG1.out.trans hg)
 have HR3:=Lib.hid (HR1.out.keep hg.g (by omega))
 have HA3:=Lib.hid (HA1.out.keep hg.g (by omega))
 clear hg HG1 HR1 HA1
 have a0:=HA3.out.cell 0
 have a1:=HA3.out.cell 1
 have a2:=HA3.out.cell 2
 have a3:=HA3.out.cell 3
 simp at a0 a1 a2 a3
 cases kk
 ·have r0:=HR3.out.cell 0
  have r1:=HR3.out.cell 1
  have r2:=HR3.out.cell 2
  have r3:=HR3.out.cell 3
  have rf:=HR3.out.free
  simp at r0 r1 r2 r3
  go_wp2_with fail
  refine bodyPost_ret (v:=.agg #[.bool six, .int .u64 (hi:Int), .int .u64 (lo:Int), .int .i64 bits]) (by simp [results,Tryz.results51,go_sem,r0,r1,r2,r3]) rfl ⟨six,hi,lo,bits,rfl,HU.out.1,HU.out.2.1,HU.out.2.2,?_⟩
  repeat refine Gen.setCell ?_ _ _ (Nat.le_refl _) hblt
  exact HG3.out.mono (by omega)
 ·go_wp2_with fail
  refine (raw_gen b (m + 6) _ HG3.out.s (by omega)).mono ?_
  rintro e w4 ⟨six2,hi0,lo0,rfl,⟨hu1,hu2⟩,hg⟩
  obtain ⟨hi2,rfl,h1⟩:=nat_of_U64 hu1
  obtain ⟨lo2,rfl,h2⟩:=nat_of_U64 hu2
  have HU2:=Lib.hid (And.intro h1 h2)
  have HG4:=Lib.hid (HG3.out.trans hg)
  have HR4:=Lib.hid (HR3.out.keep hg.g (by omega))
  have HA4:=Lib.hid (HA3.out.keep hg.g (by omega))
  clear hg hu1 hu2 h1 h2 HG3 HR3 HA3 a0 a1 a2 a3
  unfold vAddr
  go_wp2_with fail
  refine (odd_gen b (m + 6 + 6) _ _ _ HG4.out.s (by omega) (by omega) (by omega)).mono ?_
  rintro e w5 ⟨x,rfl,hx,hg⟩
  have HG5:=Lib.hid (HG4.out.trans hg)
  have HR5:=Lib.hid (HR4.out.keep hg.g (by omega))
  have HA5:=Lib.hid (HA4.out.keep hg.g (by omega))
  have HX:=Lib.hid hx
  have hF:=HA5.out.lt
  clear hg hx HG4 HR4 HA4
  have a0:=HA5.out.cell 0
  have a1:=HA5.out.cell 1
  have a2:=HA5.out.cell 2
  have a3:=HA5.out.cell 3
  have af:=HA5.out.free
  have r0:=HR5.out.cell 0
  have r1:=HR5.out.cell 1
  have r2:=HR5.out.cell 2
  have r3:=HR5.out.cell 3
  have rf:=HR5.out.free
  simp at a0 a1 a2 a3 r0 r1 r2 r3
  have hne:w.heap.size ≠ F:=by omega
  go_wp2_with fail
  refine bodyPost_ret (v:=.agg #[.bool six2, .int .u64 (hi2:Int), .int .u64 (lo2:Int), .int .i64 x]) (by simp [results,Tryz.results51,go_sem,r0,r1,r2,r3]) rfl ⟨six2,hi2,lo2,x,rfl,HU2.out.1,HU2.out.2,HX.out,?_⟩
  repeat refine Gen.setCell ?_ _ _ (by simp only;omega) (by simp only;omega)
  exact HG5.out.mono (by omega)
theorem addr_eql (s1 s2:Bool) (h1 h2 l1 l2:Int) (w:World):(binOp .eql 28 (.agg #[.bool s1, .int .u64 h1, .int .u64 l1]) (.agg #[.bool s2, .int .u64 h2, .int .u64 l2])).run Tryz.prog w=.ok (.bool (decide ((s1,h1,l1)=(s2,h2,l2)))) w:=by
 rw [run_eql_struct,show (10000:Nat)=9998 + 2 from rfl,addrEq];rfl
theorem spanLast_any (six:Bool) (hi lo n:Nat) (w:World) (h1:U64N hi) (h2:U64N lo) (hn:n≤lenN six) :
  Calls Tryz.prog 226 #[vP six hi lo (n:Int)] w (Ret (vA six (fHi six hi n) (fLo six lo n)) w):=by
 have HF:=Lib.hid fun wx => filled_any six hi lo n wx h1 h2 hn
 generalize fHi six hi n=rh at *
 generalize fLo six lo n=rl at *
 unfold vA at HF ⊢
 unfold vP
 have HP':Blk ((w.alloc (.cells #[.bool six, .int .u64 (hi:Int), .int .u64 (lo:Int), .int .i64 (n:Int)] 30 (0,0))).alloc (.cells #[.bool false, .int .u64 0, .int .u64 0] 28 (0,0))) (w.heap.size) 30 #[.bool six, .int .u64 (hi:Int), .int .u64 (lo:Int), .int .i64 (n:Int)]:=by
  have this:=Blk.new w 30 #[.bool six, .int .u64 (hi:Int), .int .u64 (lo:Int), .int .i64 (n:Int)]
  exact (this.alloc _)
 have HP:=Lib.hid HP'
 clear HP'
 have HR':Blk ((w.alloc (.cells #[.bool six, .int .u64 (hi:Int), .int .u64 (lo:Int), .int .i64 (n:Int)] 30 (0,0))).alloc (.cells #[.bool false, .int .u64 0, .int .u64 0] 28 (0,0))) (w.heap.size + 1) 28 #[.bool false, .int .u64 0, .int .u64 0]:=by
  have this:=Blk.new (w.alloc (.cells #[.bool six, .int .u64 (hi:Int), .int .u64 (lo:Int), .int .i64 (n:Int)] 30 (0,0))) 28 #[.bool false, .int .u64 0, .int .u64 0]
  rw [World.size_alloc] at this
  exact this
 have HR:=Lib.hid HR'
 clear HR'
 have HB:Hid (Below w.heap.size w ((w.alloc (.cells #[.bool six, .int .u64 (hi:Int), .int .u64 (lo:Int), .int .i64 (n:Int)] 30 (0,0))).alloc (.cells #[.bool false, .int .u64 0, .int .u64 0] 28 (0,0)))):=Lib.hid (below_alloc (below_alloc (Below.refl _ _) _) _)
 go_enter Tryz.func226,Tryz.ntmps226
 go_upto_region 1 with fail
 generalize ((w.alloc (.cells #[.bool six, .int .u64 (hi:Int), .int .u64 (lo:Int), .int .i64 (n:Int)] 30 (0,0))).alloc (.cells #[.bool false, .int .u64 0, .int .u64 0] 28 (0,0)))=w1 at *
 have p0:=HP.out.cell 0
 have p1:=HP.out.cell 1
 have p2:=HP.out.cell 2
 have p3:=HP.out.cell 3
 simp at p0 p1 p2 p3
 go_wp2_with fail
 refine (HF.out _).mono ?_
 rintro e w2 ⟨rfl,hb⟩
 have HP2:=Lib.hid (HP.out.below hb HP.out.lt)
 have HR2:=Lib.hid (HR.out.below hb HR.out.lt)
 have HB2:=Lib.hid (HB.out.trans (hb.mono HB.out.size))
 clear hb HP HR HB
 clear p0 p1 p2 p3 HF
 have r0:=HR2.out.cell 0
 have r1:=HR2.out.cell 1
 have r2:=HR2.out.cell 2
 have rf:=HR2.out.free
 simp at r0 r1 r2
 go_wp2_with fail
 refine bodyPost_ret (v:=.agg #[.bool six, .int .u64 (rh:Int), .int .u64 (rl:Int)]) (by simp [results,Tryz.results226,go_sem,r0,r1,r2]) rfl ⟨rfl,?_⟩
 repeat refine Below.setCell ?_ (by first | (simp;omega) | simp) _
 exact HB2.out
theorem pFault_zero {six:Bool} {hi lo:Nat} {bits:Int} (h:pFault six hi lo bits=0):aFault six hi lo=0∧0≤bits∧bits≤(lenN six:Nat):=by
 unfold pFault at h
 by_cases h1:aFault six (hi:Int) (lo:Int) ≠ 0
 ·rw [if_pos h1] at h;cases h
 ·rw [if_neg h1] at h
  by_cases h2:outB bits 0 (lenN six:Nat)=true
  ·rw [if_pos h2] at h;cases h
  ·unfold outB at h2
   simp at h2
   exact ⟨by simpa using h1,by omega,by omega⟩
theorem aFault_four {hi lo:Nat} (h:aFault false hi lo=0):hi=0∧lo < 4294967296:=by
 unfold aFault at h
 split at h
 ·cases h
 ·rename_i hn
  simp at hn
  omega
theorem pFault_nat {six:Bool} {hi lo:Nat} {bits:Int} (h:pFault six hi lo bits=0):∃ n:Nat,bits=(n:Int)∧n≤lenN six:=by
 obtain ⟨_,h1,h2⟩:=pFault_zero h
 obtain ⟨n,rfl⟩:=Int.eq_ofNat_of_zero_le h1
 exact ⟨n,rfl,by omega⟩
theorem pFault_pok {six:Bool} {hi lo n:Nat} (h:pFault six hi lo (n:Int)=0) (h1:U64N hi) (h2:U64N lo):POK six hi lo n:=by
 obtain ⟨ha,_,hb⟩:=pFault_zero h
 refine ⟨⟨h1,h2,fun e => ?_⟩,by omega,?_⟩
 ·subst e
  obtain ⟨h3,h4⟩:=aFault_four ha
  exact ⟨h3,h4⟩
 ·unfold pFault at h
  rw [if_neg (by rw [ha];decide)] at h
  by_cases h3:outB (n:Int) 0 (lenN six:Nat)=true
  ·rw [if_pos h3] at h;cases h
  ·rw [if_neg h3,Int.toNat_natCast] at h
   by_cases h4:mHi six hi n ≠ hi ∨ mLo six lo n ≠ lo
   ·rw [if_pos h4] at h;cases h
   ·omega
def sgn (x:Int):Int:=if x < 0 then -1 else if x > 0 then 1 else 0
theorem sign_any (x:Int) (w:World):Calls Tryz.prog 98 #[.int .i64 x] w (Ret (.int .i64 (sgn x)) w):=by
 by_cases h1:x < 0
 ·have e:sgn x=-1:=if_pos h1
  rw [e]
  go_enter Tryz.func98,Tryz.ntmps98
  go_wp2
  go_ret
  exact ⟨rfl,Below.refl _ _⟩
 ·by_cases h2:x > 0
  ·have e:sgn x=1:=by unfold sgn;rw [if_neg h1,if_pos h2]
   rw [e]
   go_enter Tryz.func98,Tryz.ntmps98
   go_wp2
   go_ret
   exact ⟨rfl,Below.refl _ _⟩
  ·have e:sgn x=0:=by unfold sgn;rw [if_neg h1,if_neg h2]
   rw [e]
   go_enter Tryz.func98,Tryz.ntmps98
   go_wp2
   go_ret
   exact ⟨rfl,Below.refl _ _⟩
theorem wv_get9 (six:Bool) (f:Nat→Nat) (d:Nat) (h:d < 9):(wv six f)[d]?=some (.int .i64 ((dv six f d:Nat):Int)):=by
 rcases Nat.lt_or_ge d 8 with h8 | h8
 ·rw [wv_get _ _ _ h8];unfold dv;rw [if_pos h8]
 ·obtain rfl:d=8:=by omega
  cases six <;> rfl
theorem wideCmp_any (s1 s2:Bool) (f g:Nat→Nat) (w:World) (hf:∀ d,f d < 65536) (hg:∀ d,g d < 65536) :
  Calls Tryz.prog 230 #[.agg (wv s1 f), .agg (wv s2 g)] w (Ret (.int .i64 (cN (PW (dv s1 f) 9) (PW (dv s2 g) 9))) w):=by
 have HT:Hid (∀ i,i < 9→(∀ j,i < j→j < 9→dv s1 f j=dv s2 g j)→dv s1 f i ≠ dv s2 g i→sgn (((dv s1 f i:Nat):Int) - ((dv s2 g i:Nat):Int))=cN (PW (dv s1 f) 9) (PW (dv s2 g) 9)):=Lib.hid fun i hi hab hne => by
  rw [cmp_top (dv_lt hf) (dv_lt hg) hi hab hne]
  unfold sgn
  by_cases h:dv s1 f i < dv s2 g i
  ·rw [if_pos h,if_pos (by omega)]
  ·rw [if_neg h,if_neg (by omega),if_pos (by omega)]
 have HS0:Hid ((∀ j,j < 9→dv s1 f j=dv s2 g j)→cN (PW (dv s1 f) 9) (PW (dv s2 g) 9)=0):=Lib.hid cmp_same
 have HF:=Lib.hid (dv_lt (six:=s1) hf)
 have HH:=Lib.hid (dv_lt (six:=s2) hg)
 clear hf hg
 generalize cN (PW (dv s1 f) 9) (PW (dv s2 g) 9)=C at *
 have hsz:=Tryz.sizeOf121
 have HA':Blk ((w.alloc (.cells (wv s1 f) 121 (0,0))).alloc (.cells (wv s2 g) 121 (0,0))) (w.heap.size) 121 (wv s1 f):=by
  have this:=Blk.new w 121 (wv s1 f)
  exact (this.alloc _)
 have HA:=Lib.hid HA'
 clear HA'
 have HG':Blk ((w.alloc (.cells (wv s1 f) 121 (0,0))).alloc (.cells (wv s2 g) 121 (0,0))) (w.heap.size + 1) 121 (wv s2 g):=by
  have this:=Blk.new (w.alloc (.cells (wv s1 f) 121 (0,0))) 121 (wv s2 g)
  rw [World.size_alloc] at this
  exact this
 have HG:=Lib.hid HG'
 clear HG'
 have HB:Hid (Below w.heap.size w ((w.alloc (.cells (wv s1 f) 121 (0,0))).alloc (.cells (wv s2 g) 121 (0,0)))):=Lib.hid (below_alloc (below_alloc (Below.refl _ _) _) _)
 go_enter Tryz.func230,Tryz.ntmps230
 go_upto_region 1 with fail
 generalize ((w.alloc (.cells (wv s1 f) 121 (0,0))).alloc (.cells (wv s2 g) 121 (0,0)))=w1 at *
 go_wp2_with fail
 go_loopw [5] (fun i wr => ∃ k:Nat,k≤9∧i=.int .i64 ((k:Int) - 1)∧Hid (∀ j,k≤j→j < 9→dv s1 f j=dv s2 g j)∧Hid (Blk wr (w.heap.size) 121 (wv s1 f))∧Hid (Blk wr (w.heap.size + 1) 121 (wv s2 g))∧Hid (Below w.heap.size w wr)) (fun i _ => (intOf i + 1).toNat)
 case atStart => exact ⟨9,Nat.le_refl _,rfl,Lib.hid fun j h1 h2 => by omega,HA,HG,HB⟩
 case round =>
  clear HA HG HB
  obtain ⟨k,hk,rfl,HE,HA,HG,HB⟩:=hrel
  by_cases hk0:k=0
  ·subst hk0
   have hC:=HS0.out fun j hj => HE.out j (Nat.zero_le _) hj
   have e0:(((0:Nat):Int) - 1)=-1:=by omega
   rw [e0]
   subst hC
   clear HT HS0 HF HH HE
   go_wp2_with fail
   go_ret
   exact ⟨rfl,HB.out⟩
  ·obtain ⟨j,rfl⟩:∃ j,k=j + 1:=⟨k - 1,by omega⟩
   have ej:(((j + 1:Nat):Int) - 1)=(j:Int):=by omega
   rw [ej]
   have hj:j < 9:=by omega
   have a:=HA.out.cell j
   rw [wv_get9 _ _ _ hj] at a
   have b:=HG.out.cell j
   rw [wv_get9 _ _ _ hj] at b
   have hx:=HF.out j
   have hy:=HH.out j
   have HTj:=Lib.hid (HT.out j hj fun i h1 h2 => HE.out i (by omega) h2)
   have HEj:Hid (dv s1 f j=dv s2 g j→∀ i,j≤i→i < 9→dv s1 f i=dv s2 g i):=Lib.hid fun e i h1 h2 => by
    rcases Nat.eq_or_lt_of_le h1 with h | h
    ·subst h;exact e
    ·exact HE.out i h h2
   clear HT HS0 HE HF HH
   generalize hxx:dv s1 f j=x at *
   generalize hyy:dv s2 g j=y at *
   have HX:=Lib.hid hxx
   have HY:=Lib.hid hyy
   clear hxx hyy
   have la:=Later.cell_of a
   have lb:=Later.cell_of b
   have b1:(0:Int)≤(j:Int):=by omega
   have b2:(j:Int) < 9:=by omega
   by_cases hxy:x=y
   ·have HE2:=Lib.hid (HEj.out hxy)
    subst hxy
    clear HEj HTj
    go_upto_region 4 with fail
    refine wp_region_later (by kernel_rfl) (by kernel_rfl) ?_
    repeat (go_big_quiet_step (fail))
    refine wpQuiet_nil ?_
    rintro w3 ⟨m2,hm2⟩
    have hb:Below wr.heap.size wr w3:=by rw [hm2];exact m2.2
    clear hm2 m2 la lb a b
    have HA3:=Lib.hid (HA.out.below hb HA.out.lt)
    have HG3:=Lib.hid (HG.out.below hb HG.out.lt)
    have HB3:=Lib.hid (HB.out.trans (hb.mono HB.out.size))
    clear hb HA HG HB
    go_wp2_with fail
    exact ⟨⟨j,by omega,by go_num,HE2,HA3,HG3,HB3⟩,by simp [intOf]⟩
   ·have hC:=HTj.out hxy
    have hne:((x:Int) != (y:Int))=true:=by simp;omega
    have hne2:¬ (x:Int)=(y:Int):=by omega
    have HS:=Lib.hid fun wx => sign_any ((x:Int) - (y:Int)) wx
    rw [hC] at HS
    clear hC HEj HTj
    go_upto_region 4 with fail
    refine wp_region_later (by kernel_rfl) (by kernel_rfl) ?_
    repeat (go_big_quiet_step (fail))
    refine wpQuiet_nil ?_
    rintro w3 ⟨m2,hm2⟩
    have hb:Below wr.heap.size wr w3:=by rw [hm2];exact m2.2
    clear hm2 m2 la lb a b
    have HA3:=Lib.hid (HA.out.below hb HA.out.lt)
    have HG3:=Lib.hid (HG.out.below hb HG.out.lt)
    have HB3:=Lib.hid (HB.out.trans (hb.mono HB.out.size))
    clear hb HA HG HB
    have a:=HA3.out.cell j
    rw [wv_get9 _ _ _ hj,HX.out] at a
    have b:=HG3.out.cell j
    rw [wv_get9 _ _ _ hj,HY.out] at b
    have la:=Later.cell_of a
    have lb:=Later.cell_of b
    have hS:=fun m:Later w3 => Calls.later m (HS.out m.1)
    have e7:IntKind.i64.wrap ((x:Int) - (y:Int))=(x:Int) - (y:Int):=by rw [IntKind.wrap_i64];omega
    have e8:wrap64 ((x:Int) - (y:Int))=(x:Int) - (y:Int):=by unfold wrap64;omega
    go_upto_region 5 with fail
    refine wp_region_later (by kernel_rfl) (by kernel_rfl) ?_
    repeat (go_big_quiet_step (fail))
    go_big_quiet_step ((go_at_call 98;exact hS _))
    repeat (go_big_quiet_step (fail))
    refine wpQuiet_nil ?_
    rintro w4 ⟨m2,hm2⟩
    have hb:Below w3.heap.size w3 w4:=by rw [hm2];exact m2.2
    clear hm2 m2 la lb a b
    have HB4:=Lib.hid (HB3.out.trans (hb.mono HB3.out.size))
    clear hb HA3 HG3 HB3
    go_wp2_with fail
    go_ret
    exact ⟨rfl,HB4.out⟩
theorem u64_le {x:Nat} (h:U64N x):0≤(x:Int)∧(x:Int)≤18446744073709551615:=by
 unfold U64N at h
 exact ⟨by omega,by omega⟩
theorem isNaNU_any (x:Int) (w:World):Calls Tryz.prog 307 #[.int .u64 x] w fun e w' => e=.returned (.bool false)∧w'=w:=by
 go_enter Tryz.func307,Tryz.ntmps307
 go_wp2
 go_ret
 exact ⟨by simp,rfl⟩
theorem cmpU64_any (a b:Nat) (w:World) (ha:U64N a) (hb:U64N b):Calls Tryz.prog 244 #[.int .u64 (a:Int), .int .u64 (b:Int)] w fun e w' => e=.returned (.int .i64 (cN a b))∧w'=w:=by
 have a1:=u64_le ha
 have b1:=u64_le hb
 clear ha hb
 have HN:=Lib.hid fun x wx => isNaNU_any x wx
 by_cases h1:a < b
 ·have e:cN a b=-1:=by unfold cN;rw [if_pos h1]
  rw [e]
  clear e
  go_enter Tryz.func244,Tryz.ntmps244
  go_wp2_with fail
  refine (HN.out _ _).mono ?_
  rintro e w' ⟨rfl,rfl⟩
  go_wp2_with fail
  refine (HN.out _ _).mono ?_
  rintro e w' ⟨rfl,rfl⟩
  go_wp2_with fail
  go_ret
  exact ⟨rfl,rfl⟩
 ·by_cases h2:b < a
  ·have e:cN a b=1:=by unfold cN;rw [if_neg h1,if_pos h2]
   rw [e]
   clear e
   go_enter Tryz.func244,Tryz.ntmps244
   go_wp2_with fail
   refine (HN.out _ _).mono ?_
   rintro e w' ⟨rfl,rfl⟩
   go_wp2_with fail
   refine (HN.out _ _).mono ?_
   rintro e w' ⟨rfl,rfl⟩
   go_wp2_with fail
   go_ret
   exact ⟨rfl,rfl⟩
  ·obtain rfl:a=b:=by omega
   rw [cN_same]
   clear h1 h2
   go_enter Tryz.func244,Tryz.ntmps244
   go_wp2_with fail
   refine (HN.out _ _).mono ?_
   rintro e w' ⟨rfl,rfl⟩
   go_wp2_with fail
   refine (HN.out _ _).mono ?_
   rintro e w' ⟨rfl,rfl⟩
   go_wp2_with fail
   go_ret
   exact ⟨rfl,rfl⟩
def orI (x y:Int):Int:=if x=0 then y else x
theorem cmpOr_any (x y:Int) (g c:Nat) (w:World) (h0:w.cell? ⟨g,0,none⟩=some (.int .i64 x)) (h1:w.cell? ⟨g,1,none⟩=some (.int .i64 y)) :
  Calls Tryz.prog 243 #[.slice (some ⟨g,0,none⟩) 2 c] w fun e w' => e=.returned (.int .i64 (orI x y))∧w'=w:=by
 by_cases hx:x=0
 ·subst hx
  have e:orI 0 y=y:=if_pos rfl
  rw [e]
  clear e
  by_cases hy:y=0
  ·subst hy
   go_enter Tryz.func243,Tryz.ntmps243
   go_wp2_with fail
   refine wp_loop_rounds 3 ?_
   rw [rounds_succ]
   go_wp2_with fail
   rw [rounds_succ]
   go_wp2_with fail
   rw [rounds_succ]
   go_wp2_with fail
   go_ret
   exact ⟨rfl,rfl⟩
  ·have hy2:(y != 0)=true:=by simpa using hy
   go_enter Tryz.func243,Tryz.ntmps243
   go_wp2_with fail
   refine wp_loop_rounds 2 ?_
   rw [rounds_succ]
   go_wp2_with fail
   rw [rounds_succ]
   go_wp2_with fail
   go_ret
   exact ⟨rfl,rfl⟩
 ·have e:orI x y=x:=if_neg hx
  rw [e]
  clear e
  have hx2:(x != 0)=true:=by simpa using hx
  go_enter Tryz.func243,Tryz.ntmps243
  go_wp2_with fail
  refine wp_loop_rounds 1 ?_
  rw [rounds_succ]
  go_wp2_with fail
  go_ret
  exact ⟨rfl,rfl⟩
theorem cN_lt {a b:Nat} (h:a < b):cN a b=-1:=by unfold cN;rw [if_pos h]
theorem cN_gt {a b:Nat} (h:b < a):cN a b=1:=by unfold cN;rw [if_neg (by omega),if_pos h]
theorem cN_lex (T M h l h2 l2:Nat) (a:l < M) (b:l2 < M):cN (T + h * M + l) (T + h2 * M + l2)=orI (cN h h2) (cN l l2):=by
 rcases Nat.lt_trichotomy h h2 with k | rfl | k
 ·have:=Nat.mul_le_mul_right M (Nat.succ_le_of_lt k)
  rw [Nat.succ_eq_add_one,Nat.add_mul,Nat.one_mul] at this
  rw [cN_lt (show T + h * M + l < T + h2 * M + l2 by omega),cN_lt k]
  rfl
 ·rw [cN_same]
  unfold orI
  rw [if_pos rfl]
  unfold cN
  by_cases h1:l < l2
  ·rw [if_pos h1,if_pos (by omega)]
  ·by_cases h2:l2 < l
   ·rw [if_neg h1,if_pos h2,if_neg (by omega),if_pos (by omega)]
   ·rw [if_neg h1,if_neg h2,if_neg (by omega),if_neg (by omega)]
 ·have:=Nat.mul_le_mul_right M (Nat.succ_le_of_lt k)
  rw [Nat.succ_eq_add_one,Nat.add_mul,Nat.one_mul] at this
  rw [cN_gt (show T + h2 * M + l2 < T + h * M + l by omega),cN_gt k]
  rfl
theorem cN_num {s:Bool} {h l h2 l2:Nat} (a2:U64N l) (a4:U64N l2):cN (numA s h l) (numA s h2 l2)=orI (cN h h2) (cN l l2):=by
 unfold numA
 exact cN_lex _ _ _ _ _ _ a2 a4
theorem cN_six {h l h2 l2:Nat} (a1:U64N h) (a2:U64N l):cN (numA false h l) (numA true h2 l2)=-1:=by
 unfold U64N at a1 a2
 unfold cN numA
 rw [if_pos]
 simp
 omega
theorem cN_six' {h l h2 l2:Nat} (a3:U64N h2) (a4:U64N l2):cN (numA true h l) (numA false h2 l2)=1:=by
 unfold U64N at a3 a4
 unfold cN numA
 rw [if_neg,if_pos]
 ·simp;omega
 ·simp;omega
theorem spanCompare_any (s1:Bool) (h1 l1:Nat) (s2:Bool) (h2 l2:Nat) (w:World) (a1:U64N h1) (a2:U64N l1) (a3:U64N h2) (a4:U64N l2) :
  Calls Tryz.prog 174 #[.agg #[.bool s1, .int .u64 (h1:Int), .int .u64 (l1:Int)], .agg #[.bool s2, .int .u64 (h2:Int), .int .u64 (l2:Int)]] w (Ret (.int .i64 (cN (numA s1 h1 l1) (numA s2 h2 l2))) w):=by
 have HP':Blk ((w.alloc (.cells #[.bool s1, .int .u64 (h1:Int), .int .u64 (l1:Int)] 28 (0,0))).alloc (.cells #[.bool s2, .int .u64 (h2:Int), .int .u64 (l2:Int)] 28 (0,0))) (w.heap.size) 28 #[.bool s1, .int .u64 (h1:Int), .int .u64 (l1:Int)] :=
  (Blk.new w 28 #[.bool s1, .int .u64 (h1:Int), .int .u64 (l1:Int)]).alloc _
 have HP:=Lib.hid HP'
 clear HP'
 have HQ':Blk ((w.alloc (.cells #[.bool s1, .int .u64 (h1:Int), .int .u64 (l1:Int)] 28 (0,0))).alloc (.cells #[.bool s2, .int .u64 (h2:Int), .int .u64 (l2:Int)] 28 (0,0))) (w.heap.size + 1) 28 #[.bool s2, .int .u64 (h2:Int), .int .u64 (l2:Int)]:=by
  have this:=Blk.new (w.alloc (.cells #[.bool s1, .int .u64 (h1:Int), .int .u64 (l1:Int)] 28 (0,0))) 28 #[.bool s2, .int .u64 (h2:Int), .int .u64 (l2:Int)]
  rw [World.size_alloc] at this
  exact this
 have HQ:=Lib.hid HQ'
 clear HQ'
 have HB:Hid (Below w.heap.size w ((w.alloc (.cells #[.bool s1, .int .u64 (h1:Int), .int .u64 (l1:Int)] 28 (0,0))).alloc (.cells #[.bool s2, .int .u64 (h2:Int), .int .u64 (l2:Int)] 28 (0,0)))):=Lib.hid (below_alloc (below_alloc (Below.refl _ _) _) _)
 by_cases hs:s1=s2
 ·subst hs
  have hC:=cN_num (s:=s1) (h:=h1) (h2:=h2) a2 a4
  rw [hC]
  clear hC
  have HC1:=Lib.hid fun wx => cmpU64_any h1 h2 wx a1 a3
  have HC2:=Lib.hid fun wx => cmpU64_any l1 l2 wx a2 a4
  generalize cN h1 h2=X at *
  generalize cN l1 l2=Y at *
  go_enter Tryz.func174,Tryz.ntmps174
  go_upto_region 1 with fail
  generalize ((w.alloc (.cells #[.bool s1, .int .u64 (h1:Int), .int .u64 (l1:Int)] 28 (0,0))).alloc (.cells #[.bool s1, .int .u64 (h2:Int), .int .u64 (l2:Int)] 28 (0,0)))=w1 at *
  have p0:=HP.out.cell 0
  have p1:=HP.out.cell 1
  have p2:=HP.out.cell 2
  simp at p0 p1 p2
  have q0:=HQ.out.cell 0
  have q1:=HQ.out.cell 1
  have q2:=HQ.out.cell 2
  simp at q0 q1 q2
  have hsz:w.heap.size + 1 < w1.heap.size:=HQ.out.lt
  go_upto_region 5 with fail
  have k1:=fun (m:Later w1) => m.cell (i:=1) (Nat.lt_of_succ_lt hsz)
  have k2:=fun (m:Later w1) => m.cell (i:=2) (Nat.lt_of_succ_lt hsz)
  have k3:=fun (m:Later w1) => m.cell (i:=1) hsz
  have k4:=fun (m:Later w1) => m.cell (i:=2) hsz
  refine wp_region_later_tail 10 (by kernel_rfl) (by kernel_rfl) ?_
  simp only [List.take_succ_cons,List.take_zero,List.drop_succ_cons,List.drop_zero]
  repeat (go_big_quiet_step (fail))
  go_big_quiet_step ((go_at_call 244;exact Calls.later_same _ ((HC1.out _).mono fun _ _ h => ⟨h.1,h.2.symm⟩)))
  repeat (go_big_quiet_step (fail))
  go_big_quiet_step ((go_at_call 244;exact Calls.later_same _ ((HC2.out _).mono fun _ _ h => ⟨h.1,h.2.symm⟩)))
  refine wpQuiet_nil ?_
  rintro w2 ⟨n2,hn2⟩
  subst hn2
  have HB2:=Lib.hid (HB.out.trans (n2.2.mono HB.out.size))
  obtain ⟨w2,hw2⟩:∃ w2,w2=n2.1:=⟨_,rfl⟩
  rw [← hw2] at HB2 ⊢
  clear hw2 k1 k2 k3 k4 p0 p1 p2 q0 q1 q2 HC1 HC2
  have HO:=Lib.hid fun wx g (h:Blk wx g 3 #[.int .i64 X, .int .i64 Y]) => cmpOr_any X Y g 2 wx ((h.cell 0).trans rfl) ((h.cell 1).trans rfl)
  go_wp2_with fail
  refine (HO.out _ _ (Blk.new w2 _ _)).mono ?_
  rintro e w3 ⟨rfl,rfl⟩
  go_wp2_with fail
  go_ret
  exact ⟨rfl,below_alloc HB2.out _⟩
 ·cases s1
  ·obtain rfl:s2=true:=by cases s2 with | true => rfl | false => exact absurd rfl hs
   rw [cN_six a1 a2]
   go_enter Tryz.func174,Tryz.ntmps174
   go_upto_region 1 with fail
   generalize ((w.alloc (.cells #[.bool false, .int .u64 (h1:Int), .int .u64 (l1:Int)] 28 (0,0))).alloc (.cells #[.bool true, .int .u64 (h2:Int), .int .u64 (l2:Int)] 28 (0,0)))=w1 at *
   have p0:=HP.out.cell 0
   simp at p0
   have q0:=HQ.out.cell 0
   simp at q0
   go_wp2_with fail
   go_ret
   exact ⟨rfl,HB.out⟩
  ·obtain rfl:s2=false:=by cases s2 with | false => rfl | true => exact absurd rfl hs
   rw [cN_six' a3 a4]
   go_enter Tryz.func174,Tryz.ntmps174
   go_upto_region 1 with fail
   generalize ((w.alloc (.cells #[.bool true, .int .u64 (h1:Int), .int .u64 (l1:Int)] 28 (0,0))).alloc (.cells #[.bool false, .int .u64 (h2:Int), .int .u64 (l2:Int)] 28 (0,0)))=w1 at *
   have p0:=HP.out.cell 0
   simp at p0
   have q0:=HQ.out.cell 0
   simp at q0
   go_wp2_with fail
   go_ret
   exact ⟨rfl,HB.out⟩
theorem aCompare_any (s1:Bool) (h1 l1:Nat) (s2:Bool) (h2 l2:Nat) (w:World) (a1:U64N h1) (a2:U64N l1) (a3:U64N h2) (a4:U64N l2) :
  Calls Tryz.prog 85 #[.agg #[.bool s1, .int .u64 (h1:Int), .int .u64 (l1:Int)], .agg #[.bool s2, .int .u64 (h2:Int), .int .u64 (l2:Int)]] w (Ret (.int .i64 (cN (numA s1 h1 l1) (numA s2 h2 l2))) w):=by
 have HP':Blk ((w.alloc (.cells #[.bool s1, .int .u64 (h1:Int), .int .u64 (l1:Int)] 28 (0,0))).alloc (.cells #[.bool s2, .int .u64 (h2:Int), .int .u64 (l2:Int)] 28 (0,0))) (w.heap.size) 28 #[.bool s1, .int .u64 (h1:Int), .int .u64 (l1:Int)] :=
  (Blk.new w 28 #[.bool s1, .int .u64 (h1:Int), .int .u64 (l1:Int)]).alloc _
 have HP:=Lib.hid HP'
 clear HP'
 have HQ':Blk ((w.alloc (.cells #[.bool s1, .int .u64 (h1:Int), .int .u64 (l1:Int)] 28 (0,0))).alloc (.cells #[.bool s2, .int .u64 (h2:Int), .int .u64 (l2:Int)] 28 (0,0))) (w.heap.size + 1) 28 #[.bool s2, .int .u64 (h2:Int), .int .u64 (l2:Int)]:=by
  have this:=Blk.new (w.alloc (.cells #[.bool s1, .int .u64 (h1:Int), .int .u64 (l1:Int)] 28 (0,0))) 28 #[.bool s2, .int .u64 (h2:Int), .int .u64 (l2:Int)]
  rw [World.size_alloc] at this
  exact this
 have HQ:=Lib.hid HQ'
 clear HQ'
 have HB:Hid (Below w.heap.size w ((w.alloc (.cells #[.bool s1, .int .u64 (h1:Int), .int .u64 (l1:Int)] 28 (0,0))).alloc (.cells #[.bool s2, .int .u64 (h2:Int), .int .u64 (l2:Int)] 28 (0,0)))):=Lib.hid (below_alloc (below_alloc (Below.refl _ _) _) _)
 have HC:=Lib.hid fun wx => spanCompare_any s1 h1 l1 s2 h2 l2 wx a1 a2 a3 a4
 generalize cN (numA s1 h1 l1) (numA s2 h2 l2)=C at *
 go_enter Tryz.func85,Tryz.ntmps85
 go_upto_region 1 with fail
 generalize ((w.alloc (.cells #[.bool s1, .int .u64 (h1:Int), .int .u64 (l1:Int)] 28 (0,0))).alloc (.cells #[.bool s2, .int .u64 (h2:Int), .int .u64 (l2:Int)] 28 (0,0)))=w1 at *
 have p0:=HP.out.cell 0
 have p1:=HP.out.cell 1
 have p2:=HP.out.cell 2
 simp at p0 p1 p2
 have q0:=HQ.out.cell 0
 have q1:=HQ.out.cell 1
 have q2:=HQ.out.cell 2
 simp at q0 q1 q2
 go_wp2_with fail
 refine (HC.out _).mono ?_
 rintro e w2 ⟨rfl,hb⟩
 go_wp2_with fail
 go_ret
 exact ⟨rfl,HB.out.trans (hb.mono HB.out.size)⟩
theorem PW_numA (six:Bool) (hi lo:Nat) (h1:U64N hi) (h2:U64N lo):PW (dv six (dg hi lo)) 9=numA six hi lo:=by
 rw [PW_num,PS_dg_hi _ _ h1,PS_dg_lo _ _ h2]
theorem order_any (s1:Bool) (h1 l1:Nat) (s2:Bool) (h2 l2:Nat) (w:World) (a1:U64N h1) (a2:U64N l1) (a3:U64N h2) (a4:U64N l2) :
  Calls Tryz.prog 188 #[.agg #[.bool s1, .int .u64 (h1:Int), .int .u64 (l1:Int)], .agg #[.bool s2, .int .u64 (h2:Int), .int .u64 (l2:Int)]] w (Ret (.int .i64 (cN (numA s1 h1 l1) (numA s2 h2 l2))) w):=by
 have HP':Blk ((w.alloc (.cells #[.bool s1, .int .u64 (h1:Int), .int .u64 (l1:Int)] 28 (0,0))).alloc (.cells #[.bool s2, .int .u64 (h2:Int), .int .u64 (l2:Int)] 28 (0,0))) (w.heap.size) 28 #[.bool s1, .int .u64 (h1:Int), .int .u64 (l1:Int)] :=
  (Blk.new w 28 #[.bool s1, .int .u64 (h1:Int), .int .u64 (l1:Int)]).alloc _
 have HP:=Lib.hid HP'
 clear HP'
 have HQ':Blk ((w.alloc (.cells #[.bool s1, .int .u64 (h1:Int), .int .u64 (l1:Int)] 28 (0,0))).alloc (.cells #[.bool s2, .int .u64 (h2:Int), .int .u64 (l2:Int)] 28 (0,0))) (w.heap.size + 1) 28 #[.bool s2, .int .u64 (h2:Int), .int .u64 (l2:Int)]:=by
  have this:=Blk.new (w.alloc (.cells #[.bool s1, .int .u64 (h1:Int), .int .u64 (l1:Int)] 28 (0,0))) 28 #[.bool s2, .int .u64 (h2:Int), .int .u64 (l2:Int)]
  rw [World.size_alloc] at this
  exact this
 have HQ:=Lib.hid HQ'
 clear HQ'
 have HB:Hid (Below w.heap.size w ((w.alloc (.cells #[.bool s1, .int .u64 (h1:Int), .int .u64 (l1:Int)] 28 (0,0))).alloc (.cells #[.bool s2, .int .u64 (h2:Int), .int .u64 (l2:Int)] 28 (0,0)))):=Lib.hid (below_alloc (below_alloc (Below.refl _ _) _) _)
 have HO1:=Lib.hid fun wx => of_any s1 h1 l1 wx a1 a2
 have HO2:=Lib.hid fun wx => of_any s2 h2 l2 wx a3 a4
 have HC:=Lib.hid fun wx => wideCmp_any s1 s2 (dg h1 l1) (dg h2 l2) wx (dg_lt _ _) (dg_lt _ _)
 rw [PW_numA _ _ _ a1 a2,PW_numA _ _ _ a3 a4] at HC
 rw [wCells_wv] at HO1 HO2
 unfold vA at HO1 HO2
 generalize cN (numA s1 h1 l1) (numA s2 h2 l2)=C at *
 generalize wv s1 (dg h1 l1)=V1 at *
 generalize wv s2 (dg h2 l2)=V2 at *
 go_enter Tryz.func188,Tryz.ntmps188
 go_upto_region 1 with fail
 generalize ((w.alloc (.cells #[.bool s1, .int .u64 (h1:Int), .int .u64 (l1:Int)] 28 (0,0))).alloc (.cells #[.bool s2, .int .u64 (h2:Int), .int .u64 (l2:Int)] 28 (0,0)))=w1 at *
 have p0:=HP.out.cell 0
 have p1:=HP.out.cell 1
 have p2:=HP.out.cell 2
 simp at p0 p1 p2
 have q0:=HQ.out.cell 0
 have q1:=HQ.out.cell 1
 have q2:=HQ.out.cell 2
 simp at q0 q1 q2
 have hsz:w.heap.size + 1 < w1.heap.size:=HQ.out.lt
 have k1:=fun (m:Later w1) => m.cell (i:=0) (Nat.lt_of_succ_lt hsz)
 have k2:=fun (m:Later w1) => m.cell (i:=1) (Nat.lt_of_succ_lt hsz)
 have k3:=fun (m:Later w1) => m.cell (i:=2) (Nat.lt_of_succ_lt hsz)
 have k4:=fun (m:Later w1) => m.cell (i:=0) hsz
 have k5:=fun (m:Later w1) => m.cell (i:=1) hsz
 have k6:=fun (m:Later w1) => m.cell (i:=2) hsz
 have hO1:=fun m:Later w1 => Calls.later m (HO1.out m.1)
 have hO2:=fun m:Later w1 => Calls.later m (HO2.out m.1)
 have hC:=fun m:Later w1 => Calls.later m (HC.out m.1)
 refine wp_region_later (by kernel_rfl) (by kernel_rfl) ?_
 repeat (go_big_quiet_step (fail))
 go_big_quiet_step ((go_at_call 93;exact hO1 _))
 repeat (go_big_quiet_step (fail))
 go_big_quiet_step ((go_at_call 93;exact hO2 _))
 repeat (go_big_quiet_step (fail))
 go_big_quiet_step ((go_at_call 230;exact hC _))
 repeat (go_big_quiet_step (fail))
 refine wpQuiet_nil ?_
 rintro w2 ⟨n2,hn2⟩
 have hb:Below w1.heap.size w1 w2:=by rw [hn2];exact n2.2
 clear hn2 n2 hO1 hO2 hC k1 k2 k3 k4 k5 k6
 have HB2:=Lib.hid (HB.out.trans (hb.mono HB.out.size))
 clear hb
 go_wp2_with fail
 go_ret
 exact ⟨rfl,HB2.out⟩
end Go.Proofs.YtdhldhkhpndpjaaGreatDoor
