/-
  Decimal and hexadecimal numerals of small numbers: strconv.FormatUint, FormatInt, Itoa over the laid tables.
  Prefixes and addresses compared: equal ones.
  Addresses as numbers: comparing digit by digit; what a prefix holds, whether one lies in another, what two have in common.
  Generators of prefixes: RightPrefix, Prefix.
  Prefixes of the program: span.Last, Contains, Inside; addr.Mask, Last, Contains, Inside.
  Prefixes of sites: Via, ViaOf, Site, SiteOf.
  Prefixes of the program: addr.Last, Contains, Inside, Common, checkPrefixes.
  Prefixes of the program: addr.Inside, Common.
-/
import Derived.Test.YtgkhcdjoilgfmaaGreatDoorRPX1
import Derived.Test.YtgkhcdjoilgfmaaGreatDoorRPX4
import Derived.Lib.AppendIntMem
import Derived.LaidSub
import Derived.MakeChecks
import Derived.Test.YtgkhcdjoilgfmaaGreatDoorRPX3
import Derived.Laws.StructEq
import Derived.StillTailTactics
set_option linter.unusedVariables false
set_option maxRecDepth 100000
set_option maxHeartbeats 2000000
namespace Go.Proofs.YtgkhcdjoilgfmaaGreatDoor
open Go.RowKit Go Go.Sort
theorem tab_below {w w':World} {name:String} {k:IntKind} {zs:List Int} (h:Lib.TabIs Tryz.prog w name k zs) (hb:Below w.heap.size w w'):Lib.TabIs Tryz.prog w' name k zs:=by
 unfold Lib.TabIs World.var? at *
 cases hg:Tryz.prog.globalNamed name with
 | none => simp [hg] at h
 | some g =>
   simp only [hg,Option.bind_some] at h ⊢
   have hlt:g < w.heap.size:=by
    rcases Nat.lt_or_ge g w.heap.size with h' | h'
    ·exact h'
    ·rw [Array.getElem?_eq_none h'] at h;simp at h
   rw [hb.block g hlt]
   exact h
theorem below_grow {B:Nat} {u w:World} (h:Below B u w) (hB:B≤w.heap.size) (k:Nat) (os:Array Obj):Below B u (grow (w.drewN k) os) :=
 ⟨h.os,h.tape,h.output,Nat.le_trans h.size (by show w.heap.size≤(w.heap ++ os).size;simp),fun i hi => (Lib.heap_grow_old w k os i (Nat.lt_of_lt_of_le hi hB)).trans (h.block i hi)⟩
def Tabs (w : World) : Prop := Lib.TabIs Tryz.prog w "internal/strconv.uint64pow10" .u64 Lib.pow10Tab ∧ T16 w
theorem Tabs.below {w w':World} (h:Tabs w) (hb:Below w.heap.size w w'):Tabs w':=⟨tab_below h.1 hb,h.2.below hb⟩
theorem iFmtU_big (u : Nat) (h1 : 100 ≤ u) (h2 : u < 18446744073709551616) (w : World) (htab : Lib.TabIs Tryz.prog w "internal/strconv.uint64pow10" .u64 Lib.pow10Tab) :
  Calls Tryz.prog 255 #[.int .u64 (u:Int), .int .i64 10] w (Ret (.string ⟨(Lib.decDigits u).toArray⟩) w):=by
 have hu64:u < 18446744073709551616:=by omega
 have hnd20:Lib.nDigits u≤20:=by have:=Lib.numDigits_eq u (by omega) hu64;split at this <;> omega
 have hal:Tryz.prog.arrayLen 258=24:=by kernel_rfl
 have hsl:∀ W,(Instr.sliceAt 258 (.pointer (some ⟨w.heap.size,0,none⟩)) none (some (.int .i64 (Lib.nDigits u:Int))) none).run Tryz.prog W=.ok (.slice (some ⟨w.heap.size,0,none⟩) (Lib.nDigits u) 24) W:=fun W => by
  rw [run_sliceAt_array_h W 258 ⟨w.heap.size,0,none⟩ (by kernel_rfl) .i64 (Lib.nDigits u:Int) (by omega) (by rw [hal];omega)]
  go_simp
 have hH0:=Lib.holds_zero0 w 258 (Lib.nDigits u) (by omega)
 have hfmt:=Tryz.internal_strconv_formatBase10 w.heap.size 0 24 u (Array.replicate (Lib.nDigits u) 0) (w.alloc (.cells Lib.zeros24 258)) hH0 (by rw [Array.size_replicate];exact Lib.lt_pow_nDigits u) hu64 (by rw [Array.size_replicate];omega)
 rw [Array.size_replicate] at hfmt
 unfold Lib.zeros24 at hfmt hH0
 have HH0:=Lib.hid hH0
 have Hfmt:=Lib.hid hfmt
 have Hnd:=Lib.hid (Tryz.internal_strconv_numDigits u (by omega) hu64 (w.alloc (.cells #[.int .u8 0, .int .u8 0, .int .u8 0, .int .u8 0, .int .u8 0, .int .u8 0, .int .u8 0, .int .u8 0, .int .u8 0, .int .u8 0, .int .u8 0, .int .u8 0, .int .u8 0, .int .u8 0, .int .u8 0, .int .u8 0, .int .u8 0, .int .u8 0, .int .u8 0, .int .u8 0, .int .u8 0, .int .u8 0, .int .u8 0, .int .u8 0] 258)) (Lib.tabIs_alloc htab _))
 have hu3:¬ (u:Int) < 100:=by omega
 clear hH0 hal hfmt htab
 go_enter Tryz.func255,Tryz.ntmps255
 go_wp2_with fail
 refine Hnd.out.mono ?_
 rintro e w' ⟨rfl,rfl⟩
 clear Hnd
 go_wp2_with fail
 refine Hfmt.out.mono ?_
 rintro e w' ⟨rfl,k,v',dk,rfl,hF⟩
 have hcv:(convert 127 9 (.slice (some ⟨w.heap.size,0,none⟩) (Lib.nDigits u) 24)).run Tryz.prog ((putRow (fun (b:UInt8) => Value.int .u8 (b.toNat:Int)) (w.alloc (.cells #[.int .u8 0, .int .u8 0, .int .u8 0, .int .u8 0, .int .u8 0, .int .u8 0, .int .u8 0, .int .u8 0, .int .u8 0, .int .u8 0, .int .u8 0, .int .u8 0, .int .u8 0, .int .u8 0, .int .u8 0, .int .u8 0, .int .u8 0, .int .u8 0, .int .u8 0, .int .u8 0, .int .u8 0, .int .u8 0, .int .u8 0, .int .u8 0] 258)) w.heap.size 0 dk).drewN k)=.ok (.string ⟨(Lib.decDigits u).toArray⟩) ((putRow (fun (b:UInt8) => Value.int .u8 (b.toNat:Int)) (w.alloc (.cells #[.int .u8 0, .int .u8 0, .int .u8 0, .int .u8 0, .int .u8 0, .int .u8 0, .int .u8 0, .int .u8 0, .int .u8 0, .int .u8 0, .int .u8 0, .int .u8 0, .int .u8 0, .int .u8 0, .int .u8 0, .int .u8 0, .int .u8 0, .int .u8 0, .int .u8 0, .int .u8 0, .int .u8 0, .int .u8 0, .int .u8 0, .int .u8 0] 258)) w.heap.size 0 dk).drewN k):=by
  have h:=run_convert_bytes_back (P:=Tryz.prog) ((putRow (fun (b:UInt8) => Value.int .u8 (b.toNat:Int)) (w.alloc (.cells #[.int .u8 0, .int .u8 0, .int .u8 0, .int .u8 0, .int .u8 0, .int .u8 0, .int .u8 0, .int .u8 0, .int .u8 0, .int .u8 0, .int .u8 0, .int .u8 0, .int .u8 0, .int .u8 0, .int .u8 0, .int .u8 0, .int .u8 0, .int .u8 0, .int .u8 0, .int .u8 0, .int .u8 0, .int .u8 0, .int .u8 0, .int .u8 0] 258)) w.heap.size 0 dk).drewN k) 127 9 5 ⟨w.heap.size,0,none⟩ 24 (Lib.decDigits u) (by kernel_rfl) (by kernel_rfl) (by kernel_rfl) (fun j hj => by
   rw [Lib.row_is_numeral hF j hj,Lib.add_plain,World.cell?_drewN]
   exact cell?_putRow (fun (b:UInt8) => Value.int .u8 (b.toNat:Int)) _ w.heap.size 0 _ dk HH0.out (by rw [hF.size,Array.size_replicate]) j (by rw [hF.size];rw [Lib.decDigits_length] at hj;exact hj))
  rw [Lib.decDigits_length] at h
  exact h
 obtain ⟨os,eo⟩:=Lib.fin_at w (.cells #[.int .u8 0, .int .u8 0, .int .u8 0, .int .u8 0, .int .u8 0, .int .u8 0, .int .u8 0, .int .u8 0, .int .u8 0, .int .u8 0, .int .u8 0, .int .u8 0, .int .u8 0, .int .u8 0, .int .u8 0, .int .u8 0, .int .u8 0, .int .u8 0, .int .u8 0, .int .u8 0, .int .u8 0, .int .u8 0, .int .u8 0, .int .u8 0] 258) dk k 0
 have HB:Hid (Below w.heap.size w ((putRow (fun (b:UInt8) => Value.int .u8 (b.toNat:Int)) (w.alloc (.cells #[.int .u8 0, .int .u8 0, .int .u8 0, .int .u8 0, .int .u8 0, .int .u8 0, .int .u8 0, .int .u8 0, .int .u8 0, .int .u8 0, .int .u8 0, .int .u8 0, .int .u8 0, .int .u8 0, .int .u8 0, .int .u8 0, .int .u8 0, .int .u8 0, .int .u8 0, .int .u8 0, .int .u8 0, .int .u8 0, .int .u8 0, .int .u8 0] 258)) w.heap.size 0 dk).drewN k)):=Lib.hid (by rw [eo];exact below_grow (Below.refl _ _) (Nat.le_refl _) _ _)
 clear eo hF HH0 Hfmt
 go_wp2
 go_ret
 exact ⟨rfl,HB.out⟩
theorem fmtU10_any (u : Nat) (h2 : u < 18446744073709551616) (w : World) (htab : Lib.TabIs Tryz.prog w "internal/strconv.uint64pow10" .u64 Lib.pow10Tab) :
  Calls Tryz.prog 195 #[.int .u64 (u:Int), .int .i64 10] w (Ret (.string ⟨(Lib.decDigits u).toArray⟩) w):=by
 rcases Nat.lt_or_ge u 100 with h | h
 ·refine (fmtU_small u h w).mono ?_
  rintro e w' ⟨rfl,rfl⟩
  exact ⟨rfl,Below.refl _ _⟩
 ·have H:=Lib.hid (iFmtU_big u h h2 w htab)
  generalize Lib.decDigits u=s at *
  clear htab
  go_enter Tryz.func195,Tryz.ntmps195
  go_wp2_with fail
  refine H.out.mono ?_
  rintro e w' ⟨rfl,hb⟩
  go_wp2_with fail
  go_ret
  exact ⟨rfl,hb⟩
theorem itoa_any (u : Nat) (h2 : u < 1000) (w : World) (htab : Lib.TabIs Tryz.prog w "internal/strconv.uint64pow10" .u64 Lib.pow10Tab) :
  Calls Tryz.prog 97 #[.int .i64 (u:Int)] w (Ret (.string ⟨(Lib.decDigits u).toArray⟩) w):=by
 refine (Tryz.strconv_Itoa (u:Int) (by omega) (by omega) w htab).mono ?_
 rintro e w' ⟨rfl,k,os,rfl⟩
 exact ⟨by rw [Lib.itoa_nonneg],below_grow (Below.refl _ _) (Nat.le_refl _) _ _⟩
theorem bits_any (u:Nat) (w:World) (hu:u < 65536) (h:T16 w):Calls Tryz.prog 262 #[.slice none 0 0, .int .u64 (u:Int), .int .i64 16, .bool false, .bool false] w (Ret (.tuple #[.slice none 0 0, .string (hexS u)]) w):=by
 rcases Nat.lt_or_ge u 16 with h1 | h1
 ·exact bits1_any u w (by omega) h1 h
 rcases Nat.lt_or_ge u 256 with h2 | h2
 ·exact bits2_any u w h1 h2 h
 rcases Nat.lt_or_ge u 4096 with h3 | h3
 ·exact bits3_any u w h2 h3 h
 ·exact bits4_any u w h3 hu h
theorem iFmtU16_any (u:Nat) (w:World) (hu:u < 65536) (h:T16 w):Calls Tryz.prog 255 #[.int .u64 (u:Int), .int .i64 16] w (Ret (.string (hexS u)) w):=by
 have H:=Lib.hid fun wx (hb:Below w.heap.size w wx) => bits_any u wx hu (h.below hb)
 generalize hexS u=s at *
 clear h
 go_enter Tryz.func255,Tryz.ntmps255
 go_wp2_with fail
 refine (H.out _ (by first | exact Below.refl _ _ | exact below_alloc (Below.refl _ _) _)).mono ?_
 rintro e w' ⟨rfl,hb⟩
 go_wp2_with fail
 go_ret
 exact ⟨rfl,by first | exact hb | exact (below_alloc (Below.refl _ _) _).trans (hb.mono (by simp))⟩
theorem fmtU16_any (u:Nat) (w:World) (hu:u < 65536) (h:T16 w):Calls Tryz.prog 195 #[.int .u64 (u:Int), .int .i64 16] w (Ret (.string (hexS u)) w):=by
 have H:=Lib.hid (iFmtU16_any u w hu h)
 generalize hexS u=s at *
 clear h
 go_enter Tryz.func195,Tryz.ntmps195
 go_wp2_with fail
 refine H.out.mono ?_
 rintro e w' ⟨rfl,hb⟩
 go_wp2_with fail
 go_ret
 exact ⟨rfl,hb⟩
theorem iFmtI16_any (u:Nat) (w:World) (hu:u < 65536) (h:T16 w):Calls Tryz.prog 210 #[.int .i64 (u:Int), .int .i64 16] w (Ret (.string (hexS u)) w):=by
 have H:=Lib.hid fun wx (hb:Below w.heap.size w wx) => bits_any u wx hu (h.below hb)
 generalize hexS u=s at *
 have e1:IntKind.u64.wrap (u:Int)=(u:Int):=by rw [IntKind.wrap_u64];omega
 have e2:¬ (u:Int) < 0:=by omega
 clear h
 go_enter Tryz.func210,Tryz.ntmps210
 go_wp2_with fail
 refine (H.out _ (by first | exact Below.refl _ _ | exact below_alloc (Below.refl _ _) _)).mono ?_
 rintro e w' ⟨rfl,hb⟩
 go_wp2_with fail
 go_ret
 exact ⟨rfl,by first | exact hb | exact (below_alloc (Below.refl _ _) _).trans (hb.mono (by simp))⟩
theorem fmtI16_any (u:Nat) (w:World) (hu:u < 65536) (h:T16 w):Calls Tryz.prog 159 #[.int .i64 (u:Int), .int .i64 16] w (Ret (.string (hexS u)) w):=by
 have H:=Lib.hid (iFmtI16_any u w hu h)
 generalize hexS u=s at *
 clear h
 go_enter Tryz.func159,Tryz.ntmps159
 go_wp2_with fail
 refine H.out.mono ?_
 rintro e w' ⟨rfl,hb⟩
 go_wp2_with fail
 go_ret
 exact ⟨rfl,hb⟩
open Go.RowKit Go
open Go
/-! ### Digits -/
def PW (F:Nat→Nat):Nat→Nat
 | 0 => 0
 | k + 1 => PW F k + F k * 65536 ^ k
theorem PW_lt {F:Nat→Nat} (h:∀ d,F d < 65536):∀ k,PW F k < 65536 ^ k
 | 0 => by simp [PW]
 | k + 1 => by
   have h1:=PW_lt h k
   have h2:=h k
   have h3:F k * 65536 ^ k≤65535 * 65536 ^ k:=Nat.mul_le_mul_right _ (by omega)
   rw [PW,Nat.pow_succ]
   omega
theorem PW_digit {F G:Nat→Nat} (hF:∀ d,F d < 65536) {i:Nat} (h:F i < G i):PW F (i + 1) < PW G (i + 1):=by
 have h1:=PW_lt hF i
 have h2:(F i + 1) * 65536 ^ i≤G i * 65536 ^ i:=Nat.mul_le_mul_right _ h
 rw [Nat.add_mul,Nat.one_mul] at h2
 simp only [PW]
 omega
theorem PW_above {F G:Nat→Nat} {i:Nat}:∀ k,(∀ j,i≤j→j < i + k→F j=G j)→PW F (i + k) + PW G i=PW G (i + k) + PW F i
 | 0,_ => by simp only [Nat.add_zero];omega
 | k + 1,h => by
   have h1:=PW_above k fun j h1 h2 => h j h1 (by omega)
   have h2:=h (i + k) (by omega) (by omega)
   rw [← Nat.add_assoc,PW,PW,h2]
   omega
def cN (a b:Nat):Int:=if a < b then -1 else if b < a then 1 else 0
theorem cmp_top {F G:Nat→Nat} (hF:∀ d,F d < 65536) (hG:∀ d,G d < 65536) {i:Nat} (hi:i < 9) (hab:∀ j,i < j→j < 9→F j=G j) (hne:F i ≠ G i):cN (PW F 9) (PW G 9)=if F i < G i then -1 else 1:=by
 have h1:=PW_above (F:=F) (G:=G) (i:=i + 1) (9 - (i + 1)) fun j h1 h2 => hab j (by omega) (by omega)
 rw [show i + 1 + (9 - (i + 1))=9 by omega] at h1
 unfold cN
 rcases Nat.lt_or_ge (F i) (G i) with h | h
 ·have:=PW_digit hF h
  rw [if_pos h,if_pos (show PW F 9 < PW G 9 by omega)]
 ·have:=PW_digit hG (show G i < F i by omega)
  rw [if_neg (show ¬ F i < G i by omega),if_neg (show ¬ PW F 9 < PW G 9 by omega),if_pos (show PW G 9 < PW F 9 by omega)]
theorem PW_congr {F G:Nat→Nat}:∀ k,(∀ j,j < k→F j=G j)→PW F k=PW G k
 | 0,_ => rfl
 | k + 1,h => by rw [PW,PW,PW_congr k fun j hj => h j (by omega),h k (by omega)]
theorem cN_same (a:Nat):cN a a=0:=by unfold cN;rw [if_neg (Nat.lt_irrefl a),if_neg (Nat.lt_irrefl a)]
theorem cmp_same {F G:Nat→Nat} (hab:∀ j,j < 9→F j=G j):cN (PW F 9) (PW G 9)=0:=by
 rw [PW_congr 9 hab,cN_same]
def dv (six:Bool) (f:Nat→Nat) (d:Nat):Nat:=if d < 8 then f d else if six=true then 1 else 0
theorem dv_lt {six:Bool} {f:Nat→Nat} (h:∀ d,f d < 65536) (d:Nat):dv six f d < 65536:=by
 unfold dv;split
 ·exact h d
 ·split <;> decide
def numA (six:Bool) (hi lo:Nat):Nat:=(if six=true then 1 else 0) * 2 ^ 128 + hi * 2 ^ 64 + lo
theorem PW_num (six:Bool) (f:Nat→Nat):PW (dv six f) 9=numA six (PS f 4 4) (PS f 0 4):=by
 rw [PS_four,PS_four]
 simp only [PW,dv,numA,Nat.reduceLT,Nat.reducePow,Nat.reduceAdd,if_true,Nat.zero_add,Nat.mul_one,Nat.lt_irrefl,if_false]
 omega
/-! ### What two prefixes have in common -/
def down (E:Nat→Bool):Nat→Nat
 | 0 => 0
 | n + 1 => if E (n + 1)=true then n + 1 else down E n
def U64N (x:Nat):Prop:=x < 18446744073709551616
theorem nat_of_U64 {x:Int} (h:U64 x):∃ n:Nat,x=(n:Int)∧U64N n:=by
 obtain ⟨n,rfl⟩:=Int.eq_ofNat_of_zero_le h.1
 have h1:=h.2
 exact ⟨n,rfl,by unfold U64N;omega⟩
end Go.Proofs.YtgkhcdjoilgfmaaGreatDoor
