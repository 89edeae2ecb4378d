/-
  Prefixes of the program: addr.Inside, Common.
  Prefixes of the reference: sign, cmp, LastOf, Holds, Within, CommonOf.
  Orders of addresses: cmp.Compare, cmp.Or, span.Compare, addr.Compare of the program; Order of the reference: both compare the addresses' numbers.
  Quiet regions and calls that also never lower the count of draws: what a sort asks of its comparison.
  The comparisons that the sorts ask: of wide numbers, of addresses; the count of draws never goes down.
  The reference's order of addresses; the count of draws never goes down.
  Slices that a call owns, and slices that can be read: append, for every element type. Lemmas of this claim's own.
  Contracts of Go's library over this program, as the kit's lay-plain.mjs prints them. Conditions: stated in each.
-/
import Derived.Test.YteldaicgaeooiaaGreatDoorPK3
import Derived.Sort.Grow
import Derived.Test.YteldaicgaeooiaaGreatDoorPK1
import Derived.Maps.AppendAt
import Derived.Lib.Hide
import Derived.Shelf.Strings.Builder1
import Derived.Shelf.Strings.Builder2
import Derived.Shelf.Strings.OnBuilder
import Derived.Shelf.Strings.Trim
import Derived.Shelf.Small.Utf8
import Derived.Shelf.Small.Bits
import Derived.Shelf.Small.Strs
import Derived.Shelf.Strings.BuilderF
import Derived.Shelf.Strconv.Itoa0
import Derived.Shelf.Strconv.Itoa1
import Derived.Shelf.LaysM
import Derived.Shelf.Strconv.Itoa2
import Derived.Shelf.Strings.Search1
import Derived.Shelf.Strings.Prefix
import Derived.Shelf.Strings.Runes
import Derived.Shelf.Strings.AsciiSet
import Derived.Shelf.Bits.Mul64
import Derived.Shelf.Strings.Repeat
import Derived.Shelf.Unicode.DecodeSlow
import Derived.Test.YteldaicgaeooiaaGreatDoorProg
set_option linter.unusedVariables false
set_option maxRecDepth 100000
set_option maxHeartbeats 1000000
namespace Go.Proofs.YteldaicgaeooiaaGreatDoor
open Go.RowKit Go
def sgn (x:Int):Int:=if x < 0 then -1 else if x > 0 then 1 else 0
theorem sign_any (x:Int) (w:World):Calls Tryz.prog 77 #[.int .i64 x] w (Ret (.int .i64 (sgn x)) w):=by
 by_cases h1:x < 0
 ·have e:sgn x=-1:=if_pos h1
  rw [e]
  go_enter Tryz.func77,Tryz.ntmps77
  go_wp2
  go_ret
  exact ⟨rfl,Below.refl _ _⟩
 ·by_cases h2:x > 0
  ·have e:sgn x=1:=by unfold sgn;rw [if_neg h1,if_pos h2]
   rw [e]
   go_enter Tryz.func77,Tryz.ntmps77
   go_wp2
   go_ret
   exact ⟨rfl,Below.refl _ _⟩
  ·have e:sgn x=0:=by unfold sgn;rw [if_neg h1,if_neg h2]
   rw [e]
   go_enter Tryz.func77,Tryz.ntmps77
   go_wp2
   go_ret
   exact ⟨rfl,Below.refl _ _⟩
theorem wv_get9 (six:Bool) (f:Nat→Nat) (d:Nat) (h:d < 9):(wv six f)[d]?=some (.int .i64 ((dv six f d:Nat):Int)):=by
 rcases Nat.lt_or_ge d 8 with h8 | h8
 ·rw [wv_get _ _ _ h8];unfold dv;rw [if_pos h8]
 ·obtain rfl:d=8:=by omega
  cases six <;> rfl
theorem wideCmp_any (s1 s2:Bool) (f g:Nat→Nat) (w:World) (hf:∀ d,f d < 65536) (hg:∀ d,g d < 65536) :
  Calls Tryz.prog 133 #[.agg (wv s1 f), .agg (wv s2 g)] w (Ret (.int .i64 (cN (PW (dv s1 f) 9) (PW (dv s2 g) 9))) w):=by
 have HT:Hid (∀ i,i < 9→(∀ j,i < j→j < 9→dv s1 f j=dv s2 g j)→dv s1 f i ≠ dv s2 g i→sgn (((dv s1 f i:Nat):Int) - ((dv s2 g i:Nat):Int))=cN (PW (dv s1 f) 9) (PW (dv s2 g) 9)):=Lib.hid fun i hi hab hne => by
  rw [cmp_top (dv_lt hf) (dv_lt hg) hi hab hne]
  unfold sgn
  by_cases h:dv s1 f i < dv s2 g i
  ·rw [if_pos h,if_pos (by omega)]
  ·rw [if_neg h,if_neg (by omega),if_pos (by omega)]
 have HS0:Hid ((∀ j,j < 9→dv s1 f j=dv s2 g j)→cN (PW (dv s1 f) 9) (PW (dv s2 g) 9)=0):=Lib.hid cmp_same
 have HF:=Lib.hid (dv_lt (six:=s1) hf)
 have HH:=Lib.hid (dv_lt (six:=s2) hg)
 clear hf hg
 generalize cN (PW (dv s1 f) 9) (PW (dv s2 g) 9)=C at *
 have hsz:=Tryz.sizeOf101
 have HA':Blk ((w.alloc (.cells (wv s1 f) 101 (0,0))).alloc (.cells (wv s2 g) 101 (0,0))) (w.heap.size) 101 (wv s1 f):=by
  have this:=Blk.new w 101 (wv s1 f)
  exact (this.alloc _)
 have HA:=Lib.hid HA'
 clear HA'
 have HG':Blk ((w.alloc (.cells (wv s1 f) 101 (0,0))).alloc (.cells (wv s2 g) 101 (0,0))) (w.heap.size + 1) 101 (wv s2 g):=by
  have this:=Blk.new (w.alloc (.cells (wv s1 f) 101 (0,0))) 101 (wv s2 g)
  rw [World.size_alloc] at this
  exact this
 have HG:=Lib.hid HG'
 clear HG'
 have HB:Hid (Below w.heap.size w ((w.alloc (.cells (wv s1 f) 101 (0,0))).alloc (.cells (wv s2 g) 101 (0,0)))):=Lib.hid (below_alloc (below_alloc (Below.refl _ _) _) _)
 go_enter Tryz.func133,Tryz.ntmps133
 go_upto_region 1 with fail
 generalize ((w.alloc (.cells (wv s1 f) 101 (0,0))).alloc (.cells (wv s2 g) 101 (0,0)))=w1 at *
 go_wp2_with fail
 go_loopw [5] (fun i wr => ∃ k:Nat,k≤9∧i=.int .i64 ((k:Int) - 1)∧Hid (∀ j,k≤j→j < 9→dv s1 f j=dv s2 g j)∧Hid (Blk wr (w.heap.size) 101 (wv s1 f))∧Hid (Blk wr (w.heap.size + 1) 101 (wv s2 g))∧Hid (Below w.heap.size w wr)) (fun i _ => (intOf i + 1).toNat)
 case atStart => exact ⟨9,Nat.le_refl _,rfl,Lib.hid fun j h1 h2 => by omega,HA,HG,HB⟩
 case round =>
  clear HA HG HB
  obtain ⟨k,hk,rfl,HE,HA,HG,HB⟩:=hrel
  by_cases hk0:k=0
  ·subst hk0
   have hC:=HS0.out fun j hj => HE.out j (Nat.zero_le _) hj
   have e0:(((0:Nat):Int) - 1)=-1:=by omega
   rw [e0]
   subst hC
   clear HT HS0 HF HH HE
   go_wp2_with fail
   go_ret
   exact ⟨rfl,HB.out⟩
  ·obtain ⟨j,rfl⟩:∃ j,k=j + 1:=⟨k - 1,by omega⟩
   have ej:(((j + 1:Nat):Int) - 1)=(j:Int):=by omega
   rw [ej]
   have hj:j < 9:=by omega
   have a:=HA.out.cell j
   rw [wv_get9 _ _ _ hj] at a
   have b:=HG.out.cell j
   rw [wv_get9 _ _ _ hj] at b
   have hx:=HF.out j
   have hy:=HH.out j
   have HTj:=Lib.hid (HT.out j hj fun i h1 h2 => HE.out i (by omega) h2)
   have HEj:Hid (dv s1 f j=dv s2 g j→∀ i,j≤i→i < 9→dv s1 f i=dv s2 g i):=Lib.hid fun e i h1 h2 => by
    rcases Nat.eq_or_lt_of_le h1 with h | h
    ·subst h;exact e
    ·exact HE.out i h h2
   clear HT HS0 HE HF HH
   generalize hxx:dv s1 f j=x at *
   generalize hyy:dv s2 g j=y at *
   have HX:=Lib.hid hxx
   have HY:=Lib.hid hyy
   clear hxx hyy
   have la:=Later.cell_of a
   have lb:=Later.cell_of b
   have b1:(0:Int)≤(j:Int):=by omega
   have b2:(j:Int) < 9:=by omega
   by_cases hxy:x=y
   ·have HE2:=Lib.hid (HEj.out hxy)
    subst hxy
    clear HEj HTj
    go_upto_region 4 with fail
    refine wp_region_later (by kernel_rfl) (by kernel_rfl) ?_
    repeat (go_big_quiet_step (fail))
    refine wpQuiet_nil ?_
    rintro w3 ⟨m2,hm2⟩
    have hb:Below wr.heap.size wr w3:=by rw [hm2];exact m2.2
    clear hm2 m2 la lb a b
    have HA3:=Lib.hid (HA.out.below hb HA.out.lt)
    have HG3:=Lib.hid (HG.out.below hb HG.out.lt)
    have HB3:=Lib.hid (HB.out.trans (hb.mono HB.out.size))
    clear hb HA HG HB
    go_wp2_with fail
    exact ⟨⟨j,by omega,by go_num,HE2,HA3,HG3,HB3⟩,by simp [intOf]⟩
   ·have hC:=HTj.out hxy
    have hne:((x:Int) != (y:Int))=true:=by simp;omega
    have hne2:¬ (x:Int)=(y:Int):=by omega
    have HS:=Lib.hid fun wx => sign_any ((x:Int) - (y:Int)) wx
    rw [hC] at HS
    clear hC HEj HTj
    go_upto_region 4 with fail
    refine wp_region_later (by kernel_rfl) (by kernel_rfl) ?_
    repeat (go_big_quiet_step (fail))
    refine wpQuiet_nil ?_
    rintro w3 ⟨m2,hm2⟩
    have hb:Below wr.heap.size wr w3:=by rw [hm2];exact m2.2
    clear hm2 m2 la lb a b
    have HA3:=Lib.hid (HA.out.below hb HA.out.lt)
    have HG3:=Lib.hid (HG.out.below hb HG.out.lt)
    have HB3:=Lib.hid (HB.out.trans (hb.mono HB.out.size))
    clear hb HA HG HB
    have a:=HA3.out.cell j
    rw [wv_get9 _ _ _ hj,HX.out] at a
    have b:=HG3.out.cell j
    rw [wv_get9 _ _ _ hj,HY.out] at b
    have la:=Later.cell_of a
    have lb:=Later.cell_of b
    have hS:=fun m:Later w3 => Calls.later m (HS.out m.1)
    have e7:IntKind.i64.wrap ((x:Int) - (y:Int))=(x:Int) - (y:Int):=by rw [IntKind.wrap_i64];omega
    have e8:wrap64 ((x:Int) - (y:Int))=(x:Int) - (y:Int):=by unfold wrap64;omega
    go_upto_region 5 with fail
    refine wp_region_later (by kernel_rfl) (by kernel_rfl) ?_
    repeat (go_big_quiet_step (fail))
    go_big_quiet_step ((go_at_call 77;exact hS _))
    repeat (go_big_quiet_step (fail))
    refine wpQuiet_nil ?_
    rintro w4 ⟨m2,hm2⟩
    have hb:Below w3.heap.size w3 w4:=by rw [hm2];exact m2.2
    clear hm2 m2 la lb a b
    have HB4:=Lib.hid (HB3.out.trans (hb.mono HB3.out.size))
    clear hb HA3 HG3 HB3
    go_wp2_with fail
    go_ret
    exact ⟨rfl,HB4.out⟩
theorem lastOfA_any (six:Bool) (hi lo n:Nat) (w:World) (h1:U64N hi) (h2:U64N lo) (hn:n≤lenN six) :
  Calls Tryz.prog 99 #[vP six hi lo (n:Int)] w (Ret (vA six (fHi six hi n) (fLo six lo n)) w):=by
 have hln:=lenN_le six
 have HF:=Lib.hid fun wx => lastOf_any six hi lo n (lenN six - n) wx h1 h2 (by omega) (by omega) (by omega)
 have HW:=Lib.hid fun wx => wideAddr_any six (filF hi lo (lenN six - n)) wx (filF_lt hi lo _)
 rw [fil_lo hi lo _ h2,fil_hi hi lo _ h1, ← fHi_fil, ← fLo_fil] at HW
 generalize wv six (filF hi lo (lenN six - n))=WF at *
 generalize fHi six hi n=mh at *
 generalize fLo six lo n=ml at *
 unfold vA at HW ⊢
 unfold vP
 have HP':Blk ((w.alloc (.cells #[.bool six, .int .u64 (hi:Int), .int .u64 (lo:Int), .int .i64 (n:Int)] 30 (0,0))).alloc (.cells #[.bool false, .int .u64 0, .int .u64 0] 28 (0,0))) (w.heap.size) 30 #[.bool six, .int .u64 (hi:Int), .int .u64 (lo:Int), .int .i64 (n:Int)]:=by
  have this:=Blk.new w 30 #[.bool six, .int .u64 (hi:Int), .int .u64 (lo:Int), .int .i64 (n:Int)]
  exact (this.alloc _)
 have HP:=Lib.hid HP'
 clear HP'
 have HR':Blk ((w.alloc (.cells #[.bool six, .int .u64 (hi:Int), .int .u64 (lo:Int), .int .i64 (n:Int)] 30 (0,0))).alloc (.cells #[.bool false, .int .u64 0, .int .u64 0] 28 (0,0))) (w.heap.size + 1) 28 #[.bool false, .int .u64 0, .int .u64 0]:=by
  have this:=Blk.new (w.alloc (.cells #[.bool six, .int .u64 (hi:Int), .int .u64 (lo:Int), .int .i64 (n:Int)] 30 (0,0))) 28 #[.bool false, .int .u64 0, .int .u64 0]
  rw [World.size_alloc] at this
  exact this
 have HR:=Lib.hid HR'
 clear HR'
 have HB:Hid (Below w.heap.size w ((w.alloc (.cells #[.bool six, .int .u64 (hi:Int), .int .u64 (lo:Int), .int .i64 (n:Int)] 30 (0,0))).alloc (.cells #[.bool false, .int .u64 0, .int .u64 0] 28 (0,0)))):=Lib.hid (below_alloc (below_alloc (Below.refl _ _) _) _)
 go_enter Tryz.func99,Tryz.ntmps99
 go_upto_region 1 with fail
 generalize ((w.alloc (.cells #[.bool six, .int .u64 (hi:Int), .int .u64 (lo:Int), .int .i64 (n:Int)] 30 (0,0))).alloc (.cells #[.bool false, .int .u64 0, .int .u64 0] 28 (0,0)))=w1 at *
 have p0:=HP.out.cell 0
 have p1:=HP.out.cell 1
 have p2:=HP.out.cell 2
 have p3:=HP.out.cell 3
 simp at p0 p1 p2 p3
 go_wp2_with fail
 refine (HF.out _).mono ?_
 rintro e w2 ⟨rfl,hb⟩
 have HR2:=Lib.hid (HR.out.below hb HR.out.lt)
 have HB2:=Lib.hid (HB.out.trans (hb.mono HB.out.size))
 clear hb HR HB
 clear p0 p1 p2 p3 HF HP
 go_wp2_with fail
 refine (HW.out _).mono ?_
 rintro e w3 ⟨rfl,hb⟩
 have HR3:=Lib.hid (HR2.out.below hb HR2.out.lt)
 have HB3:=Lib.hid (HB2.out.trans (hb.mono HB2.out.size))
 clear hb HR2 HB2
 have r0:=HR3.out.cell 0
 have r1:=HR3.out.cell 1
 have r2:=HR3.out.cell 2
 have rf:=HR3.out.free
 simp at r0 r1 r2
 go_wp2_with fail
 refine bodyPost_ret (v:=.agg #[.bool six, .int .u64 (mh:Int), .int .u64 (ml:Int)]) (by simp [results,Tryz.results99,go_sem,r0,r1,r2]) rfl ⟨rfl,?_⟩
 repeat refine Below.setCell ?_ (by first | (simp;omega) | simp) _
 exact HB3.out
theorem holds_any (s:Bool) (h l n:Nat) (s2:Bool) (h2 l2:Nat) (w:World) (a1:U64N h) (a2:U64N l) (a3:U64N h2) (a4:U64N l2) (hn:n≤lenN s) :
  Calls Tryz.prog 98 #[vP s h l (n:Int),vA s2 h2 l2] w (Ret (.bool (holdsB s h l n s2 h2 l2)) w):=by
 have hln:=lenN_le s
 have HO1:=Lib.hid fun wx => of_any s h l wx a1 a2
 have HO2:=Lib.hid fun wx => of_any s2 h2 l2 wx a3 a4
 have HL:=Lib.hid fun wx => lastOf_any s h l n (lenN s - n) wx a1 a2 (by omega) (by omega) (by omega)
 have HC1:=Lib.hid fun wx => wideCmp_any s s2 (dg h l) (dg h2 l2) wx (dg_lt _ _) (dg_lt _ _)
 have HC2:=Lib.hid fun wx => wideCmp_any s2 s (dg h2 l2) (filF h l (lenN s - n)) wx (dg_lt _ _) (filF_lt h l _)
 rw [PW_num,PW_num,PS_dg_hi h l a1,PS_dg_lo h l a2,PS_dg_hi h2 l2 a3,PS_dg_lo h2 l2 a4] at HC1
 rw [PW_num,PW_num,PS_dg_hi h2 l2 a3,PS_dg_lo h2 l2 a4,fil_lo h l _ a2,fil_hi h l _ a1, ← fHi_fil, ← fLo_fil] at HC2
 rw [wCells_wv] at HO1 HO2
 have HZ:Hid (holdsB s h l n s2 h2 l2=(decide (cN (numA s h l) (numA s2 h2 l2)≤0) && decide (cN (numA s2 h2 l2) (numA s (fHi s h n) (fLo s l n))≤0))):=Lib.hid (by unfold holdsB;simp only [cN_le])
 generalize holdsB s h l n s2 h2 l2=Z at *
 generalize cN (numA s h l) (numA s2 h2 l2)=c1 at *
 generalize cN (numA s2 h2 l2) (numA s (fHi s h n) (fLo s l n))=c2 at *
 generalize wv s (dg h l)=X1 at *
 generalize wv s2 (dg h2 l2)=X2 at *
 generalize wv s (filF h l (lenN s - n))=X3 at *
 unfold vA at HO1 HO2 ⊢
 unfold vP
 have HP':Blk ((w.alloc (.cells #[.bool s, .int .u64 (h:Int), .int .u64 (l:Int), .int .i64 (n:Int)] 30 (0,0))).alloc (.cells #[.bool s2, .int .u64 (h2:Int), .int .u64 (l2:Int)] 28 (0,0))) (w.heap.size) 30 #[.bool s, .int .u64 (h:Int), .int .u64 (l:Int), .int .i64 (n:Int)]:=by
  have this:=Blk.new w 30 #[.bool s, .int .u64 (h:Int), .int .u64 (l:Int), .int .i64 (n:Int)]
  exact (this.alloc _)
 have HP:=Lib.hid HP'
 clear HP'
 have HA':Blk ((w.alloc (.cells #[.bool s, .int .u64 (h:Int), .int .u64 (l:Int), .int .i64 (n:Int)] 30 (0,0))).alloc (.cells #[.bool s2, .int .u64 (h2:Int), .int .u64 (l2:Int)] 28 (0,0))) (w.heap.size + 1) 28 #[.bool s2, .int .u64 (h2:Int), .int .u64 (l2:Int)]:=by
  have this:=Blk.new (w.alloc (.cells #[.bool s, .int .u64 (h:Int), .int .u64 (l:Int), .int .i64 (n:Int)] 30 (0,0))) 28 #[.bool s2, .int .u64 (h2:Int), .int .u64 (l2:Int)]
  rw [World.size_alloc] at this
  exact this
 have HA:=Lib.hid HA'
 clear HA'
 have HB:Hid (Below w.heap.size w ((w.alloc (.cells #[.bool s, .int .u64 (h:Int), .int .u64 (l:Int), .int .i64 (n:Int)] 30 (0,0))).alloc (.cells #[.bool s2, .int .u64 (h2:Int), .int .u64 (l2:Int)] 28 (0,0)))):=Lib.hid (below_alloc (below_alloc (Below.refl _ _) _) _)
 go_enter Tryz.func98,Tryz.ntmps98
 go_upto_region 1 with fail
 generalize ((w.alloc (.cells #[.bool s, .int .u64 (h:Int), .int .u64 (l:Int), .int .i64 (n:Int)] 30 (0,0))).alloc (.cells #[.bool s2, .int .u64 (h2:Int), .int .u64 (l2:Int)] 28 (0,0)))=w1 at *
 have p0:=HP.out.cell 0
 have p1:=HP.out.cell 1
 have p2:=HP.out.cell 2
 have p3:=HP.out.cell 3
 simp at p0 p1 p2 p3
 have a0:=HA.out.cell 0
 have a1:=HA.out.cell 1
 have a2:=HA.out.cell 2
 simp at a0 a1 a2
 have l0:=Later.cell_of p0
 have l1:=Later.cell_of p1
 have lx2:=Later.cell_of p2
 have l3:=Later.cell_of p3
 have k0:=Later.cell_of a0
 have k1:=Later.cell_of a1
 have k2:=Later.cell_of a2
 have hO1:=fun m:Later w1 => Calls.later m (HO1.out m.1)
 have hO2:=fun m:Later w1 => Calls.later m (HO2.out m.1)
 have hL:=fun m:Later w1 => Calls.later m (HL.out m.1)
 have hC1:=fun m:Later w1 => Calls.later m (HC1.out m.1)
 have hC2:=fun m:Later w1 => Calls.later m (HC2.out m.1)
 by_cases hc:c1≤0
 ·have hd:decide (c1≤0)=true:=decide_eq_true hc
  have hZ:=HZ.out
  rw [hd,Bool.true_and] at hZ
  subst hZ
  clear HZ
  refine wp_region_later (by kernel_rfl) (by kernel_rfl) ?_
  repeat (go_big_quiet_step (fail))
  go_big_quiet_step ((go_at_call 72;exact hO1 _))
  repeat (go_big_quiet_step (fail))
  go_big_quiet_step ((go_at_call 72;exact hO2 _))
  go_big_quiet_step ((go_at_call 133;exact hC1 _))
  repeat (go_big_quiet_step (fail))
  go_big_quiet_step ((go_at_call 72;exact hO2 _))
  repeat (go_big_quiet_step (fail))
  go_big_quiet_step ((go_at_call 134;exact hL _))
  go_big_quiet_step ((go_at_call 133;exact hC2 _))
  repeat (go_big_quiet_step (fail))
  refine wpQuiet_nil ?_
  rintro w2 ⟨m2,hm2⟩
  have hb:Below w1.heap.size w1 w2:=by rw [hm2];exact m2.2
  clear hm2 m2
  go_wp2_with fail
  go_ret
  exact ⟨rfl,HB.out.trans (hb.mono HB.out.size)⟩
 ·have hd:decide (c1≤0)=false:=decide_eq_false hc
  have hZ:=HZ.out
  rw [hd,Bool.false_and] at hZ
  subst hZ
  clear HZ
  refine wp_region_later (by kernel_rfl) (by kernel_rfl) ?_
  repeat (go_big_quiet_step (fail))
  go_big_quiet_step ((go_at_call 72;exact hO1 _))
  repeat (go_big_quiet_step (fail))
  go_big_quiet_step ((go_at_call 72;exact hO2 _))
  go_big_quiet_step ((go_at_call 133;exact hC1 _))
  repeat (go_big_quiet_step (fail))
  refine wpQuiet_nil ?_
  rintro w2 ⟨m2,hm2⟩
  have hb:Below w1.heap.size w1 w2:=by rw [hm2];exact m2.2
  clear hm2 m2
  go_wp2_with fail
  go_ret
  exact ⟨rfl,HB.out.trans (hb.mono HB.out.size)⟩
theorem within_any (s:Bool) (h l n:Nat) (s2:Bool) (h2 l2 m:Nat) (w:World) (a1:U64N h) (a2:U64N l) (a3:U64N h2) (a4:U64N l2) (hn:n≤lenN s) (hm:m≤lenN s2) :
  Calls Tryz.prog 39 #[vP s h l (n:Int),vP s2 h2 l2 (m:Int)] w (Ret (.bool (withinB s h l n s2 h2 l2 m)) w):=by
 have HH1:=Lib.hid fun wx => holds_any s2 h2 l2 m s h l wx a3 a4 a1 a2 hm
 have HL:=Lib.hid fun wx => lastOfA_any s h l n wx a1 a2 hn
 have HH2:=Lib.hid fun wx => holds_any s2 h2 l2 m s (fHi s h n) (fLo s l n) wx a3 a4 (fHi_lt s h n a1) (fLo_lt s l n a2) hm
 have HZ:Hid (withinB s h l n s2 h2 l2 m=(holdsB s2 h2 l2 m s h l && holdsB s2 h2 l2 m s (fHi s h n) (fLo s l n))):=Lib.hid rfl
 generalize withinB s h l n s2 h2 l2 m=Z at *
 generalize holdsB s2 h2 l2 m s h l=c1 at *
 generalize holdsB s2 h2 l2 m s (fHi s h n) (fLo s l n)=c2 at *
 generalize fHi s h n=fh at *
 generalize fLo s l n=fl at *
 unfold vA at HH1 HH2 HL
 unfold vP at HH1 HH2 HL ⊢
 have HP':Blk ((w.alloc (.cells #[.bool s, .int .u64 (h:Int), .int .u64 (l:Int), .int .i64 (n:Int)] 30 (0,0))).alloc (.cells #[.bool s2, .int .u64 (h2:Int), .int .u64 (l2:Int), .int .i64 (m:Int)] 30 (0,0))) (w.heap.size) 30 #[.bool s, .int .u64 (h:Int), .int .u64 (l:Int), .int .i64 (n:Int)]:=by
  have this:=Blk.new w 30 #[.bool s, .int .u64 (h:Int), .int .u64 (l:Int), .int .i64 (n:Int)]
  exact (this.alloc _)
 have HP:=Lib.hid HP'
 clear HP'
 have HA':Blk ((w.alloc (.cells #[.bool s, .int .u64 (h:Int), .int .u64 (l:Int), .int .i64 (n:Int)] 30 (0,0))).alloc (.cells #[.bool s2, .int .u64 (h2:Int), .int .u64 (l2:Int), .int .i64 (m:Int)] 30 (0,0))) (w.heap.size + 1) 30 #[.bool s2, .int .u64 (h2:Int), .int .u64 (l2:Int), .int .i64 (m:Int)]:=by
  have this:=Blk.new (w.alloc (.cells #[.bool s, .int .u64 (h:Int), .int .u64 (l:Int), .int .i64 (n:Int)] 30 (0,0))) 30 #[.bool s2, .int .u64 (h2:Int), .int .u64 (l2:Int), .int .i64 (m:Int)]
  rw [World.size_alloc] at this
  exact this
 have HA:=Lib.hid HA'
 clear HA'
 have HB:Hid (Below w.heap.size w ((w.alloc (.cells #[.bool s, .int .u64 (h:Int), .int .u64 (l:Int), .int .i64 (n:Int)] 30 (0,0))).alloc (.cells #[.bool s2, .int .u64 (h2:Int), .int .u64 (l2:Int), .int .i64 (m:Int)] 30 (0,0)))):=Lib.hid (below_alloc (below_alloc (Below.refl _ _) _) _)
 go_enter Tryz.func39,Tryz.ntmps39
 go_upto_region 1 with fail
 generalize ((w.alloc (.cells #[.bool s, .int .u64 (h:Int), .int .u64 (l:Int), .int .i64 (n:Int)] 30 (0,0))).alloc (.cells #[.bool s2, .int .u64 (h2:Int), .int .u64 (l2:Int), .int .i64 (m:Int)] 30 (0,0)))=w1 at *
 have p0:=HP.out.cell 0
 have p1:=HP.out.cell 1
 have p2:=HP.out.cell 2
 have p3:=HP.out.cell 3
 simp at p0 p1 p2 p3
 have a0:=HA.out.cell 0
 have a1:=HA.out.cell 1
 have a2:=HA.out.cell 2
 have a3:=HA.out.cell 3
 simp at a0 a1 a2 a3
 have l0:=Later.cell_of p0
 have l1:=Later.cell_of p1
 have lx2:=Later.cell_of p2
 have l3:=Later.cell_of p3
 have k0:=Later.cell_of a0
 have k1:=Later.cell_of a1
 have k2:=Later.cell_of a2
 have k3:=Later.cell_of a3
 have hH1:=fun m:Later w1 => Calls.later m (HH1.out m.1)
 have hH2:=fun m:Later w1 => Calls.later m (HH2.out m.1)
 have hL:=fun m:Later w1 => Calls.later m (HL.out m.1)
 cases c1
 ·have hZ:=HZ.out
  rw [Bool.false_and] at hZ
  subst hZ
  clear HZ
  refine wp_region_later (by kernel_rfl) (by kernel_rfl) ?_
  repeat (go_big_quiet_step (fail))
  go_big_quiet_step ((go_at_call 98;exact hH1 _))
  repeat (go_big_quiet_step (fail))
  refine wpQuiet_nil ?_
  rintro w2 ⟨m2,hm2⟩
  have hb:Below w1.heap.size w1 w2:=by rw [hm2];exact m2.2
  clear hm2 m2
  go_wp2_with fail
  go_ret
  exact ⟨rfl,HB.out.trans (hb.mono HB.out.size)⟩
 ·have hZ:=HZ.out
  rw [Bool.true_and] at hZ
  subst hZ
  clear HZ
  refine wp_region_later (by kernel_rfl) (by kernel_rfl) ?_
  repeat (go_big_quiet_step (fail))
  go_big_quiet_step ((go_at_call 98;exact hH1 _))
  repeat (go_big_quiet_step (fail))
  go_big_quiet_step ((go_at_call 99;exact hL _))
  go_big_quiet_step ((go_at_call 98;exact hH2 _))
  repeat (go_big_quiet_step (fail))
  refine wpQuiet_nil ?_
  rintro w2 ⟨m2,hm2⟩
  have hb:Below w1.heap.size w1 w2:=by rw [hm2];exact m2.2
  clear hm2 m2
  go_wp2_with fail
  go_ret
  exact ⟨rfl,HB.out.trans (hb.mono HB.out.size)⟩
theorem u64_le {x:Nat} (h:U64N x):0≤(x:Int)∧(x:Int)≤18446744073709551615:=by
 unfold U64N at h
 exact ⟨by omega,by omega⟩
theorem isNaNU_any (x:Int) (w:World):Calls Tryz.prog 181 #[.int .u64 x] w fun e w' => e=.returned (.bool false)∧w'=w:=by
 go_enter Tryz.func181,Tryz.ntmps181
 go_wp2
 go_ret
 exact ⟨by simp,rfl⟩
theorem cmpU64_any (a b:Nat) (w:World) (ha:U64N a) (hb:U64N b):Calls Tryz.prog 148 #[.int .u64 (a:Int), .int .u64 (b:Int)] w fun e w' => e=.returned (.int .i64 (cN a b))∧w'=w:=by
 have a1:=u64_le ha
 have b1:=u64_le hb
 clear ha hb
 have HN:=Lib.hid fun x wx => isNaNU_any x wx
 by_cases h1:a < b
 ·have e:cN a b=-1:=by unfold cN;rw [if_pos h1]
  rw [e]
  clear e
  go_enter Tryz.func148,Tryz.ntmps148
  go_wp2_with fail
  refine (HN.out _ _).mono ?_
  rintro e w' ⟨rfl,rfl⟩
  go_wp2_with fail
  refine (HN.out _ _).mono ?_
  rintro e w' ⟨rfl,rfl⟩
  go_wp2_with fail
  go_ret
  exact ⟨rfl,rfl⟩
 ·by_cases h2:b < a
  ·have e:cN a b=1:=by unfold cN;rw [if_neg h1,if_pos h2]
   rw [e]
   clear e
   go_enter Tryz.func148,Tryz.ntmps148
   go_wp2_with fail
   refine (HN.out _ _).mono ?_
   rintro e w' ⟨rfl,rfl⟩
   go_wp2_with fail
   refine (HN.out _ _).mono ?_
   rintro e w' ⟨rfl,rfl⟩
   go_wp2_with fail
   go_ret
   exact ⟨rfl,rfl⟩
  ·obtain rfl:a=b:=by omega
   rw [cN_same]
   clear h1 h2
   go_enter Tryz.func148,Tryz.ntmps148
   go_wp2_with fail
   refine (HN.out _ _).mono ?_
   rintro e w' ⟨rfl,rfl⟩
   go_wp2_with fail
   refine (HN.out _ _).mono ?_
   rintro e w' ⟨rfl,rfl⟩
   go_wp2_with fail
   go_ret
   exact ⟨rfl,rfl⟩
def orI (x y:Int):Int:=if x=0 then y else x
theorem cmpOr_any (x y:Int) (g c:Nat) (w:World) (h0:w.cell? ⟨g,0,none⟩=some (.int .i64 x)) (h1:w.cell? ⟨g,1,none⟩=some (.int .i64 y)) :
  Calls Tryz.prog 147 #[.slice (some ⟨g,0,none⟩) 2 c] w fun e w' => e=.returned (.int .i64 (orI x y))∧w'=w:=by
 by_cases hx:x=0
 ·subst hx
  have e:orI 0 y=y:=if_pos rfl
  rw [e]
  clear e
  by_cases hy:y=0
  ·subst hy
   go_enter Tryz.func147,Tryz.ntmps147
   go_wp2_with fail
   refine wp_loop_rounds 3 ?_
   rw [rounds_succ]
   go_wp2_with fail
   rw [rounds_succ]
   go_wp2_with fail
   rw [rounds_succ]
   go_wp2_with fail
   go_ret
   exact ⟨rfl,rfl⟩
  ·have hy2:(y != 0)=true:=by simpa using hy
   go_enter Tryz.func147,Tryz.ntmps147
   go_wp2_with fail
   refine wp_loop_rounds 2 ?_
   rw [rounds_succ]
   go_wp2_with fail
   rw [rounds_succ]
   go_wp2_with fail
   go_ret
   exact ⟨rfl,rfl⟩
 ·have e:orI x y=x:=if_neg hx
  rw [e]
  clear e
  have hx2:(x != 0)=true:=by simpa using hx
  go_enter Tryz.func147,Tryz.ntmps147
  go_wp2_with fail
  refine wp_loop_rounds 1 ?_
  rw [rounds_succ]
  go_wp2_with fail
  go_ret
  exact ⟨rfl,rfl⟩
theorem cN_lt {a b:Nat} (h:a < b):cN a b=-1:=by unfold cN;rw [if_pos h]
theorem cN_gt {a b:Nat} (h:b < a):cN a b=1:=by unfold cN;rw [if_neg (by omega),if_pos h]
theorem cN_lex (T M h l h2 l2:Nat) (a:l < M) (b:l2 < M):cN (T + h * M + l) (T + h2 * M + l2)=orI (cN h h2) (cN l l2):=by
 rcases Nat.lt_trichotomy h h2 with k | rfl | k
 ·have:=Nat.mul_le_mul_right M (Nat.succ_le_of_lt k)
  rw [Nat.succ_eq_add_one,Nat.add_mul,Nat.one_mul] at this
  rw [cN_lt (show T + h * M + l < T + h2 * M + l2 by omega),cN_lt k]
  rfl
 ·rw [cN_same]
  unfold orI
  rw [if_pos rfl]
  unfold cN
  by_cases h1:l < l2
  ·rw [if_pos h1,if_pos (by omega)]
  ·by_cases h2:l2 < l
   ·rw [if_neg h1,if_pos h2,if_neg (by omega),if_pos (by omega)]
   ·rw [if_neg h1,if_neg h2,if_neg (by omega),if_neg (by omega)]
 ·have:=Nat.mul_le_mul_right M (Nat.succ_le_of_lt k)
  rw [Nat.succ_eq_add_one,Nat.add_mul,Nat.one_mul] at this
  rw [cN_gt (show T + h2 * M + l2 < T + h * M + l by omega),cN_gt k]
  rfl
theorem cN_num {s:Bool} {h l h2 l2:Nat} (a2:U64N l) (a4:U64N l2):cN (numA s h l) (numA s h2 l2)=orI (cN h h2) (cN l l2):=by
 unfold numA
 exact cN_lex _ _ _ _ _ _ a2 a4
theorem cN_six {h l h2 l2:Nat} (a1:U64N h) (a2:U64N l):cN (numA false h l) (numA true h2 l2)=-1:=by
 unfold U64N at a1 a2
 unfold cN numA
 rw [if_pos]
 simp
 omega
theorem cN_six' {h l h2 l2:Nat} (a3:U64N h2) (a4:U64N l2):cN (numA true h l) (numA false h2 l2)=1:=by
 unfold U64N at a3 a4
 unfold cN numA
 rw [if_neg,if_pos]
 ·simp;omega
 ·simp;omega
theorem spanCompare_any (s1:Bool) (h1 l1:Nat) (s2:Bool) (h2 l2:Nat) (w:World) (a1:U64N h1) (a2:U64N l1) (a3:U64N h2) (a4:U64N l2) :
  Calls Tryz.prog 116 #[.agg #[.bool s1, .int .u64 (h1:Int), .int .u64 (l1:Int)], .agg #[.bool s2, .int .u64 (h2:Int), .int .u64 (l2:Int)]] w (Ret (.int .i64 (cN (numA s1 h1 l1) (numA s2 h2 l2))) w):=by
 have HP':Blk ((w.alloc (.cells #[.bool s1, .int .u64 (h1:Int), .int .u64 (l1:Int)] 28 (0,0))).alloc (.cells #[.bool s2, .int .u64 (h2:Int), .int .u64 (l2:Int)] 28 (0,0))) (w.heap.size) 28 #[.bool s1, .int .u64 (h1:Int), .int .u64 (l1:Int)] :=
  (Blk.new w 28 #[.bool s1, .int .u64 (h1:Int), .int .u64 (l1:Int)]).alloc _
 have HP:=Lib.hid HP'
 clear HP'
 have HQ':Blk ((w.alloc (.cells #[.bool s1, .int .u64 (h1:Int), .int .u64 (l1:Int)] 28 (0,0))).alloc (.cells #[.bool s2, .int .u64 (h2:Int), .int .u64 (l2:Int)] 28 (0,0))) (w.heap.size + 1) 28 #[.bool s2, .int .u64 (h2:Int), .int .u64 (l2:Int)]:=by
  have this:=Blk.new (w.alloc (.cells #[.bool s1, .int .u64 (h1:Int), .int .u64 (l1:Int)] 28 (0,0))) 28 #[.bool s2, .int .u64 (h2:Int), .int .u64 (l2:Int)]
  rw [World.size_alloc] at this
  exact this
 have HQ:=Lib.hid HQ'
 clear HQ'
 have HB:Hid (Below w.heap.size w ((w.alloc (.cells #[.bool s1, .int .u64 (h1:Int), .int .u64 (l1:Int)] 28 (0,0))).alloc (.cells #[.bool s2, .int .u64 (h2:Int), .int .u64 (l2:Int)] 28 (0,0)))):=Lib.hid (below_alloc (below_alloc (Below.refl _ _) _) _)
 by_cases hs:s1=s2
 ·subst hs
  have hC:=cN_num (s:=s1) (h:=h1) (h2:=h2) a2 a4
  rw [hC]
  clear hC
  have HC1:=Lib.hid fun wx => cmpU64_any h1 h2 wx a1 a3
  have HC2:=Lib.hid fun wx => cmpU64_any l1 l2 wx a2 a4
  generalize cN h1 h2=X at *
  generalize cN l1 l2=Y at *
  go_enter Tryz.func116,Tryz.ntmps116
  go_upto_region 1 with fail
  generalize ((w.alloc (.cells #[.bool s1, .int .u64 (h1:Int), .int .u64 (l1:Int)] 28 (0,0))).alloc (.cells #[.bool s1, .int .u64 (h2:Int), .int .u64 (l2:Int)] 28 (0,0)))=w1 at *
  have p0:=HP.out.cell 0
  have p1:=HP.out.cell 1
  have p2:=HP.out.cell 2
  simp at p0 p1 p2
  have q0:=HQ.out.cell 0
  have q1:=HQ.out.cell 1
  have q2:=HQ.out.cell 2
  simp at q0 q1 q2
  have hsz:w.heap.size + 1 < w1.heap.size:=HQ.out.lt
  go_upto_region 5 with fail
  have k1:=fun (m:Later w1) => m.cell (i:=1) (Nat.lt_of_succ_lt hsz)
  have k2:=fun (m:Later w1) => m.cell (i:=2) (Nat.lt_of_succ_lt hsz)
  have k3:=fun (m:Later w1) => m.cell (i:=1) hsz
  have k4:=fun (m:Later w1) => m.cell (i:=2) hsz
  refine wp_region_later_tail 10 (by kernel_rfl) (by kernel_rfl) ?_
  simp only [List.take_succ_cons,List.take_zero,List.drop_succ_cons,List.drop_zero]
  repeat (go_big_quiet_step (fail))
  go_big_quiet_step ((go_at_call 148;exact Calls.later_same _ ((HC1.out _).mono fun _ _ h => ⟨h.1,h.2.symm⟩)))
  repeat (go_big_quiet_step (fail))
  go_big_quiet_step ((go_at_call 148;exact Calls.later_same _ ((HC2.out _).mono fun _ _ h => ⟨h.1,h.2.symm⟩)))
  refine wpQuiet_nil ?_
  rintro w2 ⟨n2,hn2⟩
  subst hn2
  have HB2:=Lib.hid (HB.out.trans (n2.2.mono HB.out.size))
  obtain ⟨w2,hw2⟩:∃ w2,w2=n2.1:=⟨_,rfl⟩
  rw [← hw2] at HB2 ⊢
  clear hw2 k1 k2 k3 k4 p0 p1 p2 q0 q1 q2 HC1 HC2
  have HO:=Lib.hid fun wx g (h:Blk wx g 3 #[.int .i64 X, .int .i64 Y]) => cmpOr_any X Y g 2 wx ((h.cell 0).trans rfl) ((h.cell 1).trans rfl)
  go_wp2_with fail
  refine (HO.out _ _ (Blk.new w2 _ _)).mono ?_
  rintro e w3 ⟨rfl,rfl⟩
  go_wp2_with fail
  go_ret
  exact ⟨rfl,below_alloc HB2.out _⟩
 ·cases s1
  ·obtain rfl:s2=true:=by cases s2 with | true => rfl | false => exact absurd rfl hs
   rw [cN_six a1 a2]
   go_enter Tryz.func116,Tryz.ntmps116
   go_upto_region 1 with fail
   generalize ((w.alloc (.cells #[.bool false, .int .u64 (h1:Int), .int .u64 (l1:Int)] 28 (0,0))).alloc (.cells #[.bool true, .int .u64 (h2:Int), .int .u64 (l2:Int)] 28 (0,0)))=w1 at *
   have p0:=HP.out.cell 0
   simp at p0
   have q0:=HQ.out.cell 0
   simp at q0
   go_wp2_with fail
   go_ret
   exact ⟨rfl,HB.out⟩
  ·obtain rfl:s2=false:=by cases s2 with | false => rfl | true => exact absurd rfl hs
   rw [cN_six' a3 a4]
   go_enter Tryz.func116,Tryz.ntmps116
   go_upto_region 1 with fail
   generalize ((w.alloc (.cells #[.bool true, .int .u64 (h1:Int), .int .u64 (l1:Int)] 28 (0,0))).alloc (.cells #[.bool false, .int .u64 (h2:Int), .int .u64 (l2:Int)] 28 (0,0)))=w1 at *
   have p0:=HP.out.cell 0
   simp at p0
   have q0:=HQ.out.cell 0
   simp at q0
   go_wp2_with fail
   go_ret
   exact ⟨rfl,HB.out⟩
theorem aCompare_any (s1:Bool) (h1 l1:Nat) (s2:Bool) (h2 l2:Nat) (w:World) (a1:U64N h1) (a2:U64N l1) (a3:U64N h2) (a4:U64N l2) :
  Calls Tryz.prog 64 #[.agg #[.bool s1, .int .u64 (h1:Int), .int .u64 (l1:Int)], .agg #[.bool s2, .int .u64 (h2:Int), .int .u64 (l2:Int)]] w (Ret (.int .i64 (cN (numA s1 h1 l1) (numA s2 h2 l2))) w):=by
 have HP':Blk ((w.alloc (.cells #[.bool s1, .int .u64 (h1:Int), .int .u64 (l1:Int)] 28 (0,0))).alloc (.cells #[.bool s2, .int .u64 (h2:Int), .int .u64 (l2:Int)] 28 (0,0))) (w.heap.size) 28 #[.bool s1, .int .u64 (h1:Int), .int .u64 (l1:Int)] :=
  (Blk.new w 28 #[.bool s1, .int .u64 (h1:Int), .int .u64 (l1:Int)]).alloc _
 have HP:=Lib.hid HP'
 clear HP'
 have HQ':Blk ((w.alloc (.cells #[.bool s1, .int .u64 (h1:Int), .int .u64 (l1:Int)] 28 (0,0))).alloc (.cells #[.bool s2, .int .u64 (h2:Int), .int .u64 (l2:Int)] 28 (0,0))) (w.heap.size + 1) 28 #[.bool s2, .int .u64 (h2:Int), .int .u64 (l2:Int)]:=by
  have this:=Blk.new (w.alloc (.cells #[.bool s1, .int .u64 (h1:Int), .int .u64 (l1:Int)] 28 (0,0))) 28 #[.bool s2, .int .u64 (h2:Int), .int .u64 (l2:Int)]
  rw [World.size_alloc] at this
  exact this
 have HQ:=Lib.hid HQ'
 clear HQ'
 have HB:Hid (Below w.heap.size w ((w.alloc (.cells #[.bool s1, .int .u64 (h1:Int), .int .u64 (l1:Int)] 28 (0,0))).alloc (.cells #[.bool s2, .int .u64 (h2:Int), .int .u64 (l2:Int)] 28 (0,0)))):=Lib.hid (below_alloc (below_alloc (Below.refl _ _) _) _)
 have HC:=Lib.hid fun wx => spanCompare_any s1 h1 l1 s2 h2 l2 wx a1 a2 a3 a4
 generalize cN (numA s1 h1 l1) (numA s2 h2 l2)=C at *
 go_enter Tryz.func64,Tryz.ntmps64
 go_upto_region 1 with fail
 generalize ((w.alloc (.cells #[.bool s1, .int .u64 (h1:Int), .int .u64 (l1:Int)] 28 (0,0))).alloc (.cells #[.bool s2, .int .u64 (h2:Int), .int .u64 (l2:Int)] 28 (0,0)))=w1 at *
 have p0:=HP.out.cell 0
 have p1:=HP.out.cell 1
 have p2:=HP.out.cell 2
 simp at p0 p1 p2
 have q0:=HQ.out.cell 0
 have q1:=HQ.out.cell 1
 have q2:=HQ.out.cell 2
 simp at q0 q1 q2
 go_wp2_with fail
 refine (HC.out _).mono ?_
 rintro e w2 ⟨rfl,hb⟩
 go_wp2_with fail
 go_ret
 exact ⟨rfl,HB.out.trans (hb.mono HB.out.size)⟩
theorem PW_numA (six:Bool) (hi lo:Nat) (h1:U64N hi) (h2:U64N lo):PW (dv six (dg hi lo)) 9=numA six hi lo:=by
 rw [PW_num,PS_dg_hi _ _ h1,PS_dg_lo _ _ h2]
structure BelD (u v:World):Prop where
 b:Below u.heap.size u v
 d:u.drawn≤v.drawn
theorem BelD.refl (u:World):BelD u u:=⟨Below.refl _ _,Nat.le_refl _⟩
theorem BelD.trans {u v w:World} (h:BelD u v) (k:BelD v w):BelD u w:=⟨h.b.trans (k.b.mono h.b.size),Nat.le_trans h.d k.d⟩
theorem BelD.alloc {u v:World} (h:BelD u v) (o:Obj):BelD u (v.alloc o):=⟨below_alloc h.b o,h.d⟩
theorem BelD.drewN {u v:World} (h:BelD u v) (n:Nat):BelD u (v.drewN n):=⟨below_drewN h.b n,Nat.le_trans h.d (Nat.le_add_right _ _)⟩
theorem BelD.drew {u v:World} (h:BelD u v):BelD u v.drew:=h.drewN 1
theorem BelD.grow {u v:World} (h:BelD u v):∃ q os,v=Sort.grow (u.drewN q) os:=by
 obtain ⟨hos,htape,hout,hsize,hblock⟩:=h.b
 have hd:=h.d
 refine ⟨v.drawn - u.drawn,v.heap.extract u.heap.size v.heap.size,?_⟩
 obtain ⟨vh,vt,vd,vo,vp⟩:=v
 obtain ⟨uh,ut,ud,uo,up⟩:=u
 simp only at hos htape hout hsize hblock hd
 subst hos htape hout
 have e1:ud + (vd - ud)=vd:=by omega
 have e2:uh ++ vh.extract uh.size vh.size=vh:=by
  apply Array.ext_getElem?
  intro i
  rcases Nat.lt_or_ge i uh.size with hi | hi
  ·rw [Array.getElem?_append_left hi];exact (hblock i hi).symm
  ·rw [Array.getElem?_append_right hi,Array.getElem?_extract]
   rcases Nat.lt_or_ge i vh.size with h2 | h2
   ·rw [if_pos (by omega),show uh.size + (i - uh.size)=i by omega]
   ·rw [if_neg (by omega),Array.getElem?_eq_none h2]
 show (⟨vh,vt,vd,vo,vp⟩:World)=⟨uh ++ vh.extract uh.size vh.size,vt,ud + (vd - ud),vo,vp⟩
 rw [e1,e2]
def RetD (v:Value) (w:World) (e:Ending) (w':World):Prop:=e=.returned v∧BelD w w'
theorem RetD.ret {v:Value} {w:World} {e:Ending} {w':World} (h:RetD v w e w'):Ret v w e w':=⟨h.1,h.2.b⟩
def LaterD (W:World):Type:={ w':World // BelD W w' }
instance (W:World):Inhabited (LaterD W):=⟨⟨W,BelD.refl _⟩⟩
theorem LaterD.cell_of {W:World} {B i:Nat} {v:Value} (h:W.cell? ⟨B,i,none⟩=some v) (n:LaterD W):n.1.cell? ⟨B,i,none⟩=some v:=Later.cell_of h ⟨n.1,n.2.b⟩
theorem Calls.laterD {P:Program} {f:FuncId} {args:Array Value} {W:World} {v:Value} (n:LaterD W) (h:Calls P f args n.1 (RetD v n.1)) :
  Calls P f args n.1 fun e w'' => e=.returned v∧∃ m:LaterD W,w''=m.1 :=
 h.mono fun _ w'' ⟨he,hb⟩ => ⟨he,⟨w'',n.2.trans hb⟩,rfl⟩
theorem wp_region_laterD {P:Program} {id:Nat} {Q:Exit→Act→World→Prop} {a:Act} {W:World} {l:List Oper} (hm:P.follows .mixedOrders=true) (hB:Region.lexB .any l.toArray=true)
  (h:wpQuiet P l.toArray (fun w' => ∃ n:LaterD W,w'=n.1) (fun a' => ∀ w',(∃ n:LaterD W,w'=n.1)→Q .normal a' w') l a):(Code.region id l.toArray true).wp P Q a W :=
 wp_region_quiet (C:=fun w' => ∃ n:LaterD W,w'=n.1) hm hB ⟨⟨W.drew,(BelD.refl W).drew⟩,rfl⟩ (by simpa using h)
theorem wp_region_laterD_tail {P:Program} {id:Nat} {Q:Exit→Act→World→Prop} {a:Act} {W:World} {l:List Oper} (n:Nat) (hm:P.follows .mixedOrders=true) (hB:Region.lexTailB .any l.toArray n=true)
  (h:wpQuiet P l.toArray (fun w' => ∃ m:LaterD W,w'=m.1) (fun a' => ∀ w',(∃ m:LaterD W,w'=m.1)→wpList P l.toArray Q (l.drop n) a' w') (l.take n) a):(Code.region id l.toArray true).wp P Q a W:=by
 simp only [Region.lexTailB,Bool.and_eq_true,decide_eq_true_eq] at hB
 obtain ⟨⟨⟨⟨hsel,hn⟩,hs⟩,hc⟩,hlex⟩:=hB
 have hn':n < l.length:=by simpa using hn
 have htl:(l.take n).length=n:=by simp;omega
 have hdl:(l.drop n).length=l.toArray.size - n:=by simp
 have inv0:HeadInv .any l.toArray n (Array.replicate l.toArray.size false) :=
  ⟨by simp,fun j oj _ hl => (by rw [getD_replicate_false] at hl;cases hl),fun t _ ht => getD_in (by simpa using ht) (getD_replicate_false _ _)⟩
 have H:=QL_lex (md:=.any) (g:=l.toArray.size - n) hsel hs hc hn (l.take n) 0 _ a (fun j hj => by
  have hj':j < n:=by rw [htl] at hj;exact hj
  simp [hj']) (by simpa using htl) inv0 (by rw [htl];exact hlex) h
 refine wp_region_any hm ?_
 have:=any_of_QL (Q':=Q) (g:=l.toArray.size - n) (fun listed a' w' hw' hL => by
  have:=wpAny_of_seq (md:=.any) (Q':=Q) (l.drop n) n listed a' w' (fun j => by simp [List.getElem?_drop]) (by rw [hdl];exact hL.1) (hL.2 w' hw')
  rwa [hdl] at this) _ _ _ { W with drawn:=W.drawn + 1 } ⟨⟨W.drew,(BelD.refl W).drew⟩,rfl⟩ H
 rw [htl,show n + (l.toArray.size - n)=l.toArray.size by omega] at this
 exact this
def wd (f:Nat→Nat):Array Value:=#[.int .i64 ((f 0:Nat):Int), .int .i64 ((f 1:Nat):Int), .int .i64 ((f 2:Nat):Int), .int .i64 ((f 3:Nat):Int), .int .i64 ((f 4:Nat):Int), .int .i64 ((f 5:Nat):Int), .int .i64 ((f 6:Nat):Int), .int .i64 ((f 7:Nat):Int), .int .i64 ((f 8:Nat):Int)]
theorem wd_get (f:Nat→Nat) (d:Nat) (h:d < 9):(wd f)[d]?=some (.int .i64 ((f d:Nat):Int)):=by
 have:d=0 ∨ d=1 ∨ d=2 ∨ d=3 ∨ d=4 ∨ d=5 ∨ d=6 ∨ d=7 ∨ d=8:=by omega
 rcases this with rfl | rfl | rfl | rfl | rfl | rfl | rfl | rfl | rfl <;> rfl
theorem wv_wd (six:Bool) (f:Nat→Nat):wv six f=wd (dv six f):=by cases six <;> rfl
theorem signD_any (x:Int) (w:World):Calls Tryz.prog 77 #[.int .i64 x] w (RetD (.int .i64 (sgn x)) w):=by
 by_cases h1:x < 0
 ·have e:sgn x=-1:=if_pos h1
  rw [e]
  go_enter Tryz.func77,Tryz.ntmps77
  go_wp2
  go_ret
  exact ⟨rfl,BelD.refl _⟩
 ·by_cases h2:x > 0
  ·have e:sgn x=1:=by unfold sgn;rw [if_neg h1,if_pos h2]
   rw [e]
   go_enter Tryz.func77,Tryz.ntmps77
   go_wp2
   go_ret
   exact ⟨rfl,BelD.refl _⟩
  ·have e:sgn x=0:=by unfold sgn;rw [if_neg h1,if_neg h2]
   rw [e]
   go_enter Tryz.func77,Tryz.ntmps77
   go_wp2
   go_ret
   exact ⟨rfl,BelD.refl _⟩
theorem wideCmpD_any (f g:Nat→Nat) (w:World) (hf:∀ d,f d < 65536) (hg:∀ d,g d < 65536) :
  Calls Tryz.prog 133 #[.agg (wd f), .agg (wd g)] w (RetD (.int .i64 (cN (PW f 9) (PW g 9))) w):=by
 have HT:Hid (∀ i,i < 9→(∀ j,i < j→j < 9→f j=g j)→f i ≠ g i→sgn (((f i:Nat):Int) - ((g i:Nat):Int))=cN (PW f 9) (PW g 9)):=Lib.hid fun i hi hab hne => by
  rw [cmp_top hf hg hi hab hne]
  unfold sgn
  by_cases h:f i < g i
  ·rw [if_pos h,if_pos (by omega)]
  ·rw [if_neg h,if_neg (by omega),if_pos (by omega)]
 have HS0:Hid ((∀ j,j < 9→f j=g j)→cN (PW f 9) (PW g 9)=0):=Lib.hid cmp_same
 have HF:=Lib.hid hf
 have HH:=Lib.hid hg
 clear hf hg
 generalize cN (PW f 9) (PW g 9)=C at *
 have hsz:=Tryz.sizeOf101
 have HA':Blk ((w.alloc (.cells (wd f) 101 (0,0))).alloc (.cells (wd g) 101 (0,0))) (w.heap.size) 101 (wd f):=by
  have this:=Blk.new w 101 (wd f)
  exact (this.alloc _)
 have HA:=Lib.hid HA'
 clear HA'
 have HG':Blk ((w.alloc (.cells (wd f) 101 (0,0))).alloc (.cells (wd g) 101 (0,0))) (w.heap.size + 1) 101 (wd g):=by
  have this:=Blk.new (w.alloc (.cells (wd f) 101 (0,0))) 101 (wd g)
  rw [World.size_alloc] at this
  exact this
 have HG:=Lib.hid HG'
 clear HG'
 have HB:Hid (BelD w ((w.alloc (.cells (wd f) 101 (0,0))).alloc (.cells (wd g) 101 (0,0)))):=Lib.hid (((BelD.refl _).alloc _).alloc _)
 go_enter Tryz.func133,Tryz.ntmps133
 go_upto_region 1 with fail
 generalize ((w.alloc (.cells (wd f) 101 (0,0))).alloc (.cells (wd g) 101 (0,0)))=w1 at *
 go_wp2_with fail
 go_loopw [5] (fun i wr => ∃ k:Nat,k≤9∧i=.int .i64 ((k:Int) - 1)∧Hid (∀ j,k≤j→j < 9→f j=g j)∧Hid (Blk wr (w.heap.size) 101 (wd f))∧Hid (Blk wr (w.heap.size + 1) 101 (wd g))∧Hid (BelD w wr)) (fun i _ => (intOf i + 1).toNat)
 case atStart => exact ⟨9,Nat.le_refl _,rfl,Lib.hid fun j h1 h2 => by omega,HA,HG,HB⟩
 case round =>
  clear HA HG HB
  obtain ⟨k,hk,rfl,HE,HA,HG,HB⟩:=hrel
  by_cases hk0:k=0
  ·subst hk0
   have hC:=HS0.out fun j hj => HE.out j (Nat.zero_le _) hj
   have e0:(((0:Nat):Int) - 1)=-1:=by omega
   rw [e0]
   subst hC
   clear HT HS0 HF HH HE
   go_wp2_with fail
   go_ret
   exact ⟨rfl,HB.out⟩
  ·obtain ⟨j,rfl⟩:∃ j,k=j + 1:=⟨k - 1,by omega⟩
   have ej:(((j + 1:Nat):Int) - 1)=(j:Int):=by omega
   rw [ej]
   have hj:j < 9:=by omega
   have a:=HA.out.cell j
   rw [wd_get _ _ hj] at a
   have b:=HG.out.cell j
   rw [wd_get _ _ hj] at b
   have hx:=HF.out j
   have hy:=HH.out j
   have HTj:=Lib.hid (HT.out j hj fun i h1 h2 => HE.out i (by omega) h2)
   have HEj:Hid (f j=g j→∀ i,j≤i→i < 9→f i=g i):=Lib.hid fun e i h1 h2 => by
    rcases Nat.eq_or_lt_of_le h1 with h | h
    ·subst h;exact e
    ·exact HE.out i h h2
   clear HT HS0 HE HF HH
   generalize hxx:f j=x at *
   generalize hyy:g j=y at *
   have HX:=Lib.hid hxx
   have HY:=Lib.hid hyy
   clear hxx hyy
   have la:=LaterD.cell_of a
   have lb:=LaterD.cell_of b
   have b1:(0:Int)≤(j:Int):=by omega
   have b2:(j:Int) < 9:=by omega
   by_cases hxy:x=y
   ·have HE2:=Lib.hid (HEj.out hxy)
    subst hxy
    clear HEj HTj
    go_upto_region 4 with fail
    refine wp_region_laterD (by kernel_rfl) (by kernel_rfl) ?_
    repeat (go_big_quiet_step (fail))
    refine wpQuiet_nil ?_
    rintro w3 ⟨m2,hm2⟩
    have hb:BelD wr w3:=by rw [hm2];exact m2.2
    clear hm2 m2 la lb a b
    have HA3:=Lib.hid (HA.out.below hb.b HA.out.lt)
    have HG3:=Lib.hid (HG.out.below hb.b HG.out.lt)
    have HB3:=Lib.hid (HB.out.trans hb)
    clear hb HA HG HB
    go_wp2_with fail
    exact ⟨⟨j,by omega,by go_num,HE2,HA3,HG3,HB3⟩,by simp [intOf]⟩
   ·have hC:=HTj.out hxy
    have hne:((x:Int) != (y:Int))=true:=by simp;omega
    have hne2:¬ (x:Int)=(y:Int):=by omega
    have HS:=Lib.hid fun wx => signD_any ((x:Int) - (y:Int)) wx
    rw [hC] at HS
    clear hC HEj HTj
    go_upto_region 4 with fail
    refine wp_region_laterD (by kernel_rfl) (by kernel_rfl) ?_
    repeat (go_big_quiet_step (fail))
    refine wpQuiet_nil ?_
    rintro w3 ⟨m2,hm2⟩
    have hb:BelD wr w3:=by rw [hm2];exact m2.2
    clear hm2 m2 la lb a b
    have HA3:=Lib.hid (HA.out.below hb.b HA.out.lt)
    have HG3:=Lib.hid (HG.out.below hb.b HG.out.lt)
    have HB3:=Lib.hid (HB.out.trans hb)
    clear hb HA HG HB
    have a:=HA3.out.cell j
    rw [wd_get _ _ hj,HX.out] at a
    have b:=HG3.out.cell j
    rw [wd_get _ _ hj,HY.out] at b
    have la:=LaterD.cell_of a
    have lb:=LaterD.cell_of b
    have hS:=fun m:LaterD w3 => Calls.laterD m (HS.out m.1)
    have e7:IntKind.i64.wrap ((x:Int) - (y:Int))=(x:Int) - (y:Int):=by rw [IntKind.wrap_i64];omega
    have e8:wrap64 ((x:Int) - (y:Int))=(x:Int) - (y:Int):=by unfold wrap64;omega
    go_upto_region 5 with fail
    refine wp_region_laterD (by kernel_rfl) (by kernel_rfl) ?_
    repeat (go_big_quiet_step (fail))
    go_big_quiet_step ((go_at_call 77;exact hS _))
    repeat (go_big_quiet_step (fail))
    refine wpQuiet_nil ?_
    rintro w4 ⟨m2,hm2⟩
    have hb:BelD w3 w4:=by rw [hm2];exact m2.2
    clear hm2 m2 la lb a b
    have HB4:=Lib.hid (HB3.out.trans hb)
    clear hb HA3 HG3 HB3
    go_wp2_with fail
    go_ret
    exact ⟨rfl,HB4.out⟩
theorem spanCompareD_any (s1:Bool) (h1 l1:Nat) (s2:Bool) (h2 l2:Nat) (w:World) (a1:U64N h1) (a2:U64N l1) (a3:U64N h2) (a4:U64N l2) :
  Calls Tryz.prog 116 #[.agg #[.bool s1, .int .u64 (h1:Int), .int .u64 (l1:Int)], .agg #[.bool s2, .int .u64 (h2:Int), .int .u64 (l2:Int)]] w (RetD (.int .i64 (cN (numA s1 h1 l1) (numA s2 h2 l2))) w):=by
 have HP':Blk ((w.alloc (.cells #[.bool s1, .int .u64 (h1:Int), .int .u64 (l1:Int)] 28 (0,0))).alloc (.cells #[.bool s2, .int .u64 (h2:Int), .int .u64 (l2:Int)] 28 (0,0))) (w.heap.size) 28 #[.bool s1, .int .u64 (h1:Int), .int .u64 (l1:Int)] :=
  (Blk.new w 28 #[.bool s1, .int .u64 (h1:Int), .int .u64 (l1:Int)]).alloc _
 have HP:=Lib.hid HP'
 clear HP'
 have HQ':Blk ((w.alloc (.cells #[.bool s1, .int .u64 (h1:Int), .int .u64 (l1:Int)] 28 (0,0))).alloc (.cells #[.bool s2, .int .u64 (h2:Int), .int .u64 (l2:Int)] 28 (0,0))) (w.heap.size + 1) 28 #[.bool s2, .int .u64 (h2:Int), .int .u64 (l2:Int)]:=by
  have this:=Blk.new (w.alloc (.cells #[.bool s1, .int .u64 (h1:Int), .int .u64 (l1:Int)] 28 (0,0))) 28 #[.bool s2, .int .u64 (h2:Int), .int .u64 (l2:Int)]
  rw [World.size_alloc] at this
  exact this
 have HQ:=Lib.hid HQ'
 clear HQ'
 have HB:Hid (BelD w ((w.alloc (.cells #[.bool s1, .int .u64 (h1:Int), .int .u64 (l1:Int)] 28 (0,0))).alloc (.cells #[.bool s2, .int .u64 (h2:Int), .int .u64 (l2:Int)] 28 (0,0)))):=Lib.hid (((BelD.refl _).alloc _).alloc _)
 by_cases hs:s1=s2
 ·subst hs
  have hC:=cN_num (s:=s1) (h:=h1) (h2:=h2) a2 a4
  rw [hC]
  clear hC
  have HC1:=Lib.hid fun wx => cmpU64_any h1 h2 wx a1 a3
  have HC2:=Lib.hid fun wx => cmpU64_any l1 l2 wx a2 a4
  generalize cN h1 h2=X at *
  generalize cN l1 l2=Y at *
  go_enter Tryz.func116,Tryz.ntmps116
  go_upto_region 1 with fail
  generalize ((w.alloc (.cells #[.bool s1, .int .u64 (h1:Int), .int .u64 (l1:Int)] 28 (0,0))).alloc (.cells #[.bool s1, .int .u64 (h2:Int), .int .u64 (l2:Int)] 28 (0,0)))=w1 at *
  have p0:=HP.out.cell 0
  have p1:=HP.out.cell 1
  have p2:=HP.out.cell 2
  simp at p0 p1 p2
  have q0:=HQ.out.cell 0
  have q1:=HQ.out.cell 1
  have q2:=HQ.out.cell 2
  simp at q0 q1 q2
  have hsz:w.heap.size + 1 < w1.heap.size:=HQ.out.lt
  go_upto_region 5 with fail
  have k1:=fun (m:LaterD w1) => Later.cell (W:=w1) ⟨m.1,m.2.b⟩ (i:=1) (Nat.lt_of_succ_lt hsz)
  have k2:=fun (m:LaterD w1) => Later.cell (W:=w1) ⟨m.1,m.2.b⟩ (i:=2) (Nat.lt_of_succ_lt hsz)
  have k3:=fun (m:LaterD w1) => Later.cell (W:=w1) ⟨m.1,m.2.b⟩ (i:=1) hsz
  have k4:=fun (m:LaterD w1) => Later.cell (W:=w1) ⟨m.1,m.2.b⟩ (i:=2) hsz
  refine wp_region_laterD_tail 10 (by kernel_rfl) (by kernel_rfl) ?_
  simp only [List.take_succ_cons,List.take_zero,List.drop_succ_cons,List.drop_zero]
  repeat (go_big_quiet_step (fail))
  go_big_quiet_step ((go_at_call 148;exact (HC1.out _).mono fun _ _ h => ⟨h.1,_,h.2⟩))
  repeat (go_big_quiet_step (fail))
  go_big_quiet_step ((go_at_call 148;exact (HC2.out _).mono fun _ _ h => ⟨h.1,_,h.2⟩))
  refine wpQuiet_nil ?_
  rintro w2 ⟨n2,hn2⟩
  subst hn2
  have HB2:=Lib.hid (HB.out.trans n2.2)
  obtain ⟨w2,hw2⟩:∃ w2,w2=n2.1:=⟨_,rfl⟩
  rw [← hw2] at HB2 ⊢
  clear hw2 k1 k2 k3 k4 p0 p1 p2 q0 q1 q2 HC1 HC2
  have HO:=Lib.hid fun wx g (h:Blk wx g 3 #[.int .i64 X, .int .i64 Y]) => cmpOr_any X Y g 2 wx ((h.cell 0).trans rfl) ((h.cell 1).trans rfl)
  go_wp2_with fail
  refine (HO.out _ _ (Blk.new w2 _ _)).mono ?_
  rintro e w3 ⟨rfl,rfl⟩
  go_wp2_with fail
  go_ret
  exact ⟨rfl,HB2.out.alloc _⟩
 ·cases s1
  ·obtain rfl:s2=true:=by cases s2 with | true => rfl | false => exact absurd rfl hs
   rw [cN_six a1 a2]
   go_enter Tryz.func116,Tryz.ntmps116
   go_upto_region 1 with fail
   generalize ((w.alloc (.cells #[.bool false, .int .u64 (h1:Int), .int .u64 (l1:Int)] 28 (0,0))).alloc (.cells #[.bool true, .int .u64 (h2:Int), .int .u64 (l2:Int)] 28 (0,0)))=w1 at *
   have p0:=HP.out.cell 0
   simp at p0
   have q0:=HQ.out.cell 0
   simp at q0
   go_wp2_with fail
   go_ret
   exact ⟨rfl,HB.out⟩
  ·obtain rfl:s2=false:=by cases s2 with | false => rfl | true => exact absurd rfl hs
   rw [cN_six' a3 a4]
   go_enter Tryz.func116,Tryz.ntmps116
   go_upto_region 1 with fail
   generalize ((w.alloc (.cells #[.bool true, .int .u64 (h1:Int), .int .u64 (l1:Int)] 28 (0,0))).alloc (.cells #[.bool false, .int .u64 (h2:Int), .int .u64 (l2:Int)] 28 (0,0)))=w1 at *
   have p0:=HP.out.cell 0
   simp at p0
   have q0:=HQ.out.cell 0
   simp at q0
   go_wp2_with fail
   go_ret
   exact ⟨rfl,HB.out⟩
structure EI (P:Program) (t e:TypeId) (size bytes:Nat):Prop where
 ht:P.underlying t=some (.slice e)
 hi:∃ i z,P.info? e=some i∧i.zero=some z∧i.size=size∧i.bytes=bytes∧z.cells.size=size
 hsz:0 < size
theorem EI.mk' {P:Program} {t e:TypeId} {size bytes:Nat} {z:Value} (ht:P.underlying t=some (.slice e)) (h:(P.info? e).map (fun i => (i.zero,i.size,i.bytes))=some (some z,size,bytes)) (hz:z.cells.size=size) (hsz:0 < size):EI P t e size bytes:=by
 obtain ⟨i,h0,h1,h2,h3⟩:=info_parts h
 exact ⟨ht,⟨i,z,h0,h1,h2,h3,hz⟩,hsz⟩
def Src (w:World) (ad:Option Addr) (m size:Nat) (news:List Value):Prop :=
 news.length=m * size∧∀ j u,news[j]?=some u→∃ a,ad=some a∧a.block < w.heap.size∧w.cell? (a.add j)=some u
structure Grew (w w':World) (v v':Value):Prop where
 g:w.grownBy w' v.ownBlock
 o:v'.ownBlock=v.ownBlock ∨ ∃ k,v'.ownBlock=some k∧w.heap.size≤k
theorem Grew.refl (w:World) (v:Value):Grew w w v v:=⟨World.grownBy.refl w _, .inl rfl⟩
theorem Grew.allocFirst {a b:World} {u v:Value} {o:Obj} (h:Grew (a.alloc o) b u v):Grew a b u v:=by
 refine ⟨(World.grownBy_alloc a o _).trans h.g,?_⟩
 rcases h.o with e | ⟨k,e,hk⟩
 ·exact .inl e
 ·exact .inr ⟨k,e,by simp at hk;omega⟩
theorem Grew.below {a b:World} {u v:Value} {B:Nat} (h:Grew a b u v) (hB:B≤a.heap.size) (hu:∀ k,u.ownBlock=some k→B≤k):Below B a b :=
 (Below.refl B a).grown h.g hB hu
theorem own_form {w:World} {base:Nat} {e:TypeId} {size:Nat} {v:Value} {n:Nat} {xs:List Value} (h:w.ownsRow base e size v n xs):∃ ad c,v=.slice ad n c∧Src w ad n size xs∧n≤c∧c≤maxLen:=by
 rcases h.2 with ⟨rfl,rfl⟩ | ⟨g,cap,cur,rfl,hb,hg,hn,hc,hs,ht⟩
 ·have hx:xs=[]:=List.eq_nil_of_length_eq_zero (by simpa using h.1)
  subst hx
  exact ⟨none,0,rfl,⟨by simp,fun j u hu => by simp at hu⟩,Nat.le_refl _,by unfold maxLen;omega⟩
 ·exact ⟨_,cap,rfl,⟨h.1,fun j u hu => ⟨_,rfl,lt_of_block hg,h.cells (g:=g) rfl j u hu⟩⟩,hn,hc⟩
theorem own_base {w:World} {base:Nat} {e:TypeId} {size:Nat} {v:Value} {n:Nat} {xs:List Value} (h:w.ownsRow base e size v n xs):∀ k,v.ownBlock=some k→base≤k:=fun k hk => (h.lt k hk).1
theorem own_lt {w:World} {base:Nat} {e:TypeId} {size:Nat} {v:Value} {n:Nat} {xs:List Value} (h:w.ownsRow base e size v n xs):∀ k,v.ownBlock=some k→k < w.heap.size:=fun k hk => (h.lt k hk).2
theorem own_weak {w:World} {base base':Nat} {e:TypeId} {size:Nat} {v:Value} {n:Nat} {xs:List Value} (h:w.ownsRow base e size v n xs) (hb:base'≤base):w.ownsRow base' e size v n xs:=by
 refine ⟨h.1,?_⟩
 rcases h.2 with h2 | ⟨g,cap,cur,hv,hg,r⟩
 ·exact .inl h2
 ·exact .inr ⟨g,cap,cur,hv,Nat.le_trans hb hg,r⟩
theorem own_below {w w':World} {base B:Nat} {e:TypeId} {size:Nat} {v:Value} {n:Nat} {xs:List Value} (h:w.ownsRow base e size v n xs) (hb:Below B w w') (hB:∀ k,v.ownBlock=some k→k < B):w'.ownsRow base e size v n xs:=by
 refine ⟨h.1,?_⟩
 rcases h.2 with h2 | ⟨g,cap,cur,rfl,hg,hh,r⟩
 ·exact .inl h2
 ·exact .inr ⟨g,cap,cur,rfl,hg,(hb.block g (hB g rfl)).trans hh,r⟩
theorem own_later {w w':World} {base:Nat} {e:TypeId} {size:Nat} {v:Value} {n:Nat} {xs:List Value} (h:w.ownsRow base e size v n xs) (hb:Below w.heap.size w w'):w'.ownsRow base e size v n xs:=own_below h hb fun k hk => own_lt h k hk
theorem src_later {w w':World} {ad:Option Addr} {m size:Nat} {news:List Value} (h:Src w ad m size news) (hb:Below w.heap.size w w'):Src w' ad m size news :=
 ⟨h.1,fun j u hu => by
  obtain ⟨a,e,hlt,hc⟩:=h.2 j u hu
  have hlt':(a.add j).block < w.heap.size:=by unfold Addr.add;split <;> exact hlt
  exact ⟨a,e,Nat.lt_of_lt_of_le hlt hb.size,(hb.cell hlt').trans hc⟩⟩
section
variable {P:Program}
theorem run_append_src {t e:TypeId} {size bytes:Nat} (E:EI P t e size bytes) (w:World) (base:Nat) (ty:TypeId) (v:Value) (n:Nat) (xs:List Value) (hown:w.ownsRow base e size v n xs)
  (ad:Option Addr) (m c:Nat) (news:List Value) (hsrc:Src w ad m size news) (h1:∀ u ∈ news,u.oneCell'=true)
  (h63:n + m≤maxLen) (hbytes:(n + m) * bytes≤140737488355328) (hbase:base≤w.heap.size) :
  ∃ v' w',(Builtin.append_ #[t,t] ty #[v, .slice ad m c]).run P w=.ok v' w'∧w'.ownsRow base e size v' (n + m) (xs ++ news)∧Grew w w' v v':=by
 obtain ⟨ht,⟨i,z,hi,hz,hs,hb,hzs⟩,hsz⟩:=E
 cases ad with
 | some a =>
   have hcells:∀ j u,news[j]?=some u→w.cell? (a.add j)=some u:=fun j u hu => by
    obtain ⟨a',e,_,hc⟩:=hsrc.2 j u hu
    injection e with e;subst e;exact hc
   obtain ⟨v',w',hr,h2,h3,_,h5⟩:=run_append_own_at (P:=P) w base t ty e i z size bytes ht hi hz hs hb hzs hsz v n xs hown a m c news hsrc.1 hcells h1 h63 hbytes hbase
   exact ⟨v',w',hr,h2,h3,h5.imp id fun h => ⟨_,h,Nat.le_refl _⟩⟩
 | none =>
   have hn:news=[]:=by
    cases news with
    | nil => rfl
    | cons x l => obtain ⟨a,e,_⟩:=hsrc.2 0 x rfl;cases e
   subst hn
   have hm:m=0:=by
    have h0:m * size=0:=by have:=hsrc.1;simpa using this.symm
    rcases Nat.mul_eq_zero.1 h0 with h | h <;> omega
   subst hm
   have hr:(Builtin.append_ #[t,t] ty #[v, .slice none 0 c]).run P w=.ok v w:=by
    rcases hown.2 with ⟨rfl,rfl⟩ | ⟨g,cap,cur,rfl,_,_,hnc,_⟩
    ·simp [Builtin.append_,run_underlying ht,sizeOf,typeInfo,hi,Builtin.lenOf,Builtin.firstCells]
    ·simp [Builtin.append_,run_underlying ht,sizeOf,typeInfo,hi,Builtin.lenOf,Builtin.firstCells,hnc,storeCells]
   exact ⟨v,w,hr,by simpa using hown,Grew.refl w v⟩
theorem wpList_app {t e:TypeId} {size bytes:Nat} (E:EI P t e size bytes) {w:World} {ops:Array Oper} {rest:List Oper} {o:Oper} {a:Act} {Q:Exit→Act→World→Prop} (hgd:o.guard=none) (s x:Operand)
  (ho:o.op=.call { callee:=.builtin .append,args:=#[s,x],argTypes:=#[t,t] })
  {base:Nat} {v:Value} {n:Nat} {xs:List Value} (hs:a.eval s=v) (hown:w.ownsRow base e size v n xs)
  {ad:Option Addr} {m c:Nat} {news:List Value} (hx:a.eval x=.slice ad m c) (hsrc:Src w ad m size news) (h1:∀ u ∈ news,u.oneCell'=true)
  (h63:n + m≤maxLen) (hbytes:(n + m) * bytes≤140737488355328) (hbase:base≤w.heap.size)
  (h:∀ v' w',w'.ownsRow base e size v' (n + m) (xs ++ news)→Grew w w' v v'→wpList P ops Q rest (a.put o.dst v') w') :
  wpList P ops Q (o :: rest) a w:=by
 refine wpList_plain hgd fun K hK => ?_
 obtain ⟨v',w',hr,h2,h3⟩:=run_append_src E w base o.type v n xs hown ad m c news hsrc h1 h63 hbytes hbase
 unfold Oper.wp execOp
 simp only [ho,resolve,invoke,builtin,Sem.run_bind,Sem.run_pure,Result.andThen_ok,List.map_toArray,List.map_cons,List.map_nil,hs,hx,hr]
 exact hK _ _ (h v' w' h2 h3)
end
theorem src_one_new (w:World) (x:Value) (t:TypeId):Src (w.alloc (.cells #[x] t)) (some ⟨w.heap.size,0,none⟩) 1 1 [x] :=
 ⟨rfl,fun j u hu => ⟨_,rfl,by simp,cell_one_new w x t j u hu⟩⟩
end Go.Proofs.YteldaicgaeooiaaGreatDoor
namespace Go.Proofs
open Go.Shelf
def Tryz.lays156_ren:Go.Shelf.Ren:=⟨fun | 156 => 144 | 165 => 87 | 166 => 88 | 169 => 90 | 240 => 125 | 241 => 126 | 276 => 151 | 277 => 152 | n => n,fun | 31 => 107 | 9 => 9 | 3 => 3 | 4 => 4 | 0 => 0 | 20 => 20 | 72 => 115 | 76 => 119 | 70 => 112 | 37 => 113 | 75 => 118 | 127 => 145 | 164 => 167 | 5 => 5 | 80 => 36 | n => n,fun | n => n⟩
theorem Tryz.lays156:Go.Proofs.Lays.n156 Tryz.prog Tryz.lays156_ren:={
 mixed:=by kernel_rfl
 f156:=Tryz.func144.trans (congrArg some (by kernel_rfl))
 f165:=Tryz.func87.trans (congrArg some (by kernel_rfl))
 f166:=Tryz.func88.trans (congrArg some (by kernel_rfl))
 f169:=Tryz.func90.trans (congrArg some (by kernel_rfl))
 f240:=Tryz.func125.trans (congrArg some (by kernel_rfl))
 f241:=Tryz.func126.trans (congrArg some (by kernel_rfl))
 f276:=Tryz.func151.trans (congrArg some (by kernel_rfl))
 f277:=Tryz.func152.trans (congrArg some (by kernel_rfl))
 t0:=Tryz.underlying0
 a0:=Tryz.isAgg0
 z0:=Tryz.sizeOf0
 v0:=Tryz.zeroValue0
 t3:=Tryz.underlying3
 a3:=Tryz.isAgg3
 z3:=Tryz.sizeOf3
 v3:=Tryz.zeroValue3
 t4:=Tryz.underlying4
 a4:=Tryz.isAgg4
 z4:=Tryz.sizeOf4
 v4:=Tryz.zeroValue4
 t9:=Tryz.underlying9
 a9:=Tryz.isAgg9
 z9:=Tryz.sizeOf9
 v9:=Tryz.zeroValue9
 t20:=Tryz.underlying20
 a20:=Tryz.isAgg20
 z20:=Tryz.sizeOf20
 v20:=Tryz.zeroValue20
 t31:=Tryz.underlying107
 a31:=Tryz.isAgg107
 z31:=Tryz.sizeOf107
 v31:=Tryz.zeroValue107
 t37:=Tryz.underlying113
 a37:=Tryz.isAgg113
 z37:=Tryz.sizeOf113
 v37:=Tryz.zeroValue113
 t70:=Tryz.underlying112
 a70:=Tryz.isAgg112
 z70:=Tryz.sizeOf112
 v70:=Tryz.zeroValue112
 t72:=Tryz.underlying115
 a72:=Tryz.isAgg115
 z72:=Tryz.sizeOf115
 v72:=Tryz.zeroValue115
 t75:=Tryz.underlying118
 a75:=Tryz.isAgg118
 z75:=Tryz.sizeOf118
 v75:=Tryz.zeroValue118
 t76:=Tryz.underlying119
 a76:=Tryz.isAgg119
 z76:=Tryz.sizeOf119
 v76:=Tryz.zeroValue119
 t127:=Tryz.underlying145
 a127:=Tryz.isAgg145
 z127:=Tryz.sizeOf145
 v127:=Tryz.zeroValue145
 t164:=Tryz.underlying167
 a164:=Tryz.isAgg167
 z164:=Tryz.sizeOf167
 v164:=Tryz.zeroValue167 }
theorem Tryz.Builder_Extra_156:Builder.Extra Tryz.prog Tryz.lays156_ren:={
 sizeBuilder:=by kernel_rfl
 liesBuilder:=by kernel_rfl
 t5:=Tryz.underlying5
 a5:=Tryz.isAgg5
 z5:=Tryz.sizeOf5
 v5:=Tryz.zeroValue5
 infoByte:=by kernel_rfl
 cellsByte:=by kernel_rfl
 sizeByte:=by kernel_rfl
 neB5:=by decide }
open Go.RowKit in
theorem Tryz.strings_Join (bk o c:Nat) (xs:List ByteArray) (sep:ByteArray) (w:World) (hcells:∀ (j:Nat) x,xs[j]?=some x→w.cell? ⟨bk,o + j,none⟩=some (.string x)) (hbk:bk < w.heap.size) (hN:xs.length≤140737488355328) (hcap:xs.length≤c) (hlen:(Lib.join (xs.map (·.data.toList)) sep.data.toList).length≤140737488355328) :
  Calls Tryz.prog 144 #[.slice (some ⟨bk,o,none⟩) xs.length c, .string sep] w fun e w' => e=.returned (.string ⟨(Lib.join (xs.map (·.data.toList)) sep.data.toList).toArray⟩)∧Below w.heap.size w w':=Any.strings_Join Tryz.lays156 Tryz.Builder_Extra_156 bk o c xs sep w hcells hbk hN hcap hlen
def Tryz.lays125_ren:Go.Shelf.Ren:=⟨fun | 125 => 141 | 128 => 177 | 129 => 178 | n => n,fun | 46 => 108 | 3 => 3 | 51 => 140 | 53 => 26 | 4 => 4 | 5 => 5 | 9 => 9 | n => n,fun | n => n⟩
theorem Tryz.lays125:Go.Proofs.Lays.n125 Tryz.prog Tryz.lays125_ren:={
 mixed:=by kernel_rfl
 f125:=Tryz.func141.trans (congrArg some (by kernel_rfl))
 f128:=Tryz.func177.trans (congrArg some (by kernel_rfl))
 f129:=Tryz.func178.trans (congrArg some (by kernel_rfl))
 t3:=Tryz.underlying3
 a3:=Tryz.isAgg3
 z3:=Tryz.sizeOf3
 v3:=Tryz.zeroValue3
 t4:=Tryz.underlying4
 a4:=Tryz.isAgg4
 z4:=Tryz.sizeOf4
 v4:=Tryz.zeroValue4
 t5:=Tryz.underlying5
 a5:=Tryz.isAgg5
 z5:=Tryz.sizeOf5
 v5:=Tryz.zeroValue5
 t9:=Tryz.underlying9
 a9:=Tryz.isAgg9
 z9:=Tryz.sizeOf9
 v9:=Tryz.zeroValue9
 t46:=Tryz.underlying108
 a46:=Tryz.isAgg108
 z46:=Tryz.sizeOf108
 v46:=Tryz.zeroValue108
 t51:=Tryz.underlying140
 a51:=Tryz.isAgg140
 z51:=Tryz.sizeOf140
 v51:=Tryz.zeroValue140
 t53:=Tryz.underlying26
 a53:=Tryz.isAgg26
 z53:=Tryz.sizeOf26
 v53:=Tryz.zeroValue26 }
theorem Tryz.bits_Len (x:Int) (w:World) (h0:0≤x) (h1:x≤18446744073709551615) :
  Calls Tryz.prog 141 #[.int .u64 x] w fun e w' => e=.returned (.int .i64 (Lib.bitLen x.toNat))∧w'=w:=Any.bits_Len Tryz.lays125 x w h0 h1
def Tryz.lays213_ren:Go.Shelf.Ren:=⟨fun | 213 => 142 | 265 => 179 | n => n,fun | 9 => 9 | 3 => 3 | n => n,fun | n => n⟩
def Tryz.lays106_ren:Go.Shelf.Ren:=⟨fun | 106 => 113 | 213 => 142 | 265 => 179 | n => n,fun | 9 => 9 | 3 => 3 | n => n,fun | n => n⟩
theorem Tryz.lays106:Go.Proofs.Lays.n106 Tryz.prog Tryz.lays106_ren:={
 mixed:=by kernel_rfl
 f106:=Tryz.func113.trans (congrArg some (by kernel_rfl))
 f213:=Tryz.func142.trans (congrArg some (by kernel_rfl))
 f265:=Tryz.func179.trans (congrArg some (by kernel_rfl))
 t3:=Tryz.underlying3
 a3:=Tryz.isAgg3
 z3:=Tryz.sizeOf3
 v3:=Tryz.zeroValue3
 t9:=Tryz.underlying9
 a9:=Tryz.isAgg9
 z9:=Tryz.sizeOf9
 v9:=Tryz.zeroValue9 }
open Go.RowKit in
theorem Tryz.strings_Compare (a b:ByteArray) (w:World) :
  Calls Tryz.prog 113 #[.string a, .string b] w fun e w' => e=.returned (.int .i64 (Lib.compareBytes a.data.toList b.data.toList))∧w'=w:=Any.strings_Compare Tryz.lays106 a b w
def Tryz.lays283_ren:Go.Shelf.Ren:=⟨fun | 283 => 195 | n => n,fun | 3 => 3 | 9 => 9 | 4 => 4 | n => n,fun | n => n⟩
theorem Tryz.lays283:Go.Proofs.Lays.n283 Tryz.prog Tryz.lays283_ren:={
 mixed:=by kernel_rfl
 f283:=Tryz.func195.trans (congrArg some (by kernel_rfl))
 t3:=Tryz.underlying3
 a3:=Tryz.isAgg3
 z3:=Tryz.sizeOf3
 v3:=Tryz.zeroValue3
 t4:=Tryz.underlying4
 a4:=Tryz.isAgg4
 z4:=Tryz.sizeOf4
 v4:=Tryz.zeroValue4
 t9:=Tryz.underlying9
 a9:=Tryz.isAgg9
 z9:=Tryz.sizeOf9
 v9:=Tryz.zeroValue9 }
open Go.Lib in
theorem Tryz.internal_strconv_small (i:Nat) (h:i < 100) (w:World) :
  Calls Tryz.prog 195 #[.int .i64 i] w fun e w' => e=.returned (.string ⟨(Lib.decDigits i).toArray⟩)∧w'=w:=Any.internal_strconv_small Tryz.lays283 i h w
def Tryz.lays227_ren:Go.Shelf.Ren:=⟨fun | 227 => 161 | n => n,fun | 9 => 9 | 116 => 176 | 4 => 4 | 0 => 0 | 3 => 3 | 5 => 5 | n => n,fun | n => n⟩
theorem Tryz.lays227:Go.Proofs.Lays.n227 Tryz.prog Tryz.lays227_ren:={
 mixed:=by kernel_rfl
 f227:=Tryz.func161.trans (congrArg some (by kernel_rfl))
 t0:=Tryz.underlying0
 a0:=Tryz.isAgg0
 z0:=Tryz.sizeOf0
 v0:=Tryz.zeroValue0
 t3:=Tryz.underlying3
 a3:=Tryz.isAgg3
 z3:=Tryz.sizeOf3
 v3:=Tryz.zeroValue3
 t4:=Tryz.underlying4
 a4:=Tryz.isAgg4
 z4:=Tryz.sizeOf4
 v4:=Tryz.zeroValue4
 t5:=Tryz.underlying5
 a5:=Tryz.isAgg5
 z5:=Tryz.sizeOf5
 v5:=Tryz.zeroValue5
 t9:=Tryz.underlying9
 a9:=Tryz.isAgg9
 z9:=Tryz.sizeOf9
 v9:=Tryz.zeroValue9
 t116:=Tryz.underlying176
 a116:=Tryz.isAgg176
 z116:=Tryz.sizeOf176 }
open Go.RowKit Go.Lib in
theorem Tryz.strings_makeASCIISet (hv116:∀ w,(zeroValue 176).run Tryz.prog w=.ok (.agg (Array.replicate 256 (.bool false))) w) (chars:ByteArray) (w:World) (hs:chars.size < 4294967281) (hascii:∀ (j:Nat) b,chars.data.toList[j]?=some b→b.toNat < 128) :
  Calls Tryz.prog 161 #[.string chars] w fun e w' => e=.returned (.tuple #[.agg (Lib.setCells chars.data.toList), .bool true])∧w'=w.alloc (.cells (Lib.setCells chars.data.toList) 176):=Any.strings_makeASCIISet Tryz.lays227 hv116 (by kernel_rfl) chars w hs hascii
def Tryz.lays228_ren:Go.Shelf.Ren:=⟨fun | 228 => 184 | n => n,fun | 124 => 180 | 5 => 5 | 4 => 4 | 0 => 0 | 116 => 176 | n => n,fun | n => n⟩
theorem Tryz.lays228:Go.Proofs.Lays.n228 Tryz.prog Tryz.lays228_ren:={
 mixed:=by kernel_rfl
 f228:=Tryz.func184.trans (congrArg some (by kernel_rfl))
 t0:=Tryz.underlying0
 a0:=Tryz.isAgg0
 z0:=Tryz.sizeOf0
 v0:=Tryz.zeroValue0
 t4:=Tryz.underlying4
 a4:=Tryz.isAgg4
 z4:=Tryz.sizeOf4
 v4:=Tryz.zeroValue4
 t5:=Tryz.underlying5
 a5:=Tryz.isAgg5
 z5:=Tryz.sizeOf5
 v5:=Tryz.zeroValue5
 t116:=Tryz.underlying176
 a116:=Tryz.isAgg176
 z116:=Tryz.sizeOf176
 t124:=Tryz.underlying180
 a124:=Tryz.isAgg180
 z124:=Tryz.sizeOf180
 v124:=Tryz.zeroValue180 }
open Go.RowKit Go.Lib in
theorem Tryz.asciiSet_contains (b:Nat) (x:UInt8) (v:Bool) (w:World) (hc:w.cell? ⟨b,x.toNat,none⟩=some (.bool v)) :
  Calls Tryz.prog 184 #[.pointer (some ⟨b,0,none⟩), .int .u8 x.toNat] w fun e w' => e=.returned (.bool v)∧w'=w:=Any.asciiSet_contains Tryz.lays228 b x v w hc
def Tryz.lays105_ren:Go.Shelf.Ren:=⟨fun | 105 => 34 | 212 => 85 | 99 => 86 | 165 => 87 | 166 => 88 | 170 => 89 | 169 => 90 | 263 => 122 | 264 => 123 | 206 => 124 | 240 => 125 | 241 => 126 | 276 => 151 | 277 => 152 | n => n,fun | 9 => 9 | 3 => 3 | 4 => 4 | 20 => 20 | 0 => 0 | 46 => 108 | 109 => 109 | 5 => 5 | 72 => 115 | 76 => 119 | 51 => 140 | 146 => 141 | 53 => 26 | 148 => 143 | 70 => 112 | 37 => 113 | 75 => 118 | 127 => 145 | 164 => 167 | 80 => 36 | n => n,fun | n => n⟩
theorem Tryz.lays105:Go.Proofs.Lays.n105 Tryz.prog Tryz.lays105_ren:={
 mixed:=by kernel_rfl
 f99:=Tryz.func86.trans (congrArg some (by kernel_rfl))
 f105:=Tryz.func34.trans (congrArg some (by kernel_rfl))
 f165:=Tryz.func87.trans (congrArg some (by kernel_rfl))
 f166:=Tryz.func88.trans (congrArg some (by kernel_rfl))
 f169:=Tryz.func90.trans (congrArg some (by kernel_rfl))
 f170:=Tryz.func89.trans (congrArg some (by kernel_rfl))
 f206:=Tryz.func124.trans (congrArg some (by kernel_rfl))
 f212:=Tryz.func85.trans (congrArg some (by kernel_rfl))
 f240:=Tryz.func125.trans (congrArg some (by kernel_rfl))
 f241:=Tryz.func126.trans (congrArg some (by kernel_rfl))
 f263:=Tryz.func122.trans (congrArg some (by kernel_rfl))
 f264:=Tryz.func123.trans (congrArg some (by kernel_rfl))
 f276:=Tryz.func151.trans (congrArg some (by kernel_rfl))
 f277:=Tryz.func152.trans (congrArg some (by kernel_rfl))
 t0:=Tryz.underlying0
 a0:=Tryz.isAgg0
 z0:=Tryz.sizeOf0
 v0:=Tryz.zeroValue0
 t3:=Tryz.underlying3
 a3:=Tryz.isAgg3
 z3:=Tryz.sizeOf3
 v3:=Tryz.zeroValue3
 t4:=Tryz.underlying4
 a4:=Tryz.isAgg4
 z4:=Tryz.sizeOf4
 v4:=Tryz.zeroValue4
 t5:=Tryz.underlying5
 a5:=Tryz.isAgg5
 z5:=Tryz.sizeOf5
 v5:=Tryz.zeroValue5
 t9:=Tryz.underlying9
 a9:=Tryz.isAgg9
 z9:=Tryz.sizeOf9
 v9:=Tryz.zeroValue9
 t20:=Tryz.underlying20
 a20:=Tryz.isAgg20
 z20:=Tryz.sizeOf20
 v20:=Tryz.zeroValue20
 t37:=Tryz.underlying113
 a37:=Tryz.isAgg113
 z37:=Tryz.sizeOf113
 v37:=Tryz.zeroValue113
 t46:=Tryz.underlying108
 a46:=Tryz.isAgg108
 z46:=Tryz.sizeOf108
 v46:=Tryz.zeroValue108
 t51:=Tryz.underlying140
 a51:=Tryz.isAgg140
 z51:=Tryz.sizeOf140
 v51:=Tryz.zeroValue140
 t53:=Tryz.underlying26
 a53:=Tryz.isAgg26
 z53:=Tryz.sizeOf26
 v53:=Tryz.zeroValue26
 t70:=Tryz.underlying112
 a70:=Tryz.isAgg112
 z70:=Tryz.sizeOf112
 v70:=Tryz.zeroValue112
 t72:=Tryz.underlying115
 a72:=Tryz.isAgg115
 z72:=Tryz.sizeOf115
 v72:=Tryz.zeroValue115
 t75:=Tryz.underlying118
 a75:=Tryz.isAgg118
 z75:=Tryz.sizeOf118
 v75:=Tryz.zeroValue118
 t76:=Tryz.underlying119
 a76:=Tryz.isAgg119
 z76:=Tryz.sizeOf119
 v76:=Tryz.zeroValue119
 t109:=Tryz.underlying109
 a109:=Tryz.isAgg109
 z109:=Tryz.sizeOf109
 v109:=Tryz.zeroValue109
 t127:=Tryz.underlying145
 a127:=Tryz.isAgg145
 z127:=Tryz.sizeOf145
 v127:=Tryz.zeroValue145
 t146:=Tryz.underlying141
 a146:=Tryz.isAgg141
 z146:=Tryz.sizeOf141
 v146:=Tryz.zeroValue141
 t148:=Tryz.underlying143
 a148:=Tryz.isAgg143
 z148:=Tryz.sizeOf143
 v148:=Tryz.zeroValue143
 t164:=Tryz.underlying167
 a164:=Tryz.isAgg167
 z164:=Tryz.sizeOf167
 v164:=Tryz.zeroValue167 }
theorem Tryz.Builder_Extra_105:Builder.Extra Tryz.prog Tryz.lays105_ren:={
 sizeBuilder:=by kernel_rfl
 liesBuilder:=by kernel_rfl
 t5:=Tryz.underlying5
 a5:=Tryz.isAgg5
 z5:=Tryz.sizeOf5
 v5:=Tryz.zeroValue5
 infoByte:=by kernel_rfl
 cellsByte:=by kernel_rfl
 sizeByte:=by kernel_rfl
 neB5:=by decide }
open Go.RowKit Go.Lib in
theorem Tryz.strings_Repeat (s:ByteArray) (c:Nat) (w:World) (hc:c≤9223372036854775807) (hlen:s.size * c≤140737488355328) :
  Calls Tryz.prog 34 #[.string s, .int .i64 c] w fun e w' => e=.returned (.string ⟨(Lib.repeatL s.data.toList c).toArray⟩)∧Below w.heap.size w w':=Any.strings_Repeat Tryz.lays105 Tryz.Builder_Extra_105 s c w hc hlen
end Go.Proofs
