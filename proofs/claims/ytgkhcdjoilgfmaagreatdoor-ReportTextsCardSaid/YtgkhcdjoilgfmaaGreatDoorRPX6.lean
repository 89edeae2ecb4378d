/-
  Prefixes of the reference: sign, cmp, LastOf, Holds, Within, CommonOf.
  Orders of addresses: cmp.Compare, cmp.Or, span.Compare, addr.Compare of the program; Order of the reference: both compare the addresses' numbers.
  Quiet regions and calls that also never lower the count of draws: what a sort asks of its comparison.
  The comparisons that the sorts ask: of wide numbers, of addresses; the count of draws never goes down.
  Sets of numbers as rising spans, plain: joining, uniqueness, gaps, the greedy blocks.
  The greedy blocks of a span, plain: at each place the longest block that begins there and fits; never more blocks than the prefixes of which the spans were made.
  Addresses as numbers: what span and the reference's wide numbers do, said of one number.
  The address behind another one: span.Next.
-/
import Derived.Test.YtgkhcdjoilgfmaaGreatDoorRPX5
import Derived.Sort.Grow
import Derived.Laws.Externs
set_option linter.unusedVariables false
set_option maxRecDepth 100000
set_option maxHeartbeats 1000000
namespace Go.Proofs.YtgkhcdjoilgfmaaGreatDoor
open Go.RowKit Go
def sgn (x:Int):Int:=if x < 0 then -1 else if x > 0 then 1 else 0
theorem u64_le {x:Nat} (h:U64N x):0≤(x:Int)∧(x:Int)≤18446744073709551615:=by
 unfold U64N at h
 exact ⟨by omega,by omega⟩
theorem isNaNU_any (x:Int) (w:World):Calls Tryz.prog 256 #[.int .u64 x] w fun e w' => e=.returned (.bool false)∧w'=w:=by
 go_enter Tryz.func256,Tryz.ntmps256
 go_wp2
 go_ret
 exact ⟨by simp,rfl⟩
theorem cmpU64_any (a b:Nat) (w:World) (ha:U64N a) (hb:U64N b):Calls Tryz.prog 199 #[.int .u64 (a:Int), .int .u64 (b:Int)] w fun e w' => e=.returned (.int .i64 (cN a b))∧w'=w:=by
 have a1:=u64_le ha
 have b1:=u64_le hb
 clear ha hb
 have HN:=Lib.hid fun x wx => isNaNU_any x wx
 by_cases h1:a < b
 ·have e:cN a b=-1:=by unfold cN;rw [if_pos h1]
  rw [e]
  clear e
  go_enter Tryz.func199,Tryz.ntmps199
  go_wp2_with fail
  refine (HN.out _ _).mono ?_
  rintro e w' ⟨rfl,rfl⟩
  go_wp2_with fail
  refine (HN.out _ _).mono ?_
  rintro e w' ⟨rfl,rfl⟩
  go_wp2_with fail
  go_ret
  exact ⟨rfl,rfl⟩
 ·by_cases h2:b < a
  ·have e:cN a b=1:=by unfold cN;rw [if_neg h1,if_pos h2]
   rw [e]
   clear e
   go_enter Tryz.func199,Tryz.ntmps199
   go_wp2_with fail
   refine (HN.out _ _).mono ?_
   rintro e w' ⟨rfl,rfl⟩
   go_wp2_with fail
   refine (HN.out _ _).mono ?_
   rintro e w' ⟨rfl,rfl⟩
   go_wp2_with fail
   go_ret
   exact ⟨rfl,rfl⟩
  ·obtain rfl:a=b:=by omega
   rw [cN_same]
   clear h1 h2
   go_enter Tryz.func199,Tryz.ntmps199
   go_wp2_with fail
   refine (HN.out _ _).mono ?_
   rintro e w' ⟨rfl,rfl⟩
   go_wp2_with fail
   refine (HN.out _ _).mono ?_
   rintro e w' ⟨rfl,rfl⟩
   go_wp2_with fail
   go_ret
   exact ⟨rfl,rfl⟩
def orI (x y:Int):Int:=if x=0 then y else x
theorem cmpOr_any (x y:Int) (g c:Nat) (w:World) (h0:w.cell? ⟨g,0,none⟩=some (.int .i64 x)) (h1:w.cell? ⟨g,1,none⟩=some (.int .i64 y)) :
  Calls Tryz.prog 198 #[.slice (some ⟨g,0,none⟩) 2 c] w fun e w' => e=.returned (.int .i64 (orI x y))∧w'=w:=by
 by_cases hx:x=0
 ·subst hx
  have e:orI 0 y=y:=if_pos rfl
  rw [e]
  clear e
  by_cases hy:y=0
  ·subst hy
   go_enter Tryz.func198,Tryz.ntmps198
   go_wp2_with fail
   refine wp_loop_rounds 3 ?_
   rw [rounds_succ]
   go_wp2_with fail
   rw [rounds_succ]
   go_wp2_with fail
   rw [rounds_succ]
   go_wp2_with fail
   go_ret
   exact ⟨rfl,rfl⟩
  ·have hy2:(y != 0)=true:=by simpa using hy
   go_enter Tryz.func198,Tryz.ntmps198
   go_wp2_with fail
   refine wp_loop_rounds 2 ?_
   rw [rounds_succ]
   go_wp2_with fail
   rw [rounds_succ]
   go_wp2_with fail
   go_ret
   exact ⟨rfl,rfl⟩
 ·have e:orI x y=x:=if_neg hx
  rw [e]
  clear e
  have hx2:(x != 0)=true:=by simpa using hx
  go_enter Tryz.func198,Tryz.ntmps198
  go_wp2_with fail
  refine wp_loop_rounds 1 ?_
  rw [rounds_succ]
  go_wp2_with fail
  go_ret
  exact ⟨rfl,rfl⟩
theorem cN_lt {a b:Nat} (h:a < b):cN a b=-1:=by unfold cN;rw [if_pos h]
theorem cN_gt {a b:Nat} (h:b < a):cN a b=1:=by unfold cN;rw [if_neg (by omega),if_pos h]
theorem cN_lex (T M h l h2 l2:Nat) (a:l < M) (b:l2 < M):cN (T + h * M + l) (T + h2 * M + l2)=orI (cN h h2) (cN l l2):=by
 rcases Nat.lt_trichotomy h h2 with k | rfl | k
 ·have:=Nat.mul_le_mul_right M (Nat.succ_le_of_lt k)
  rw [Nat.succ_eq_add_one,Nat.add_mul,Nat.one_mul] at this
  rw [cN_lt (show T + h * M + l < T + h2 * M + l2 by omega),cN_lt k]
  rfl
 ·rw [cN_same]
  unfold orI
  rw [if_pos rfl]
  unfold cN
  by_cases h1:l < l2
  ·rw [if_pos h1,if_pos (by omega)]
  ·by_cases h2:l2 < l
   ·rw [if_neg h1,if_pos h2,if_neg (by omega),if_pos (by omega)]
   ·rw [if_neg h1,if_neg h2,if_neg (by omega),if_neg (by omega)]
 ·have:=Nat.mul_le_mul_right M (Nat.succ_le_of_lt k)
  rw [Nat.succ_eq_add_one,Nat.add_mul,Nat.one_mul] at this
  rw [cN_gt (show T + h2 * M + l2 < T + h * M + l by omega),cN_gt k]
  rfl
theorem cN_num {s:Bool} {h l h2 l2:Nat} (a2:U64N l) (a4:U64N l2):cN (numA s h l) (numA s h2 l2)=orI (cN h h2) (cN l l2):=by
 unfold numA
 exact cN_lex _ _ _ _ _ _ a2 a4
theorem cN_six {h l h2 l2:Nat} (a1:U64N h) (a2:U64N l):cN (numA false h l) (numA true h2 l2)=-1:=by
 unfold U64N at a1 a2
 unfold cN numA
 rw [if_pos]
 simp
 omega
theorem cN_six' {h l h2 l2:Nat} (a3:U64N h2) (a4:U64N l2):cN (numA true h l) (numA false h2 l2)=1:=by
 unfold U64N at a3 a4
 unfold cN numA
 rw [if_neg,if_pos]
 ·simp;omega
 ·simp;omega
theorem PW_numA (six:Bool) (hi lo:Nat) (h1:U64N hi) (h2:U64N lo):PW (dv six (dg hi lo)) 9=numA six hi lo:=by
 rw [PW_num,PS_dg_hi _ _ h1,PS_dg_lo _ _ h2]
structure BelD (u v:World):Prop where
 b:Below u.heap.size u v
 d:u.drawn≤v.drawn
theorem BelD.refl (u:World):BelD u u:=⟨Below.refl _ _,Nat.le_refl _⟩
theorem BelD.trans {u v w:World} (h:BelD u v) (k:BelD v w):BelD u w:=⟨h.b.trans (k.b.mono h.b.size),Nat.le_trans h.d k.d⟩
theorem BelD.alloc {u v:World} (h:BelD u v) (o:Obj):BelD u (v.alloc o):=⟨below_alloc h.b o,h.d⟩
theorem BelD.drewN {u v:World} (h:BelD u v) (n:Nat):BelD u (v.drewN n):=⟨below_drewN h.b n,Nat.le_trans h.d (Nat.le_add_right _ _)⟩
theorem BelD.drew {u v:World} (h:BelD u v):BelD u v.drew:=h.drewN 1
theorem BelD.grow {u v:World} (h:BelD u v):∃ q os,v=Sort.grow (u.drewN q) os:=by
 obtain ⟨hos,htape,hout,hsize,hblock⟩:=h.b
 have hd:=h.d
 refine ⟨v.drawn - u.drawn,v.heap.extract u.heap.size v.heap.size,?_⟩
 obtain ⟨vh,vt,vd,vo,vp⟩:=v
 obtain ⟨uh,ut,ud,uo,up⟩:=u
 simp only at hos htape hout hsize hblock hd
 subst hos htape hout
 have e1:ud + (vd - ud)=vd:=by omega
 have e2:uh ++ vh.extract uh.size vh.size=vh:=by
  apply Array.ext_getElem?
  intro i
  rcases Nat.lt_or_ge i uh.size with hi | hi
  ·rw [Array.getElem?_append_left hi];exact (hblock i hi).symm
  ·rw [Array.getElem?_append_right hi,Array.getElem?_extract]
   rcases Nat.lt_or_ge i vh.size with h2 | h2
   ·rw [if_pos (by omega),show uh.size + (i - uh.size)=i by omega]
   ·rw [if_neg (by omega),Array.getElem?_eq_none h2]
 show (⟨vh,vt,vd,vo,vp⟩:World)=⟨uh ++ vh.extract uh.size vh.size,vt,ud + (vd - ud),vo,vp⟩
 rw [e1,e2]
def RetD (v:Value) (w:World) (e:Ending) (w':World):Prop:=e=.returned v∧BelD w w'
theorem RetD.ret {v:Value} {w:World} {e:Ending} {w':World} (h:RetD v w e w'):Ret v w e w':=⟨h.1,h.2.b⟩
def LaterD (W:World):Type:={ w':World // BelD W w' }
instance (W:World):Inhabited (LaterD W):=⟨⟨W,BelD.refl _⟩⟩
theorem LaterD.cell_of {W:World} {B i:Nat} {v:Value} (h:W.cell? ⟨B,i,none⟩=some v) (n:LaterD W):n.1.cell? ⟨B,i,none⟩=some v:=Later.cell_of h ⟨n.1,n.2.b⟩
theorem Calls.laterD {P:Program} {f:FuncId} {args:Array Value} {W:World} {v:Value} (n:LaterD W) (h:Calls P f args n.1 (RetD v n.1)) :
  Calls P f args n.1 fun e w'' => e=.returned v∧∃ m:LaterD W,w''=m.1 :=
 h.mono fun _ w'' ⟨he,hb⟩ => ⟨he,⟨w'',n.2.trans hb⟩,rfl⟩
theorem wp_region_laterD {P:Program} {id:Nat} {Q:Exit→Act→World→Prop} {a:Act} {W:World} {l:List Oper} (hm:P.follows .mixedOrders=true) (hB:Region.lexB .any l.toArray=true)
  (h:wpQuiet P l.toArray (fun w' => ∃ n:LaterD W,w'=n.1) (fun a' => ∀ w',(∃ n:LaterD W,w'=n.1)→Q .normal a' w') l a):(Code.region id l.toArray true).wp P Q a W :=
 wp_region_quiet (C:=fun w' => ∃ n:LaterD W,w'=n.1) hm hB ⟨⟨W.drew,(BelD.refl W).drew⟩,rfl⟩ (by simpa using h)
theorem wp_region_laterD_tail {P:Program} {id:Nat} {Q:Exit→Act→World→Prop} {a:Act} {W:World} {l:List Oper} (n:Nat) (hm:P.follows .mixedOrders=true) (hB:Region.lexTailB .any l.toArray n=true)
  (h:wpQuiet P l.toArray (fun w' => ∃ m:LaterD W,w'=m.1) (fun a' => ∀ w',(∃ m:LaterD W,w'=m.1)→wpList P l.toArray Q (l.drop n) a' w') (l.take n) a):(Code.region id l.toArray true).wp P Q a W:=by
 simp only [Region.lexTailB,Bool.and_eq_true,decide_eq_true_eq] at hB
 obtain ⟨⟨⟨⟨hsel,hn⟩,hs⟩,hc⟩,hlex⟩:=hB
 have hn':n < l.length:=by simpa using hn
 have htl:(l.take n).length=n:=by simp;omega
 have hdl:(l.drop n).length=l.toArray.size - n:=by simp
 have inv0:HeadInv .any l.toArray n (Array.replicate l.toArray.size false) :=
  ⟨by simp,fun j oj _ hl => (by rw [getD_replicate_false] at hl;cases hl),fun t _ ht => getD_in (by simpa using ht) (getD_replicate_false _ _)⟩
 have H:=QL_lex (md:=.any) (g:=l.toArray.size - n) hsel hs hc hn (l.take n) 0 _ a (fun j hj => by
  have hj':j < n:=by rw [htl] at hj;exact hj
  simp [hj']) (by simpa using htl) inv0 (by rw [htl];exact hlex) h
 refine wp_region_any hm ?_
 have:=any_of_QL (Q':=Q) (g:=l.toArray.size - n) (fun listed a' w' hw' hL => by
  have:=wpAny_of_seq (md:=.any) (Q':=Q) (l.drop n) n listed a' w' (fun j => by simp [List.getElem?_drop]) (by rw [hdl];exact hL.1) (hL.2 w' hw')
  rwa [hdl] at this) _ _ _ { W with drawn:=W.drawn + 1 } ⟨⟨W.drew,(BelD.refl W).drew⟩,rfl⟩ H
 rw [htl,show n + (l.toArray.size - n)=l.toArray.size by omega] at this
 exact this
def wd (f:Nat→Nat):Array Value:=#[.int .i64 ((f 0:Nat):Int), .int .i64 ((f 1:Nat):Int), .int .i64 ((f 2:Nat):Int), .int .i64 ((f 3:Nat):Int), .int .i64 ((f 4:Nat):Int), .int .i64 ((f 5:Nat):Int), .int .i64 ((f 6:Nat):Int), .int .i64 ((f 7:Nat):Int), .int .i64 ((f 8:Nat):Int)]
theorem wd_get (f:Nat→Nat) (d:Nat) (h:d < 9):(wd f)[d]?=some (.int .i64 ((f d:Nat):Int)):=by
 have:d=0 ∨ d=1 ∨ d=2 ∨ d=3 ∨ d=4 ∨ d=5 ∨ d=6 ∨ d=7 ∨ d=8:=by omega
 rcases this with rfl | rfl | rfl | rfl | rfl | rfl | rfl | rfl | rfl <;> rfl
theorem wv_wd (six:Bool) (f:Nat→Nat):wv six f=wd (dv six f):=by cases six <;> rfl
theorem signD_any (x:Int) (w:World):Calls Tryz.prog 88 #[.int .i64 x] w (RetD (.int .i64 (sgn x)) w):=by
 by_cases h1:x < 0
 ·have e:sgn x=-1:=if_pos h1
  rw [e]
  go_enter Tryz.func88,Tryz.ntmps88
  go_wp2
  go_ret
  exact ⟨rfl,BelD.refl _⟩
 ·by_cases h2:x > 0
  ·have e:sgn x=1:=by unfold sgn;rw [if_neg h1,if_pos h2]
   rw [e]
   go_enter Tryz.func88,Tryz.ntmps88
   go_wp2
   go_ret
   exact ⟨rfl,BelD.refl _⟩
  ·have e:sgn x=0:=by unfold sgn;rw [if_neg h1,if_neg h2]
   rw [e]
   go_enter Tryz.func88,Tryz.ntmps88
   go_wp2
   go_ret
   exact ⟨rfl,BelD.refl _⟩
theorem wideCmpD_any (f g:Nat→Nat) (w:World) (hf:∀ d,f d < 65536) (hg:∀ d,g d < 65536) :
  Calls Tryz.prog 185 #[.agg (wd f), .agg (wd g)] w (RetD (.int .i64 (cN (PW f 9) (PW g 9))) w):=by
 have HT:Hid (∀ i,i < 9→(∀ j,i < j→j < 9→f j=g j)→f i ≠ g i→sgn (((f i:Nat):Int) - ((g i:Nat):Int))=cN (PW f 9) (PW g 9)):=Lib.hid fun i hi hab hne => by
  rw [cmp_top hf hg hi hab hne]
  unfold sgn
  by_cases h:f i < g i
  ·rw [if_pos h,if_pos (by omega)]
  ·rw [if_neg h,if_neg (by omega),if_pos (by omega)]
 have HS0:Hid ((∀ j,j < 9→f j=g j)→cN (PW f 9) (PW g 9)=0):=Lib.hid cmp_same
 have HF:=Lib.hid hf
 have HH:=Lib.hid hg
 clear hf hg
 generalize cN (PW f 9) (PW g 9)=C at *
 have hsz:=Tryz.sizeOf113
 have HA':Blk ((w.alloc (.cells (wd f) 113 (0,0))).alloc (.cells (wd g) 113 (0,0))) (w.heap.size) 113 (wd f):=by
  have this:=Blk.new w 113 (wd f)
  exact (this.alloc _)
 have HA:=Lib.hid HA'
 clear HA'
 have HG':Blk ((w.alloc (.cells (wd f) 113 (0,0))).alloc (.cells (wd g) 113 (0,0))) (w.heap.size + 1) 113 (wd g):=by
  have this:=Blk.new (w.alloc (.cells (wd f) 113 (0,0))) 113 (wd g)
  rw [World.size_alloc] at this
  exact this
 have HG:=Lib.hid HG'
 clear HG'
 have HB:Hid (BelD w ((w.alloc (.cells (wd f) 113 (0,0))).alloc (.cells (wd g) 113 (0,0)))):=Lib.hid (((BelD.refl _).alloc _).alloc _)
 go_enter Tryz.func185,Tryz.ntmps185
 go_upto_region 1 with fail
 generalize ((w.alloc (.cells (wd f) 113 (0,0))).alloc (.cells (wd g) 113 (0,0)))=w1 at *
 go_wp2_with fail
 go_loopw [5] (fun i wr => ∃ k:Nat,k≤9∧i=.int .i64 ((k:Int) - 1)∧Hid (∀ j,k≤j→j < 9→f j=g j)∧Hid (Blk wr (w.heap.size) 113 (wd f))∧Hid (Blk wr (w.heap.size + 1) 113 (wd g))∧Hid (BelD w wr)) (fun i _ => (intOf i + 1).toNat)
 case atStart => exact ⟨9,Nat.le_refl _,rfl,Lib.hid fun j h1 h2 => by omega,HA,HG,HB⟩
 case round =>
  clear HA HG HB
  obtain ⟨k,hk,rfl,HE,HA,HG,HB⟩:=hrel
  by_cases hk0:k=0
  ·subst hk0
   have hC:=HS0.out fun j hj => HE.out j (Nat.zero_le _) hj
   have e0:(((0:Nat):Int) - 1)=-1:=by omega
   rw [e0]
   subst hC
   clear HT HS0 HF HH HE
   go_wp2_with fail
   go_ret
   exact ⟨rfl,HB.out⟩
  ·obtain ⟨j,rfl⟩:∃ j,k=j + 1:=⟨k - 1,by omega⟩
   have ej:(((j + 1:Nat):Int) - 1)=(j:Int):=by omega
   rw [ej]
   have hj:j < 9:=by omega
   have a:=HA.out.cell j
   rw [wd_get _ _ hj] at a
   have b:=HG.out.cell j
   rw [wd_get _ _ hj] at b
   have hx:=HF.out j
   have hy:=HH.out j
   have HTj:=Lib.hid (HT.out j hj fun i h1 h2 => HE.out i (by omega) h2)
   have HEj:Hid (f j=g j→∀ i,j≤i→i < 9→f i=g i):=Lib.hid fun e i h1 h2 => by
    rcases Nat.eq_or_lt_of_le h1 with h | h
    ·subst h;exact e
    ·exact HE.out i h h2
   clear HT HS0 HE HF HH
   generalize hxx:f j=x at *
   generalize hyy:g j=y at *
   have HX:=Lib.hid hxx
   have HY:=Lib.hid hyy
   clear hxx hyy
   have la:=LaterD.cell_of a
   have lb:=LaterD.cell_of b
   have b1:(0:Int)≤(j:Int):=by omega
   have b2:(j:Int) < 9:=by omega
   by_cases hxy:x=y
   ·have HE2:=Lib.hid (HEj.out hxy)
    subst hxy
    clear HEj HTj
    go_upto_region 4 with fail
    refine wp_region_laterD (by kernel_rfl) (by kernel_rfl) ?_
    repeat (go_big_quiet_step (fail))
    refine wpQuiet_nil ?_
    rintro w3 ⟨m2,hm2⟩
    have hb:BelD wr w3:=by rw [hm2];exact m2.2
    clear hm2 m2 la lb a b
    have HA3:=Lib.hid (HA.out.below hb.b HA.out.lt)
    have HG3:=Lib.hid (HG.out.below hb.b HG.out.lt)
    have HB3:=Lib.hid (HB.out.trans hb)
    clear hb HA HG HB
    go_wp2_with fail
    exact ⟨⟨j,by omega,by go_num,HE2,HA3,HG3,HB3⟩,by simp [intOf]⟩
   ·have hC:=HTj.out hxy
    have hne:((x:Int) != (y:Int))=true:=by simp;omega
    have hne2:¬ (x:Int)=(y:Int):=by omega
    have HS:=Lib.hid fun wx => signD_any ((x:Int) - (y:Int)) wx
    rw [hC] at HS
    clear hC HEj HTj
    go_upto_region 4 with fail
    refine wp_region_laterD (by kernel_rfl) (by kernel_rfl) ?_
    repeat (go_big_quiet_step (fail))
    refine wpQuiet_nil ?_
    rintro w3 ⟨m2,hm2⟩
    have hb:BelD wr w3:=by rw [hm2];exact m2.2
    clear hm2 m2 la lb a b
    have HA3:=Lib.hid (HA.out.below hb.b HA.out.lt)
    have HG3:=Lib.hid (HG.out.below hb.b HG.out.lt)
    have HB3:=Lib.hid (HB.out.trans hb)
    clear hb HA HG HB
    have a:=HA3.out.cell j
    rw [wd_get _ _ hj,HX.out] at a
    have b:=HG3.out.cell j
    rw [wd_get _ _ hj,HY.out] at b
    have la:=LaterD.cell_of a
    have lb:=LaterD.cell_of b
    have hS:=fun m:LaterD w3 => Calls.laterD m (HS.out m.1)
    have e7:IntKind.i64.wrap ((x:Int) - (y:Int))=(x:Int) - (y:Int):=by rw [IntKind.wrap_i64];omega
    have e8:wrap64 ((x:Int) - (y:Int))=(x:Int) - (y:Int):=by unfold wrap64;omega
    go_upto_region 5 with fail
    refine wp_region_laterD (by kernel_rfl) (by kernel_rfl) ?_
    repeat (go_big_quiet_step (fail))
    go_big_quiet_step ((go_at_call 88;exact hS _))
    repeat (go_big_quiet_step (fail))
    refine wpQuiet_nil ?_
    rintro w4 ⟨m2,hm2⟩
    have hb:BelD w3 w4:=by rw [hm2];exact m2.2
    clear hm2 m2 la lb a b
    have HB4:=Lib.hid (HB3.out.trans hb)
    clear hb HA3 HG3 HB3
    go_wp2_with fail
    go_ret
    exact ⟨rfl,HB4.out⟩
theorem spanCompareD_any (s1:Bool) (h1 l1:Nat) (s2:Bool) (h2 l2:Nat) (w:World) (a1:U64N h1) (a2:U64N l1) (a3:U64N h2) (a4:U64N l2) :
  Calls Tryz.prog 146 #[.agg #[.bool s1, .int .u64 (h1:Int), .int .u64 (l1:Int)], .agg #[.bool s2, .int .u64 (h2:Int), .int .u64 (l2:Int)]] w (RetD (.int .i64 (cN (numA s1 h1 l1) (numA s2 h2 l2))) w):=by
 have HP':Blk ((w.alloc (.cells #[.bool s1, .int .u64 (h1:Int), .int .u64 (l1:Int)] 28 (0,0))).alloc (.cells #[.bool s2, .int .u64 (h2:Int), .int .u64 (l2:Int)] 28 (0,0))) (w.heap.size) 28 #[.bool s1, .int .u64 (h1:Int), .int .u64 (l1:Int)] :=
  (Blk.new w 28 #[.bool s1, .int .u64 (h1:Int), .int .u64 (l1:Int)]).alloc _
 have HP:=Lib.hid HP'
 clear HP'
 have HQ':Blk ((w.alloc (.cells #[.bool s1, .int .u64 (h1:Int), .int .u64 (l1:Int)] 28 (0,0))).alloc (.cells #[.bool s2, .int .u64 (h2:Int), .int .u64 (l2:Int)] 28 (0,0))) (w.heap.size + 1) 28 #[.bool s2, .int .u64 (h2:Int), .int .u64 (l2:Int)]:=by
  have this:=Blk.new (w.alloc (.cells #[.bool s1, .int .u64 (h1:Int), .int .u64 (l1:Int)] 28 (0,0))) 28 #[.bool s2, .int .u64 (h2:Int), .int .u64 (l2:Int)]
  rw [World.size_alloc] at this
  exact this
 have HQ:=Lib.hid HQ'
 clear HQ'
 have HB:Hid (BelD w ((w.alloc (.cells #[.bool s1, .int .u64 (h1:Int), .int .u64 (l1:Int)] 28 (0,0))).alloc (.cells #[.bool s2, .int .u64 (h2:Int), .int .u64 (l2:Int)] 28 (0,0)))):=Lib.hid (((BelD.refl _).alloc _).alloc _)
 by_cases hs:s1=s2
 ·subst hs
  have hC:=cN_num (s:=s1) (h:=h1) (h2:=h2) a2 a4
  rw [hC]
  clear hC
  have HC1:=Lib.hid fun wx => cmpU64_any h1 h2 wx a1 a3
  have HC2:=Lib.hid fun wx => cmpU64_any l1 l2 wx a2 a4
  generalize cN h1 h2=X at *
  generalize cN l1 l2=Y at *
  go_enter Tryz.func146,Tryz.ntmps146
  go_upto_region 1 with fail
  generalize ((w.alloc (.cells #[.bool s1, .int .u64 (h1:Int), .int .u64 (l1:Int)] 28 (0,0))).alloc (.cells #[.bool s1, .int .u64 (h2:Int), .int .u64 (l2:Int)] 28 (0,0)))=w1 at *
  have p0:=HP.out.cell 0
  have p1:=HP.out.cell 1
  have p2:=HP.out.cell 2
  simp at p0 p1 p2
  have q0:=HQ.out.cell 0
  have q1:=HQ.out.cell 1
  have q2:=HQ.out.cell 2
  simp at q0 q1 q2
  have hsz:w.heap.size + 1 < w1.heap.size:=HQ.out.lt
  go_upto_region 5 with fail
  have k1:=fun (m:LaterD w1) => Later.cell (W:=w1) ⟨m.1,m.2.b⟩ (i:=1) (Nat.lt_of_succ_lt hsz)
  have k2:=fun (m:LaterD w1) => Later.cell (W:=w1) ⟨m.1,m.2.b⟩ (i:=2) (Nat.lt_of_succ_lt hsz)
  have k3:=fun (m:LaterD w1) => Later.cell (W:=w1) ⟨m.1,m.2.b⟩ (i:=1) hsz
  have k4:=fun (m:LaterD w1) => Later.cell (W:=w1) ⟨m.1,m.2.b⟩ (i:=2) hsz
  refine wp_region_laterD_tail 10 (by kernel_rfl) (by kernel_rfl) ?_
  simp only [List.take_succ_cons,List.take_zero,List.drop_succ_cons,List.drop_zero]
  repeat (go_big_quiet_step (fail))
  go_big_quiet_step ((go_at_call 199;exact (HC1.out _).mono fun _ _ h => ⟨h.1,_,h.2⟩))
  repeat (go_big_quiet_step (fail))
  go_big_quiet_step ((go_at_call 199;exact (HC2.out _).mono fun _ _ h => ⟨h.1,_,h.2⟩))
  refine wpQuiet_nil ?_
  rintro w2 ⟨n2,hn2⟩
  subst hn2
  have HB2:=Lib.hid (HB.out.trans n2.2)
  obtain ⟨w2,hw2⟩:∃ w2,w2=n2.1:=⟨_,rfl⟩
  rw [← hw2] at HB2 ⊢
  clear hw2 k1 k2 k3 k4 p0 p1 p2 q0 q1 q2 HC1 HC2
  have HO:=Lib.hid fun wx g (h:Blk wx g 3 #[.int .i64 X, .int .i64 Y]) => cmpOr_any X Y g 2 wx ((h.cell 0).trans rfl) ((h.cell 1).trans rfl)
  go_wp2_with fail
  refine (HO.out _ _ (Blk.new w2 _ _)).mono ?_
  rintro e w3 ⟨rfl,rfl⟩
  go_wp2_with fail
  go_ret
  exact ⟨rfl,HB2.out.alloc _⟩
 ·cases s1
  ·obtain rfl:s2=true:=by cases s2 with | true => rfl | false => exact absurd rfl hs
   rw [cN_six a1 a2]
   go_enter Tryz.func146,Tryz.ntmps146
   go_upto_region 1 with fail
   generalize ((w.alloc (.cells #[.bool false, .int .u64 (h1:Int), .int .u64 (l1:Int)] 28 (0,0))).alloc (.cells #[.bool true, .int .u64 (h2:Int), .int .u64 (l2:Int)] 28 (0,0)))=w1 at *
   have p0:=HP.out.cell 0
   simp at p0
   have q0:=HQ.out.cell 0
   simp at q0
   go_wp2_with fail
   go_ret
   exact ⟨rfl,HB.out⟩
  ·obtain rfl:s2=false:=by cases s2 with | false => rfl | true => exact absurd rfl hs
   rw [cN_six' a3 a4]
   go_enter Tryz.func146,Tryz.ntmps146
   go_upto_region 1 with fail
   generalize ((w.alloc (.cells #[.bool true, .int .u64 (h1:Int), .int .u64 (l1:Int)] 28 (0,0))).alloc (.cells #[.bool false, .int .u64 (h2:Int), .int .u64 (l2:Int)] 28 (0,0)))=w1 at *
   have p0:=HP.out.cell 0
   simp at p0
   have q0:=HQ.out.cell 0
   simp at q0
   go_wp2_with fail
   go_ret
   exact ⟨rfl,HB.out⟩
open Go
abbrev Sp:=Nat × Nat
def sixN (N:Nat):Bool:=decide (2 ^ 128≤N)
def hiN (N:Nat):Nat:=N / 2 ^ 64 % 2 ^ 64
end Go.Proofs.YtgkhcdjoilgfmaaGreatDoor
