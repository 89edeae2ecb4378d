/-
  Two wide numbers compared.
  The reference's PrefixFault and MaskOf.
  Prefixes and addresses compared: equal ones.
  Addresses as numbers: comparing digit by digit; what a prefix holds, whether one lies in another, what two have in common.
  Generators of prefixes: RightPrefix, Prefix.
  Prefixes of the program: span.Last, Contains, Inside; addr.Mask, Last, Contains, Inside.
  Prefixes of sites: Via, ViaOf, Site, SiteOf.
  Prefixes of the program: addr.Last, Contains, Inside, Common, checkPrefixes.
-/
import Derived.Test.YteldaicgaeooiaaGreatDoorPK2
import Derived.ChangeKeysEq
import Derived.Laws.StructEq
import Derived.StillTailTactics
set_option linter.unusedVariables false
set_option maxRecDepth 100000
set_option maxHeartbeats 2000000
namespace Go.Proofs.YteldaicgaeooiaaGreatDoor
open Go.RowKit Go
def ivs (X:List Int):Array Value:=(X.map (Value.int .i64)).toArray
theorem ivs_get (X:List Int) (i:Nat) (h:i < X.length):(ivs X)[i]?=some (.int .i64 (X.getD i 0)):=by
 simp [ivs,List.getD,h]
theorem items_int (X Y:List Int) (w:World):∀ is:List Nat,(∀ i ∈ is,i < X.length∧i < Y.length) →
  (Op.eqItems 9999 3 1 (ivs X) (ivs Y) is).run Tryz.prog w=.ok (decide (∀ i ∈ is,X.getD i 0=Y.getD i 0)) w
 | [],_ => by simp [Op.eqItems]
 | i :: is,h => by
   have ih:=items_int X Y w is fun j hj => h j (List.mem_cons_of_mem _ hj)
   obtain ⟨h1,h2⟩:=h i List.mem_cons_self
   have e1:=ivs_get X i h1
   have e2:=ivs_get Y i h2
   have he:=fun x y:Int => run_equalIn_int (P:=Tryz.prog) w 9998 3 .i64 .i64 x y (by kernel_rfl)
   have a3:=Tryz.isAgg3
   have z3:=Tryz.sizeOf3
   have p1:(part 3 (ivs X) (i * 1)).run Tryz.prog w=.ok (.int .i64 (X.getD i 0)) w:=by
    rw [Nat.mul_one];unfold part;simp [Sem.run_bind,a3,e1]
   have p2:(part 3 (ivs Y) (i * 1)).run Tryz.prog w=.ok (.int .i64 (Y.getD i 0)) w:=by
    rw [Nat.mul_one];unfold part;simp [Sem.run_bind,a3,e2]
   simp only [Op.eqItems,Sem.run_bind,p1,p2,Result.andThen_ok,he]
   by_cases hxy:X.getD i 0=Y.getD i 0
   ·have hf:decide (∀ j ∈ i :: is,X.getD j 0=Y.getD j 0)=decide (∀ j ∈ is,X.getD j 0=Y.getD j 0):=by
     rw [decide_eq_decide];simp only [List.mem_cons,forall_eq_or_imp,hxy,true_and]
    rw [hf,hxy]
    simp [ih]
   ·have hf:decide (∀ j ∈ i :: is,X.getD j 0=Y.getD j 0)=false:=by
     rw [decide_eq_false_iff_not];intro hh;exact hxy (hh i List.mem_cons_self)
    have hb:(X.getD i 0 == Y.getD i 0)=false:=beq_false_of_ne hxy
    rw [hf,hb]
    rfl
def wl (six:Bool) (f:Nat→Nat):List Int:=[(f 0:Nat),(f 1:Nat),(f 2:Nat),(f 3:Nat),(f 4:Nat),(f 5:Nat),(f 6:Nat),(f 7:Nat),if six=true then 1 else 0]
theorem wv_ivs (six:Bool) (f:Nat→Nat):wv six f=ivs (wl six f):=rfl
theorem wide_eq (s1 s2:Bool) (f g:Nat→Nat) (w:World):(Op.equalIn 10000 101 (.agg (wv s1 f)) (.agg (wv s2 g))).run Tryz.prog w=.ok (decide (wl s1 f=wl s2 g)) w:=by
 obtain ⟨i,hi⟩:∃ i,Tryz.prog.info? 3=some i:=Option.isSome_iff_exists.1 (by kernel_rfl)
 have hu:Tryz.prog.underlying 101=some (.array 9 3):=by kernel_rfl
 have hc:Tryz.prog.cellsOf 3=1:=by kernel_rfl
 rw [wv_ivs,wv_ivs,show (10000:Nat)=9999 + 1 from rfl,run_equalIn_array (P:=Tryz.prog) w 9999 (t:=101) _ _ hu hi,hc,items_int _ _ w (List.range 9) (fun i h => by have:=List.mem_range.1 h;simp [wl];omega)]
 congr 1
 rw [decide_eq_decide]
 constructor
 ·intro h
  exact List.ext_getElem (by rfl) fun i h1 h2 => by
   have:=h i (List.mem_range.2 h1)
   simpa [List.getD,h1,h2] using this
 ·intro h i _
  rw [h]
theorem wide_neq (s1 s2:Bool) (f g:Nat→Nat) (w:World):(binOp .neq 101 (.agg (wv s1 f)) (.agg (wv s2 g))).run Tryz.prog w=.ok (.bool (!decide (wl s1 f=wl s2 g))) w:=by
 rw [run_neq_struct,wide_eq];rfl
theorem wide_guard (op:BinOp) (x y:Operand) (xs ys:Array Value) (w:World):(eqGuard op 101 x y (.agg xs) (.agg ys)).run Tryz.prog w=.ok () w :=
 run_eqGuard_agg w _ _ _ _ _ _ (by kernel_rfl)
theorem wl_inj {s1 s2:Bool} {f g:Nat→Nat}:wl s1 f=wl s2 g ↔ (s1=s2∧∀ d,d < 8→f d=g d):=by
 unfold wl
 simp only [List.cons.injEq,and_true]
 constructor
 ·intro h
  refine ⟨?_,fun d hd => ?_⟩
  ·cases s1 <;> cases s2 <;> simp at h ⊢
  ·rcases lt8 hd with rfl | rfl | rfl | rfl | rfl | rfl | rfl | rfl <;> omega
 ·rintro ⟨rfl,h⟩
  rw [h 0 (by decide),h 1 (by decide),h 2 (by decide),h 3 (by decide),h 4 (by decide),h 5 (by decide),h 6 (by decide),h 7 (by decide)]
  simp
theorem wl_first (six:Bool) (hi lo n:Nat) (h1:hi < 18446744073709551616) (h2:lo < 18446744073709551616) :
  decide (wl six (clrF hi lo (lenN six - n))=wl six (dg hi lo))=decide (mHi six hi n=hi∧mLo six lo n=lo):=by
 rw [decide_eq_decide, ← first_same six hi lo n h1 h2,wl_inj,wv_inj]
 simp
def vP (six:Bool) (hi lo:Nat) (bits:Int):Value:=.agg #[.bool six, .int .u64 (hi:Int), .int .u64 (lo:Int), .int .i64 bits]
theorem prefixFault_any (six:Bool) (hi lo:Nat) (bits:Int) (w:World) (h1:hi < 18446744073709551616) (h2:lo < 18446744073709551616) :
  Calls Tryz.prog 38 #[vP six hi lo bits] w (Ret (.int .i64 (pFault six hi lo bits)) w):=by
 unfold vP
 have HA:=Lib.hid (fun wx => addrFault_any six hi lo wx ⟨by omega,by omega⟩ ⟨by omega,by omega⟩)
 have hP:Blk (w.alloc (.cells #[.bool six, .int .u64 (hi:Int), .int .u64 (lo:Int), .int .i64 bits] 30 (0,0))) w.heap.size 30 #[.bool six, .int .u64 (hi:Int), .int .u64 (lo:Int), .int .i64 bits]:=Blk.new w _ _
 have hB:Below w.heap.size w (w.alloc (.cells #[.bool six, .int .u64 (hi:Int), .int .u64 (lo:Int), .int .i64 bits] 30 (0,0))):=below_alloc (Below.refl _ _) _
 obtain ⟨pf,hpf⟩:∃ pf,pFault six hi lo bits=pf:=⟨_,rfl⟩
 rw [hpf]
 replace hpf:=Lib.hid hpf
 go_enter Tryz.func38,Tryz.ntmps38
 go_upto_region 1 with fail
 have HP:=Lib.hid hP
 have HB:=Lib.hid hB
 clear hP hB
 generalize w.alloc (.cells #[.bool six, .int .u64 (hi:Int), .int .u64 (lo:Int), .int .i64 bits] 30 (0,0))=w1 at *
 generalize hP0:w.heap.size=P0 at *
 replace hP0:=Lib.hid hP0
 have a0:=HP.out.cell 0
 have a1:=HP.out.cell 1
 have a2:=HP.out.cell 2
 have a3:=HP.out.cell 3
 have af:=HP.out.free
 simp at a0 a1 a2 a3
 go_wp2_with fail
 refine (HA.out _).mono ?_
 rintro e w2 ⟨rfl,o,rfl⟩
 have HP2:=Lib.hid (HP.out.alloc o)
 have HB2:=Lib.hid (HB.out.trans ((below_alloc (Below.refl w1.heap.size w1) o).mono (Nat.le_of_lt HP.out.lt)))
 have hlt2:=HP2.out.lt
 clear a0 a1 a2 a3 af HP HB
 generalize w1.alloc o=w2 at *
 obtain ⟨af0,haf⟩:∃ z,aFault six hi lo=z:=⟨_,rfl⟩
 rw [haf]
 by_cases hz:af0=0
 ·subst hz
  go_upto_region 4 with fail
  have a0:=HP2.out.cell 0
  have a1:=HP2.out.cell 1
  have a2:=HP2.out.cell 2
  have a3:=HP2.out.cell 3
  simp at a0 a1 a2 a3
  have l0:=Later.cell_of a0
  have l1:=Later.cell_of a1
  have l2:=Later.cell_of a2
  have l3:=Later.cell_of a3
  have hL:=fun n:Later w2 => Calls.later n (lengthQ_any six hi lo n.1)
  have hO:=fun n:Later w2 => Calls.later_same n (in_any bits 0 (lenN six:Nat) n.1)
  unfold vA at hL
  refine wp_region_later (by kernel_rfl) (by kernel_rfl) ?_
  repeat (go_big_quiet_step (first | (go_at_call 57;exact hL _) | (go_at_call 56;exact hO _)))
  refine wpQuiet_nil ?_
  rintro w5 ⟨n5,rfl⟩
  clear a0 a1 a2 a3 l0 l1 l2 l3 hL hO
  obtain ⟨ob,hob⟩:∃ z,inB bits 0 (lenN six:Nat)=z:=⟨_,rfl⟩
  rw [hob]
  have HB5:=Lib.hid (HB2.out.trans (n5.2.mono (Nat.le_of_lt hlt2)))
  have HP5:=Lib.hid (HP2.out.below n5.2 hlt2)
  have hlt5:=HP5.out.lt
  generalize n5.1=w5 at *
  have hob2:outB bits 0 (lenN six:Nat)=!ob:=by rw [← hob,inB_out];simp
  cases ob
  ·go_wp2_with fail
   have hP0':=hP0.out
   subst hP0'
   go_ret
   refine ⟨?_,HB5.out⟩
   rw [← hpf.out,pFault,if_neg (by rw [haf];decide),if_pos (by rw [hob2];rfl)]
   rfl
  ·go_upto_region 6 with fail
   have hb:0≤bits∧bits≤(lenN six:Nat):=by
    unfold inB at hob
    simp at hob
    omega
   obtain ⟨bn,rfl⟩:=Int.eq_ofNat_of_zero_le hb.1
   have hln:=lenN_le six
   have a0:=HP5.out.cell 0
   have a1:=HP5.out.cell 1
   have a2:=HP5.out.cell 2
   have a3:=HP5.out.cell 3
   simp at a0 a1 a2 a3
   have l0:=Later.cell_of a0
   have l1:=Later.cell_of a1
   have l2:=Later.cell_of a2
   have l3:=Later.cell_of a3
   have hF:=fun n:Later w5 => Calls.later n (firstOf_any six hi lo bn (lenN six - bn) n.1 h1 h2 (by omega) (by omega) (by omega))
   have hO:=fun n:Later w5 => Calls.later n (of_any six hi lo n.1 h1 h2)
   simp only [wCells_wv] at hO
   unfold vA at hF hO
   have hN:=fun w => wide_neq six six (clrF hi lo (lenN six - bn)) (dg hi lo) w
   rw [wl_first six hi lo bn h1 h2] at hN
   have hG:=wide_guard .neq
   have hpf2:pf=if mHi six hi bn ≠ hi ∨ mLo six lo bn ≠ lo then 3 else 0:=by
    rw [← hpf.out,pFault,if_neg (by rw [haf];decide),if_neg (by rw [hob2];decide)]
    rfl
   obtain ⟨z,hz⟩:∃ z,decide (mHi six hi bn=hi∧mLo six lo bn=lo)=z:=⟨_,rfl⟩
   rw [hz] at hN
   have Hpf2:Hid (pf=if z=true then 0 else 3):=Lib.hid (by
    rw [hpf2, ← hz]
    by_cases h:mHi six hi bn=hi∧mLo six lo bn=lo
    ·rw [if_neg (by omega),if_pos (by simpa using h)]
    ·rw [if_pos (by omega),if_neg (by simpa using h)])
   clear hpf2 hz hob hob2 hb
   generalize wv six (clrF hi lo (lenN six - bn))=WF at *
   generalize wv six (dg hi lo)=WD at *
   refine wp_region_later (by kernel_rfl) (by kernel_rfl) ?_
   repeat (go_big_quiet_step (first | (go_at_call 97;exact hF _) | (go_at_call 72;exact hO _)))
   refine wpQuiet_nil ?_
   rintro w6 ⟨n6,rfl⟩
   have HB6:=Lib.hid (HB5.out.trans (n6.2.mono (Nat.le_of_lt hlt5)))
   clear a0 a1 a2 a3 l0 l1 l2 l3 hF hO hN hG
   cases z
   all_goals
    go_wp2_with fail
    have hP0':=hP0.out
    subst hP0'
    go_ret
    exact ⟨by rw [Hpf2.out];rfl,HB6.out⟩
 ·have hz':(af0 != 0)=true:=by simpa using hz
  go_wp2_with fail
  have hP0':=hP0.out
  subst hP0'
  go_ret
  refine ⟨?_,HB2.out⟩
  have h3:af0=3:=by have:=aFault_vals six hi lo;rw [haf] at this;omega
  rw [← hpf.out,pFault,if_pos (by rw [haf];exact hz),h3]
  rfl
theorem maskOf_any (six:Bool) (hi lo n:Nat) (w:World) (h1:hi < 18446744073709551616) (h2:lo < 18446744073709551616) (hn:n≤128) :
  Calls Tryz.prog 80 #[vA six hi lo, .int .i64 (n:Int)] w (Ret (vP six (mHi six hi n) (mLo six lo n) (n:Int)) w):=by
 have hln:=lenN_le six
 have HF:=Lib.hid fun wx => firstOf_any six hi lo n (lenN six - n) wx h1 h2 (by omega) (by omega) (by omega)
 have HW:=Lib.hid fun wx => wideAddr_any six (clrF hi lo (lenN six - n)) wx (clrF_lt hi lo _)
 rw [clr_lo hi lo _ h2,clr_hi hi lo _ h1, ← mHi_clr, ← mLo_clr] at HW
 generalize wv six (clrF hi lo (lenN six - n))=WF at *
 generalize mHi six hi n=mh at *
 generalize mLo six lo n=ml at *
 unfold vA at HF HW ⊢
 unfold vP
 have HR0:Blk ((w.alloc (.cells #[.bool six, .int .u64 (hi:Int), .int .u64 (lo:Int)] 28 (0,0))).alloc (.cells #[.bool false, .int .u64 0, .int .u64 0, .int .i64 0] 30 (0,0))) (w.heap.size + 1) 30 #[.bool false, .int .u64 0, .int .u64 0, .int .i64 0]:=by
  have:=Blk.new (w.alloc (.cells #[.bool six, .int .u64 (hi:Int), .int .u64 (lo:Int)] 28 (0,0))) 30 #[.bool false, .int .u64 0, .int .u64 0, .int .i64 0]
  rw [World.size_alloc] at this
  exact this
 have HR:=Lib.hid HR0
 have HB:Hid (Below w.heap.size w ((w.alloc (.cells #[.bool six, .int .u64 (hi:Int), .int .u64 (lo:Int)] 28 (0,0))).alloc (.cells #[.bool false, .int .u64 0, .int .u64 0, .int .i64 0] 30 (0,0)))):=Lib.hid (below_alloc (below_alloc (Below.refl _ _) _) _)
 clear HR0
 go_enter Tryz.func80,Tryz.ntmps80
 go_wp2_with fail
 refine (HF.out _).mono ?_
 rintro e w2 ⟨rfl,hb⟩
 have HR2:=Lib.hid (HR.out.below hb HR.out.lt)
 have HB2:=Lib.hid (HB.out.trans (hb.mono HB.out.size))
 clear hb HR HB HF
 go_wp2_with fail
 refine (HW.out _).mono ?_
 rintro e w3 ⟨rfl,hb⟩
 have HR3:=Lib.hid (HR2.out.below hb HR2.out.lt)
 have HB3:=Lib.hid (HB2.out.trans (hb.mono HB2.out.size))
 clear hb HR2 HB2 HW
 have r0:=HR3.out.cell 0
 have r1:=HR3.out.cell 1
 have r2:=HR3.out.cell 2
 have r3:=HR3.out.cell 3
 have rf:=HR3.out.free
 simp at r0 r1 r2 r3
 go_wp2_with fail
 refine bodyPost_ret (v:=.agg #[.bool six, .int .u64 (mh:Int), .int .u64 (ml:Int), .int .i64 (n:Int)]) (by simp [results,Tryz.results80,go_sem,r0,r1,r2,r3]) rfl ⟨rfl,?_⟩
 repeat refine Below.setCell ?_ (by first | (simp;omega) | simp) _
 exact HB3.out
theorem addrEq (s1 s2:Bool) (h1 h2 l1 l2:Int) (d:Nat) (w:World):(Op.equalIn (d + 2) 28 (.agg #[.bool s1, .int .u64 h1, .int .u64 l1]) (.agg #[.bool s2, .int .u64 h2, .int .u64 l2])).run Tryz.prog w=.ok (decide ((s1,h1,l1)=(s2,h2,l2))) w:=by
 have u4:=Tryz.underlying4
 have a4:=Tryz.isAgg4
 have z4:=Tryz.sizeOf4
 have u27:=Tryz.underlying26
 have a27:=Tryz.isAgg26
 have z27:=Tryz.sizeOf26
 have hS:Tryz.prog.underlying 28=some (.struct (Tryz.prog.fieldsOf 28)):=by kernel_rfl
 have hp:Tryz.prog.stoodInHeld 28=false:=by kernel_rfl
 rw [run_equalIn_agg w (d + 1) 28 _ _ hS hp]
 simp only [Program.fieldsOf,Tryz.underlying28]
 go_simp
 cases s1 <;> cases s2 <;> by_cases e1:h1=h2 <;> by_cases e2:l1=l2 <;> simp [e1,e2]
theorem pfxEq (s1 s2:Bool) (h1 h2 l1 l2 b1 b2:Int) (w:World):(Op.equalIn 10000 30 (.agg #[.bool s1, .int .u64 h1, .int .u64 l1, .int .i64 b1]) (.agg #[.bool s2, .int .u64 h2, .int .u64 l2, .int .i64 b2])).run Tryz.prog w=.ok (decide ((s1,h1,l1,b1)=(s2,h2,l2,b2))) w:=by
 have hA:=addrEq s1 s2 h1 h2 l1 l2 9997
 have u3:=Tryz.underlying3
 have a3:=Tryz.isAgg3
 have z3:=Tryz.sizeOf3
 have a29:=Tryz.isAgg28
 have z29:=Tryz.sizeOf28
 have hS:Tryz.prog.underlying 30=some (.struct (Tryz.prog.fieldsOf 30)):=by kernel_rfl
 have hp:Tryz.prog.stoodInHeld 30=false:=by kernel_rfl
 rw [show (10000:Nat)=9999 + 1 from rfl,run_equalIn_agg w 9999 30 _ _ hS hp]
 simp only [Program.fieldsOf,Tryz.underlying30]
 simp only [show (9997:Nat) + 2=9999 from rfl] at hA
 go_simp
 cases s1 <;> cases s2 <;> by_cases e1:h1=h2 <;> by_cases e2:l1=l2 <;> by_cases e3:b1=b2 <;> simp [e1,e2,e3]
theorem pfx_neq (s1 s2:Bool) (h1 h2 l1 l2 b1 b2:Int) (w:World):(binOp .neq 30 (.agg #[.bool s1, .int .u64 h1, .int .u64 l1, .int .i64 b1]) (.agg #[.bool s2, .int .u64 h2, .int .u64 l2, .int .i64 b2])).run Tryz.prog w=.ok (.bool (!decide ((s1,h1,l1,b1)=(s2,h2,l2,b2)))) w:=by
 rw [run_neq_struct,pfxEq];rfl
theorem pfx_eql (s1 s2:Bool) (h1 h2 l1 l2 b1 b2:Int) (w:World):(binOp .eql 30 (.agg #[.bool s1, .int .u64 h1, .int .u64 l1, .int .i64 b1]) (.agg #[.bool s2, .int .u64 h2, .int .u64 l2, .int .i64 b2])).run Tryz.prog w=.ok (.bool (decide ((s1,h1,l1,b1)=(s2,h2,l2,b2)))) w:=by
 rw [run_eql_struct,pfxEq];rfl
theorem pfx_guard (op:BinOp) (x y:Operand) (xs ys:Array Value) (w:World):(eqGuard op 30 x y (.agg xs) (.agg ys)).run Tryz.prog w=.ok () w :=
 run_eqGuard_agg w _ _ _ _ _ _ (by kernel_rfl)
open Go
/-! ### Digits -/
def PW (F:Nat→Nat):Nat→Nat
 | 0 => 0
 | k + 1 => PW F k + F k * 65536 ^ k
theorem PW_lt {F:Nat→Nat} (h:∀ d,F d < 65536):∀ k,PW F k < 65536 ^ k
 | 0 => by simp [PW]
 | k + 1 => by
   have h1:=PW_lt h k
   have h2:=h k
   have h3:F k * 65536 ^ k≤65535 * 65536 ^ k:=Nat.mul_le_mul_right _ (by omega)
   rw [PW,Nat.pow_succ]
   omega
theorem PW_digit {F G:Nat→Nat} (hF:∀ d,F d < 65536) {i:Nat} (h:F i < G i):PW F (i + 1) < PW G (i + 1):=by
 have h1:=PW_lt hF i
 have h2:(F i + 1) * 65536 ^ i≤G i * 65536 ^ i:=Nat.mul_le_mul_right _ h
 rw [Nat.add_mul,Nat.one_mul] at h2
 simp only [PW]
 omega
theorem PW_above {F G:Nat→Nat} {i:Nat}:∀ k,(∀ j,i≤j→j < i + k→F j=G j)→PW F (i + k) + PW G i=PW G (i + k) + PW F i
 | 0,_ => by simp only [Nat.add_zero];omega
 | k + 1,h => by
   have h1:=PW_above k fun j h1 h2 => h j h1 (by omega)
   have h2:=h (i + k) (by omega) (by omega)
   rw [← Nat.add_assoc,PW,PW,h2]
   omega
def cN (a b:Nat):Int:=if a < b then -1 else if b < a then 1 else 0
theorem cN_le (a b:Nat):(cN a b≤0) ↔ a≤b:=by unfold cN;split <;> (try split) <;> omega
theorem cmp_top {F G:Nat→Nat} (hF:∀ d,F d < 65536) (hG:∀ d,G d < 65536) {i:Nat} (hi:i < 9) (hab:∀ j,i < j→j < 9→F j=G j) (hne:F i ≠ G i):cN (PW F 9) (PW G 9)=if F i < G i then -1 else 1:=by
 have h1:=PW_above (F:=F) (G:=G) (i:=i + 1) (9 - (i + 1)) fun j h1 h2 => hab j (by omega) (by omega)
 rw [show i + 1 + (9 - (i + 1))=9 by omega] at h1
 unfold cN
 rcases Nat.lt_or_ge (F i) (G i) with h | h
 ·have:=PW_digit hF h
  rw [if_pos h,if_pos (show PW F 9 < PW G 9 by omega)]
 ·have:=PW_digit hG (show G i < F i by omega)
  rw [if_neg (show ¬ F i < G i by omega),if_neg (show ¬ PW F 9 < PW G 9 by omega),if_pos (show PW G 9 < PW F 9 by omega)]
theorem PW_congr {F G:Nat→Nat}:∀ k,(∀ j,j < k→F j=G j)→PW F k=PW G k
 | 0,_ => rfl
 | k + 1,h => by rw [PW,PW,PW_congr k fun j hj => h j (by omega),h k (by omega)]
theorem cN_same (a:Nat):cN a a=0:=by unfold cN;rw [if_neg (Nat.lt_irrefl a),if_neg (Nat.lt_irrefl a)]
theorem cmp_same {F G:Nat→Nat} (hab:∀ j,j < 9→F j=G j):cN (PW F 9) (PW G 9)=0:=by
 rw [PW_congr 9 hab,cN_same]
def dv (six:Bool) (f:Nat→Nat) (d:Nat):Nat:=if d < 8 then f d else if six=true then 1 else 0
theorem dv_lt {six:Bool} {f:Nat→Nat} (h:∀ d,f d < 65536) (d:Nat):dv six f d < 65536:=by
 unfold dv;split
 ·exact h d
 ·split <;> decide
def numA (six:Bool) (hi lo:Nat):Nat:=(if six=true then 1 else 0) * 2 ^ 128 + hi * 2 ^ 64 + lo
theorem PW_num (six:Bool) (f:Nat→Nat):PW (dv six f) 9=numA six (PS f 4 4) (PS f 0 4):=by
 rw [PS_four,PS_four]
 simp only [PW,dv,numA,Nat.reduceLT,Nat.reducePow,Nat.reduceAdd,if_true,Nat.zero_add,Nat.mul_one,Nat.lt_irrefl,if_false]
 omega
/-! ### Masks of whole numbers -/
theorem big_low (x y k:Nat) (hk:k≤64):(x + 2 ^ 64 * y) % 2 ^ k=x % 2 ^ k:=by
 have e:2 ^ 64=2 ^ k * 2 ^ (64 - k):=by rw [← Nat.pow_add,show k + (64 - k)=64 by omega]
 rw [e,Nat.mul_assoc,Nat.add_mul_mod_self_left]
theorem big_high (x y k:Nat) (hx:x < 2 ^ 64) (hk:64≤k):(x + 2 ^ 64 * y) % 2 ^ k=x + 2 ^ 64 * (y % 2 ^ (k - 64)):=by
 have e:2 ^ k=2 ^ 64 * 2 ^ (k - 64):=by rw [← Nat.pow_add,show 64 + (k - 64)=k by omega]
 rw [e,Nat.mod_mul,Nat.add_mul_mod_self_left,Nat.mod_eq_of_lt hx,Nat.add_mul_div_left _ _ (by decide:0 < 2 ^ 64),Nat.div_eq_of_lt hx,Nat.zero_add]
theorem clr_big (hi lo k:Nat) (hl:lo < 2 ^ 64) (hk:k≤128):clr hi (min (k - 64) 64) * 2 ^ 64 + clr lo (min k 64)=clr (hi * 2 ^ 64 + lo) k:=by
 unfold clr
 rw [show hi * 2 ^ 64 + lo=lo + 2 ^ 64 * hi by omega]
 rcases Nat.le_total k 64 with h | h
 ·rw [big_low lo hi k h,Nat.min_eq_left h,show k - 64=0 by omega,Nat.zero_min,Nat.pow_zero,Nat.mod_one]
  have:=Nat.mod_le lo (2 ^ k)
  omega
 ·rw [big_high lo hi k hl h,Nat.min_eq_right h,Nat.min_eq_left (by omega),Nat.mod_eq_of_lt hl]
  have:=Nat.mod_le hi (2 ^ (k - 64))
  omega
theorem fil_big (hi lo k:Nat) (hl:lo < 2 ^ 64) (hk:k≤128):fil hi (min (k - 64) 64) * 2 ^ 64 + fil lo (min k 64)=fil (hi * 2 ^ 64 + lo) k:=by
 unfold fil
 rw [show hi * 2 ^ 64 + lo=lo + 2 ^ 64 * hi by omega]
 rcases Nat.le_total k 64 with h | h
 ·rw [big_low lo hi k h,Nat.min_eq_left h,show k - 64=0 by omega,Nat.zero_min,Nat.pow_zero,Nat.mod_one]
  have:=Nat.mod_le lo (2 ^ k)
  omega
 ·have e:2 ^ k=2 ^ 64 * 2 ^ (k - 64):=by rw [← Nat.pow_add,show 64 + (k - 64)=k by omega]
  rw [big_high lo hi k hl h,Nat.min_eq_right h,Nat.min_eq_left (by omega),Nat.mod_eq_of_lt hl,e]
  have:=Nat.mod_le hi (2 ^ (k - 64))
  have:=Nat.one_le_two_pow (n:=k - 64)
  omega
/-! ### Prefixes -/
def AOK (six:Bool) (hi lo:Nat):Prop:=hi < 2 ^ 64∧lo < 2 ^ 64∧(six=false→hi=0∧lo < 2 ^ 32)
def POK (six:Bool) (hi lo n:Nat):Prop:=AOK six hi lo∧n≤lenN six∧mHi six hi n=hi∧mLo six lo n=lo
def xA (hi lo:Nat):Nat:=hi * 2 ^ 64 + lo
theorem xA_inj {h1 l1 h2 l2:Nat} (a:l1 < 2 ^ 64) (b:l2 < 2 ^ 64):xA h1 l1=xA h2 l2 ↔ (h1=h2∧l1=l2):=by
 unfold xA
 constructor
 ·intro h;omega
 ·rintro ⟨rfl,rfl⟩;rfl
theorem mask_x (six:Bool) (hi lo n:Nat) (hl:lo < 2 ^ 64):xA (mHi six hi n) (mLo six lo n)=clr (xA hi lo) (lenN six - n):=by
 rw [mHi_clr,mLo_clr]
 exact clr_big hi lo (lenN six - n) hl (by have:=lenN_le six;omega)
theorem fill_x (six:Bool) (hi lo n:Nat) (hl:lo < 2 ^ 64):xA (fHi six hi n) (fLo six lo n)=fil (xA hi lo) (lenN six - n):=by
 rw [fHi_fil,fLo_fil]
 exact fil_big hi lo (lenN six - n) hl (by have:=lenN_le six;omega)
theorem numA_x (six:Bool) (hi lo:Nat):numA six hi lo=(if six=true then 1 else 0) * 2 ^ 128 + xA hi lo:=by
 unfold numA xA;omega
theorem AOK.lt {six:Bool} {hi lo:Nat} (h:AOK six hi lo):xA hi lo < 2 ^ 128∧(six=false→xA hi lo < 2 ^ 32):=by
 obtain ⟨h1,h2,h3⟩:=h
 unfold xA
 refine ⟨by omega,fun e => ?_⟩
 obtain ⟨h4,h5⟩:=h3 e
 omega
theorem POK.x {six:Bool} {hi lo n:Nat} (h:POK six hi lo n):clr (xA hi lo) (lenN six - n)=xA hi lo:=by
 rw [← mask_x six hi lo n h.1.2.1,h.2.2.1,h.2.2.2]
theorem mLo_lt2 (six:Bool) (lo n:Nat) (h:lo < 2 ^ 64):mLo six lo n < 2 ^ 64:=Nat.lt_of_le_of_lt (Nat.sub_le _ _) h
def holdsB (s:Bool) (h l n:Nat) (s2:Bool) (h2 l2:Nat):Bool:=decide (numA s h l≤numA s2 h2 l2) && decide (numA s2 h2 l2≤numA s (fHi s h n) (fLo s l n))
def conB (s:Bool) (h l n:Nat) (s2:Bool) (h2 l2:Nat):Bool:=decide (s=s2) && decide (mHi s2 h2 n=h∧mLo s2 l2 n=l)
theorem clr_iff (x y k:Nat) (hx:clr x k=x):(x≤y∧y≤fil x k) ↔ clr y k=x:=by
 have hp:=Nat.one_le_two_pow (n:=k)
 have e1:fil x k=x + (2 ^ k - 1):=by unfold fil;unfold clr at hx;omega
 rw [e1]
 have hx0:x % 2 ^ k=0:=by
  unfold clr at hx
  have:=Nat.mod_le x (2 ^ k)
  omega
 unfold clr
 have hdx:=Nat.div_add_mod x (2 ^ k)
 have hdy:=Nat.div_add_mod y (2 ^ k)
 have hmy:=Nat.mod_lt y (show 0 < 2 ^ k by omega)
 rw [hx0] at hdx
 generalize 2 ^ k=P at *
 generalize x / P=a at *
 generalize y / P=b at *
 generalize y % P=r at *
 constructor
 ·rintro ⟨h1,h2⟩
  have hab:a=b:=by
   rcases Nat.lt_trichotomy a b with h | h | h
   ·have:P * (a + 1)≤P * b:=Nat.mul_le_mul_left _ h
    rw [Nat.mul_add,Nat.mul_one] at this
    omega
   ·exact h
   ·have:P * (b + 1)≤P * a:=Nat.mul_le_mul_left _ h
    rw [Nat.mul_add,Nat.mul_one] at this
    omega
  subst hab
  omega
 ·intro h
  omega
theorem fil_lt32 (x k:Nat) (hx:x < 2 ^ 32) (hk:k≤32):fil x k < 2 ^ 34:=by
 have:2 ^ k≤2 ^ 32:=Nat.pow_le_pow_right (by decide) hk
 unfold fil
 omega
theorem hold_eq {s:Bool} {h l n:Nat} {s2:Bool} {h2 l2:Nat} (hp:POK s h l n) (ha:AOK s2 h2 l2):holdsB s h l n s2 h2 l2=conB s h l n s2 h2 l2:=by
 have hx:=hp.x
 have hpl:=hp.1.lt
 have hal:=ha.lt
 have hfx:=fill_x s h l n hp.1.2.1
 unfold holdsB conB
 rw [numA_x,numA_x,numA_x,hfx]
 rw [Bool.eq_iff_iff]
 simp only [Bool.and_eq_true,decide_eq_true_eq]
 by_cases e:s=s2
 ·subst e
  have h3:=clr_iff (xA h l) (xA h2 l2) (lenN s - n) hx
  have h4:=mask_x s h2 l2 n ha.2.1
  have h5:=xA_inj (h1:=mHi s h2 n) (h2:=h) (mLo_lt2 s l2 n ha.2.1) hp.1.2.1
  rw [h4] at h5
  constructor
  ·rintro ⟨h6,h7⟩
   exact ⟨rfl,h5.1 (h3.1 ⟨by omega,by omega⟩)⟩
  ·rintro ⟨_,h6⟩
   have:=h3.2 (h5.2 h6)
   omega
 ·refine ⟨fun ⟨h6,h7⟩ => ?_,fun h6 => absurd h6.1 e⟩
  cases s
  ·cases s2
   ·exact absurd rfl e
   ·have h8:=fil_lt32 (xA h l) (lenN false - n) (hpl.2 rfl) (by show 32 - n≤32;omega)
    simp at h7
    omega
  ·cases s2
   ·have h8:=hal.2 rfl
    simp at h6
    omega
   ·exact absurd rfl e
theorem fHi_lt (six:Bool) (hi n:Nat) (h:hi < 2 ^ 64):fHi six hi n < 2 ^ 64:=by
 rw [fHi_fil,fil_or]
 refine Nat.or_lt_two_pow (Nat.lt_of_le_of_lt (clr_le _ _) h) ?_
 have:2 ^ min (lenN six - n - 64) 64≤2 ^ 64:=Nat.pow_le_pow_right (by decide) (Nat.min_le_right _ _)
 have:=Nat.one_le_two_pow (n:=min (lenN six - n - 64) 64)
 omega
theorem fLo_lt (six:Bool) (lo n:Nat) (h:lo < 2 ^ 64):fLo six lo n < 2 ^ 64:=by
 rw [fLo_fil,fil_or]
 refine Nat.or_lt_two_pow (Nat.lt_of_le_of_lt (clr_le _ _) h) ?_
 have:2 ^ min (lenN six - n) 64≤2 ^ 64:=Nat.pow_le_pow_right (by decide) (Nat.min_le_right _ _)
 have:=Nat.one_le_two_pow (n:=min (lenN six - n) 64)
 omega
theorem POK.last {six:Bool} {hi lo n:Nat} (h:POK six hi lo n):AOK six (fHi six hi n) (fLo six lo n):=by
 refine ⟨fHi_lt _ _ _ h.1.1,fLo_lt _ _ _ h.1.2.1,fun e => ?_⟩
 subst e
 obtain ⟨h1,h2⟩:=h.1.2.2 rfl
 subst h1
 have hn:n≤32:=h.2.1
 constructor
 ·rw [fHi_fil]
  have:min (lenN false - n - 64) 64=0:=by show min (32 - n - 64) 64=0;omega
  rw [this,fil_zero]
 ·rw [fLo_fil,fil_or]
  have hk:min (lenN false - n) 64≤32:=by show min (32 - n) 64≤32;omega
  have h3:2 ^ min (lenN false - n) 64≤2 ^ 32:=Nat.pow_le_pow_right (by decide) hk
  have:=Nat.one_le_two_pow (n:=min (lenN false - n) 64)
  exact Nat.or_lt_two_pow (Nat.lt_of_le_of_lt (clr_le _ _) h2) (by omega)
def insB (s:Bool) (h l n:Nat) (s2:Bool) (h2 l2 n2:Nat):Bool:=decide (n2≤n) && conB s2 h2 l2 n2 s h l
def withinB (s:Bool) (h l n:Nat) (s2:Bool) (h2 l2 n2:Nat):Bool:=holdsB s2 h2 l2 n2 s h l && holdsB s2 h2 l2 n2 s (fHi s h n) (fLo s l n)
theorem pow_le_of {a b:Nat} (h:2 ^ a≤2 ^ b):a≤b:=by
 rcases Nat.lt_or_ge b a with h1 | h1
 ·have:=Nat.pow_lt_pow_right (a:=2) (by decide) h1
  omega
 ·exact h1
theorem clr_mono (x j k:Nat) (h:j≤k):clr (clr x j) k=clr x k:=by
 refine Nat.eq_of_testBit_eq fun i => ?_
 rw [clr_tb,clr_tb,clr_tb]
 by_cases h1:k≤i
 ·simp [h1,show j≤i by omega]
 ·simp [h1]
theorem clr_fil (x j k:Nat) (h:j≤k):clr (fil x j) k=clr x k:=by
 refine Nat.eq_of_testBit_eq fun i => ?_
 rw [clr_tb,fil_tb,clr_tb]
 by_cases h1:k≤i
 ·simp [h1,show ¬ i < j by omega]
 ·simp [h1]
theorem ins_eq {s:Bool} {h l n:Nat} {s2:Bool} {h2 l2 n2:Nat} (hp:POK s h l n) (hq:POK s2 h2 l2 n2):withinB s h l n s2 h2 l2 n2=insB s h l n s2 h2 l2 n2:=by
 unfold withinB insB
 rw [hold_eq hq hp.1,hold_eq hq hp.last]
 unfold conB
 by_cases e:s2=s
 ·subst e
  have x1:=mask_x s2 h l n2 hp.1.2.1
  have x2:=mask_x s2 (fHi s2 h n) (fLo s2 l n) n2 hp.last.2.1
  rw [fill_x s2 h l n hp.1.2.1] at x2
  have i1:=xA_inj (h1:=mHi s2 h n2) (h2:=h2) (mLo_lt2 s2 l n2 hp.1.2.1) hq.1.2.1
  have i2:=xA_inj (h1:=mHi s2 (fHi s2 h n) n2) (h2:=h2) (mLo_lt2 s2 (fLo s2 l n) n2 hp.last.2.1) hq.1.2.1
  rw [x1] at i1
  rw [x2] at i2
  have hxp:=hp.x
  have hxq:=hq.x
  have hn:=hp.2.1
  have hn2:=hq.2.1
  rw [Bool.eq_iff_iff]
  simp only [Bool.and_eq_true,decide_eq_true_eq,true_and]
  constructor
  ·rintro ⟨h3,h4⟩
   have h5:=i1.2 h3
   have h6:=i2.2 h4
   refine ⟨?_,h3⟩
   have h7:=(clr_iff (xA h2 l2) (xA h l) (lenN s2 - n2) hxq).2 h5
   have h8:=(clr_iff (xA h2 l2) (fil (xA h l) (lenN s2 - n)) (lenN s2 - n2) hxq).2 h6
   have e1:fil (xA h l) (lenN s2 - n)=xA h l + (2 ^ (lenN s2 - n) - 1):=by unfold fil;unfold clr at hxp;omega
   have e2:fil (xA h2 l2) (lenN s2 - n2)=xA h2 l2 + (2 ^ (lenN s2 - n2) - 1):=by unfold fil;unfold clr at hxq;omega
   have p1:=Nat.one_le_two_pow (n:=lenN s2 - n)
   have p2:=Nat.one_le_two_pow (n:=lenN s2 - n2)
   have:=pow_le_of (a:=lenN s2 - n) (b:=lenN s2 - n2) (by omega)
   omega
  ·rintro ⟨h3,h4⟩
   refine ⟨h4,i2.1 ?_⟩
   rw [clr_fil _ _ _ (by omega)]
   exact i1.2 h4
 ·simp [e]
/-! ### What two prefixes have in common -/
def down (E:Nat→Bool):Nat→Nat
 | 0 => 0
 | n + 1 => if E (n + 1)=true then n + 1 else down E n
theorem mask_pok {s:Bool} {h l:Nat} (ha:AOK s h l) {n:Nat} (hn:n≤lenN s):POK s (mHi s h n) (mLo s l n) n:=by
 refine ⟨⟨Nat.lt_of_le_of_lt (Nat.sub_le _ _) ha.1,mLo_lt2 _ _ _ ha.2.1,fun e => ?_⟩,hn,?_,?_⟩
 ·obtain ⟨h1,h2⟩:=ha.2.2 e
  exact ⟨by unfold mHi;rw [h1];simp,Nat.lt_of_le_of_lt (Nat.sub_le _ _) h2⟩
 ·rw [mHi_clr,mHi_clr,clr_mono _ _ _ (Nat.le_refl _)]
 ·rw [mLo_clr,mLo_clr,clr_mono _ _ _ (Nat.le_refl _)]
def U64N (x:Nat):Prop:=x < 18446744073709551616
theorem mHi_lt {six:Bool} {hi n:Nat} (h:U64N hi):U64N (mHi six hi n):=Nat.lt_of_le_of_lt (Nat.sub_le _ _) h
theorem mLo_lt {six:Bool} {lo n:Nat} (h:U64N lo):U64N (mLo six lo n):=Nat.lt_of_le_of_lt (Nat.sub_le _ _) h
theorem nat_of_U64 {x:Int} (h:U64 x):∃ n:Nat,x=(n:Int)∧U64N n:=by
 obtain ⟨n,rfl⟩:=Int.eq_ofNat_of_zero_le h.1
 have h1:=h.2
 exact ⟨n,rfl,by unfold U64N;omega⟩
theorem Gen.below0 {b m:Nat} {u v w:World} (h:Gen b u v m) (k:Below v.heap.size v w) (hb:b < v.heap.size):Gen b u w m:=h.below k h.g.size hb
def PfxGen (b:Nat) (w:World) (m:Nat) (e:Ending) (w':World):Prop :=
 ∃ (six:Bool) (hi lo:Nat) (bits:Int),e=.returned (vP six hi lo bits)∧U64N hi∧U64N lo∧(-1099511627777≤bits∧bits≤1099511627777)∧Gen b w w' m
theorem rightPrefix_gen (b m:Nat) (w:World) (h:Strm w b m) (hm:m + 10 < 1099511627776) :
  Calls Tryz.prog 82 #[.pointer (some ⟨b,0,none⟩)] w (PfxGen b w (m + 5)):=by
 have hblt:=h.lt
 have HG0:Hid (Gen b w (w.alloc (.cells #[.bool false, .int .u64 0, .int .u64 0, .int .i64 0] 30 (0,0))) m):=Lib.hid ((Gen.start h).alloc _)
 have HR0:Hid (Blk (w.alloc (.cells #[.bool false, .int .u64 0, .int .u64 0, .int .i64 0] 30 (0,0))) w.heap.size 30 #[.bool false, .int .u64 0, .int .u64 0, .int .i64 0]):=Lib.hid (Blk.new w _ _)
 clear h
 go_enter Tryz.func82,Tryz.ntmps82
 go_wp2_with fail
 refine (mAddr_gen b m _ HG0.out.s (by omega)).mono ?_
 rintro e w1 ⟨six,hi0,lo0,rfl,⟨hu1,hu2, -⟩,hg⟩
 obtain ⟨hi,rfl,h1⟩:=nat_of_U64 hu1
 obtain ⟨lo,rfl,h2⟩:=nat_of_U64 hu2
 have HU:=Lib.hid (And.intro h1 h2)
 have HG1:=Lib.hid ((HG0.out.trans hg).alloc (.cells #[.bool six, .int .u64 (hi:Int), .int .u64 (lo:Int)] 28 (0,0)))
 have HR1:=Lib.hid ((HR0.out.keep hg.g (by omega)).alloc (.cells #[.bool six, .int .u64 (hi:Int), .int .u64 (lo:Int)] 28 (0,0)))
 have HA1:Hid (Blk (w1.alloc (.cells #[.bool six, .int .u64 (hi:Int), .int .u64 (lo:Int)] 28 (0,0))) w1.heap.size 28 #[.bool six, .int .u64 (hi:Int), .int .u64 (lo:Int)]):=Lib.hid (Blk.new w1 _ _)
 have hw1:w.heap.size < w1.heap.size:=HR0.out.keep hg.g (by omega) |> Blk.lt
 clear hu1 hu2 h1 h2 hg HG0 HR0
 unfold vAddr
 go_upto_region 2 with fail
 generalize w1.alloc (.cells #[.bool six, .int .u64 (hi:Int), .int .u64 (lo:Int)] 28 (0,0))=w2 at *
 generalize w1.heap.size=F at *
 have key:∀ (n:Nat) (wx:World),n≤128→Calls Tryz.prog 80 #[.agg #[.bool six, .int .u64 (hi:Int), .int .u64 (lo:Int)], .int .i64 (n:Int)] wx (Ret (vP six (mHi six hi n) (mLo six lo n) (n:Int)) wx):=fun n wx hn => maskOf_any six hi lo n wx HU.out.1 HU.out.2 hn
 have HK:=Lib.hid key
 clear key
 go_wp2_with fail
 refine (pick_new b (m + 3) _ _ _ _ [0,8,24,27,28,29,30,31,32] _ HG1.out.s rfl (by omega) rfl (by decide) rfl).mono ?_
 rintro e w3 ⟨x,rfl,hx,hg⟩
 have hxb:0≤x∧x≤128:=by simp at hx;omega
 obtain ⟨n,rfl⟩:=Int.eq_ofNat_of_zero_le hxb.1
 have hn:n≤128:=by omega
 have HG3:=Lib.hid (HG1.out.trans hg)
 have HR3:=Lib.hid (HR1.out.keep hg.g (by omega))
 have HA3:=Lib.hid (HA1.out.keep hg.g (by omega))
 clear hx hxb hg HG1 HR1 HA1
 have a0:=HA3.out.cell 0
 have a1:=HA3.out.cell 1
 have a2:=HA3.out.cell 2
 simp at a0 a1 a2
 cases six
 ·go_wp2_with fail
  refine (HK.out n _ hn).mono ?_
  rintro e w5 ⟨rfl,hb⟩
  have HG5:=Lib.hid (HG3.out.below0 hb HG3.out.s.lt)
  have HR5:=Lib.hid (HR3.out.below hb HR3.out.lt)
  have h1:U64N (mHi false hi n):=mHi_lt HU.out.1
  have h2:U64N (mLo false lo n):=mLo_lt HU.out.2
  generalize mHi false hi n=mh at *
  generalize mLo false lo n=ml at *
  have HU2:=Lib.hid (And.intro h1 h2)
  clear h1 h2 hb a0 a1 a2 HG3 HR3 HA3
  have r0:=HR5.out.cell 0
  have r1:=HR5.out.cell 1
  have r2:=HR5.out.cell 2
  have r3:=HR5.out.cell 3
  have rf:=HR5.out.free
  simp at r0 r1 r2 r3
  unfold vP
  go_wp2_with fail
  refine bodyPost_ret (v:=.agg #[.bool false, .int .u64 (mh:Int), .int .u64 (ml:Int), .int .i64 (n:Int)]) (by simp [results,Tryz.results82,go_sem,r0,r1,r2,r3]) rfl ⟨false,mh,ml,n,rfl,HU2.out.1,HU2.out.2,by omega,?_⟩
  repeat refine Gen.setCell ?_ _ _ (Nat.le_refl _) hblt
  exact HG5.out.mono (by omega)
 ·go_wp2_with fail
  refine (pick_new b (m + 3 + 1) _ _ _ _ [0,8,32,48,63,64,65,96,127,128] _ HG3.out.s rfl (by omega) rfl (by decide) rfl).mono ?_
  rintro e w4 ⟨x,rfl,hx,hg⟩
  have hxb:0≤x∧x≤128:=by simp at hx;omega
  obtain ⟨n2,rfl⟩:=Int.eq_ofNat_of_zero_le hxb.1
  have hn2:n2≤128:=by omega
  have HG4:=Lib.hid (HG3.out.trans hg)
  have HR4:=Lib.hid (HR3.out.keep hg.g (by omega))
  have HA4:=Lib.hid (HA3.out.keep hg.g (by omega))
  clear hx hxb hg HG3 HR3 HA3 a0 a1 a2
  have a0:=HA4.out.cell 0
  have a1:=HA4.out.cell 1
  have a2:=HA4.out.cell 2
  simp at a0 a1 a2
  go_wp2_with fail
  refine (HK.out n2 _ hn2).mono ?_
  rintro e w5 ⟨rfl,hb⟩
  have HG5:=Lib.hid (HG4.out.below0 hb HG4.out.s.lt)
  have HR5:=Lib.hid (HR4.out.below hb HR4.out.lt)
  have h1:U64N (mHi true hi n2):=mHi_lt HU.out.1
  have h2:U64N (mLo true lo n2):=mLo_lt HU.out.2
  generalize mHi true hi n2=mh at *
  generalize mLo true lo n2=ml at *
  have HU2:=Lib.hid (And.intro h1 h2)
  clear h1 h2 hb a0 a1 a2 HG4 HR4 HA4
  have r0:=HR5.out.cell 0
  have r1:=HR5.out.cell 1
  have r2:=HR5.out.cell 2
  have r3:=HR5.out.cell 3
  have rf:=HR5.out.free
  simp at r0 r1 r2 r3
  unfold vP
  go_wp2_with fail
  refine bodyPost_ret (v:=.agg #[.bool true, .int .u64 (mh:Int), .int .u64 (ml:Int), .int .i64 (n2:Int)]) (by simp [results,Tryz.results82,go_sem,r0,r1,r2,r3]) rfl ⟨true,mh,ml,n2,rfl,HU2.out.1,HU2.out.2,by omega,?_⟩
  repeat refine Gen.setCell ?_ _ _ (Nat.le_refl _) hblt
  exact HG5.out.mono (by omega)
theorem prefix_gen (b m:Nat) (w:World) (h:Strm w b m) (hm:m + 20 < 1099511627776) :
  Calls Tryz.prog 30 #[.pointer (some ⟨b,0,none⟩)] w (PfxGen b w (m + 14)):=by
 have hblt:=h.lt
 have HG0:Hid (Gen b w (w.alloc (.cells #[.bool false, .int .u64 0, .int .u64 0, .int .i64 0] 30 (0,0))) m):=Lib.hid ((Gen.start h).alloc _)
 have HR0:Hid (Blk (w.alloc (.cells #[.bool false, .int .u64 0, .int .u64 0, .int .i64 0] 30 (0,0))) w.heap.size 30 #[.bool false, .int .u64 0, .int .u64 0, .int .i64 0]):=Lib.hid (Blk.new w _ _)
 clear h
 go_enter Tryz.func30,Tryz.ntmps30
 go_wp2_with fail
 refine (rightPrefix_gen b m _ HG0.out.s (by omega)).mono ?_
 rintro e w1 ⟨six,hi,lo,bits,rfl,h1,h2,h3,hg⟩
 have HU:=Lib.hid (And.intro h1 (And.intro h2 h3))
 have HG1:=Lib.hid ((HG0.out.trans hg).alloc (.cells #[.bool six, .int .u64 (hi:Int), .int .u64 (lo:Int), .int .i64 bits] 30 (0,0)))
 have HR1:=Lib.hid ((HR0.out.keep hg.g (by omega)).alloc (.cells #[.bool six, .int .u64 (hi:Int), .int .u64 (lo:Int), .int .i64 bits] 30 (0,0)))
 have HA1:Hid (Blk (w1.alloc (.cells #[.bool six, .int .u64 (hi:Int), .int .u64 (lo:Int), .int .i64 bits] 30 (0,0))) w1.heap.size 30 #[.bool six, .int .u64 (hi:Int), .int .u64 (lo:Int), .int .i64 bits]):=Lib.hid (Blk.new w1 _ _)
 have hw1:w.heap.size < w1.heap.size:=HR0.out.keep hg.g (by omega) |> Blk.lt
 clear h1 h2 h3 hg HG0 HR0
 unfold vP
 go_wp2_with fail
 generalize w1.alloc (.cells #[.bool six, .int .u64 (hi:Int), .int .u64 (lo:Int), .int .i64 bits] 30 (0,0))=w2 at *
 generalize w1.heap.size=F at *
 refine (flip_gen b (m + 5) _ _ HG1.out.s (by omega) (by omega)).mono ?_
 rintro e w3 ⟨kk,rfl,hg⟩
 have HG3:=Lib.hid (HG1.out.trans hg)
 have HR3:=Lib.hid (HR1.out.keep hg.g (by omega))
 have HA3:=Lib.hid (HA1.out.keep hg.g (by omega))
 clear hg HG1 HR1 HA1
 have a0:=HA3.out.cell 0
 have a1:=HA3.out.cell 1
 have a2:=HA3.out.cell 2
 have a3:=HA3.out.cell 3
 simp at a0 a1 a2 a3
 cases kk
 ·have r0:=HR3.out.cell 0
  have r1:=HR3.out.cell 1
  have r2:=HR3.out.cell 2
  have r3:=HR3.out.cell 3
  have rf:=HR3.out.free
  simp at r0 r1 r2 r3
  go_wp2_with fail
  refine bodyPost_ret (v:=.agg #[.bool six, .int .u64 (hi:Int), .int .u64 (lo:Int), .int .i64 bits]) (by simp [results,Tryz.results30,go_sem,r0,r1,r2,r3]) rfl ⟨six,hi,lo,bits,rfl,HU.out.1,HU.out.2.1,HU.out.2.2,?_⟩
  repeat refine Gen.setCell ?_ _ _ (Nat.le_refl _) hblt
  exact HG3.out.mono (by omega)
 ·go_wp2_with fail
  refine (raw_gen b (m + 6) _ HG3.out.s (by omega)).mono ?_
  rintro e w4 ⟨six2,hi0,lo0,rfl,⟨hu1,hu2⟩,hg⟩
  obtain ⟨hi2,rfl,h1⟩:=nat_of_U64 hu1
  obtain ⟨lo2,rfl,h2⟩:=nat_of_U64 hu2
  have HU2:=Lib.hid (And.intro h1 h2)
  have HG4:=Lib.hid (HG3.out.trans hg)
  have HR4:=Lib.hid (HR3.out.keep hg.g (by omega))
  have HA4:=Lib.hid (HA3.out.keep hg.g (by omega))
  clear hg hu1 hu2 h1 h2 HG3 HR3 HA3 a0 a1 a2 a3
  unfold vAddr
  go_wp2_with fail
  refine (odd_gen b (m + 6 + 6) _ _ _ HG4.out.s (by omega) (by omega) (by omega)).mono ?_
  rintro e w5 ⟨x,rfl,hx,hg⟩
  have HG5:=Lib.hid (HG4.out.trans hg)
  have HR5:=Lib.hid (HR4.out.keep hg.g (by omega))
  have HA5:=Lib.hid (HA4.out.keep hg.g (by omega))
  have HX:=Lib.hid hx
  have hF:=HA5.out.lt
  clear hg hx HG4 HR4 HA4
  have a0:=HA5.out.cell 0
  have a1:=HA5.out.cell 1
  have a2:=HA5.out.cell 2
  have a3:=HA5.out.cell 3
  have af:=HA5.out.free
  have r0:=HR5.out.cell 0
  have r1:=HR5.out.cell 1
  have r2:=HR5.out.cell 2
  have r3:=HR5.out.cell 3
  have rf:=HR5.out.free
  simp at a0 a1 a2 a3 r0 r1 r2 r3
  have hne:w.heap.size ≠ F:=by omega
  go_wp2_with fail
  refine bodyPost_ret (v:=.agg #[.bool six2, .int .u64 (hi2:Int), .int .u64 (lo2:Int), .int .i64 x]) (by simp [results,Tryz.results30,go_sem,r0,r1,r2,r3]) rfl ⟨six2,hi2,lo2,x,rfl,HU2.out.1,HU2.out.2,HX.out,?_⟩
  repeat refine Gen.setCell ?_ _ _ (by simp only;omega) (by simp only;omega)
  exact HG5.out.mono (by omega)
theorem addr_eql (s1 s2:Bool) (h1 h2 l1 l2:Int) (w:World):(binOp .eql 28 (.agg #[.bool s1, .int .u64 h1, .int .u64 l1]) (.agg #[.bool s2, .int .u64 h2, .int .u64 l2])).run Tryz.prog w=.ok (.bool (decide ((s1,h1,l1)=(s2,h2,l2)))) w:=by
 rw [run_eql_struct,show (10000:Nat)=9998 + 2 from rfl,addrEq];rfl
theorem addr_guard (op:BinOp) (x y:Operand) (xs ys:Array Value) (w:World):(eqGuard op 28 x y (.agg xs) (.agg ys)).run Tryz.prog w=.ok () w :=
 run_eqGuard_agg w _ _ _ _ _ _ (by kernel_rfl)
theorem eq3_nat (s:Bool) (h l h2 l2:Nat):decide (((s,(h:Int),(l:Int)):Bool × Int × Int)=(s,(h2:Int),(l2:Int)))=decide (h=h2∧l=l2):=by
 rw [decide_eq_decide];simp only [Prod.mk.injEq,true_and];omega
theorem spanLast_any (six:Bool) (hi lo n:Nat) (w:World) (h1:U64N hi) (h2:U64N lo) (hn:n≤lenN six) :
  Calls Tryz.prog 129 #[vP six hi lo (n:Int)] w (Ret (vA six (fHi six hi n) (fLo six lo n)) w):=by
 have HF:=Lib.hid fun wx => filled_any six hi lo n wx h1 h2 hn
 generalize fHi six hi n=rh at *
 generalize fLo six lo n=rl at *
 unfold vA at HF ⊢
 unfold vP
 have HP':Blk ((w.alloc (.cells #[.bool six, .int .u64 (hi:Int), .int .u64 (lo:Int), .int .i64 (n:Int)] 30 (0,0))).alloc (.cells #[.bool false, .int .u64 0, .int .u64 0] 28 (0,0))) (w.heap.size) 30 #[.bool six, .int .u64 (hi:Int), .int .u64 (lo:Int), .int .i64 (n:Int)]:=by
  have this:=Blk.new w 30 #[.bool six, .int .u64 (hi:Int), .int .u64 (lo:Int), .int .i64 (n:Int)]
  exact (this.alloc _)
 have HP:=Lib.hid HP'
 clear HP'
 have HR':Blk ((w.alloc (.cells #[.bool six, .int .u64 (hi:Int), .int .u64 (lo:Int), .int .i64 (n:Int)] 30 (0,0))).alloc (.cells #[.bool false, .int .u64 0, .int .u64 0] 28 (0,0))) (w.heap.size + 1) 28 #[.bool false, .int .u64 0, .int .u64 0]:=by
  have this:=Blk.new (w.alloc (.cells #[.bool six, .int .u64 (hi:Int), .int .u64 (lo:Int), .int .i64 (n:Int)] 30 (0,0))) 28 #[.bool false, .int .u64 0, .int .u64 0]
  rw [World.size_alloc] at this
  exact this
 have HR:=Lib.hid HR'
 clear HR'
 have HB:Hid (Below w.heap.size w ((w.alloc (.cells #[.bool six, .int .u64 (hi:Int), .int .u64 (lo:Int), .int .i64 (n:Int)] 30 (0,0))).alloc (.cells #[.bool false, .int .u64 0, .int .u64 0] 28 (0,0)))):=Lib.hid (below_alloc (below_alloc (Below.refl _ _) _) _)
 go_enter Tryz.func129,Tryz.ntmps129
 go_upto_region 1 with fail
 generalize ((w.alloc (.cells #[.bool six, .int .u64 (hi:Int), .int .u64 (lo:Int), .int .i64 (n:Int)] 30 (0,0))).alloc (.cells #[.bool false, .int .u64 0, .int .u64 0] 28 (0,0)))=w1 at *
 have p0:=HP.out.cell 0
 have p1:=HP.out.cell 1
 have p2:=HP.out.cell 2
 have p3:=HP.out.cell 3
 simp at p0 p1 p2 p3
 go_wp2_with fail
 refine (HF.out _).mono ?_
 rintro e w2 ⟨rfl,hb⟩
 have HP2:=Lib.hid (HP.out.below hb HP.out.lt)
 have HR2:=Lib.hid (HR.out.below hb HR.out.lt)
 have HB2:=Lib.hid (HB.out.trans (hb.mono HB.out.size))
 clear hb HP HR HB
 clear p0 p1 p2 p3 HF
 have r0:=HR2.out.cell 0
 have r1:=HR2.out.cell 1
 have r2:=HR2.out.cell 2
 have rf:=HR2.out.free
 simp at r0 r1 r2
 go_wp2_with fail
 refine bodyPost_ret (v:=.agg #[.bool six, .int .u64 (rh:Int), .int .u64 (rl:Int)]) (by simp [results,Tryz.results129,go_sem,r0,r1,r2]) rfl ⟨rfl,?_⟩
 repeat refine Below.setCell ?_ (by first | (simp;omega) | simp) _
 exact HB2.out
theorem spanContains_any (six:Bool) (hi lo n:Nat) (s2:Bool) (h2 l2:Nat) (w:World) (a1:U64N h2) (a2:U64N l2) (hn:n≤lenN six) :
  Calls Tryz.prog 105 #[vP six hi lo (n:Int),vA s2 h2 l2] w (Ret (.bool (conB six hi lo n s2 h2 l2)) w):=by
 by_cases e:six=s2
 ·subst e
  have HM:=Lib.hid fun wx => masked_any six h2 l2 n wx a1 a2 hn
  have hq:=fun w => addr_eql six six (mHi six h2 n) hi (mLo six l2 n) lo w
  rw [eq3_nat] at hq
  unfold conB
  rw [decide_eq_true (rfl:six=six),Bool.true_and]
  generalize decide (mHi six h2 n=hi∧mLo six l2 n=lo)=z at *
  generalize mHi six h2 n=mh at *
  generalize mLo six l2 n=ml at *
  unfold vA at HM ⊢
  unfold vP
  have Hq:=Lib.hid hq
  clear hq
  have HP':Blk ((w.alloc (.cells #[.bool six, .int .u64 (hi:Int), .int .u64 (lo:Int), .int .i64 (n:Int)] 30 (0,0))).alloc (.cells #[.bool six, .int .u64 (h2:Int), .int .u64 (l2:Int)] 28 (0,0))) (w.heap.size) 30 #[.bool six, .int .u64 (hi:Int), .int .u64 (lo:Int), .int .i64 (n:Int)]:=by
   have this:=Blk.new w 30 #[.bool six, .int .u64 (hi:Int), .int .u64 (lo:Int), .int .i64 (n:Int)]
   exact (this.alloc _)
  have HP:=Lib.hid HP'
  clear HP'
  have HA':Blk ((w.alloc (.cells #[.bool six, .int .u64 (hi:Int), .int .u64 (lo:Int), .int .i64 (n:Int)] 30 (0,0))).alloc (.cells #[.bool six, .int .u64 (h2:Int), .int .u64 (l2:Int)] 28 (0,0))) (w.heap.size + 1) 28 #[.bool six, .int .u64 (h2:Int), .int .u64 (l2:Int)]:=by
   have this:=Blk.new (w.alloc (.cells #[.bool six, .int .u64 (hi:Int), .int .u64 (lo:Int), .int .i64 (n:Int)] 30 (0,0))) 28 #[.bool six, .int .u64 (h2:Int), .int .u64 (l2:Int)]
   rw [World.size_alloc] at this
   exact this
  have HA:=Lib.hid HA'
  clear HA'
  have HB:Hid (Below w.heap.size w ((w.alloc (.cells #[.bool six, .int .u64 (hi:Int), .int .u64 (lo:Int), .int .i64 (n:Int)] 30 (0,0))).alloc (.cells #[.bool six, .int .u64 (h2:Int), .int .u64 (l2:Int)] 28 (0,0)))):=Lib.hid (below_alloc (below_alloc (Below.refl _ _) _) _)
  go_enter Tryz.func105,Tryz.ntmps105
  go_upto_region 1 with fail
  generalize ((w.alloc (.cells #[.bool six, .int .u64 (hi:Int), .int .u64 (lo:Int), .int .i64 (n:Int)] 30 (0,0))).alloc (.cells #[.bool six, .int .u64 (h2:Int), .int .u64 (l2:Int)] 28 (0,0)))=w1 at *
  have p0:=HP.out.cell 0
  have p1:=HP.out.cell 1
  have p2:=HP.out.cell 2
  have p3:=HP.out.cell 3
  simp at p0 p1 p2 p3
  have a0:=HA.out.cell 0
  have a1:=HA.out.cell 1
  have a2:=HA.out.cell 2
  simp at a0 a1 a2
  have l0:=Later.cell_of p0
  have l1:=Later.cell_of p1
  have l2:=Later.cell_of p2
  have l3:=Later.cell_of p3
  have k0:=Later.cell_of a0
  have k1:=Later.cell_of a1
  have k2:=Later.cell_of a2
  have hM:=fun m:Later w1 => Calls.later m (HM.out m.1)
  have hq:=Hq.out
  have hg:=addr_guard .eql
  refine wp_region_later (by kernel_rfl) (by kernel_rfl) ?_
  repeat (go_big_quiet_step ((go_at_call 104;exact hM _)))
  refine wpQuiet_nil ?_
  rintro w2 ⟨m2,hm2⟩
  have hb:Below w1.heap.size w1 w2:=by rw [hm2];exact m2.2
  clear hm2 m2
  go_wp2_with fail
  go_ret
  exact ⟨rfl,HB.out.trans (hb.mono HB.out.size)⟩
 ·have hz:conB six hi lo n s2 h2 l2=false:=by unfold conB;rw [decide_eq_false e];rfl
  rw [hz]
  have he:decide (six=s2)=false:=decide_eq_false e
  have he2:(six == s2)=false:=by simpa using e
  clear hz e
  unfold vA vP
  have HP':Blk ((w.alloc (.cells #[.bool six, .int .u64 (hi:Int), .int .u64 (lo:Int), .int .i64 (n:Int)] 30 (0,0))).alloc (.cells #[.bool s2, .int .u64 (h2:Int), .int .u64 (l2:Int)] 28 (0,0))) (w.heap.size) 30 #[.bool six, .int .u64 (hi:Int), .int .u64 (lo:Int), .int .i64 (n:Int)]:=by
   have this:=Blk.new w 30 #[.bool six, .int .u64 (hi:Int), .int .u64 (lo:Int), .int .i64 (n:Int)]
   exact (this.alloc _)
  have HP:=Lib.hid HP'
  clear HP'
  have HA':Blk ((w.alloc (.cells #[.bool six, .int .u64 (hi:Int), .int .u64 (lo:Int), .int .i64 (n:Int)] 30 (0,0))).alloc (.cells #[.bool s2, .int .u64 (h2:Int), .int .u64 (l2:Int)] 28 (0,0))) (w.heap.size + 1) 28 #[.bool s2, .int .u64 (h2:Int), .int .u64 (l2:Int)]:=by
   have this:=Blk.new (w.alloc (.cells #[.bool six, .int .u64 (hi:Int), .int .u64 (lo:Int), .int .i64 (n:Int)] 30 (0,0))) 28 #[.bool s2, .int .u64 (h2:Int), .int .u64 (l2:Int)]
   rw [World.size_alloc] at this
   exact this
  have HA:=Lib.hid HA'
  clear HA'
  have HB:Hid (Below w.heap.size w ((w.alloc (.cells #[.bool six, .int .u64 (hi:Int), .int .u64 (lo:Int), .int .i64 (n:Int)] 30 (0,0))).alloc (.cells #[.bool s2, .int .u64 (h2:Int), .int .u64 (l2:Int)] 28 (0,0)))):=Lib.hid (below_alloc (below_alloc (Below.refl _ _) _) _)
  go_enter Tryz.func105,Tryz.ntmps105
  go_upto_region 1 with fail
  generalize ((w.alloc (.cells #[.bool six, .int .u64 (hi:Int), .int .u64 (lo:Int), .int .i64 (n:Int)] 30 (0,0))).alloc (.cells #[.bool s2, .int .u64 (h2:Int), .int .u64 (l2:Int)] 28 (0,0)))=w1 at *
  have p0:=HP.out.cell 0
  have p1:=HP.out.cell 1
  have p2:=HP.out.cell 2
  have p3:=HP.out.cell 3
  simp at p0 p1 p2 p3
  have a0:=HA.out.cell 0
  have a1:=HA.out.cell 1
  have a2:=HA.out.cell 2
  simp at a0 a1 a2
  have l0:=Later.cell_of p0
  have l1:=Later.cell_of p1
  have l2:=Later.cell_of p2
  have l3:=Later.cell_of p3
  have k0:=Later.cell_of a0
  have k1:=Later.cell_of a1
  have k2:=Later.cell_of a2
  refine wp_region_later (by kernel_rfl) (by kernel_rfl) ?_
  repeat (go_big_quiet_step (fail))
  refine wpQuiet_nil ?_
  rintro w2 ⟨m2,hm2⟩
  have hb:Below w1.heap.size w1 w2:=by rw [hm2];exact m2.2
  clear hm2 m2
  go_wp2_with fail
  go_ret
  exact ⟨rfl,HB.out.trans (hb.mono HB.out.size)⟩
theorem spanInside_any (six:Bool) (hi lo n:Nat) (s2:Bool) (h2 l2 n2:Nat) (w:World) (a1:U64N hi) (a2:U64N lo) (hn:n2≤lenN s2) :
  Calls Tryz.prog 47 #[vP six hi lo (n:Int),vP s2 h2 l2 (n2:Int)] w (Ret (.bool (insB six hi lo n s2 h2 l2 n2)) w):=by
 have HC:=Lib.hid fun wx => spanContains_any s2 h2 l2 n2 six hi lo wx a1 a2 hn
 unfold insB
 generalize conB s2 h2 l2 n2 six hi lo=z at *
 by_cases hle:n2≤n
 ·rw [decide_eq_true hle,Bool.true_and]
  unfold vA at HC
  unfold vP at HC ⊢
  have hi1:(n:Int) ≥ (n2:Int):=by omega
  have HP':Blk ((w.alloc (.cells #[.bool six, .int .u64 (hi:Int), .int .u64 (lo:Int), .int .i64 (n:Int)] 30 (0,0))).alloc (.cells #[.bool s2, .int .u64 (h2:Int), .int .u64 (l2:Int), .int .i64 (n2:Int)] 30 (0,0))) (w.heap.size) 30 #[.bool six, .int .u64 (hi:Int), .int .u64 (lo:Int), .int .i64 (n:Int)]:=by
   have this:=Blk.new w 30 #[.bool six, .int .u64 (hi:Int), .int .u64 (lo:Int), .int .i64 (n:Int)]
   exact (this.alloc _)
  have HP:=Lib.hid HP'
  clear HP'
  have HQ':Blk ((w.alloc (.cells #[.bool six, .int .u64 (hi:Int), .int .u64 (lo:Int), .int .i64 (n:Int)] 30 (0,0))).alloc (.cells #[.bool s2, .int .u64 (h2:Int), .int .u64 (l2:Int), .int .i64 (n2:Int)] 30 (0,0))) (w.heap.size + 1) 30 #[.bool s2, .int .u64 (h2:Int), .int .u64 (l2:Int), .int .i64 (n2:Int)]:=by
   have this:=Blk.new (w.alloc (.cells #[.bool six, .int .u64 (hi:Int), .int .u64 (lo:Int), .int .i64 (n:Int)] 30 (0,0))) 30 #[.bool s2, .int .u64 (h2:Int), .int .u64 (l2:Int), .int .i64 (n2:Int)]
   rw [World.size_alloc] at this
   exact this
  have HQ:=Lib.hid HQ'
  clear HQ'
  have HB:Hid (Below w.heap.size w ((w.alloc (.cells #[.bool six, .int .u64 (hi:Int), .int .u64 (lo:Int), .int .i64 (n:Int)] 30 (0,0))).alloc (.cells #[.bool s2, .int .u64 (h2:Int), .int .u64 (l2:Int), .int .i64 (n2:Int)] 30 (0,0)))):=Lib.hid (below_alloc (below_alloc (Below.refl _ _) _) _)
  go_enter Tryz.func47,Tryz.ntmps47
  go_upto_region 1 with fail
  generalize ((w.alloc (.cells #[.bool six, .int .u64 (hi:Int), .int .u64 (lo:Int), .int .i64 (n:Int)] 30 (0,0))).alloc (.cells #[.bool s2, .int .u64 (h2:Int), .int .u64 (l2:Int), .int .i64 (n2:Int)] 30 (0,0)))=w1 at *
  have p0:=HP.out.cell 0
  have p1:=HP.out.cell 1
  have p2:=HP.out.cell 2
  have p3:=HP.out.cell 3
  simp at p0 p1 p2 p3
  have q0:=HQ.out.cell 0
  have q1:=HQ.out.cell 1
  have q2:=HQ.out.cell 2
  have q3:=HQ.out.cell 3
  simp at q0 q1 q2 q3
  go_wp2_with fail
  refine (HC.out _).mono ?_
  rintro e w2 ⟨rfl,hb⟩
  go_wp2_with fail
  go_ret
  exact ⟨rfl,HB.out.trans (hb.mono HB.out.size)⟩
 ·rw [decide_eq_false hle,Bool.false_and]
  unfold vP
  have hi1:¬ (n:Int) ≥ (n2:Int):=by omega
  clear HC
  have HP':Blk ((w.alloc (.cells #[.bool six, .int .u64 (hi:Int), .int .u64 (lo:Int), .int .i64 (n:Int)] 30 (0,0))).alloc (.cells #[.bool s2, .int .u64 (h2:Int), .int .u64 (l2:Int), .int .i64 (n2:Int)] 30 (0,0))) (w.heap.size) 30 #[.bool six, .int .u64 (hi:Int), .int .u64 (lo:Int), .int .i64 (n:Int)]:=by
   have this:=Blk.new w 30 #[.bool six, .int .u64 (hi:Int), .int .u64 (lo:Int), .int .i64 (n:Int)]
   exact (this.alloc _)
  have HP:=Lib.hid HP'
  clear HP'
  have HQ':Blk ((w.alloc (.cells #[.bool six, .int .u64 (hi:Int), .int .u64 (lo:Int), .int .i64 (n:Int)] 30 (0,0))).alloc (.cells #[.bool s2, .int .u64 (h2:Int), .int .u64 (l2:Int), .int .i64 (n2:Int)] 30 (0,0))) (w.heap.size + 1) 30 #[.bool s2, .int .u64 (h2:Int), .int .u64 (l2:Int), .int .i64 (n2:Int)]:=by
   have this:=Blk.new (w.alloc (.cells #[.bool six, .int .u64 (hi:Int), .int .u64 (lo:Int), .int .i64 (n:Int)] 30 (0,0))) 30 #[.bool s2, .int .u64 (h2:Int), .int .u64 (l2:Int), .int .i64 (n2:Int)]
   rw [World.size_alloc] at this
   exact this
  have HQ:=Lib.hid HQ'
  clear HQ'
  have HB:Hid (Below w.heap.size w ((w.alloc (.cells #[.bool six, .int .u64 (hi:Int), .int .u64 (lo:Int), .int .i64 (n:Int)] 30 (0,0))).alloc (.cells #[.bool s2, .int .u64 (h2:Int), .int .u64 (l2:Int), .int .i64 (n2:Int)] 30 (0,0)))):=Lib.hid (below_alloc (below_alloc (Below.refl _ _) _) _)
  go_enter Tryz.func47,Tryz.ntmps47
  go_upto_region 1 with fail
  generalize ((w.alloc (.cells #[.bool six, .int .u64 (hi:Int), .int .u64 (lo:Int), .int .i64 (n:Int)] 30 (0,0))).alloc (.cells #[.bool s2, .int .u64 (h2:Int), .int .u64 (l2:Int), .int .i64 (n2:Int)] 30 (0,0)))=w1 at *
  have p0:=HP.out.cell 0
  have p1:=HP.out.cell 1
  have p2:=HP.out.cell 2
  have p3:=HP.out.cell 3
  simp at p0 p1 p2 p3
  have q0:=HQ.out.cell 0
  have q1:=HQ.out.cell 1
  have q2:=HQ.out.cell 2
  have q3:=HQ.out.cell 3
  simp at q0 q1 q2 q3
  go_wp2_with fail
  go_ret
  exact ⟨rfl,HB.out⟩
theorem pFault_zero {six:Bool} {hi lo:Nat} {bits:Int} (h:pFault six hi lo bits=0):aFault six hi lo=0∧0≤bits∧bits≤(lenN six:Nat):=by
 unfold pFault at h
 by_cases h1:aFault six (hi:Int) (lo:Int) ≠ 0
 ·rw [if_pos h1] at h;cases h
 ·rw [if_neg h1] at h
  by_cases h2:outB bits 0 (lenN six:Nat)=true
  ·rw [if_pos h2] at h;cases h
  ·unfold outB at h2
   simp at h2
   exact ⟨by simpa using h1,by omega,by omega⟩
theorem aFault_four {hi lo:Nat} (h:aFault false hi lo=0):hi=0∧lo < 4294967296:=by
 unfold aFault at h
 split at h
 ·cases h
 ·rename_i hn
  simp at hn
  omega
theorem pFault_nat {six:Bool} {hi lo:Nat} {bits:Int} (h:pFault six hi lo bits=0):∃ n:Nat,bits=(n:Int)∧n≤lenN six:=by
 obtain ⟨_,h1,h2⟩:=pFault_zero h
 obtain ⟨n,rfl⟩:=Int.eq_ofNat_of_zero_le h1
 exact ⟨n,rfl,by omega⟩
theorem pFault_pok {six:Bool} {hi lo n:Nat} (h:pFault six hi lo (n:Int)=0) (h1:U64N hi) (h2:U64N lo):POK six hi lo n:=by
 obtain ⟨ha,_,hb⟩:=pFault_zero h
 refine ⟨⟨h1,h2,fun e => ?_⟩,by omega,?_⟩
 ·subst e
  obtain ⟨h3,h4⟩:=aFault_four ha
  exact ⟨h3,h4⟩
 ·unfold pFault at h
  rw [if_neg (by rw [ha];decide)] at h
  by_cases h3:outB (n:Int) 0 (lenN six:Nat)=true
  ·rw [if_pos h3] at h;cases h
  ·rw [if_neg h3,Int.toNat_natCast] at h
   by_cases h4:mHi six hi n ≠ hi ∨ mLo six lo n ≠ lo
   ·rw [if_pos h4] at h;cases h
   ·omega
end Go.Proofs.YteldaicgaeooiaaGreatDoor
