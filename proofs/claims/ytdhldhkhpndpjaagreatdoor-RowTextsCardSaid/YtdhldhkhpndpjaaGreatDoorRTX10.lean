/-
  addr.Ranges and addr.Span of the program.
  A variable made and filled: alloc and store of a whole value at once, the cells whatever.
  Keys: the program's IsKey, the reference's Key (by strings.Trim): both say keyB.
  Decimal numerals, in plain words: digits of a number in a row of so many places; sums digit by digit.
  Decimal numerals without leading zeros: read and written.
  Contracts of strings.Split and strconv.Atoi over this program, as the kit's lay-plain.mjs prints them. Conditions: stated in each.
  What functions of strings and numbers read of the library's variables; their contracts in the words of lists of bytes.
  kit.Number: a numeral of at most so many digits, with a sign.
-/
import Derived.Test.YtdhldhkhpndpjaaGreatDoorRTX9
import Derived.Deep.MidRow
import Derived.Deep.WholeRow
import Derived.Great.Walk
import Derived.BigQuiet
import Derived.Great.BuildSlice
import Derived.Great.FillDense
import Derived.Test.YtdhldhkhpndpjaaGreatDoorRTX8
import Derived.Test.YtdhldhkhpndpjaaGreatDoorRTX4
import Derived.Lib.ItoaNum
import Derived.Lib.Repeat
import Derived.Lib.Atoi
import Derived.Lib.AtoiAll
import Derived.Lib.Strings
import Derived.Shelf.Strconv.Atoi
import Derived.Shelf.LaysC
import Derived.Shelf.Strconv.AtoiAll
import Derived.Shelf.Strconv.ErrVarAll
import Derived.Shelf.Strings.Count
import Derived.Shelf.Strings.Split
import Derived.Shelf.LaysM
import Derived.Shelf.Strings.SplitShaped
import Derived.Test.YtdhldhkhpndpjaaGreatDoorProg
import Derived.Test.YtdhldhkhpndpjaaGreatDoorRTX3
import Derived.Test.YtdhldhkhpndpjaaGreatDoorRTX1
set_option linter.unusedVariables false
set_option maxRecDepth 100000
namespace Go.Proofs.YtdhldhkhpndpjaaGreatDoor
open Go.RowKit Go
theorem alloc_of {P:Program} {ty:TypeId} {z:Value} (hz:∀ w,(zeroValue ty).run P w=.ok z w) (w:World):(Instr.alloc ty true (.tuple #[])).run P w=.ok (.pointer (some ⟨w.heap.size,0,none⟩)) (w.alloc (.cells z.cells ty (0,0))):=by
 simp [Instr.alloc,hz,newVar,newRow]
theorem wpList_store_newb {P:Program} {ops:Array Oper} {rest:List Oper} {op:Oper} {a:Act} {Q:Exit→Act→World→Prop} {w:World} {c c':Array Value} (hgd:op.guard=none) (ty:TypeId) (x y:Operand) (ho:op.op=.store ty x y)
  (hx:a.eval x=.pointer (some ⟨w.heap.size,0,none⟩)) (hy:a.eval y=.agg c') (hi:(P.info? ty).map (·.size)=some c'.size) (hs:c.size=c'.size) (h1:c'.all (·.oneCell')=true)
  (h:wpList P ops Q rest (a.put op.dst undef) (w.alloc (.cells c' ty (0,0)))):wpList P ops Q (op :: rest) a (w.alloc (.cells c ty (0,0))) :=
 wpList_store_row hgd ty x y ho w.heap.size c' hx hy ty c (heap_alloc_last w _) hi hs h1 (by rw [World.setRow_alloc_new];exact h)
theorem wpList_var {P:Program} {ops:Array Oper} {rest:List Oper} {o1 o2:Oper} {a:Act} {Q:Exit→Act→World→Prop} {w:World} (c':Array Value) (ty:TypeId) {z:Value} (hz:∀ w,(zeroValue ty).run P w=.ok z w)
  (h1:o1.guard=none) (e1:o1.op=.alloc ty) (h2:o2.guard=none) (x y:Operand) (e2:o2.op=.store ty x y) (d:Option Tmp) (hd:o1.dst=d)
  (hx:(a.put d (.pointer (some ⟨w.heap.size,0,none⟩))).eval x=.pointer (some ⟨w.heap.size,0,none⟩)) (hy:(a.put d (.pointer (some ⟨w.heap.size,0,none⟩))).eval y=.agg c')
  (m:Nat) (hi:(P.info? ty).map (·.size)=some m) (hm:c'.size=m) (hs:z.cells.size=m) (hone:c'.all (·.oneCell')=true)
  (h:wpList P ops Q rest ((a.put d (.pointer (some ⟨w.heap.size,0,none⟩))).put o2.dst undef) (w.alloc (.cells c' ty (0,0)))):wpList P ops Q (o1 :: o2 :: rest) a w:=by
 subst hd hm
 refine wpList_plain h1 fun K hK => ?_
 unfold Oper.wp execOp
 simp only [e1,Sem.run_bind,alloc_of hz w,Sem.run_pure,Result.andThen_ok]
 exact hK _ _ (wpList_store_newb h2 ty x y e2 hx hy hi hs hone h)
theorem wpList_loadn {P:Program} {ops:Array Oper} {rest:List Oper} {op:Oper} {a:Act} {w:World} {Q:Exit→Act→World→Prop} (hgd:op.guard=none) (ty:TypeId) (x:Operand) (ho:op.op=.load ty x)
  (b o:Nat) (hx:a.eval x=.pointer (some ⟨b,o,none⟩)) (cs:List Value) (d:TypeDesc) (hc:w.rangeAt b o cs)
  (hu:P.underlying ty=some d) (hd:d.isRow=true) (m:Nat) (hi:(P.info? ty).map (·.size)=some m) (hm:cs.length=m)
  (h:wpList P ops Q rest (a.put op.dst (.agg cs.toArray)) w):wpList P ops Q (op :: rest) a w:=by
 subst hm
 exact wpList_load_mid hgd ty x ho b o hx cs d hc hu hd hi h
theorem wpList_build1 {P:Program} {ops:Array Oper} {rest:List Oper} {o:Oper} {a:Act} {w:World} {Q:Exit→Act→World→Prop} (hg:o.guard=none) (t e:TypeId) (x:Operand) (ho:o.op=.buildSlice t 1 #[(0,x)])
  (X:Array Value) (hx:a.eval x=.agg X) (m:Nat) (hu:P.underlying t=some (.slice e)) (hi:(P.info? e).map (fun i => (i.size,i.zero.map (fun z => z.cells.size)))=some (m,some m)) (hX:X.size=m) (hpos:0 < m) (hsmall:m≤2 ^ 24)
  (h:wpList P ops Q rest (a.put o.dst (.slice (some ⟨w.heap.size,0,none⟩) 1 1)) (w.alloc (.cells X e (0,0)))):wpList P ops Q (o :: rest) a w:=by
 cases hie:P.info? e with
 | none => rw [hie] at hi;cases hi
 | some ie =>
   rw [hie] at hi
   simp only [Option.map_some,Option.some.injEq,Prod.mk.injEq] at hi
   obtain ⟨h1,h2⟩:=hi
   cases hz:ie.zero with
   | none => rw [hz] at h2;cases h2
   | some z =>
     rw [hz] at h2
     simp only [Option.map_some,Option.some.injEq] at h2
     have hf:=Go.Great.fill_whole (s:=m) hpos [Value.agg X] ((Array.range (1 * m)).map (z.cells[· % z.cells.size]!)) (fun v hv => by rw [List.mem_singleton] at hv;subst hv;exact hX) (by simp)
     have e2:(([Value.agg X]:List Value).flatMap fun v => v.cells.toList).toArray=X:=by simp [Value.cells]
     rw [e2] at hf
     refine wpList_buildSlice hg t e 1 #[(0,x)] ho X ie z hu hie hz (by rw [h1];omega) (by rw [h1];omega) ?_ h
     rw [h1]
     simpa [hx] using hf
theorem Blk.range {w:World} {B:Nat} {t:TypeId} {X:List Value} (h:Blk w B t X.toArray):w.rangeAt B 0 X:=fun j v hv => by
 rw [Nat.zero_add,h.cell j]
 simpa using hv
theorem range_left {w:World} {b o:Nat} {A B:List Value} (h:w.rangeAt b o (A ++ B)):w.rangeAt b o A:=fun j v hv => h j v (by
 have hj:=(List.getElem?_eq_some_iff.1 hv).1
 rw [List.getElem?_append_left hj];exact hv)
theorem range_right {w:World} {b o:Nat} {A B:List Value} (h:w.rangeAt b o (A ++ B)):w.rangeAt b (o + A.length) B:=fun j v hv => by
 have:=h (A.length + j) v (by rw [List.getElem?_append_right (Nat.le_add_right _ _),Nat.add_sub_cancel_left];exact hv)
 rw [← Nat.add_assoc] at this
 exact this
theorem range_below {w w':World} {b o B:Nat} {A:List Value} (h:w.rangeAt b o A) (hb:Below B w w') (hlt:b < B):w'.rangeAt b o A:=fun j v hv => (hb.cell (p:=⟨b,o + j,none⟩) hlt).trans (h j v hv)
theorem wpQuiet_loadn {P:Program} {ops:Array Oper} {C:World→Prop} {Q:Act→Prop} {o:Oper} {rest:List Oper} {a:Act} (hw:Region.wanted o (yielded ops a.tmps)=true) (ty:TypeId) (x:Operand) (ho:o.op=.load ty x) (dst:Option Tmp) (hdst:o.dst=dst)
  (b off:Nat) (hx:a.eval x=.pointer (some ⟨b,off,none⟩)) (X:Array Value) (hc:∀ w,C w→w.rangeAt b off X.toList) (d:TypeDesc) (hu:P.underlying ty=some d) (hd:d.isRow=true) (m:Nat) (hi:(P.info? ty).map (·.size)=some m) (hm:X.size=m)
  (h:wpQuiet P ops C Q rest (a.put dst (.agg X))):wpQuiet P ops C Q (o :: rest) a:=by
 subst hm hdst
 refine BigFrame.wpQuiet_want hw fun K hK => ⟨.agg X,fun w hwC => ?_,hK _ h⟩
 have:=run_loadAt_mid w b off ty X.toList d (hc w hwC) hu hd (by simpa using hi)
 unfold Oper.quietAt execOp
 simp only [ho,hx,Sem.run_bind,this,Result.andThen_ok,Sem.run_pure]
 exact ⟨rfl,rfl⟩
theorem cN_pos (a b:Nat):cN a b > 0 ↔ b < a:=by unfold cN;split <;> (try split) <;> omega
theorem wN_size (x:Nat):(wN x).size=9:=rfl
theorem wN_dig8 (x:Nat):(wN x).toList[8]?=some (.int .i64 ((digN x 8:Nat):Int)):=rfl
theorem qs_split (p:Sp):layQs.enc p=(wN p.1).toList ++ (wN p.2).toList:=Array.toList_append
theorem zero_qs:(Tryz.prog.info? 249).map (fun i => (i.size,i.zero.map (fun z => z.cells.size)))=some (18,some 18):=by kernel_rfl
theorem size_qs:(Tryz.prog.info? 249).map (·.size)=some 18:=by kernel_rfl
theorem size_wide:(Tryz.prog.info? 121).map (·.size)=some 9:=by kernel_rfl
def strL (L:List UInt8):ByteArray:=⟨L.toArray⟩
theorem strL_of (s:ByteArray):strL s.data.toList=s:=by
 rcases s with ⟨⟨l⟩⟩
 rfl
theorem strL_size (L:List UInt8):(strL L).size=L.length:=by simp [strL,ByteArray.size]
theorem strL_get (L:List UInt8) (i:Nat) (x:UInt8) (hx:L[i]?=some x) (h:i < (strL L).size):(strL L)[i]'h=x:=by
 obtain ⟨h2,rfl⟩:=List.getElem?_eq_some_iff.1 hx
 rfl
theorem strL_take (L:List UInt8) (n:Nat):(strL L).extract 0 n=strL (L.take n):=by
 unfold strL
 apply ByteArray.ext
 simp
theorem strL_drop (L:List UInt8) (m:Nat):(strL L).extract m (strL L).size=strL (L.drop m):=by
 unfold strL
 apply ByteArray.ext
 simp [ByteArray.size]
 exact List.take_of_length_le (by simp)
theorem wrap_i64R (x:Nat) (h:x < 9223372036854775808):IntKind.i64.wrap (x:Int)=(x:Int):=by
 rw [IntKind.wrap_i64]
 omega
open Go Go.Lib
def dgs:Nat→Nat→List UInt8
 | 0,_ => []
 | n + 1,x => Lib.dg x n :: dgs n x
theorem dgs_len:∀ n x,(dgs n x).length=n
 | 0,_ => rfl
 | n + 1,x => by simp [dgs,dgs_len n x]
theorem dgs_snoc:∀ n x,dgs (n + 1) x=dgs n (x / 10) ++ [Lib.dg x 0]
 | 0,x => rfl
 | n + 1,x => by
   have h:=dgs_snoc n x
   rw [dgs,h,dgs,dg_succ]
   rfl
theorem decDigits_dgs (u:Nat):decDigits u=dgs (nDigits u) u:=by
 induction u using Nat.strongRecOn with
 | _ u ih =>
   by_cases h:u < 10
   ·rw [decDigits,dif_pos h,nDigits_small h]
    simp [dgs,Lib.dg,Nat.mod_eq_of_lt h]
   ·rw [decDigits,dif_neg h,nDigits_big h,ih (u / 10) (by omega),dgs_snoc]
    simp [Lib.dg]
theorem pow_nDigits_le {u:Nat} (h:u ≠ 0):10 ^ (nDigits u - 1)≤u:=by
 induction u using Nat.strongRecOn with
 | _ u ih =>
   by_cases h2:u < 10
   ·rw [nDigits_small h2];simp;omega
   ·rw [nDigits_big h2]
    have h3:=ih (u / 10) (by omega) (by omega)
    have h4:=nDigits_pos (u / 10)
    obtain ⟨q,hq⟩:∃ q,nDigits (u / 10)=q + 1:=⟨nDigits (u / 10) - 1,by omega⟩
    rw [hq] at h3 ⊢
    simp only [Nat.add_sub_cancel] at h3 ⊢
    rw [Nat.pow_succ]
    omega
theorem dec_of_dgs {n x:Nat} (h1:x < 10 ^ n) (h2:nDigits x=n):dgs n x=decDigits x:=by rw [decDigits_dgs,h2]
theorem nDigits_lt {x n:Nat} (hn:1≤n) (h:x < 10 ^ n):nDigits x≤n:=by
 by_cases h0:x=0
 ·subst h0;rw [nDigits_small (by decide)];exact hn
 ·have h1:=pow_nDigits_le h0
  have h3:10 ^ (nDigits x - 1) < 10 ^ n:=by omega
  have h4:=(Nat.pow_lt_pow_iff_right (by decide:1 < 10)).1 h3
  omega
theorem dg_val (x k:Nat):(Lib.dg x k).toNat=48 + x / 10 ^ k % 10:=by
 unfold Lib.dg
 have:x / 10 ^ k % 10 < 10:=Nat.mod_lt _ (by decide)
 simp
 omega
def isDg (b:UInt8):Bool:=decide (48≤b.toNat∧b.toNat≤57)
def decV (d:List UInt8):Nat:=d.foldl (fun a b => a * 10 + (b.toNat - 48)) 0
theorem decFrom_all:∀ (d:List UInt8) (acc:Nat),d.all isDg=true→decFrom acc d=some (d.foldl (fun a b => a * 10 + (b.toNat - 48)) acc)
 | [],acc,_ => rfl
 | b :: d,acc,h => by
   rw [List.all_cons,Bool.and_eq_true] at h
   have hb:=h.1
   unfold isDg at hb
   have hv:digitVal b=some (b.toNat - 48):=by unfold digitVal;rw [if_pos (by simpa using hb)]
   simp only [decFrom,hv]
   rw [decFrom_all d _ h.2]
   rfl
theorem decV_snoc (d:List UInt8) (b:UInt8):decV (d ++ [b])=decV d * 10 + (b.toNat - 48):=by
 unfold decV
 rw [List.foldl_append]
 rfl
theorem dg_of {b:UInt8} {v:Nat} (h:isDg b=true):Lib.dg (v * 10 + (b.toNat - 48)) 0=b:=by
 unfold isDg at h
 have h:48≤b.toNat∧b.toNat≤57:=by simpa using h
 unfold Lib.dg
 apply UInt8.toNat.inj
 rw [UInt8.toNat_ofNat']
 simp
 omega
theorem decV_dgs:∀ (n:Nat) (d:List UInt8),d.length=n→d.all isDg=true→decV d < 10 ^ n∧dgs n (decV d)=d
 | 0,d,h,_ => by
   have:d=[]:=List.eq_nil_of_length_eq_zero h
   subst this
   exact ⟨by decide,rfl⟩
 | n + 1,d,h,ha => by
   rcases List.eq_nil_or_concat d with rfl | ⟨e,b,rfl⟩
   ·simp at h
   ·rw [List.concat_eq_append] at h ha ⊢
    rw [List.length_append,List.length_singleton] at h
    rw [List.all_append,Bool.and_eq_true] at ha
    have hb:isDg b=true:=by simpa using ha.2
    obtain ⟨h1,h2⟩:=decV_dgs n e (by omega) ha.1
    rw [decV_snoc]
    have hb':=hb
    unfold isDg at hb'
    have hb':48≤b.toNat∧b.toNat≤57:=by simpa using hb'
    refine ⟨by rw [Nat.pow_succ];omega,?_⟩
    rw [dgs_snoc,dg_of hb,show (decV e * 10 + (b.toNat - 48)) / 10=decV e by omega,h2]
def numL (d:List UInt8):Bool:=!d.isEmpty && d.all isDg && (d.head? != some 48 || d == [48])
theorem decV_lead {b:UInt8} {d:List UInt8} (h:isDg b=true) (hb:b ≠ 48):10 ^ d.length≤decV (b :: d):=by
 have key:∀ (d:List UInt8) (acc:Nat),acc * 10 ^ d.length≤d.foldl (fun a b => a * 10 + (b.toNat - 48)) acc:=by
  intro d
  induction d with
  | nil => intro acc;simp
  | cons x d ih =>
    intro acc
    rw [List.foldl_cons,List.length_cons,Nat.pow_succ]
    refine Nat.le_trans ?_ (ih _)
    rw [Nat.add_mul,Nat.mul_assoc acc 10,Nat.mul_comm 10]
    exact Nat.le_add_right _ _
 have h1:=key d (b.toNat - 48)
 have h2:1≤b.toNat - 48:=by
  unfold isDg at h
  have h:48≤b.toNat∧b.toNat≤57:=by simpa using h
  have:b.toNat ≠ 48:=fun e => hb (UInt8.toNat.inj e)
  omega
 refine Nat.le_trans ?_ (show (b.toNat - 48) * 10 ^ d.length≤decV (b :: d) by
  unfold decV
  rw [List.foldl_cons,Nat.zero_mul,Nat.zero_add]
  exact h1)
 calc 10 ^ d.length=1 * 10 ^ d.length:=(Nat.one_mul _).symm
  _≤_:=Nat.mul_le_mul_right _ h2
theorem numL_dec {d:List UInt8} (h:numL d=true):decDigits (decV d)=d:=by
 unfold numL at h
 rw [Bool.and_eq_true,Bool.and_eq_true] at h
 obtain ⟨⟨h1,h2⟩,h3⟩:=h
 cases d with
 | nil => simp at h1
 | cons b d =>
   obtain ⟨h4,h5⟩:=decV_dgs (d.length + 1) (b :: d) rfl h2
   have hb:isDg b=true:=by rw [List.all_cons,Bool.and_eq_true] at h2;exact h2.1
   have hn:nDigits (decV (b :: d))=d.length + 1:=by
    by_cases e:b=48
    ·subst e
     have:d=[]:=by simpa using h3
     subst this
     exact nDigits_small (by decide)
    ·exact nDigits_unique _ _ (decV_lead hb e) h4
   rw [← dec_of_dgs (n:=d.length + 1) h4 hn]
   exact h5
theorem dg_isDg (x j:Nat):isDg (Lib.dg x j)=true:=by
 unfold isDg
 rw [dg_val]
 simp
 omega
theorem dec_all (u:Nat):(decDigits u).all isDg=true:=by
 rw [decDigits_eq,List.all_map]
 simp [dg_isDg]
theorem dec_ne (u:Nat):decDigits u ≠ []:=fun h => by
 have:=decDigits_length u
 rw [h] at this
 have h1:=nDigits_pos u
 simp at this
 omega
theorem dec_decV (u:Nat):decV (decDigits u)=u:=by
 have h1:=lt_pow_nDigits u
 have h2:=decDigits_length u
 have key:∀ (n x:Nat),x < 10 ^ n→decV (dgs n x)=x:=by
  intro n
  induction n with
  | zero => intro x hx;simp at hx;subst hx;rfl
  | succ n ih =>
    intro x hx
    rw [dgs_snoc,decV_snoc,ih (x / 10) (by rw [Nat.pow_succ] at hx;omega),dg_val]
    simp
    omega
 rw [decDigits_dgs]
 exact key _ _ h1
theorem dec_numL (u:Nat):numL (decDigits u)=true:=by
 unfold numL
 rw [dec_all,Bool.and_true,Bool.and_eq_true]
 refine ⟨by cases e:decDigits u with
  | nil => exact absurd e (dec_ne u)
  | cons _ _ => rfl,?_⟩
 by_cases h:u < 10
 ·rw [decDigits_one h]
  by_cases h0:u=0
  ·subst h0;rfl
  ·have:UInt8.ofNat (48 + u) ≠ 48:=fun e => by
    have:=congrArg UInt8.toNat e
    rw [UInt8.toNat_ofNat'] at this
    simp at this
    omega
   rw [Bool.or_eq_true]
   refine .inl (bne_iff_ne.2 fun e => this ?_)
   injection e
 ·have hn:2≤nDigits u:=by rw [nDigits_big h];have:=nDigits_pos (u / 10);omega
  have hp:=pow_nDigits_le (u:=u) (by omega)
  have e:(decDigits u).head?=some (Lib.dg u (nDigits u - 1)):=by
   rw [decDigits_eq]
   obtain ⟨m,hm⟩:∃ m,nDigits u=m + 1:=⟨nDigits u - 1,by omega⟩
   rw [hm,List.range_succ_eq_map]
   rfl
  rw [e]
  have hd:Lib.dg u (nDigits u - 1) ≠ 48:=fun e => by
   have h1:=congrArg UInt8.toNat e
   rw [dg_val] at h1
   have h2:u / 10 ^ (nDigits u - 1) % 10=0:=by
    have:(48:UInt8).toNat=48:=rfl
    omega
   have h3:u / 10 ^ (nDigits u - 1) < 10:=by
    rw [Nat.div_lt_iff_lt_mul (Nat.pow_pos (by decide))]
    have:=lt_pow_nDigits u
    rw [show nDigits u=nDigits u - 1 + 1 by omega,Nat.pow_succ] at this
    omega
   have h4:1≤u / 10 ^ (nDigits u - 1):=(Nat.le_div_iff_mul_le (Nat.pow_pos (by decide))).2 (by omega)
   omega
  simp [hd]
theorem atoi_num {d:List UInt8} (h:numL d=true):atoi d=some (decV d:Int):=by
 have hh:=h
 unfold numL at h
 rw [Bool.and_eq_true,Bool.and_eq_true] at h
 obtain ⟨⟨h1,h2⟩,h3⟩:=h
 cases d with
 | nil => simp at h1
 | cons b d =>
   have hb:isDg b=true:=by rw [List.all_cons,Bool.and_eq_true] at h2;exact h2.1
   unfold isDg at hb
   have hb:48≤b.toNat∧b.toNat≤57:=by simpa using hb
   have n1:(b == 45)=false:=beq_eq_false_iff_ne.2 fun e => by subst e;simp at hb
   have n2:(b == 43)=false:=beq_eq_false_iff_ne.2 fun e => by subst e;simp at hb
   unfold atoi
   simp only [n1,n2]
   unfold decNat
   rw [decFrom_all _ _ h2]
   rfl
end Go.Proofs.YtdhldhkhpndpjaaGreatDoor
namespace Go.Proofs
open Go.Shelf
def Tryz.lazB172_ren:Go.Shelf.Ren:=⟨fun | 172 => 214 | 244 => 269 | 245 => 270 | 247 => 322 | 279 => 323 | 280 => 324 | 281 => 325 | 282 => 326 | 287 => 354 | 316 => 355 | 171 => 111 | 205 => 356 | 321 => 390 | 322 => 391 | 243 => 189 | 246 => 255 | 283 => 310 | 284 => 311 | 285 => 312 | 286 => 313 | 129 => 304 | 317 => 343 | 318 => 344 | 319 => 345 | 320 => 346 | 337 => 386 | 338 => 387 | n => n,fun | 9 => 9 | 3 => 3 | 75 => 139 | 76 => 140 | 4 => 4 | 5 => 5 | 167 => 313 | 37 => 135 | 0 => 0 | 85 => 314 | 2 => 2 | 168 => 316 | 53 => 26 | 175 => 319 | 46 => 185 | 210 => 343 | 127 => 209 | 145 => 368 | 143 => 366 | 21 => 21 | 171 => 308 | 173 => 310 | 212 => 337 | 51 => 235 | 20 => 20 | 213 => 338 | 232 => 380 | 233 => 381 | 80 => 36 | n => n,fun | 15 => 2 | 16 => 3 | 17 => 1 | 18 => 6 | 19 => 7 | n => n⟩
theorem Tryz.lazB172:Go.Proofs.Lays.n172 Tryz.prog Tryz.lazB172_ren:={
 mixed:=by kernel_rfl
 f129:=Tryz.func304.trans (congrArg some (by kernel_rfl))
 f171:=Tryz.func111.trans (congrArg some (by kernel_rfl))
 f172:=Tryz.func214.trans (congrArg some (by kernel_rfl))
 f205:=Tryz.func356.trans (congrArg some (by kernel_rfl))
 f243:=Tryz.func189.trans (congrArg some (by kernel_rfl))
 f244:=Tryz.func269.trans (congrArg some (by kernel_rfl))
 f245:=Tryz.func270.trans (congrArg some (by kernel_rfl))
 f246:=Tryz.func255.trans (congrArg some (by kernel_rfl))
 f247:=Tryz.func322.trans (congrArg some (by kernel_rfl))
 f279:=Tryz.func323.trans (congrArg some (by kernel_rfl))
 f280:=Tryz.func324.trans (congrArg some (by kernel_rfl))
 f281:=Tryz.func325.trans (congrArg some (by kernel_rfl))
 f282:=Tryz.func326.trans (congrArg some (by kernel_rfl))
 f283:=Tryz.func310.trans (congrArg some (by kernel_rfl))
 f284:=Tryz.func311.trans (congrArg some (by kernel_rfl))
 f285:=Tryz.func312.trans (congrArg some (by kernel_rfl))
 f286:=Tryz.func313.trans (congrArg some (by kernel_rfl))
 f287:=Tryz.func354.trans (congrArg some (by kernel_rfl))
 f316:=Tryz.func355.trans (congrArg some (by kernel_rfl))
 f317:=Tryz.func343.trans (congrArg some (by kernel_rfl))
 f318:=Tryz.func344.trans (congrArg some (by kernel_rfl))
 f319:=Tryz.func345.trans (congrArg some (by kernel_rfl))
 f320:=Tryz.func346.trans (congrArg some (by kernel_rfl))
 f321:=Tryz.func390.trans (congrArg some (by kernel_rfl))
 f322:=Tryz.func391.trans (congrArg some (by kernel_rfl))
 f337:=Tryz.func386.trans (congrArg some (by kernel_rfl))
 f338:=Tryz.func387.trans (congrArg some (by kernel_rfl))
 t0:=Tryz.underlying0
 a0:=Tryz.isAgg0
 z0:=Tryz.sizeOf0
 v0:=Tryz.zeroValue0
 t2:=Tryz.underlying2
 a2:=Tryz.isAgg2
 z2:=Tryz.sizeOf2
 v2:=Tryz.zeroValue2
 t3:=Tryz.underlying3
 a3:=Tryz.isAgg3
 z3:=Tryz.sizeOf3
 v3:=Tryz.zeroValue3
 t4:=Tryz.underlying4
 a4:=Tryz.isAgg4
 z4:=Tryz.sizeOf4
 v4:=Tryz.zeroValue4
 t5:=Tryz.underlying5
 a5:=Tryz.isAgg5
 z5:=Tryz.sizeOf5
 v5:=Tryz.zeroValue5
 t9:=Tryz.underlying9
 a9:=Tryz.isAgg9
 z9:=Tryz.sizeOf9
 v9:=Tryz.zeroValue9
 t20:=Tryz.underlying20
 a20:=Tryz.isAgg20
 z20:=Tryz.sizeOf20
 v20:=Tryz.zeroValue20
 t21:=Tryz.underlying21
 a21:=Tryz.isAgg21
 z21:=Tryz.sizeOf21
 v21:=Tryz.zeroValue21
 t37:=Tryz.underlying135
 a37:=Tryz.isAgg135
 z37:=Tryz.sizeOf135
 v37:=Tryz.zeroValue135
 t46:=Tryz.underlying185
 a46:=Tryz.isAgg185
 z46:=Tryz.sizeOf185
 v46:=Tryz.zeroValue185
 t51:=Tryz.underlying235
 a51:=Tryz.isAgg235
 z51:=Tryz.sizeOf235
 v51:=Tryz.zeroValue235
 t53:=Tryz.underlying26
 a53:=Tryz.isAgg26
 z53:=Tryz.sizeOf26
 v53:=Tryz.zeroValue26
 t75:=Tryz.underlying139
 a75:=Tryz.isAgg139
 z75:=Tryz.sizeOf139
 v75:=Tryz.zeroValue139
 t76:=Tryz.underlying140
 a76:=Tryz.isAgg140
 z76:=Tryz.sizeOf140
 v76:=Tryz.zeroValue140
 t85:=Tryz.underlying314
 a85:=Tryz.isAgg314
 z85:=Tryz.sizeOf314
 v85:=Tryz.zeroValue314
 t127:=Tryz.underlying209
 a127:=Tryz.isAgg209
 z127:=Tryz.sizeOf209
 v127:=Tryz.zeroValue209
 t143:=Tryz.underlying366
 a143:=Tryz.isAgg366
 z143:=Tryz.sizeOf366
 v143:=Tryz.zeroValue366
 t145:=Tryz.underlying368
 a145:=Tryz.isAgg368
 z145:=Tryz.sizeOf368
 v145:=Tryz.zeroValue368
 t167:=Tryz.underlying313
 a167:=Tryz.isAgg313
 z167:=Tryz.sizeOf313
 v167:=Tryz.zeroValue313
 t168:=Tryz.underlying316
 a168:=Tryz.isAgg316
 z168:=Tryz.sizeOf316
 v168:=Tryz.zeroValue316
 t171:=Tryz.underlying308
 a171:=Tryz.isAgg308
 z171:=Tryz.sizeOf308
 v171:=Tryz.zeroValue308
 t173:=Tryz.underlying310
 a173:=Tryz.isAgg310
 z173:=Tryz.sizeOf310
 v173:=Tryz.zeroValue310
 t175:=Tryz.underlying319
 a175:=Tryz.isAgg319
 z175:=Tryz.sizeOf319
 v175:=Tryz.zeroValue319
 t210:=Tryz.underlying343
 a210:=Tryz.isAgg343
 z210:=Tryz.sizeOf343
 v210:=Tryz.zeroValue343
 t212:=Tryz.underlying337
 a212:=Tryz.isAgg337
 z212:=Tryz.sizeOf337
 v212:=Tryz.zeroValue337
 t213:=Tryz.underlying338
 a213:=Tryz.isAgg338
 z213:=Tryz.sizeOf338
 t232:=Tryz.underlying380
 a232:=Tryz.isAgg380
 z232:=Tryz.sizeOf380
 v232:=Tryz.zeroValue380
 t233:=Tryz.underlying381
 a233:=Tryz.isAgg381
 z233:=Tryz.sizeOf381
 v233:=Tryz.zeroValue381
 g15:=by kernel_rfl
 g16:=by kernel_rfl
 g17:=by kernel_rfl
 g18:=by kernel_rfl
 g19:=by kernel_rfl }
def Tryz.lazBC172_ren:Go.Shelf.Ren:=⟨fun | 172 => 214 | 244 => 269 | 245 => 270 | 247 => 322 | 279 => 323 | 280 => 324 | 281 => 325 | 282 => 326 | 287 => 354 | 316 => 355 | 171 => 111 | 205 => 356 | 321 => 390 | 322 => 391 | 243 => 189 | 246 => 255 | 283 => 310 | 284 => 311 | 285 => 312 | 286 => 313 | 129 => 304 | 317 => 343 | 318 => 344 | 319 => 345 | 320 => 346 | 337 => 386 | 338 => 387 | n => n,fun | 9 => 9 | 3 => 3 | 75 => 139 | 76 => 140 | 4 => 4 | 5 => 5 | 167 => 313 | 37 => 135 | 0 => 0 | 85 => 314 | 2 => 2 | 168 => 316 | 53 => 26 | 175 => 319 | 46 => 185 | 210 => 343 | 127 => 209 | 145 => 368 | 143 => 366 | 21 => 21 | 171 => 308 | 173 => 310 | 212 => 337 | 51 => 235 | 20 => 20 | 213 => 338 | 232 => 380 | 233 => 381 | 80 => 36 | n => n,fun | 15 => 2 | 16 => 3 | 17 => 1 | 18 => 6 | 19 => 7 | n => n⟩
theorem Tryz.lazBC172:Go.Proofs.LaysC.n172 Tryz.prog Tryz.lazBC172_ren:={
 mixed:=by kernel_rfl
 f129:=Tryz.func304.trans (congrArg some (by kernel_rfl))
 f171:=Tryz.func111.trans (congrArg some (by kernel_rfl))
 f172:=Tryz.func214.trans (congrArg some (by kernel_rfl))
 f205:=Tryz.func356.trans (congrArg some (by kernel_rfl))
 f243:=Tryz.func189.trans (congrArg some (by kernel_rfl))
 f244:=Tryz.func269.trans (congrArg some (by kernel_rfl))
 f245:=Tryz.func270.trans (congrArg some (by kernel_rfl))
 f246:=Tryz.func255.trans (congrArg some (by kernel_rfl))
 f247:=Tryz.func322.trans (congrArg some (by kernel_rfl))
 f279:=Tryz.func323.trans (congrArg some (by kernel_rfl))
 f280:=Tryz.func324.trans (congrArg some (by kernel_rfl))
 f281:=Tryz.func325.trans (congrArg some (by kernel_rfl))
 f282:=Tryz.func326.trans (congrArg some (by kernel_rfl))
 f283:=Tryz.func310.trans (congrArg some (by kernel_rfl))
 f284:=Tryz.func311.trans (congrArg some (by kernel_rfl))
 f285:=Tryz.func312.trans (congrArg some (by kernel_rfl))
 f286:=Tryz.func313.trans (congrArg some (by kernel_rfl))
 f287:=Tryz.func354.trans (congrArg some (by kernel_rfl))
 f316:=Tryz.func355.trans (congrArg some (by kernel_rfl))
 f317:=Tryz.func343.trans (congrArg some (by kernel_rfl))
 f318:=Tryz.func344.trans (congrArg some (by kernel_rfl))
 f319:=Tryz.func345.trans (congrArg some (by kernel_rfl))
 f320:=Tryz.func346.trans (congrArg some (by kernel_rfl))
 f321:=Tryz.func390.trans (congrArg some (by kernel_rfl))
 f322:=Tryz.func391.trans (congrArg some (by kernel_rfl))
 f337:=Tryz.func386.trans (congrArg some (by kernel_rfl))
 f338:=Tryz.func387.trans (congrArg some (by kernel_rfl))
 t0:=Tryz.underlying0
 a0:=Tryz.isAgg0
 z0:=Tryz.sizeOf0
 v0:=Tryz.zeroValue0
 t2:=Tryz.underlying2
 a2:=Tryz.isAgg2
 z2:=Tryz.sizeOf2
 v2:=Tryz.zeroValue2
 t3:=Tryz.underlying3
 a3:=Tryz.isAgg3
 z3:=Tryz.sizeOf3
 v3:=Tryz.zeroValue3
 t4:=Tryz.underlying4
 a4:=Tryz.isAgg4
 z4:=Tryz.sizeOf4
 v4:=Tryz.zeroValue4
 t5:=Tryz.underlying5
 a5:=Tryz.isAgg5
 z5:=Tryz.sizeOf5
 v5:=Tryz.zeroValue5
 t9:=Tryz.underlying9
 a9:=Tryz.isAgg9
 z9:=Tryz.sizeOf9
 v9:=Tryz.zeroValue9
 t20:=Tryz.underlying20
 a20:=Tryz.isAgg20
 z20:=Tryz.sizeOf20
 v20:=Tryz.zeroValue20
 t21:=Tryz.underlying21
 a21:=Tryz.isAgg21
 z21:=Tryz.sizeOf21
 v21:=Tryz.zeroValue21
 t37:=Tryz.underlying135
 a37:=Tryz.isAgg135
 z37:=Tryz.sizeOf135
 v37:=Tryz.zeroValue135
 t46:=Tryz.underlying185
 a46:=Tryz.isAgg185
 z46:=Tryz.sizeOf185
 v46:=Tryz.zeroValue185
 t51:=Tryz.underlying235
 a51:=Tryz.isAgg235
 z51:=Tryz.sizeOf235
 v51:=Tryz.zeroValue235
 t53:=Tryz.underlying26
 a53:=Tryz.isAgg26
 z53:=Tryz.sizeOf26
 v53:=Tryz.zeroValue26
 t75:=Tryz.underlying139
 a75:=Tryz.isAgg139
 z75:=Tryz.sizeOf139
 v75:=Tryz.zeroValue139
 t76:=Tryz.underlying140
 a76:=Tryz.isAgg140
 z76:=Tryz.sizeOf140
 v76:=Tryz.zeroValue140
 t85:=Tryz.underlying314
 a85:=Tryz.isAgg314
 z85:=Tryz.sizeOf314
 v85:=Tryz.zeroValue314
 t127:=Tryz.underlying209
 a127:=Tryz.isAgg209
 z127:=Tryz.sizeOf209
 v127:=Tryz.zeroValue209
 t143:=Tryz.underlying366
 a143:=Tryz.isAgg366
 z143:=Tryz.sizeOf366
 v143:=Tryz.zeroValue366
 t145:=Tryz.underlying368
 a145:=Tryz.isAgg368
 z145:=Tryz.sizeOf368
 v145:=Tryz.zeroValue368
 t167:=Tryz.underlying313
 a167:=Tryz.isAgg313
 z167:=Tryz.sizeOf313
 v167:=Tryz.zeroValue313
 t168:=Tryz.underlying316
 a168:=Tryz.isAgg316
 z168:=Tryz.sizeOf316
 v168:=Tryz.zeroValue316
 t171:=Tryz.underlying308
 a171:=Tryz.isAgg308
 z171:=Tryz.sizeOf308
 v171:=Tryz.zeroValue308
 t173:=Tryz.underlying310
 a173:=Tryz.isAgg310
 z173:=Tryz.sizeOf310
 v173:=Tryz.zeroValue310
 t175:=Tryz.underlying319
 a175:=Tryz.isAgg319
 z175:=Tryz.sizeOf319
 v175:=Tryz.zeroValue319
 t210:=Tryz.underlying343
 a210:=Tryz.isAgg343
 z210:=Tryz.sizeOf343
 v210:=Tryz.zeroValue343
 t212:=Tryz.underlying337
 a212:=Tryz.isAgg337
 z212:=Tryz.sizeOf337
 v212:=Tryz.zeroValue337
 t213:=Tryz.underlying338
 a213:=Tryz.isAgg338
 z213:=Tryz.sizeOf338
 t232:=Tryz.underlying380
 a232:=Tryz.isAgg380
 z232:=Tryz.sizeOf380
 v232:=Tryz.zeroValue380
 t233:=Tryz.underlying381
 a233:=Tryz.isAgg381
 z233:=Tryz.sizeOf381
 v233:=Tryz.zeroValue381
 g15:=by kernel_rfl
 g16:=by kernel_rfl
 g17:=by kernel_rfl
 g18:=by kernel_rfl
 g19:=by kernel_rfl
 t80:=Tryz.underlying36
 a80:=Tryz.isAgg36
 z80:=Tryz.sizeOf36
 v80:=Tryz.zeroValue36
 i0:=by kernel_rfl
 i2:=by kernel_rfl
 i3:=by kernel_rfl
 i4:=by kernel_rfl
 i5:=by kernel_rfl
 i9:=by kernel_rfl
 i20:=by kernel_rfl
 i21:=by kernel_rfl
 i37:=by kernel_rfl
 i46:=by kernel_rfl
 i51:=by kernel_rfl
 i53:=by kernel_rfl
 i75:=by kernel_rfl
 i76:=by kernel_rfl
 i80:=by kernel_rfl
 i85:=by kernel_rfl
 i127:=by kernel_rfl
 i143:=by kernel_rfl
 i145:=by kernel_rfl
 i167:=by kernel_rfl
 i168:=by kernel_rfl
 i171:=by kernel_rfl
 i173:=by kernel_rfl
 i175:=by kernel_rfl
 i210:=by kernel_rfl
 i212:=by kernel_rfl
 i232:=by kernel_rfl
 i233:=by kernel_rfl
 m15:=by kernel_rfl
 m16:=by kernel_rfl
 m17:=by kernel_rfl
 m18:=by kernel_rfl
 m19:=by kernel_rfl
 c0:=by kernel_rfl
 c2:=by kernel_rfl
 c3:=by kernel_rfl
 c4:=by kernel_rfl
 c5:=by kernel_rfl
 c9:=by kernel_rfl
 c20:=by kernel_rfl
 c21:=by kernel_rfl
 c37:=by kernel_rfl
 c46:=by kernel_rfl
 c51:=by kernel_rfl
 c53:=by kernel_rfl
 c75:=by kernel_rfl
 c76:=by kernel_rfl
 c80:=by kernel_rfl
 c85:=by kernel_rfl
 c127:=by kernel_rfl
 c143:=by kernel_rfl
 c145:=by kernel_rfl
 c167:=by kernel_rfl
 c168:=by kernel_rfl
 c171:=by kernel_rfl
 c173:=by kernel_rfl
 c175:=by kernel_rfl
 c210:=by kernel_rfl
 c212:=by kernel_rfl
 c213:=by kernel_rfl
 c232:=by kernel_rfl
 c233:=by kernel_rfl }
def Tryz.lazB221_ren:Go.Shelf.Ren:=⟨fun | 221 => 256 | 268 => 314 | 138 => 315 | 143 => 316 | 195 => 347 | 197 => 332 | 218 => 348 | 219 => 317 | 260 => 374 | 217 => 349 | 225 => 350 | 224 => 351 | 267 => 352 | 266 => 388 | 314 => 389 | n => n,fun | 9 => 9 | 3 => 3 | 31 => 154 | 4 => 4 | 0 => 0 | 105 => 325 | 21 => 21 | 5 => 5 | 46 => 185 | 119 => 373 | 139 => 376 | 138 => 375 | 146 => 236 | 51 => 235 | n => n,fun | 1 => 0 | 3 => 4 | 4 => 5 | n => n⟩
def Tryz.lazB146_ren:Go.Shelf.Ren:=⟨fun | 146 => 190 | 221 => 256 | 268 => 314 | 138 => 315 | 143 => 316 | 195 => 347 | 197 => 332 | 218 => 348 | 219 => 317 | 260 => 374 | 217 => 349 | 225 => 350 | 224 => 351 | 267 => 352 | 266 => 388 | 314 => 389 | n => n,fun | 9 => 9 | 31 => 154 | 3 => 3 | 4 => 4 | 0 => 0 | 105 => 325 | 21 => 21 | 5 => 5 | 46 => 185 | 119 => 373 | 139 => 376 | 138 => 375 | 146 => 236 | 51 => 235 | n => n,fun | 1 => 0 | 3 => 4 | 4 => 5 | n => n⟩
theorem Tryz.lazB146:Go.Proofs.Lays.n146 Tryz.prog Tryz.lazB146_ren:={
 mixed:=by kernel_rfl
 f138:=Tryz.func315.trans (congrArg some (by kernel_rfl))
 f143:=Tryz.func316.trans (congrArg some (by kernel_rfl))
 f146:=Tryz.func190.trans (congrArg some (by kernel_rfl))
 f195:=Tryz.func347.trans (congrArg some (by kernel_rfl))
 f197:=Tryz.func332.trans (congrArg some (by kernel_rfl))
 f217:=Tryz.func349.trans (congrArg some (by kernel_rfl))
 f218:=Tryz.func348.trans (congrArg some (by kernel_rfl))
 f219:=Tryz.func317.trans (congrArg some (by kernel_rfl))
 f221:=Tryz.func256.trans (congrArg some (by kernel_rfl))
 f224:=Tryz.func351.trans (congrArg some (by kernel_rfl))
 f225:=Tryz.func350.trans (congrArg some (by kernel_rfl))
 f260:=Tryz.func374.trans (congrArg some (by kernel_rfl))
 f266:=Tryz.func388.trans (congrArg some (by kernel_rfl))
 f267:=Tryz.func352.trans (congrArg some (by kernel_rfl))
 f268:=Tryz.func314.trans (congrArg some (by kernel_rfl))
 f314:=Tryz.func389.trans (congrArg some (by kernel_rfl))
 t0:=Tryz.underlying0
 a0:=Tryz.isAgg0
 z0:=Tryz.sizeOf0
 v0:=Tryz.zeroValue0
 t3:=Tryz.underlying3
 a3:=Tryz.isAgg3
 z3:=Tryz.sizeOf3
 v3:=Tryz.zeroValue3
 t4:=Tryz.underlying4
 a4:=Tryz.isAgg4
 z4:=Tryz.sizeOf4
 v4:=Tryz.zeroValue4
 t5:=Tryz.underlying5
 a5:=Tryz.isAgg5
 z5:=Tryz.sizeOf5
 v5:=Tryz.zeroValue5
 t9:=Tryz.underlying9
 a9:=Tryz.isAgg9
 z9:=Tryz.sizeOf9
 v9:=Tryz.zeroValue9
 t21:=Tryz.underlying21
 a21:=Tryz.isAgg21
 z21:=Tryz.sizeOf21
 v21:=Tryz.zeroValue21
 t31:=Tryz.underlying154
 a31:=Tryz.isAgg154
 z31:=Tryz.sizeOf154
 v31:=Tryz.zeroValue154
 t46:=Tryz.underlying185
 a46:=Tryz.isAgg185
 z46:=Tryz.sizeOf185
 v46:=Tryz.zeroValue185
 t51:=Tryz.underlying235
 a51:=Tryz.isAgg235
 z51:=Tryz.sizeOf235
 v51:=Tryz.zeroValue235
 t105:=Tryz.underlying325
 a105:=Tryz.isAgg325
 z105:=Tryz.sizeOf325
 v105:=Tryz.zeroValue325
 t119:=Tryz.underlying373
 a119:=Tryz.isAgg373
 z119:=Tryz.sizeOf373
 t138:=Tryz.underlying375
 a138:=Tryz.isAgg375
 z138:=Tryz.sizeOf375
 v138:=Tryz.zeroValue375
 t139:=Tryz.underlying376
 a139:=Tryz.isAgg376
 z139:=Tryz.sizeOf376
 v139:=Tryz.zeroValue376
 t146:=Tryz.underlying236
 a146:=Tryz.isAgg236
 z146:=Tryz.sizeOf236
 v146:=Tryz.zeroValue236
 g1:=by kernel_rfl
 g3:=by kernel_rfl
 g4:=by kernel_rfl }
end Go.Proofs
namespace Go.Proofs.YtdhldhkhpndpjaaGreatDoor
open Go.RowKit Go Go.Sort
structure Vr (w:World):Prop where
 mx:∃ m,w.cell? ⟨0,0,none⟩=some (.int .i64 m)
 es:∃ ev,w.cell? ⟨2,0,none⟩=some ev∧(ev=.nilIface ∨ ∃ te pe,ev=.iface te pe)
 er:∃ ev,w.cell? ⟨3,0,none⟩=some ev∧(ev=.nilIface ∨ ∃ te pe,ev=.iface te pe)
 tb:Tabs w
theorem cell_below {w w':World} {g:Nat} {v:Value} (h:w.cell? ⟨g,0,none⟩=some v) (hb:Below w.heap.size w w'):w'.cell? ⟨g,0,none⟩=some v :=
 (hb.cell (World.block_lt_of_cell? _ _ h)).trans h
theorem Vr.below {w w':World} (h:Vr w) (hb:Below w.heap.size w w'):Vr w':=by
 obtain ⟨⟨m,h1⟩,⟨e,h2,h3⟩,⟨f,h4,h5⟩,h6⟩:=h
 exact ⟨⟨m,cell_below h1 hb⟩,⟨e,cell_below h2 hb,h3⟩,⟨f,cell_below h4 hb,h5⟩,h6.below hb⟩
def RdS (w:World) (g:Nat) (ss:List (List UInt8)):Prop:=g < w.heap.size∧∀ (i:Nat) s,ss[i]?=some s→w.cell? ⟨g,i,none⟩=some (.string (strL s))
theorem RdS.below {w w':World} {g:Nat} {ss:List (List UInt8)} (h:RdS w g ss) (hb:Below w.heap.size w w'):RdS w' g ss :=
 ⟨Nat.lt_of_lt_of_le h.1 hb.size,fun i s hs => (hb.cell (p:=⟨g,i,none⟩) h.1).trans (h.2 i s hs)⟩
theorem split_any (s:List UInt8) (c:UInt8) (w:World) (hv:Vr w) (hs:s.length≤1000000) :
  Calls Tryz.prog 190 #[.string (strL s), .string ⟨#[c]⟩] w fun e w' => ∃ g,e=.returned (.slice (some ⟨g,0,none⟩) (spl c s).length (spl c s).length)∧RdS w' g (spl c s)∧Below w.heap.size w w':=by
 obtain ⟨m,hm⟩:=hv.mx
 refine (Tryz.strings_Split (strL s) ⟨#[c]⟩ m w (by rw [strL_size];omega) hm (by show 1≤1;exact Nat.le_refl _)).mono ?_
 rintro e w' ⟨rfl,rfl⟩
 refine ⟨w.heap.size,by rw [countB_one];rfl,⟨by simp,fun i p hp => ?_⟩,below_alloc (Below.refl _ _) _⟩
 rw [cell_of_row _ w.heap.size i _ _ _ (heap_alloc_new w _),splitB_one']
 rw [List.getElem?_toArray,List.getElem?_map,List.getElem?_map]
 show (Option.map _ (Option.map _ ((spl c s)[i]?)))=_
 rw [hp]
 rfl
theorem splitN_any (s:List UInt8) (c:UInt8) (w:World) (hv:Vr w) (hs:s.length≤1000000) :
  Calls Tryz.prog 190 #[.string (strL s), .string ⟨#[c]⟩] w fun e w' => ∃ g,e=.returned (.slice (some ⟨g,0,none⟩) (spl c s).length (spl c s).length)∧g=w.heap.size∧RdS w' g (spl c s)∧Below w.heap.size w w':=by
 obtain ⟨m,hm⟩:=hv.mx
 refine (Tryz.strings_Split (strL s) ⟨#[c]⟩ m w (by rw [strL_size];omega) hm (by show 1≤1;exact Nat.le_refl _)).mono ?_
 rintro e w' ⟨rfl,rfl⟩
 refine ⟨w.heap.size,by rw [countB_one];rfl,rfl,⟨by simp,fun i p hp => ?_⟩,below_alloc (Below.refl _ _) _⟩
 rw [cell_of_row _ w.heap.size i _ _ _ (heap_alloc_new w _),splitB_one']
 rw [List.getElem?_toArray,List.getElem?_map,List.getElem?_map]
 show (Option.map _ (Option.map _ ((spl c s)[i]?)))=_
 rw [hp]
 rfl
theorem indexByte_mem (s:List UInt8) (c:UInt8):decide (0≤Lib.indexByte s c)=s.contains c:=by
 induction s with
 | nil => rfl
 | cons b l ih =>
   by_cases h:b=c
   ·subst h
    simp [Lib.indexByte]
   ·have h2:(c == b)=false:=beq_eq_false_iff_ne.2 (fun e => h e.symm)
    have h3:(b == c)=false:=beq_eq_false_iff_ne.2 h
    rw [List.contains_cons,h2,Bool.false_or, ← ih]
    have e:Lib.indexByte (b :: l) c=if Lib.indexByte l c == -1 then -1 else Lib.indexByte l c + 1:=by rw [Lib.indexByte,if_neg (by simp [h3])]
    have hge:=Lib.indexByte_ge l c
    rw [e]
    clear e ih
    generalize Lib.indexByte l c=I at *
    by_cases q:I=-1
    ·rw [if_pos (beq_iff_eq.2 q),q]
    ·rw [if_neg (fun e => q (beq_iff_eq.1 e))]
     apply decide_eq_decide.2
     omega
theorem contains_any (s:List UInt8) (c:UInt8) (w:World):Calls Tryz.prog 319 #[.string (strL s), .string ⟨#[c]⟩] w (Ret (.bool (s.contains c)) w):=by
 refine (Tryz.strings_Contains_one (strL s) c w).mono ?_
 rintro e w' ⟨rfl,rfl⟩
 refine ⟨?_,Below.refl _ _⟩
 rw [indexByte_mem]
 rfl
theorem cut_any (s sep:List UInt8) (w:World) (hv:Vr w) (hs:s.length≤1000000) :
  Calls Tryz.prog 195 #[.string (strL s), .string (strL sep)] w (Ret (.tuple #[.string (strL (Lib.cut s sep).1), .string (strL (Lib.cut s sep).2.1), .bool (Lib.cut s sep).2.2]) w):=by
 obtain ⟨m,hm⟩:=hv.mx
 refine (Tryz.strings_Cut (strL s) (strL sep) m w (by rw [strL_size];omega) hm).mono ?_
 rintro e w' ⟨rfl,n,rfl⟩
 exact ⟨rfl,Go.Proofs.YtdhldhkhpndpjaaGreatDoor.below_drewN (Below.refl _ _) n⟩
theorem trimPrefix_any (s p:List UInt8) (w:World):Calls Tryz.prog 213 #[.string (strL s), .string (strL p)] w (Ret (.string (strL (Lib.trimPrefix s p))) w):=by
 refine (Tryz.strings_TrimPrefix (strL s) (strL p) w).mono ?_
 rintro e w' ⟨rfl,rfl⟩
 exact ⟨rfl,Below.refl _ _⟩
theorem atoi_any (s:List UInt8) (w:World) (hv:Vr w) (hs:s.length≤1000000) :
  Calls Tryz.prog 214 #[.string (strL s)] w fun e w' => (∃ n ev,e=.returned (.tuple #[.int .i64 n,ev])∧(match Lib.atoiAll s with | .ok v => n=v∧ev=.nilIface | _ => ∃ t p,ev=.iface t p))∧Below w.heap.size w w':=by
 have hz:(strL s).size=s.length:=strL_size s
 cases h:Lib.atoiAll s with
 | ok v =>
   refine (Tryz.strconv_Atoi_ok (strL s) (by omega) v h w).mono ?_
   rintro e w' ⟨rfl,hw⟩
   refine ⟨⟨v, .nilIface,rfl,rfl,rfl⟩,?_⟩
   rcases hw with rfl | ⟨t,rfl⟩
   ·exact Below.refl _ _
   ·exact Lib.bytesWorld_below w _ _
 | range =>
   obtain ⟨ev,h1,h2⟩:=hv.er
   refine (Tryz.strconv_Atoi_range (strL s) (by omega) h ev w h1 h2).mono ?_
   rintro e w' ⟨N,rfl, -, -,hb⟩
   exact ⟨⟨_,_,rfl,_,_,rfl⟩,hb⟩
 | _ =>
   obtain ⟨ev,h1,h2⟩:=hv.es
   refine (Tryz.strconv_Atoi_syntax (strL s) (by omega) h ev w h1 h2).mono ?_
   rintro e w' ⟨N,rfl, -, -,hb⟩
   exact ⟨⟨0,_,rfl,_,_,rfl⟩,hb⟩
def sgnD (s:List UInt8):List UInt8:=Lib.trimPrefix s [45]
def numOk (s:List UInt8) (most:Nat):Bool:=!(sgnD s).isEmpty && decide ((sgnD s).length≤most) && ((sgnD s).head? != some 48 || s == [48]) && (sgnD s).all isDg
def numV (s:List UInt8):Int:=if s.head?=some 45 then -(decV (sgnD s):Int) else (decV (sgnD s):Int)
theorem sgnD_neg (r:List UInt8):sgnD (45 :: r)=r:=by simp [sgnD,Lib.trimPrefix,Lib.hasPrefix,List.isPrefixOf]
theorem sgnD_pos {s:List UInt8} (h:s.head? ≠ some 45):sgnD s=s:=by
 unfold sgnD Lib.trimPrefix Lib.hasPrefix
 cases s with
 | nil => rfl
 | cons b l =>
   rw [if_neg]
   simp [List.isPrefixOf]
   intro e
   exact h (by rw [← e];rfl)
theorem sgnD_len (s:List UInt8):s.length≤(sgnD s).length + 1:=by
 by_cases h:s.head?=some 45
 ·cases s with
  | nil => simp
  | cons b r =>
    have:b=45:=by simpa using h
    subst this
    rw [sgnD_neg];simp
 ·rw [sgnD_pos h];omega
theorem numOk_atoi {s:List UInt8} {most:Nat} (h:numOk s most=true):Lib.atoi s=some (numV s):=by
 unfold numOk at h
 rw [Bool.and_eq_true,Bool.and_eq_true,Bool.and_eq_true] at h
 obtain ⟨⟨⟨h1,h2⟩,h3⟩,h4⟩:=h
 by_cases hh:s.head?=some 45
 ·cases s with
  | nil => simp at hh
  | cons b r =>
    have:b=45:=by simpa using hh
    subst this
    unfold numV
    rw [if_pos hh]
    rw [sgnD_neg] at *
    show Option.map (fun (m:Nat) => -(m:Int)) (Lib.decNat r)=_
    unfold Lib.decNat
    rw [if_neg (by simpa using h1),decFrom_all _ _ h4]
    rfl
 ·unfold numV
  rw [if_neg hh]
  rw [sgnD_pos hh] at *
  refine atoi_num ?_
  unfold numL
  rw [h1,h4,Bool.true_and,Bool.true_and]
  exact h3
theorem numL_ne45 {s:List UInt8} (h:numL s=true):s.head? ≠ some 45:=fun e => by
 unfold numL at h
 rw [Bool.and_eq_true,Bool.and_eq_true] at h
 cases s with
 | nil => simp at e
 | cons b r =>
   have:b=45:=by simpa using e
   subst this
   have:=h.1.2
   rw [List.all_cons,Bool.and_eq_true] at this
   have h2:=this.1
   unfold isDg at h2
   simp at h2
def d255 (s:List UInt8):Option Nat:=if numL s=true∧decV s≤255 then some (decV s) else none
theorem numOk_255 (s:List UInt8):(numOk s 3 && decide (0≤numV s) && decide (numV s≤255))=(d255 s).isSome∧(∀ n,d255 s=some n→numV s=(n:Int)):=by
 by_cases hh:s.head?=some 45
 ·have hn:¬ numL s=true:=fun h => numL_ne45 h hh
  have hd:d255 s=none:=if_neg fun h => hn h.1
  rw [hd]
  refine ⟨?_,fun n h => by cases h⟩
  by_cases ho:numOk s 3=true
  ·rw [ho,Bool.true_and]
   have hneg:¬ 0≤numV s:=fun h0 => by
    unfold numOk at ho
    rw [Bool.and_eq_true,Bool.and_eq_true,Bool.and_eq_true] at ho
    obtain ⟨⟨⟨h1,h2⟩,h3⟩,h4⟩:=ho
    cases s with
    | nil => simp at hh
    | cons b r =>
      have:b=45:=by simpa using hh
      subst this
      unfold numV at h0
      rw [if_pos hh] at h0
      rw [sgnD_neg] at *
      cases r with
      | nil => simp at h1
      | cons c r =>
        rw [List.all_cons,Bool.and_eq_true] at h4
        have hc:c ≠ 48:=by simpa using h3
        have:=decV_lead (d:=r) h4.1 hc
        have:=Nat.pow_pos (n:=r.length) (show 0 < 10 by decide)
        omega
   rw [decide_eq_false hneg];rfl
  ·rw [eq_false_of_ne_true ho];rfl
 ·have hs:=sgnD_pos hh
  have hv:numV s=(decV s:Int):=by unfold numV;rw [if_neg hh,hs]
  rw [hv]
  have ho:numOk s 3=(numL s && decide (s.length≤3)):=by
   unfold numOk numL
   rw [hs]
   cases s.isEmpty <;> cases (decide (s.length≤3)) <;> cases (s.head? != some 48 || s == [48]) <;> cases (s.all isDg) <;> rfl
  rw [ho]
  unfold d255
  by_cases hn:numL s=true
  ·by_cases h2:decV s≤255
   ·rw [if_pos ⟨hn,h2⟩]
    have h3:s.length≤3:=by
     have:=congrArg List.length (numL_dec hn)
     rw [Lib.decDigits_length] at this
     have:=nDigits_lt (x:=decV s) (n:=3) (by decide) (by omega)
     omega
    refine ⟨?_,fun n h => by injection h with h;rw [h]⟩
    rw [hn,decide_eq_true h3,decide_eq_true (by omega:(0:Int)≤(decV s:Int)),decide_eq_true (by omega:(decV s:Int)≤255)]
    rfl
   ·rw [if_neg fun h => h2 h.2]
    refine ⟨?_,fun n h => by cases h⟩
    rw [decide_eq_false (by omega:¬ (decV s:Int)≤255),Bool.and_false];rfl
  ·rw [if_neg fun h => hn h.1,eq_false_of_ne_true hn]
   exact ⟨rfl,fun n h => by cases h⟩
theorem parseUint_all:∀ (l:List UInt8) (acc:Nat),l.all isDg=true→l.foldl (fun a b => a * 10 + (b.toNat - 48)) acc < 1000000000000000000→Lib.parseUint10 acc l=.ok (l.foldl (fun a b => a * 10 + (b.toNat - 48)) acc)
 | [],acc,_,_ => rfl
 | b :: l,acc,h,hb => by
   have key:∀ (d:List UInt8) (acc:Nat),acc≤d.foldl (fun a b => a * 10 + (b.toNat - 48)) acc:=by
    intro d
    induction d with
    | nil => intro acc;exact Nat.le_refl _
    | cons x d ih =>
      intro acc
      rw [List.foldl_cons]
      have:=ih (acc * 10 + (x.toNat - 48))
      omega
   rw [List.all_cons,Bool.and_eq_true] at h
   have hd:=h.1
   unfold isDg at hd
   have hd:48≤b.toNat∧b.toNat≤57:=by simpa using hd
   rw [List.foldl_cons] at hb ⊢
   have:=key l (acc * 10 + (b.toNat - 48))
   unfold Lib.parseUint10
   rw [if_pos hd,if_neg (by omega),if_neg (by omega)]
   exact parseUint_all l _ h.2 hb
theorem atoiAll_num {s:List UInt8} (h:numL s=true) (hs:decV s < 1000000000000000000):Lib.atoiAll s=.ok (decV s:Int):=by
 have h45:=numL_ne45 h
 have hh:=h
 unfold numL at h
 rw [Bool.and_eq_true,Bool.and_eq_true] at h
 obtain ⟨⟨h1,h2⟩,h3⟩:=h
 cases s with
 | nil => simp at h1
 | cons b r =>
   have hb:isDg b=true:=by rw [List.all_cons,Bool.and_eq_true] at h2;exact h2.1
   unfold isDg at hb
   have hb:48≤b.toNat∧b.toNat≤57:=by simpa using hb
   have hp:=parseUint_all (b :: r) 0 h2 hs
   unfold Lib.atoiAll
   simp only
   rw [if_neg (by omega:¬ (b.toNat=43 ∨ b.toNat=45))]
   unfold Lib.parseMag
   rw [if_neg (by simp),hp]
   show (if _ then _ else if _ then _ else _)=_
   have hs':(b :: r).foldl (fun a b => a * 10 + (b.toNat - 48)) 0 < 1000000000000000000:=hs
   rw [if_neg (by omega),if_neg (by omega),if_neg (by omega)]
   rfl
theorem atoi_255 (s:List UInt8):(∀ n,d255 s=some n→Lib.atoiAll s=.ok (n:Int)∧Lib.decDigits n=s∧n≤255)∧(d255 s=none→∀ v,Lib.atoiAll s=.ok v→0≤v→v≤255→Lib.decDigits v.toNat ≠ s):=by
 unfold d255
 refine ⟨fun n h => ?_,fun h v hv h0 h1 e => ?_⟩
 ·by_cases hc:numL s=true∧decV s≤255
  ·rw [if_pos hc] at h
   injection h with h
   subst h
   exact ⟨atoiAll_num hc.1 (by omega),numL_dec hc.1,hc.2⟩
  ·rw [if_neg hc] at h;cases h
 ·by_cases hc:numL s=true∧decV s≤255
  ·rw [if_pos hc] at h;cases h
  ·refine hc ⟨by rw [← e];exact dec_numL _,?_⟩
   rw [← e,dec_decV];omega
end Go.Proofs.YtdhldhkhpndpjaaGreatDoor
