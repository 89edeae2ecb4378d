/-
  addr.Least, CheckSet, Ranges of the program.
  addr.CheckSet of the program.
  addr.Ranges and addr.Span of the program.
  A variable made and filled: alloc and store of a whole value at once, the cells whatever.
  Keys: the program's IsKey, the reference's Key (by strings.Trim): both say keyB.
  Decimal numerals, in plain words: digits of a number in a row of so many places; sums digit by digit.
  Decimal numerals without leading zeros: read and written.
  Contracts of strings.Split and strconv.Atoi over this program, as the kit's lay-plain.mjs prints them. Conditions: stated in each.
-/
import Derived.Test.YtgkhcdjoilgfmaaGreatDoorRPX9
import Derived.Deep.MidRow
import Derived.Deep.WholeRow
import Derived.Great.Walk
import Derived.BigQuiet
import Derived.Great.BuildSlice
import Derived.Great.FillDense
import Derived.Test.YtgkhcdjoilgfmaaGreatDoorRPX8
import Derived.Test.YtgkhcdjoilgfmaaGreatDoorRPX4
import Derived.Lib.ItoaNum
import Derived.Lib.Repeat
import Derived.Lib.Atoi
import Derived.Lib.AtoiAll
import Derived.Lib.Strings
import Derived.Shelf.Strconv.Atoi
import Derived.Shelf.LaysC
import Derived.Shelf.Strconv.AtoiAll
import Derived.Shelf.Strconv.ErrVarAll
import Derived.Shelf.Strings.Count
import Derived.Shelf.Strings.Split
import Derived.Shelf.LaysM
import Derived.Shelf.Strings.SplitShaped
import Derived.Test.YtgkhcdjoilgfmaaGreatDoorProg
set_option linter.unusedVariables false
set_option maxRecDepth 100000
set_option maxHeartbeats 4000000
namespace Go.Proofs.YtgkhcdjoilgfmaaGreatDoor
open Go.RowKit Go
theorem alloc_of {P:Program} {ty:TypeId} {z:Value} (hz:∀ w,(zeroValue ty).run P w=.ok z w) (w:World):(Instr.alloc ty true (.tuple #[])).run P w=.ok (.pointer (some ⟨w.heap.size,0,none⟩)) (w.alloc (.cells z.cells ty (0,0))):=by
 simp [Instr.alloc,hz,newVar,newRow]
theorem wpList_store_newb {P:Program} {ops:Array Oper} {rest:List Oper} {op:Oper} {a:Act} {Q:Exit→Act→World→Prop} {w:World} {c c':Array Value} (hgd:op.guard=none) (ty:TypeId) (x y:Operand) (ho:op.op=.store ty x y)
  (hx:a.eval x=.pointer (some ⟨w.heap.size,0,none⟩)) (hy:a.eval y=.agg c') (hi:(P.info? ty).map (·.size)=some c'.size) (hs:c.size=c'.size) (h1:c'.all (·.oneCell')=true)
  (h:wpList P ops Q rest (a.put op.dst undef) (w.alloc (.cells c' ty (0,0)))):wpList P ops Q (op :: rest) a (w.alloc (.cells c ty (0,0))) :=
 wpList_store_row hgd ty x y ho w.heap.size c' hx hy ty c (heap_alloc_last w _) hi hs h1 (by rw [World.setRow_alloc_new];exact h)
theorem wpList_var {P:Program} {ops:Array Oper} {rest:List Oper} {o1 o2:Oper} {a:Act} {Q:Exit→Act→World→Prop} {w:World} (c':Array Value) (ty:TypeId) {z:Value} (hz:∀ w,(zeroValue ty).run P w=.ok z w)
  (h1:o1.guard=none) (e1:o1.op=.alloc ty) (h2:o2.guard=none) (x y:Operand) (e2:o2.op=.store ty x y) (d:Option Tmp) (hd:o1.dst=d)
  (hx:(a.put d (.pointer (some ⟨w.heap.size,0,none⟩))).eval x=.pointer (some ⟨w.heap.size,0,none⟩)) (hy:(a.put d (.pointer (some ⟨w.heap.size,0,none⟩))).eval y=.agg c')
  (m:Nat) (hi:(P.info? ty).map (·.size)=some m) (hm:c'.size=m) (hs:z.cells.size=m) (hone:c'.all (·.oneCell')=true)
  (h:wpList P ops Q rest ((a.put d (.pointer (some ⟨w.heap.size,0,none⟩))).put o2.dst undef) (w.alloc (.cells c' ty (0,0)))):wpList P ops Q (o1 :: o2 :: rest) a w:=by
 subst hd hm
 refine wpList_plain h1 fun K hK => ?_
 unfold Oper.wp execOp
 simp only [e1,Sem.run_bind,alloc_of hz w,Sem.run_pure,Result.andThen_ok]
 exact hK _ _ (wpList_store_newb h2 ty x y e2 hx hy hi hs hone h)
theorem wpList_loadn {P:Program} {ops:Array Oper} {rest:List Oper} {op:Oper} {a:Act} {w:World} {Q:Exit→Act→World→Prop} (hgd:op.guard=none) (ty:TypeId) (x:Operand) (ho:op.op=.load ty x)
  (b o:Nat) (hx:a.eval x=.pointer (some ⟨b,o,none⟩)) (cs:List Value) (d:TypeDesc) (hc:w.rangeAt b o cs)
  (hu:P.underlying ty=some d) (hd:d.isRow=true) (m:Nat) (hi:(P.info? ty).map (·.size)=some m) (hm:cs.length=m)
  (h:wpList P ops Q rest (a.put op.dst (.agg cs.toArray)) w):wpList P ops Q (op :: rest) a w:=by
 subst hm
 exact wpList_load_mid hgd ty x ho b o hx cs d hc hu hd hi h
theorem wpList_build1 {P:Program} {ops:Array Oper} {rest:List Oper} {o:Oper} {a:Act} {w:World} {Q:Exit→Act→World→Prop} (hg:o.guard=none) (t e:TypeId) (x:Operand) (ho:o.op=.buildSlice t 1 #[(0,x)])
  (X:Array Value) (hx:a.eval x=.agg X) (m:Nat) (hu:P.underlying t=some (.slice e)) (hi:(P.info? e).map (fun i => (i.size,i.zero.map (fun z => z.cells.size)))=some (m,some m)) (hX:X.size=m) (hpos:0 < m) (hsmall:m≤2 ^ 24)
  (h:wpList P ops Q rest (a.put o.dst (.slice (some ⟨w.heap.size,0,none⟩) 1 1)) (w.alloc (.cells X e (0,0)))):wpList P ops Q (o :: rest) a w:=by
 cases hie:P.info? e with
 | none => rw [hie] at hi;cases hi
 | some ie =>
   rw [hie] at hi
   simp only [Option.map_some,Option.some.injEq,Prod.mk.injEq] at hi
   obtain ⟨h1,h2⟩:=hi
   cases hz:ie.zero with
   | none => rw [hz] at h2;cases h2
   | some z =>
     rw [hz] at h2
     simp only [Option.map_some,Option.some.injEq] at h2
     have hf:=Go.Great.fill_whole (s:=m) hpos [Value.agg X] ((Array.range (1 * m)).map (z.cells[· % z.cells.size]!)) (fun v hv => by rw [List.mem_singleton] at hv;subst hv;exact hX) (by simp)
     have e2:(([Value.agg X]:List Value).flatMap fun v => v.cells.toList).toArray=X:=by simp [Value.cells]
     rw [e2] at hf
     refine wpList_buildSlice hg t e 1 #[(0,x)] ho X ie z hu hie hz (by rw [h1];omega) (by rw [h1];omega) ?_ h
     rw [h1]
     simpa [hx] using hf
theorem Blk.range {w:World} {B:Nat} {t:TypeId} {X:List Value} (h:Blk w B t X.toArray):w.rangeAt B 0 X:=fun j v hv => by
 rw [Nat.zero_add,h.cell j]
 simpa using hv
theorem range_below {w w':World} {b o B:Nat} {A:List Value} (h:w.rangeAt b o A) (hb:Below B w w') (hlt:b < B):w'.rangeAt b o A:=fun j v hv => (hb.cell (p:=⟨b,o + j,none⟩) hlt).trans (h j v hv)
theorem wpQuiet_loadn {P:Program} {ops:Array Oper} {C:World→Prop} {Q:Act→Prop} {o:Oper} {rest:List Oper} {a:Act} (hw:Region.wanted o (yielded ops a.tmps)=true) (ty:TypeId) (x:Operand) (ho:o.op=.load ty x) (dst:Option Tmp) (hdst:o.dst=dst)
  (b off:Nat) (hx:a.eval x=.pointer (some ⟨b,off,none⟩)) (X:Array Value) (hc:∀ w,C w→w.rangeAt b off X.toList) (d:TypeDesc) (hu:P.underlying ty=some d) (hd:d.isRow=true) (m:Nat) (hi:(P.info? ty).map (·.size)=some m) (hm:X.size=m)
  (h:wpQuiet P ops C Q rest (a.put dst (.agg X))):wpQuiet P ops C Q (o :: rest) a:=by
 subst hm hdst
 refine BigFrame.wpQuiet_want hw fun K hK => ⟨.agg X,fun w hwC => ?_,hK _ h⟩
 have:=run_loadAt_mid w b off ty X.toList d (hc w hwC) hu hd (by simpa using hi)
 unfold Oper.quietAt execOp
 simp only [ho,hx,Sem.run_bind,this,Result.andThen_ok,Sem.run_pure]
 exact ⟨rfl,rfl⟩
def strL (L:List UInt8):ByteArray:=⟨L.toArray⟩
theorem strL_of (s:ByteArray):strL s.data.toList=s:=by
 rcases s with ⟨⟨l⟩⟩
 rfl
theorem strL_size (L:List UInt8):(strL L).size=L.length:=by simp [strL,ByteArray.size]
theorem strL_get (L:List UInt8) (i:Nat) (x:UInt8) (hx:L[i]?=some x) (h:i < (strL L).size):(strL L)[i]'h=x:=by
 obtain ⟨h2,rfl⟩:=List.getElem?_eq_some_iff.1 hx
 rfl
theorem strL_take (L:List UInt8) (n:Nat):(strL L).extract 0 n=strL (L.take n):=by
 unfold strL
 apply ByteArray.ext
 simp
theorem strL_drop (L:List UInt8) (m:Nat):(strL L).extract m (strL L).size=strL (L.drop m):=by
 unfold strL
 apply ByteArray.ext
 simp [ByteArray.size]
 exact List.take_of_length_le (by simp)
theorem wrap_i64R (x:Nat) (h:x < 9223372036854775808):IntKind.i64.wrap (x:Int)=(x:Int):=by
 rw [IntKind.wrap_i64]
 omega
def okAt (i:Nat) (c:UInt8):Bool:=smallC c || (decide (0 < i) && (digitC c || c == 45 || c == 95))
theorem okAt_key {L:List UInt8} (h:∀ (j:Nat) (c:UInt8),L[j]?=some c→okAt j c=true):keyB L=decide (1≤L.length∧L.length≤40):=by
 have h1:(L.take 1).all smallC=true:=by
  cases L with
  | nil => rfl
  | cons x l =>
    have:=h 0 x rfl
    simp [okAt] at this
    simp [this]
 have h2:L.all keyC=true:=by
  rw [List.all_eq_true]
  intro c hc
  obtain ⟨j,hj,rfl⟩:=List.getElem_of_mem hc
  have:=h j _ (List.getElem?_eq_getElem hj)
  unfold okAt at this
  unfold keyC
  cases hs:smallC L[j]
  ·rw [hs] at this
   simp at this
   simp [this.2]
  ·rfl
 unfold keyB
 rw [h1,h2];simp
theorem okAt_bad {L:List UInt8} {j:Nat} {c:UInt8} (hc:L[j]?=some c) (h:okAt j c=false):keyB L=false:=by
 unfold okAt at h
 have hs:smallC c=false:=by cases hs:smallC c <;> simp_all
 have hm:c ∈ L:=List.mem_of_getElem? hc
 cases j with
 | zero =>
   cases L with
   | nil => cases hc
   | cons x l =>
     have:x=c:=by simpa using hc
     subst this
     unfold keyB
     simp [hs]
 | succ j =>
   have hk:keyC c=false:=by
    rw [hs] at h
    simp at h
    unfold keyC
    simp [hs,h]
   have:L.all keyC=false:=by
    rw [List.all_eq_false]
    exact ⟨c,hm,by simp [hk]⟩
   unfold keyB
   rw [this];simp
theorem u8_le (a b:UInt8):a≤b ↔ (a.toNat:Int)≤(b.toNat:Int):=by rw [UInt8.le_iff_toNat_le];omega
theorem okAt_int (i:Nat) (c:UInt8):okAt i c=(decide ((97:Int)≤(c.toNat:Int)∧(c.toNat:Int)≤122) || (decide (0 < i) && (decide ((48:Int)≤(c.toNat:Int)∧(c.toNat:Int)≤57) || decide ((c.toNat:Int)=45) || decide ((c.toNat:Int)=95)))):=by
 have e1:smallC c=decide ((97:Int)≤(c.toNat:Int)∧(c.toNat:Int)≤122):=by
  unfold smallC
  rw [Bool.eq_iff_iff];simp [u8_le]
 have e2:digitC c=decide ((48:Int)≤(c.toNat:Int)∧(c.toNat:Int)≤57):=by
  unfold digitC
  rw [Bool.eq_iff_iff];simp [u8_le]
 have e3:(c == 45)=decide ((c.toNat:Int)=45):=by
  rw [Bool.eq_iff_iff];simp [← UInt8.toNat_inj];omega
 have e4:(c == 95)=decide ((c.toNat:Int)=95):=by
  rw [Bool.eq_iff_iff];simp [← UInt8.toNat_inj];omega
 unfold okAt
 rw [e1,e2,e3,e4]
theorem isKey_any (L:List UInt8) (w:World) (hL:L.length≤1000000):Calls Tryz.prog 136 #[.string (strL L)] w fun e w' => e=.returned (.bool (keyB L))∧w'=w:=by
 obtain ⟨B,hB⟩:∃ B,keyB L=B:=⟨_,rfl⟩
 have HBad:Hid (∀ (j:Nat) (c:UInt8),L[j]?=some c→okAt j c=false→B=false):=Lib.hid fun j c h1 h2 => by rw [← hB];exact okAt_bad h1 h2
 have HKey:Hid ((∀ (j:Nat) (c:UInt8),L[j]?=some c→okAt j c=true)→B=decide (1≤L.length∧L.length≤40)):=Lib.hid fun h => by rw [← hB];exact okAt_key h
 rw [hB]
 clear hB
 have HIx:=Lib.hid fun (i:Nat) (x:UInt8) hx h => strL_get L i x hx h
 have hsz:=strL_size L
 generalize strL L=S at *
 obtain ⟨n,hn⟩:∃ n,L.length=n:=⟨_,rfl⟩
 have Hn:=Lib.hid hn
 rw [hn] at hsz hL HKey
 clear hn
 go_enter Tryz.func136,Tryz.ntmps136
 go_wp2_with fail
 go_loop [3,4] (fun i c => ∃ k:Nat,k≤n∧i=.int .i64 (k:Int)∧Hid (∀ (j:Nat) (c:UInt8),j < k→L[j]?=some c→okAt j c=true)) (fun i _ => n - (intOf i).toNat)
 case atStart => exact ⟨0,Nat.zero_le _,rfl,Lib.hid fun j c hj => absurd hj (Nat.not_lt_zero _)⟩
 case round =>
  obtain ⟨k,hk,rfl,HA⟩:=hrel
  by_cases hlt:k < n
  ·obtain ⟨x,hx⟩:∃ x,L[k]?=some x:=⟨_,List.getElem?_eq_getElem (by rw [Hn.out];exact hlt)⟩
   have hix:∀ h:k < S.size,(((S[k]'h).toNat:Nat):Int)=(x.toNat:Int):=fun h => by rw [HIx.out k x hx h]
   have HB:=Lib.hid (HBad.out k x hx)
   have HN:Hid (okAt k x=true→∀ (j:Nat) (c:UInt8),j < k + 1→L[j]?=some c→okAt j c=true):=Lib.hid fun h j c hj hc => by
    rcases Nat.lt_or_ge j k with h1 | h1
    ·exact HA.out j c h1 hc
    ·obtain rfl:j=k:=by omega
     rw [hx] at hc
     injection hc with hc
     rw [← hc];exact h
   have HO:=Lib.hid (okAt_int k x)
   obtain ⟨v,hv⟩:∃ v:Int,(x.toNat:Int)=v:=⟨_,rfl⟩
   rw [hv] at hix HO
   clear hx hv HA HBad HKey HIx
   by_cases h1:97≤v
   ·by_cases h2:v≤122
    ·have HN2:=Lib.hid (HN.out (by rw [HO.out];simp [h1,h2]))
     clear HN HB HO
     go_wp2_with fail
     exact ⟨⟨k + 1,by omega,by go_num,HN2⟩,by simp [intOf];omega⟩
    ·have HB2:=HB.out (by rw [HO.out];simp;omega)
     subst HB2
     clear HN HB HO
     have g2:(v≤122)=False:=eq_false h2
     rcases Nat.eq_zero_or_pos k with rfl | h3
     ·go_wp2_with fail
      go_ret
      exact ⟨rfl,rfl⟩
     ·have h4:48≤v:=by omega
      have h9:(0:Int) < (k:Int):=by omega
      have h5:(v≤57)=False:=eq_false (by omega)
      have h6:(v == 45)=false:=beq_eq_false_iff_ne.2 (by omega)
      have h7:(v == 95)=false:=beq_eq_false_iff_ne.2 (by omega)
      go_wp2_with fail
      go_ret
      exact ⟨rfl,rfl⟩
   ·have g1:(97≤v)=False:=eq_false h1
    rcases Nat.eq_zero_or_pos k with rfl | h3
    ·have HB2:=HB.out (by rw [HO.out];simp;omega)
     subst HB2
     clear HN HB HO
     go_wp2_with fail
     go_ret
     exact ⟨rfl,rfl⟩
    ·have h9:(0:Int) < (k:Int):=by omega
     by_cases h4:48≤v∧v≤57
     ·obtain ⟨h4,h5⟩:=h4
      have HN2:=Lib.hid (HN.out (by rw [HO.out];simp [h3,h4,h5]))
      clear HN HB HO
      go_wp2_with fail
      exact ⟨⟨k + 1,by omega,by go_num,HN2⟩,by simp [intOf];omega⟩
     ·by_cases h6:v=45
      ·have HN2:=Lib.hid (HN.out (by rw [HO.out];simp [h3,h6]))
       clear HN HB HO
       subst h6
       go_wp2_with fail
       exact ⟨⟨k + 1,by omega,by go_num,HN2⟩,by simp [intOf];omega⟩
      ·by_cases h7:v=95
       ·have HN2:=Lib.hid (HN.out (by rw [HO.out];simp [h3,h7]))
        clear HN HB HO
        subst h7
        go_wp2_with fail
        exact ⟨⟨k + 1,by omega,by go_num,HN2⟩,by simp [intOf];omega⟩
       ·have HB2:=HB.out (by rw [HO.out];simp;omega)
        subst HB2
        clear HN HB HO
        have g6:(v == 45)=false:=beq_eq_false_iff_ne.2 h6
        have g7:(v == 95)=false:=beq_eq_false_iff_ne.2 h7
        by_cases h5:48≤v
        ·have h8:(v≤57)=False:=eq_false (by omega)
         go_wp2_with fail
         go_ret
         exact ⟨rfl,rfl⟩
        ·have g5:(48≤v)=False:=eq_false h5
         go_wp2_with fail
         go_ret
         exact ⟨rfl,rfl⟩
  ·obtain rfl:k=n:=by omega
   have HK2:=(HKey.out fun j c hc => HA.out j c (by have:=(List.getElem?_eq_some_iff.1 hc).1;rw [Hn.out] at this;exact this) hc)
   clear HA HKey HBad HIx
   rcases Nat.eq_zero_or_pos k with rfl | h3
   ·have e:decide (1≤0∧0≤40)=false:=by decide
    rw [e] at HK2
    subst HK2
    have hS:S=⟨#[]⟩:=by
     rcases S with ⟨⟨l⟩⟩
     cases l with
     | nil => rfl
     | cons a l => simp [ByteArray.size] at hsz
    subst hS
    go_wp2_with fail
    go_ret
    exact ⟨rfl,rfl⟩
   ·have hne:(S.toList == [])=false:=by
     rw [ByteArray.toList_eq]
     rcases S with ⟨⟨l⟩⟩
     cases l with
     | nil => simp [ByteArray.size] at hsz;omega
     | cons a l => rfl
    by_cases h4:k≤40
    ·have h5:(k:Int)≤40:=by omega
     have e:decide (1≤k∧k≤40)=true:=by simp;omega
     rw [e] at HK2
     subst HK2
     go_wp2_with fail
     go_ret
     exact ⟨rfl,rfl⟩
    ·have h5:((k:Int)≤40)=False:=eq_false (by omega)
     have e:decide (1≤k∧k≤40)=false:=by simp;omega
     rw [e] at HK2
     subst HK2
     go_wp2_with fail
     go_ret
     exact ⟨rfl,rfl⟩
open Go Go.Lib
def dgs:Nat→Nat→List UInt8
 | 0,_ => []
 | n + 1,x => Lib.dg x n :: dgs n x
theorem dgs_len:∀ n x,(dgs n x).length=n
 | 0,_ => rfl
 | n + 1,x => by simp [dgs,dgs_len n x]
theorem dgs_snoc:∀ n x,dgs (n + 1) x=dgs n (x / 10) ++ [Lib.dg x 0]
 | 0,x => rfl
 | n + 1,x => by
   have h:=dgs_snoc n x
   rw [dgs,h,dgs,dg_succ]
   rfl
theorem decDigits_dgs (u:Nat):decDigits u=dgs (nDigits u) u:=by
 induction u using Nat.strongRecOn with
 | _ u ih =>
   by_cases h:u < 10
   ·rw [decDigits,dif_pos h,nDigits_small h]
    simp [dgs,Lib.dg,Nat.mod_eq_of_lt h]
   ·rw [decDigits,dif_neg h,nDigits_big h,ih (u / 10) (by omega),dgs_snoc]
    simp [Lib.dg]
theorem pow_nDigits_le {u:Nat} (h:u ≠ 0):10 ^ (nDigits u - 1)≤u:=by
 induction u using Nat.strongRecOn with
 | _ u ih =>
   by_cases h2:u < 10
   ·rw [nDigits_small h2];simp;omega
   ·rw [nDigits_big h2]
    have h3:=ih (u / 10) (by omega) (by omega)
    have h4:=nDigits_pos (u / 10)
    obtain ⟨q,hq⟩:∃ q,nDigits (u / 10)=q + 1:=⟨nDigits (u / 10) - 1,by omega⟩
    rw [hq] at h3 ⊢
    simp only [Nat.add_sub_cancel] at h3 ⊢
    rw [Nat.pow_succ]
    omega
theorem dec_of_dgs {n x:Nat} (h1:x < 10 ^ n) (h2:nDigits x=n):dgs n x=decDigits x:=by rw [decDigits_dgs,h2]
theorem nDigits_lt {x n:Nat} (hn:1≤n) (h:x < 10 ^ n):nDigits x≤n:=by
 by_cases h0:x=0
 ·subst h0;rw [nDigits_small (by decide)];exact hn
 ·have h1:=pow_nDigits_le h0
  have h3:10 ^ (nDigits x - 1) < 10 ^ n:=by omega
  have h4:=(Nat.pow_lt_pow_iff_right (by decide:1 < 10)).1 h3
  omega
theorem dg_val (x k:Nat):(Lib.dg x k).toNat=48 + x / 10 ^ k % 10:=by
 unfold Lib.dg
 have:x / 10 ^ k % 10 < 10:=Nat.mod_lt _ (by decide)
 simp
 omega
def isDg (b:UInt8):Bool:=decide (48≤b.toNat∧b.toNat≤57)
def decV (d:List UInt8):Nat:=d.foldl (fun a b => a * 10 + (b.toNat - 48)) 0
theorem decFrom_all:∀ (d:List UInt8) (acc:Nat),d.all isDg=true→decFrom acc d=some (d.foldl (fun a b => a * 10 + (b.toNat - 48)) acc)
 | [],acc,_ => rfl
 | b :: d,acc,h => by
   rw [List.all_cons,Bool.and_eq_true] at h
   have hb:=h.1
   unfold isDg at hb
   have hv:digitVal b=some (b.toNat - 48):=by unfold digitVal;rw [if_pos (by simpa using hb)]
   simp only [decFrom,hv]
   rw [decFrom_all d _ h.2]
   rfl
theorem decV_snoc (d:List UInt8) (b:UInt8):decV (d ++ [b])=decV d * 10 + (b.toNat - 48):=by
 unfold decV
 rw [List.foldl_append]
 rfl
theorem dg_of {b:UInt8} {v:Nat} (h:isDg b=true):Lib.dg (v * 10 + (b.toNat - 48)) 0=b:=by
 unfold isDg at h
 have h:48≤b.toNat∧b.toNat≤57:=by simpa using h
 unfold Lib.dg
 apply UInt8.toNat.inj
 rw [UInt8.toNat_ofNat']
 simp
 omega
theorem decV_dgs:∀ (n:Nat) (d:List UInt8),d.length=n→d.all isDg=true→decV d < 10 ^ n∧dgs n (decV d)=d
 | 0,d,h,_ => by
   have:d=[]:=List.eq_nil_of_length_eq_zero h
   subst this
   exact ⟨by decide,rfl⟩
 | n + 1,d,h,ha => by
   rcases List.eq_nil_or_concat d with rfl | ⟨e,b,rfl⟩
   ·simp at h
   ·rw [List.concat_eq_append] at h ha ⊢
    rw [List.length_append,List.length_singleton] at h
    rw [List.all_append,Bool.and_eq_true] at ha
    have hb:isDg b=true:=by simpa using ha.2
    obtain ⟨h1,h2⟩:=decV_dgs n e (by omega) ha.1
    rw [decV_snoc]
    have hb':=hb
    unfold isDg at hb'
    have hb':48≤b.toNat∧b.toNat≤57:=by simpa using hb'
    refine ⟨by rw [Nat.pow_succ];omega,?_⟩
    rw [dgs_snoc,dg_of hb,show (decV e * 10 + (b.toNat - 48)) / 10=decV e by omega,h2]
def numL (d:List UInt8):Bool:=!d.isEmpty && d.all isDg && (d.head? != some 48 || d == [48])
theorem decV_lead {b:UInt8} {d:List UInt8} (h:isDg b=true) (hb:b ≠ 48):10 ^ d.length≤decV (b :: d):=by
 have key:∀ (d:List UInt8) (acc:Nat),acc * 10 ^ d.length≤d.foldl (fun a b => a * 10 + (b.toNat - 48)) acc:=by
  intro d
  induction d with
  | nil => intro acc;simp
  | cons x d ih =>
    intro acc
    rw [List.foldl_cons,List.length_cons,Nat.pow_succ]
    refine Nat.le_trans ?_ (ih _)
    rw [Nat.add_mul,Nat.mul_assoc acc 10,Nat.mul_comm 10]
    exact Nat.le_add_right _ _
 have h1:=key d (b.toNat - 48)
 have h2:1≤b.toNat - 48:=by
  unfold isDg at h
  have h:48≤b.toNat∧b.toNat≤57:=by simpa using h
  have:b.toNat ≠ 48:=fun e => hb (UInt8.toNat.inj e)
  omega
 refine Nat.le_trans ?_ (show (b.toNat - 48) * 10 ^ d.length≤decV (b :: d) by
  unfold decV
  rw [List.foldl_cons,Nat.zero_mul,Nat.zero_add]
  exact h1)
 calc 10 ^ d.length=1 * 10 ^ d.length:=(Nat.one_mul _).symm
  _≤_:=Nat.mul_le_mul_right _ h2
theorem numL_dec {d:List UInt8} (h:numL d=true):decDigits (decV d)=d:=by
 unfold numL at h
 rw [Bool.and_eq_true,Bool.and_eq_true] at h
 obtain ⟨⟨h1,h2⟩,h3⟩:=h
 cases d with
 | nil => simp at h1
 | cons b d =>
   obtain ⟨h4,h5⟩:=decV_dgs (d.length + 1) (b :: d) rfl h2
   have hb:isDg b=true:=by rw [List.all_cons,Bool.and_eq_true] at h2;exact h2.1
   have hn:nDigits (decV (b :: d))=d.length + 1:=by
    by_cases e:b=48
    ·subst e
     have:d=[]:=by simpa using h3
     subst this
     exact nDigits_small (by decide)
    ·exact nDigits_unique _ _ (decV_lead hb e) h4
   rw [← dec_of_dgs (n:=d.length + 1) h4 hn]
   exact h5
theorem dg_isDg (x j:Nat):isDg (Lib.dg x j)=true:=by
 unfold isDg
 rw [dg_val]
 simp
 omega
theorem dec_all (u:Nat):(decDigits u).all isDg=true:=by
 rw [decDigits_eq,List.all_map]
 simp [dg_isDg]
theorem dec_ne (u:Nat):decDigits u ≠ []:=fun h => by
 have:=decDigits_length u
 rw [h] at this
 have h1:=nDigits_pos u
 simp at this
 omega
theorem dec_decV (u:Nat):decV (decDigits u)=u:=by
 have h1:=lt_pow_nDigits u
 have h2:=decDigits_length u
 have key:∀ (n x:Nat),x < 10 ^ n→decV (dgs n x)=x:=by
  intro n
  induction n with
  | zero => intro x hx;simp at hx;subst hx;rfl
  | succ n ih =>
    intro x hx
    rw [dgs_snoc,decV_snoc,ih (x / 10) (by rw [Nat.pow_succ] at hx;omega),dg_val]
    simp
    omega
 rw [decDigits_dgs]
 exact key _ _ h1
theorem dec_numL (u:Nat):numL (decDigits u)=true:=by
 unfold numL
 rw [dec_all,Bool.and_true,Bool.and_eq_true]
 refine ⟨by cases e:decDigits u with
  | nil => exact absurd e (dec_ne u)
  | cons _ _ => rfl,?_⟩
 by_cases h:u < 10
 ·rw [decDigits_one h]
  by_cases h0:u=0
  ·subst h0;rfl
  ·have:UInt8.ofNat (48 + u) ≠ 48:=fun e => by
    have:=congrArg UInt8.toNat e
    rw [UInt8.toNat_ofNat'] at this
    simp at this
    omega
   rw [Bool.or_eq_true]
   refine .inl (bne_iff_ne.2 fun e => this ?_)
   injection e
 ·have hn:2≤nDigits u:=by rw [nDigits_big h];have:=nDigits_pos (u / 10);omega
  have hp:=pow_nDigits_le (u:=u) (by omega)
  have e:(decDigits u).head?=some (Lib.dg u (nDigits u - 1)):=by
   rw [decDigits_eq]
   obtain ⟨m,hm⟩:∃ m,nDigits u=m + 1:=⟨nDigits u - 1,by omega⟩
   rw [hm,List.range_succ_eq_map]
   rfl
  rw [e]
  have hd:Lib.dg u (nDigits u - 1) ≠ 48:=fun e => by
   have h1:=congrArg UInt8.toNat e
   rw [dg_val] at h1
   have h2:u / 10 ^ (nDigits u - 1) % 10=0:=by
    have:(48:UInt8).toNat=48:=rfl
    omega
   have h3:u / 10 ^ (nDigits u - 1) < 10:=by
    rw [Nat.div_lt_iff_lt_mul (Nat.pow_pos (by decide))]
    have:=lt_pow_nDigits u
    rw [show nDigits u=nDigits u - 1 + 1 by omega,Nat.pow_succ] at this
    omega
   have h4:1≤u / 10 ^ (nDigits u - 1):=(Nat.le_div_iff_mul_le (Nat.pow_pos (by decide))).2 (by omega)
   omega
  simp [hd]
theorem atoi_num {d:List UInt8} (h:numL d=true):atoi d=some (decV d:Int):=by
 have hh:=h
 unfold numL at h
 rw [Bool.and_eq_true,Bool.and_eq_true] at h
 obtain ⟨⟨h1,h2⟩,h3⟩:=h
 cases d with
 | nil => simp at h1
 | cons b d =>
   have hb:isDg b=true:=by rw [List.all_cons,Bool.and_eq_true] at h2;exact h2.1
   unfold isDg at hb
   have hb:48≤b.toNat∧b.toNat≤57:=by simpa using hb
   have n1:(b == 45)=false:=beq_eq_false_iff_ne.2 fun e => by subst e;simp at hb
   have n2:(b == 43)=false:=beq_eq_false_iff_ne.2 fun e => by subst e;simp at hb
   unfold atoi
   simp only [n1,n2]
   unfold decNat
   rw [decFrom_all _ _ h2]
   rfl
end Go.Proofs.YtgkhcdjoilgfmaaGreatDoor
namespace Go.Proofs
open Go.Shelf
def Tryz.lazB172_ren:Go.Shelf.Ren:=⟨fun | 172 => 169 | 244 => 218 | 245 => 219 | 247 => 270 | 279 => 271 | 280 => 272 | 281 => 273 | 282 => 274 | 287 => 302 | 316 => 303 | 171 => 97 | 205 => 304 | 321 => 338 | 322 => 339 | 243 => 156 | 246 => 210 | 283 => 259 | 284 => 260 | 285 => 261 | 286 => 262 | 129 => 253 | 317 => 292 | 318 => 293 | 319 => 294 | 320 => 295 | 337 => 334 | 338 => 335 | n => n,fun | 9 => 9 | 3 => 3 | 75 => 133 | 76 => 134 | 4 => 4 | 5 => 5 | 167 => 263 | 37 => 127 | 0 => 0 | 85 => 264 | 2 => 2 | 168 => 266 | 53 => 26 | 175 => 269 | 46 => 155 | 210 => 294 | 127 => 178 | 145 => 319 | 143 => 317 | 21 => 21 | 171 => 258 | 173 => 260 | 212 => 288 | 51 => 191 | 20 => 20 | 213 => 289 | 232 => 331 | 233 => 332 | 80 => 36 | n => n,fun | 15 => 2 | 16 => 3 | 17 => 1 | 18 => 6 | 19 => 7 | n => n⟩
theorem Tryz.lazB172:Go.Proofs.Lays.n172 Tryz.prog Tryz.lazB172_ren:={
 mixed:=by kernel_rfl
 f129:=Tryz.func253.trans (congrArg some (by kernel_rfl))
 f171:=Tryz.func97.trans (congrArg some (by kernel_rfl))
 f172:=Tryz.func169.trans (congrArg some (by kernel_rfl))
 f205:=Tryz.func304.trans (congrArg some (by kernel_rfl))
 f243:=Tryz.func156.trans (congrArg some (by kernel_rfl))
 f244:=Tryz.func218.trans (congrArg some (by kernel_rfl))
 f245:=Tryz.func219.trans (congrArg some (by kernel_rfl))
 f246:=Tryz.func210.trans (congrArg some (by kernel_rfl))
 f247:=Tryz.func270.trans (congrArg some (by kernel_rfl))
 f279:=Tryz.func271.trans (congrArg some (by kernel_rfl))
 f280:=Tryz.func272.trans (congrArg some (by kernel_rfl))
 f281:=Tryz.func273.trans (congrArg some (by kernel_rfl))
 f282:=Tryz.func274.trans (congrArg some (by kernel_rfl))
 f283:=Tryz.func259.trans (congrArg some (by kernel_rfl))
 f284:=Tryz.func260.trans (congrArg some (by kernel_rfl))
 f285:=Tryz.func261.trans (congrArg some (by kernel_rfl))
 f286:=Tryz.func262.trans (congrArg some (by kernel_rfl))
 f287:=Tryz.func302.trans (congrArg some (by kernel_rfl))
 f316:=Tryz.func303.trans (congrArg some (by kernel_rfl))
 f317:=Tryz.func292.trans (congrArg some (by kernel_rfl))
 f318:=Tryz.func293.trans (congrArg some (by kernel_rfl))
 f319:=Tryz.func294.trans (congrArg some (by kernel_rfl))
 f320:=Tryz.func295.trans (congrArg some (by kernel_rfl))
 f321:=Tryz.func338.trans (congrArg some (by kernel_rfl))
 f322:=Tryz.func339.trans (congrArg some (by kernel_rfl))
 f337:=Tryz.func334.trans (congrArg some (by kernel_rfl))
 f338:=Tryz.func335.trans (congrArg some (by kernel_rfl))
 t0:=Tryz.underlying0
 a0:=Tryz.isAgg0
 z0:=Tryz.sizeOf0
 v0:=Tryz.zeroValue0
 t2:=Tryz.underlying2
 a2:=Tryz.isAgg2
 z2:=Tryz.sizeOf2
 v2:=Tryz.zeroValue2
 t3:=Tryz.underlying3
 a3:=Tryz.isAgg3
 z3:=Tryz.sizeOf3
 v3:=Tryz.zeroValue3
 t4:=Tryz.underlying4
 a4:=Tryz.isAgg4
 z4:=Tryz.sizeOf4
 v4:=Tryz.zeroValue4
 t5:=Tryz.underlying5
 a5:=Tryz.isAgg5
 z5:=Tryz.sizeOf5
 v5:=Tryz.zeroValue5
 t9:=Tryz.underlying9
 a9:=Tryz.isAgg9
 z9:=Tryz.sizeOf9
 v9:=Tryz.zeroValue9
 t20:=Tryz.underlying20
 a20:=Tryz.isAgg20
 z20:=Tryz.sizeOf20
 v20:=Tryz.zeroValue20
 t21:=Tryz.underlying21
 a21:=Tryz.isAgg21
 z21:=Tryz.sizeOf21
 v21:=Tryz.zeroValue21
 t37:=Tryz.underlying127
 a37:=Tryz.isAgg127
 z37:=Tryz.sizeOf127
 v37:=Tryz.zeroValue127
 t46:=Tryz.underlying155
 a46:=Tryz.isAgg155
 z46:=Tryz.sizeOf155
 v46:=Tryz.zeroValue155
 t51:=Tryz.underlying191
 a51:=Tryz.isAgg191
 z51:=Tryz.sizeOf191
 v51:=Tryz.zeroValue191
 t53:=Tryz.underlying26
 a53:=Tryz.isAgg26
 z53:=Tryz.sizeOf26
 v53:=Tryz.zeroValue26
 t75:=Tryz.underlying133
 a75:=Tryz.isAgg133
 z75:=Tryz.sizeOf133
 v75:=Tryz.zeroValue133
 t76:=Tryz.underlying134
 a76:=Tryz.isAgg134
 z76:=Tryz.sizeOf134
 v76:=Tryz.zeroValue134
 t85:=Tryz.underlying264
 a85:=Tryz.isAgg264
 z85:=Tryz.sizeOf264
 v85:=Tryz.zeroValue264
 t127:=Tryz.underlying178
 a127:=Tryz.isAgg178
 z127:=Tryz.sizeOf178
 v127:=Tryz.zeroValue178
 t143:=Tryz.underlying317
 a143:=Tryz.isAgg317
 z143:=Tryz.sizeOf317
 v143:=Tryz.zeroValue317
 t145:=Tryz.underlying319
 a145:=Tryz.isAgg319
 z145:=Tryz.sizeOf319
 v145:=Tryz.zeroValue319
 t167:=Tryz.underlying263
 a167:=Tryz.isAgg263
 z167:=Tryz.sizeOf263
 v167:=Tryz.zeroValue263
 t168:=Tryz.underlying266
 a168:=Tryz.isAgg266
 z168:=Tryz.sizeOf266
 v168:=Tryz.zeroValue266
 t171:=Tryz.underlying258
 a171:=Tryz.isAgg258
 z171:=Tryz.sizeOf258
 v171:=Tryz.zeroValue258
 t173:=Tryz.underlying260
 a173:=Tryz.isAgg260
 z173:=Tryz.sizeOf260
 v173:=Tryz.zeroValue260
 t175:=Tryz.underlying269
 a175:=Tryz.isAgg269
 z175:=Tryz.sizeOf269
 v175:=Tryz.zeroValue269
 t210:=Tryz.underlying294
 a210:=Tryz.isAgg294
 z210:=Tryz.sizeOf294
 v210:=Tryz.zeroValue294
 t212:=Tryz.underlying288
 a212:=Tryz.isAgg288
 z212:=Tryz.sizeOf288
 v212:=Tryz.zeroValue288
 t213:=Tryz.underlying289
 a213:=Tryz.isAgg289
 z213:=Tryz.sizeOf289
 t232:=Tryz.underlying331
 a232:=Tryz.isAgg331
 z232:=Tryz.sizeOf331
 v232:=Tryz.zeroValue331
 t233:=Tryz.underlying332
 a233:=Tryz.isAgg332
 z233:=Tryz.sizeOf332
 v233:=Tryz.zeroValue332
 g15:=by kernel_rfl
 g16:=by kernel_rfl
 g17:=by kernel_rfl
 g18:=by kernel_rfl
 g19:=by kernel_rfl }
def Tryz.lazBC172_ren:Go.Shelf.Ren:=⟨fun | 172 => 169 | 244 => 218 | 245 => 219 | 247 => 270 | 279 => 271 | 280 => 272 | 281 => 273 | 282 => 274 | 287 => 302 | 316 => 303 | 171 => 97 | 205 => 304 | 321 => 338 | 322 => 339 | 243 => 156 | 246 => 210 | 283 => 259 | 284 => 260 | 285 => 261 | 286 => 262 | 129 => 253 | 317 => 292 | 318 => 293 | 319 => 294 | 320 => 295 | 337 => 334 | 338 => 335 | n => n,fun | 9 => 9 | 3 => 3 | 75 => 133 | 76 => 134 | 4 => 4 | 5 => 5 | 167 => 263 | 37 => 127 | 0 => 0 | 85 => 264 | 2 => 2 | 168 => 266 | 53 => 26 | 175 => 269 | 46 => 155 | 210 => 294 | 127 => 178 | 145 => 319 | 143 => 317 | 21 => 21 | 171 => 258 | 173 => 260 | 212 => 288 | 51 => 191 | 20 => 20 | 213 => 289 | 232 => 331 | 233 => 332 | 80 => 36 | n => n,fun | 15 => 2 | 16 => 3 | 17 => 1 | 18 => 6 | 19 => 7 | n => n⟩
theorem Tryz.lazBC172:Go.Proofs.LaysC.n172 Tryz.prog Tryz.lazBC172_ren:={
 mixed:=by kernel_rfl
 f129:=Tryz.func253.trans (congrArg some (by kernel_rfl))
 f171:=Tryz.func97.trans (congrArg some (by kernel_rfl))
 f172:=Tryz.func169.trans (congrArg some (by kernel_rfl))
 f205:=Tryz.func304.trans (congrArg some (by kernel_rfl))
 f243:=Tryz.func156.trans (congrArg some (by kernel_rfl))
 f244:=Tryz.func218.trans (congrArg some (by kernel_rfl))
 f245:=Tryz.func219.trans (congrArg some (by kernel_rfl))
 f246:=Tryz.func210.trans (congrArg some (by kernel_rfl))
 f247:=Tryz.func270.trans (congrArg some (by kernel_rfl))
 f279:=Tryz.func271.trans (congrArg some (by kernel_rfl))
 f280:=Tryz.func272.trans (congrArg some (by kernel_rfl))
 f281:=Tryz.func273.trans (congrArg some (by kernel_rfl))
 f282:=Tryz.func274.trans (congrArg some (by kernel_rfl))
 f283:=Tryz.func259.trans (congrArg some (by kernel_rfl))
 f284:=Tryz.func260.trans (congrArg some (by kernel_rfl))
 f285:=Tryz.func261.trans (congrArg some (by kernel_rfl))
 f286:=Tryz.func262.trans (congrArg some (by kernel_rfl))
 f287:=Tryz.func302.trans (congrArg some (by kernel_rfl))
 f316:=Tryz.func303.trans (congrArg some (by kernel_rfl))
 f317:=Tryz.func292.trans (congrArg some (by kernel_rfl))
 f318:=Tryz.func293.trans (congrArg some (by kernel_rfl))
 f319:=Tryz.func294.trans (congrArg some (by kernel_rfl))
 f320:=Tryz.func295.trans (congrArg some (by kernel_rfl))
 f321:=Tryz.func338.trans (congrArg some (by kernel_rfl))
 f322:=Tryz.func339.trans (congrArg some (by kernel_rfl))
 f337:=Tryz.func334.trans (congrArg some (by kernel_rfl))
 f338:=Tryz.func335.trans (congrArg some (by kernel_rfl))
 t0:=Tryz.underlying0
 a0:=Tryz.isAgg0
 z0:=Tryz.sizeOf0
 v0:=Tryz.zeroValue0
 t2:=Tryz.underlying2
 a2:=Tryz.isAgg2
 z2:=Tryz.sizeOf2
 v2:=Tryz.zeroValue2
 t3:=Tryz.underlying3
 a3:=Tryz.isAgg3
 z3:=Tryz.sizeOf3
 v3:=Tryz.zeroValue3
 t4:=Tryz.underlying4
 a4:=Tryz.isAgg4
 z4:=Tryz.sizeOf4
 v4:=Tryz.zeroValue4
 t5:=Tryz.underlying5
 a5:=Tryz.isAgg5
 z5:=Tryz.sizeOf5
 v5:=Tryz.zeroValue5
 t9:=Tryz.underlying9
 a9:=Tryz.isAgg9
 z9:=Tryz.sizeOf9
 v9:=Tryz.zeroValue9
 t20:=Tryz.underlying20
 a20:=Tryz.isAgg20
 z20:=Tryz.sizeOf20
 v20:=Tryz.zeroValue20
 t21:=Tryz.underlying21
 a21:=Tryz.isAgg21
 z21:=Tryz.sizeOf21
 v21:=Tryz.zeroValue21
 t37:=Tryz.underlying127
 a37:=Tryz.isAgg127
 z37:=Tryz.sizeOf127
 v37:=Tryz.zeroValue127
 t46:=Tryz.underlying155
 a46:=Tryz.isAgg155
 z46:=Tryz.sizeOf155
 v46:=Tryz.zeroValue155
 t51:=Tryz.underlying191
 a51:=Tryz.isAgg191
 z51:=Tryz.sizeOf191
 v51:=Tryz.zeroValue191
 t53:=Tryz.underlying26
 a53:=Tryz.isAgg26
 z53:=Tryz.sizeOf26
 v53:=Tryz.zeroValue26
 t75:=Tryz.underlying133
 a75:=Tryz.isAgg133
 z75:=Tryz.sizeOf133
 v75:=Tryz.zeroValue133
 t76:=Tryz.underlying134
 a76:=Tryz.isAgg134
 z76:=Tryz.sizeOf134
 v76:=Tryz.zeroValue134
 t85:=Tryz.underlying264
 a85:=Tryz.isAgg264
 z85:=Tryz.sizeOf264
 v85:=Tryz.zeroValue264
 t127:=Tryz.underlying178
 a127:=Tryz.isAgg178
 z127:=Tryz.sizeOf178
 v127:=Tryz.zeroValue178
 t143:=Tryz.underlying317
 a143:=Tryz.isAgg317
 z143:=Tryz.sizeOf317
 v143:=Tryz.zeroValue317
 t145:=Tryz.underlying319
 a145:=Tryz.isAgg319
 z145:=Tryz.sizeOf319
 v145:=Tryz.zeroValue319
 t167:=Tryz.underlying263
 a167:=Tryz.isAgg263
 z167:=Tryz.sizeOf263
 v167:=Tryz.zeroValue263
 t168:=Tryz.underlying266
 a168:=Tryz.isAgg266
 z168:=Tryz.sizeOf266
 v168:=Tryz.zeroValue266
 t171:=Tryz.underlying258
 a171:=Tryz.isAgg258
 z171:=Tryz.sizeOf258
 v171:=Tryz.zeroValue258
 t173:=Tryz.underlying260
 a173:=Tryz.isAgg260
 z173:=Tryz.sizeOf260
 v173:=Tryz.zeroValue260
 t175:=Tryz.underlying269
 a175:=Tryz.isAgg269
 z175:=Tryz.sizeOf269
 v175:=Tryz.zeroValue269
 t210:=Tryz.underlying294
 a210:=Tryz.isAgg294
 z210:=Tryz.sizeOf294
 v210:=Tryz.zeroValue294
 t212:=Tryz.underlying288
 a212:=Tryz.isAgg288
 z212:=Tryz.sizeOf288
 v212:=Tryz.zeroValue288
 t213:=Tryz.underlying289
 a213:=Tryz.isAgg289
 z213:=Tryz.sizeOf289
 t232:=Tryz.underlying331
 a232:=Tryz.isAgg331
 z232:=Tryz.sizeOf331
 v232:=Tryz.zeroValue331
 t233:=Tryz.underlying332
 a233:=Tryz.isAgg332
 z233:=Tryz.sizeOf332
 v233:=Tryz.zeroValue332
 g15:=by kernel_rfl
 g16:=by kernel_rfl
 g17:=by kernel_rfl
 g18:=by kernel_rfl
 g19:=by kernel_rfl
 t80:=Tryz.underlying36
 a80:=Tryz.isAgg36
 z80:=Tryz.sizeOf36
 v80:=Tryz.zeroValue36
 i0:=by kernel_rfl
 i2:=by kernel_rfl
 i3:=by kernel_rfl
 i4:=by kernel_rfl
 i5:=by kernel_rfl
 i9:=by kernel_rfl
 i20:=by kernel_rfl
 i21:=by kernel_rfl
 i37:=by kernel_rfl
 i46:=by kernel_rfl
 i51:=by kernel_rfl
 i53:=by kernel_rfl
 i75:=by kernel_rfl
 i76:=by kernel_rfl
 i80:=by kernel_rfl
 i85:=by kernel_rfl
 i127:=by kernel_rfl
 i143:=by kernel_rfl
 i145:=by kernel_rfl
 i167:=by kernel_rfl
 i168:=by kernel_rfl
 i171:=by kernel_rfl
 i173:=by kernel_rfl
 i175:=by kernel_rfl
 i210:=by kernel_rfl
 i212:=by kernel_rfl
 i232:=by kernel_rfl
 i233:=by kernel_rfl
 m15:=by kernel_rfl
 m16:=by kernel_rfl
 m17:=by kernel_rfl
 m18:=by kernel_rfl
 m19:=by kernel_rfl
 c0:=by kernel_rfl
 c2:=by kernel_rfl
 c3:=by kernel_rfl
 c4:=by kernel_rfl
 c5:=by kernel_rfl
 c9:=by kernel_rfl
 c20:=by kernel_rfl
 c21:=by kernel_rfl
 c37:=by kernel_rfl
 c46:=by kernel_rfl
 c51:=by kernel_rfl
 c53:=by kernel_rfl
 c75:=by kernel_rfl
 c76:=by kernel_rfl
 c80:=by kernel_rfl
 c85:=by kernel_rfl
 c127:=by kernel_rfl
 c143:=by kernel_rfl
 c145:=by kernel_rfl
 c167:=by kernel_rfl
 c168:=by kernel_rfl
 c171:=by kernel_rfl
 c173:=by kernel_rfl
 c175:=by kernel_rfl
 c210:=by kernel_rfl
 c212:=by kernel_rfl
 c213:=by kernel_rfl
 c232:=by kernel_rfl
 c233:=by kernel_rfl }
def Tryz.lazB221_ren:Go.Shelf.Ren:=⟨fun | 221 => 213 | 268 => 263 | 138 => 264 | 143 => 265 | 195 => 296 | 197 => 280 | 218 => 297 | 219 => 269 | 260 => 322 | 217 => 298 | 225 => 299 | 224 => 300 | 267 => 301 | 266 => 336 | 314 => 337 | n => n,fun | 9 => 9 | 3 => 3 | 31 => 119 | 4 => 4 | 0 => 0 | 105 => 275 | 21 => 21 | 5 => 5 | 46 => 155 | 119 => 324 | 139 => 327 | 138 => 326 | 146 => 192 | 51 => 191 | n => n,fun | 1 => 0 | 3 => 4 | 4 => 5 | n => n⟩
def Tryz.lazB146_ren:Go.Shelf.Ren:=⟨fun | 146 => 162 | 221 => 213 | 268 => 263 | 138 => 264 | 143 => 265 | 195 => 296 | 197 => 280 | 218 => 297 | 219 => 269 | 260 => 322 | 217 => 298 | 225 => 299 | 224 => 300 | 267 => 301 | 266 => 336 | 314 => 337 | n => n,fun | 9 => 9 | 31 => 119 | 3 => 3 | 4 => 4 | 0 => 0 | 105 => 275 | 21 => 21 | 5 => 5 | 46 => 155 | 119 => 324 | 139 => 327 | 138 => 326 | 146 => 192 | 51 => 191 | n => n,fun | 1 => 0 | 3 => 4 | 4 => 5 | n => n⟩
theorem Tryz.lazB146:Go.Proofs.Lays.n146 Tryz.prog Tryz.lazB146_ren:={
 mixed:=by kernel_rfl
 f138:=Tryz.func264.trans (congrArg some (by kernel_rfl))
 f143:=Tryz.func265.trans (congrArg some (by kernel_rfl))
 f146:=Tryz.func162.trans (congrArg some (by kernel_rfl))
 f195:=Tryz.func296.trans (congrArg some (by kernel_rfl))
 f197:=Tryz.func280.trans (congrArg some (by kernel_rfl))
 f217:=Tryz.func298.trans (congrArg some (by kernel_rfl))
 f218:=Tryz.func297.trans (congrArg some (by kernel_rfl))
 f219:=Tryz.func269.trans (congrArg some (by kernel_rfl))
 f221:=Tryz.func213.trans (congrArg some (by kernel_rfl))
 f224:=Tryz.func300.trans (congrArg some (by kernel_rfl))
 f225:=Tryz.func299.trans (congrArg some (by kernel_rfl))
 f260:=Tryz.func322.trans (congrArg some (by kernel_rfl))
 f266:=Tryz.func336.trans (congrArg some (by kernel_rfl))
 f267:=Tryz.func301.trans (congrArg some (by kernel_rfl))
 f268:=Tryz.func263.trans (congrArg some (by kernel_rfl))
 f314:=Tryz.func337.trans (congrArg some (by kernel_rfl))
 t0:=Tryz.underlying0
 a0:=Tryz.isAgg0
 z0:=Tryz.sizeOf0
 v0:=Tryz.zeroValue0
 t3:=Tryz.underlying3
 a3:=Tryz.isAgg3
 z3:=Tryz.sizeOf3
 v3:=Tryz.zeroValue3
 t4:=Tryz.underlying4
 a4:=Tryz.isAgg4
 z4:=Tryz.sizeOf4
 v4:=Tryz.zeroValue4
 t5:=Tryz.underlying5
 a5:=Tryz.isAgg5
 z5:=Tryz.sizeOf5
 v5:=Tryz.zeroValue5
 t9:=Tryz.underlying9
 a9:=Tryz.isAgg9
 z9:=Tryz.sizeOf9
 v9:=Tryz.zeroValue9
 t21:=Tryz.underlying21
 a21:=Tryz.isAgg21
 z21:=Tryz.sizeOf21
 v21:=Tryz.zeroValue21
 t31:=Tryz.underlying119
 a31:=Tryz.isAgg119
 z31:=Tryz.sizeOf119
 v31:=Tryz.zeroValue119
 t46:=Tryz.underlying155
 a46:=Tryz.isAgg155
 z46:=Tryz.sizeOf155
 v46:=Tryz.zeroValue155
 t51:=Tryz.underlying191
 a51:=Tryz.isAgg191
 z51:=Tryz.sizeOf191
 v51:=Tryz.zeroValue191
 t105:=Tryz.underlying275
 a105:=Tryz.isAgg275
 z105:=Tryz.sizeOf275
 v105:=Tryz.zeroValue275
 t119:=Tryz.underlying324
 a119:=Tryz.isAgg324
 z119:=Tryz.sizeOf324
 t138:=Tryz.underlying326
 a138:=Tryz.isAgg326
 z138:=Tryz.sizeOf326
 v138:=Tryz.zeroValue326
 t139:=Tryz.underlying327
 a139:=Tryz.isAgg327
 z139:=Tryz.sizeOf327
 v139:=Tryz.zeroValue327
 t146:=Tryz.underlying192
 a146:=Tryz.isAgg192
 z146:=Tryz.sizeOf192
 v146:=Tryz.zeroValue192
 g1:=by kernel_rfl
 g3:=by kernel_rfl
 g4:=by kernel_rfl }
end Go.Proofs
