/-
  addr.CheckSet of the program.
  addr.Ranges and addr.Span of the program.
  A variable made and filled: alloc and store of a whole value at once, the cells whatever.
  Keys: the program's IsKey, the reference's Key (by strings.Trim): both say keyB.
  Plain law of tables: the fault of a table, what it says of an address (the program's one pass, the reference's search from the longest bits on), what is squeezed out.
  The orders of prefixes: span.ComparePrefixes of the program, prefixOrder of the reference.
  strings.Trim of bytes of a set, as far as the reference's only asks; Key.
  The reference's Key says keyB.
-/
import Derived.Test.YteldaicgaeooiaaGreatDoorPK8
import Derived.Deep.MidRow
import Derived.Deep.WholeRow
import Derived.Great.Walk
import Derived.BigQuiet
import Derived.Great.BuildSlice
import Derived.Great.FillDense
import Derived.Test.YteldaicgaeooiaaGreatDoorPK4
import Derived.Test.YteldaicgaeooiaaGreatDoorPK6
import Derived.Test.YteldaicgaeooiaaGreatDoorPK1
set_option linter.unusedVariables false
set_option maxRecDepth 100000
set_option maxHeartbeats 4000000
namespace Go.Proofs.YteldaicgaeooiaaGreatDoor
open Go.RowKit Go
theorem alloc_of {P:Program} {ty:TypeId} {z:Value} (hz:∀ w,(zeroValue ty).run P w=.ok z w) (w:World):(Instr.alloc ty true (.tuple #[])).run P w=.ok (.pointer (some ⟨w.heap.size,0,none⟩)) (w.alloc (.cells z.cells ty (0,0))):=by
 simp [Instr.alloc,hz,newVar,newRow]
theorem wpList_store_newb {P:Program} {ops:Array Oper} {rest:List Oper} {op:Oper} {a:Act} {Q:Exit→Act→World→Prop} {w:World} {c c':Array Value} (hgd:op.guard=none) (ty:TypeId) (x y:Operand) (ho:op.op=.store ty x y)
  (hx:a.eval x=.pointer (some ⟨w.heap.size,0,none⟩)) (hy:a.eval y=.agg c') (hi:(P.info? ty).map (·.size)=some c'.size) (hs:c.size=c'.size) (h1:c'.all (·.oneCell')=true)
  (h:wpList P ops Q rest (a.put op.dst undef) (w.alloc (.cells c' ty (0,0)))):wpList P ops Q (op :: rest) a (w.alloc (.cells c ty (0,0))) :=
 wpList_store_row hgd ty x y ho w.heap.size c' hx hy ty c (heap_alloc_last w _) hi hs h1 (by rw [World.setRow_alloc_new];exact h)
theorem wpList_var {P:Program} {ops:Array Oper} {rest:List Oper} {o1 o2:Oper} {a:Act} {Q:Exit→Act→World→Prop} {w:World} (c':Array Value) (ty:TypeId) {z:Value} (hz:∀ w,(zeroValue ty).run P w=.ok z w)
  (h1:o1.guard=none) (e1:o1.op=.alloc ty) (h2:o2.guard=none) (x y:Operand) (e2:o2.op=.store ty x y) (d:Option Tmp) (hd:o1.dst=d)
  (hx:(a.put d (.pointer (some ⟨w.heap.size,0,none⟩))).eval x=.pointer (some ⟨w.heap.size,0,none⟩)) (hy:(a.put d (.pointer (some ⟨w.heap.size,0,none⟩))).eval y=.agg c')
  (m:Nat) (hi:(P.info? ty).map (·.size)=some m) (hm:c'.size=m) (hs:z.cells.size=m) (hone:c'.all (·.oneCell')=true)
  (h:wpList P ops Q rest ((a.put d (.pointer (some ⟨w.heap.size,0,none⟩))).put o2.dst undef) (w.alloc (.cells c' ty (0,0)))):wpList P ops Q (o1 :: o2 :: rest) a w:=by
 subst hd hm
 refine wpList_plain h1 fun K hK => ?_
 unfold Oper.wp execOp
 simp only [e1,Sem.run_bind,alloc_of hz w,Sem.run_pure,Result.andThen_ok]
 exact hK _ _ (wpList_store_newb h2 ty x y e2 hx hy hi hs hone h)
theorem wpList_loadn {P:Program} {ops:Array Oper} {rest:List Oper} {op:Oper} {a:Act} {w:World} {Q:Exit→Act→World→Prop} (hgd:op.guard=none) (ty:TypeId) (x:Operand) (ho:op.op=.load ty x)
  (b o:Nat) (hx:a.eval x=.pointer (some ⟨b,o,none⟩)) (cs:List Value) (d:TypeDesc) (hc:w.rangeAt b o cs)
  (hu:P.underlying ty=some d) (hd:d.isRow=true) (m:Nat) (hi:(P.info? ty).map (·.size)=some m) (hm:cs.length=m)
  (h:wpList P ops Q rest (a.put op.dst (.agg cs.toArray)) w):wpList P ops Q (op :: rest) a w:=by
 subst hm
 exact wpList_load_mid hgd ty x ho b o hx cs d hc hu hd hi h
theorem wpList_build1 {P:Program} {ops:Array Oper} {rest:List Oper} {o:Oper} {a:Act} {w:World} {Q:Exit→Act→World→Prop} (hg:o.guard=none) (t e:TypeId) (x:Operand) (ho:o.op=.buildSlice t 1 #[(0,x)])
  (X:Array Value) (hx:a.eval x=.agg X) (m:Nat) (hu:P.underlying t=some (.slice e)) (hi:(P.info? e).map (fun i => (i.size,i.zero.map (fun z => z.cells.size)))=some (m,some m)) (hX:X.size=m) (hpos:0 < m) (hsmall:m≤2 ^ 24)
  (h:wpList P ops Q rest (a.put o.dst (.slice (some ⟨w.heap.size,0,none⟩) 1 1)) (w.alloc (.cells X e (0,0)))):wpList P ops Q (o :: rest) a w:=by
 cases hie:P.info? e with
 | none => rw [hie] at hi;cases hi
 | some ie =>
   rw [hie] at hi
   simp only [Option.map_some,Option.some.injEq,Prod.mk.injEq] at hi
   obtain ⟨h1,h2⟩:=hi
   cases hz:ie.zero with
   | none => rw [hz] at h2;cases h2
   | some z =>
     rw [hz] at h2
     simp only [Option.map_some,Option.some.injEq] at h2
     have hf:=Go.Great.fill_whole (s:=m) hpos [Value.agg X] ((Array.range (1 * m)).map (z.cells[· % z.cells.size]!)) (fun v hv => by rw [List.mem_singleton] at hv;subst hv;exact hX) (by simp)
     have e2:(([Value.agg X]:List Value).flatMap fun v => v.cells.toList).toArray=X:=by simp [Value.cells]
     rw [e2] at hf
     refine wpList_buildSlice hg t e 1 #[(0,x)] ho X ie z hu hie hz (by rw [h1];omega) (by rw [h1];omega) ?_ h
     rw [h1]
     simpa [hx] using hf
theorem Blk.range {w:World} {B:Nat} {t:TypeId} {X:List Value} (h:Blk w B t X.toArray):w.rangeAt B 0 X:=fun j v hv => by
 rw [Nat.zero_add,h.cell j]
 simpa using hv
theorem range_left {w:World} {b o:Nat} {A B:List Value} (h:w.rangeAt b o (A ++ B)):w.rangeAt b o A:=fun j v hv => h j v (by
 have hj:=(List.getElem?_eq_some_iff.1 hv).1
 rw [List.getElem?_append_left hj];exact hv)
theorem range_right {w:World} {b o:Nat} {A B:List Value} (h:w.rangeAt b o (A ++ B)):w.rangeAt b (o + A.length) B:=fun j v hv => by
 have:=h (A.length + j) v (by rw [List.getElem?_append_right (Nat.le_add_right _ _),Nat.add_sub_cancel_left];exact hv)
 rw [← Nat.add_assoc] at this
 exact this
theorem range_below {w w':World} {b o B:Nat} {A:List Value} (h:w.rangeAt b o A) (hb:Below B w w') (hlt:b < B):w'.rangeAt b o A:=fun j v hv => (hb.cell (p:=⟨b,o + j,none⟩) hlt).trans (h j v hv)
theorem wpQuiet_loadn {P:Program} {ops:Array Oper} {C:World→Prop} {Q:Act→Prop} {o:Oper} {rest:List Oper} {a:Act} (hw:Region.wanted o (yielded ops a.tmps)=true) (ty:TypeId) (x:Operand) (ho:o.op=.load ty x) (dst:Option Tmp) (hdst:o.dst=dst)
  (b off:Nat) (hx:a.eval x=.pointer (some ⟨b,off,none⟩)) (X:Array Value) (hc:∀ w,C w→w.rangeAt b off X.toList) (d:TypeDesc) (hu:P.underlying ty=some d) (hd:d.isRow=true) (m:Nat) (hi:(P.info? ty).map (·.size)=some m) (hm:X.size=m)
  (h:wpQuiet P ops C Q rest (a.put dst (.agg X))):wpQuiet P ops C Q (o :: rest) a:=by
 subst hm hdst
 refine BigFrame.wpQuiet_want hw fun K hK => ⟨.agg X,fun w hwC => ?_,hK _ h⟩
 have:=run_loadAt_mid w b off ty X.toList d (hc w hwC) hu hd (by simpa using hi)
 unfold Oper.quietAt execOp
 simp only [ho,hx,Sem.run_bind,this,Result.andThen_ok,Sem.run_pure]
 exact ⟨rfl,rfl⟩
theorem cN_pos (a b:Nat):cN a b > 0 ↔ b < a:=by unfold cN;split <;> (try split) <;> omega
theorem wN_size (x:Nat):(wN x).size=9:=rfl
theorem wN_dig8 (x:Nat):(wN x).toList[8]?=some (.int .i64 ((digN x 8:Nat):Int)):=rfl
theorem qs_split (p:Sp):layQs.enc p=(wN p.1).toList ++ (wN p.2).toList:=Array.toList_append
theorem zero_qs:(Tryz.prog.info? 156).map (fun i => (i.size,i.zero.map (fun z => z.cells.size)))=some (18,some 18):=by kernel_rfl
theorem size_qs:(Tryz.prog.info? 156).map (·.size)=some 18:=by kernel_rfl
theorem size_wide:(Tryz.prog.info? 101).map (·.size)=some 9:=by kernel_rfl
def strL (L:List UInt8):ByteArray:=⟨L.toArray⟩
theorem strL_of (s:ByteArray):strL s.data.toList=s:=by
 rcases s with ⟨⟨l⟩⟩
 rfl
theorem strL_size (L:List UInt8):(strL L).size=L.length:=by simp [strL,ByteArray.size]
theorem strL_get (L:List UInt8) (i:Nat) (x:UInt8) (hx:L[i]?=some x) (h:i < (strL L).size):(strL L)[i]'h=x:=by
 obtain ⟨h2,rfl⟩:=List.getElem?_eq_some_iff.1 hx
 rfl
theorem strL_take (L:List UInt8) (n:Nat):(strL L).extract 0 n=strL (L.take n):=by
 unfold strL
 apply ByteArray.ext
 simp
theorem strL_drop (L:List UInt8) (m:Nat):(strL L).extract m (strL L).size=strL (L.drop m):=by
 unfold strL
 apply ByteArray.ext
 simp [ByteArray.size]
 exact List.take_of_length_le (by simp)
theorem wrap_i64R (x:Nat) (h:x < 9223372036854775808):IntKind.i64.wrap (x:Int)=(x:Int):=by
 rw [IntKind.wrap_i64]
 omega
def okAt (i:Nat) (c:UInt8):Bool:=smallC c || (decide (0 < i) && (digitC c || c == 45 || c == 95))
theorem okAt_key {L:List UInt8} (h:∀ (j:Nat) (c:UInt8),L[j]?=some c→okAt j c=true):keyB L=decide (1≤L.length∧L.length≤40):=by
 have h1:(L.take 1).all smallC=true:=by
  cases L with
  | nil => rfl
  | cons x l =>
    have:=h 0 x rfl
    simp [okAt] at this
    simp [this]
 have h2:L.all keyC=true:=by
  rw [List.all_eq_true]
  intro c hc
  obtain ⟨j,hj,rfl⟩:=List.getElem_of_mem hc
  have:=h j _ (List.getElem?_eq_getElem hj)
  unfold okAt at this
  unfold keyC
  cases hs:smallC L[j]
  ·rw [hs] at this
   simp at this
   simp [this.2]
  ·rfl
 unfold keyB
 rw [h1,h2];simp
theorem okAt_bad {L:List UInt8} {j:Nat} {c:UInt8} (hc:L[j]?=some c) (h:okAt j c=false):keyB L=false:=by
 unfold okAt at h
 have hs:smallC c=false:=by cases hs:smallC c <;> simp_all
 have hm:c ∈ L:=List.mem_of_getElem? hc
 cases j with
 | zero =>
   cases L with
   | nil => cases hc
   | cons x l =>
     have:x=c:=by simpa using hc
     subst this
     unfold keyB
     simp [hs]
 | succ j =>
   have hk:keyC c=false:=by
    rw [hs] at h
    simp at h
    unfold keyC
    simp [hs,h]
   have:L.all keyC=false:=by
    rw [List.all_eq_false]
    exact ⟨c,hm,by simp [hk]⟩
   unfold keyB
   rw [this];simp
theorem u8_le (a b:UInt8):a≤b ↔ (a.toNat:Int)≤(b.toNat:Int):=by rw [UInt8.le_iff_toNat_le];omega
theorem okAt_int (i:Nat) (c:UInt8):okAt i c=(decide ((97:Int)≤(c.toNat:Int)∧(c.toNat:Int)≤122) || (decide (0 < i) && (decide ((48:Int)≤(c.toNat:Int)∧(c.toNat:Int)≤57) || decide ((c.toNat:Int)=45) || decide ((c.toNat:Int)=95)))):=by
 have e1:smallC c=decide ((97:Int)≤(c.toNat:Int)∧(c.toNat:Int)≤122):=by
  unfold smallC
  rw [Bool.eq_iff_iff];simp [u8_le]
 have e2:digitC c=decide ((48:Int)≤(c.toNat:Int)∧(c.toNat:Int)≤57):=by
  unfold digitC
  rw [Bool.eq_iff_iff];simp [u8_le]
 have e3:(c == 45)=decide ((c.toNat:Int)=45):=by
  rw [Bool.eq_iff_iff];simp [← UInt8.toNat_inj];omega
 have e4:(c == 95)=decide ((c.toNat:Int)=95):=by
  rw [Bool.eq_iff_iff];simp [← UInt8.toNat_inj];omega
 unfold okAt
 rw [e1,e2,e3,e4]
theorem isKey_any (L:List UInt8) (w:World) (hL:L.length≤1000000):Calls Tryz.prog 106 #[.string (strL L)] w fun e w' => e=.returned (.bool (keyB L))∧w'=w:=by
 obtain ⟨B,hB⟩:∃ B,keyB L=B:=⟨_,rfl⟩
 have HBad:Hid (∀ (j:Nat) (c:UInt8),L[j]?=some c→okAt j c=false→B=false):=Lib.hid fun j c h1 h2 => by rw [← hB];exact okAt_bad h1 h2
 have HKey:Hid ((∀ (j:Nat) (c:UInt8),L[j]?=some c→okAt j c=true)→B=decide (1≤L.length∧L.length≤40)):=Lib.hid fun h => by rw [← hB];exact okAt_key h
 rw [hB]
 clear hB
 have HIx:=Lib.hid fun (i:Nat) (x:UInt8) hx h => strL_get L i x hx h
 have hsz:=strL_size L
 generalize strL L=S at *
 obtain ⟨n,hn⟩:∃ n,L.length=n:=⟨_,rfl⟩
 have Hn:=Lib.hid hn
 rw [hn] at hsz hL HKey
 clear hn
 go_enter Tryz.func106,Tryz.ntmps106
 go_wp2_with fail
 go_loop [3,4] (fun i c => ∃ k:Nat,k≤n∧i=.int .i64 (k:Int)∧Hid (∀ (j:Nat) (c:UInt8),j < k→L[j]?=some c→okAt j c=true)) (fun i _ => n - (intOf i).toNat)
 case atStart => exact ⟨0,Nat.zero_le _,rfl,Lib.hid fun j c hj => absurd hj (Nat.not_lt_zero _)⟩
 case round =>
  obtain ⟨k,hk,rfl,HA⟩:=hrel
  by_cases hlt:k < n
  ·obtain ⟨x,hx⟩:∃ x,L[k]?=some x:=⟨_,List.getElem?_eq_getElem (by rw [Hn.out];exact hlt)⟩
   have hix:∀ h:k < S.size,(((S[k]'h).toNat:Nat):Int)=(x.toNat:Int):=fun h => by rw [HIx.out k x hx h]
   have HB:=Lib.hid (HBad.out k x hx)
   have HN:Hid (okAt k x=true→∀ (j:Nat) (c:UInt8),j < k + 1→L[j]?=some c→okAt j c=true):=Lib.hid fun h j c hj hc => by
    rcases Nat.lt_or_ge j k with h1 | h1
    ·exact HA.out j c h1 hc
    ·obtain rfl:j=k:=by omega
     rw [hx] at hc
     injection hc with hc
     rw [← hc];exact h
   have HO:=Lib.hid (okAt_int k x)
   obtain ⟨v,hv⟩:∃ v:Int,(x.toNat:Int)=v:=⟨_,rfl⟩
   rw [hv] at hix HO
   clear hx hv HA HBad HKey HIx
   by_cases h1:97≤v
   ·by_cases h2:v≤122
    ·have HN2:=Lib.hid (HN.out (by rw [HO.out];simp [h1,h2]))
     clear HN HB HO
     go_wp2_with fail
     exact ⟨⟨k + 1,by omega,by go_num,HN2⟩,by simp [intOf];omega⟩
    ·have HB2:=HB.out (by rw [HO.out];simp;omega)
     subst HB2
     clear HN HB HO
     have g2:(v≤122)=False:=eq_false h2
     rcases Nat.eq_zero_or_pos k with rfl | h3
     ·go_wp2_with fail
      go_ret
      exact ⟨rfl,rfl⟩
     ·have h4:48≤v:=by omega
      have h9:(0:Int) < (k:Int):=by omega
      have h5:(v≤57)=False:=eq_false (by omega)
      have h6:(v == 45)=false:=beq_eq_false_iff_ne.2 (by omega)
      have h7:(v == 95)=false:=beq_eq_false_iff_ne.2 (by omega)
      go_wp2_with fail
      go_ret
      exact ⟨rfl,rfl⟩
   ·have g1:(97≤v)=False:=eq_false h1
    rcases Nat.eq_zero_or_pos k with rfl | h3
    ·have HB2:=HB.out (by rw [HO.out];simp;omega)
     subst HB2
     clear HN HB HO
     go_wp2_with fail
     go_ret
     exact ⟨rfl,rfl⟩
    ·have h9:(0:Int) < (k:Int):=by omega
     by_cases h4:48≤v∧v≤57
     ·obtain ⟨h4,h5⟩:=h4
      have HN2:=Lib.hid (HN.out (by rw [HO.out];simp [h3,h4,h5]))
      clear HN HB HO
      go_wp2_with fail
      exact ⟨⟨k + 1,by omega,by go_num,HN2⟩,by simp [intOf];omega⟩
     ·by_cases h6:v=45
      ·have HN2:=Lib.hid (HN.out (by rw [HO.out];simp [h3,h6]))
       clear HN HB HO
       subst h6
       go_wp2_with fail
       exact ⟨⟨k + 1,by omega,by go_num,HN2⟩,by simp [intOf];omega⟩
      ·by_cases h7:v=95
       ·have HN2:=Lib.hid (HN.out (by rw [HO.out];simp [h3,h7]))
        clear HN HB HO
        subst h7
        go_wp2_with fail
        exact ⟨⟨k + 1,by omega,by go_num,HN2⟩,by simp [intOf];omega⟩
       ·have HB2:=HB.out (by rw [HO.out];simp;omega)
        subst HB2
        clear HN HB HO
        have g6:(v == 45)=false:=beq_eq_false_iff_ne.2 h6
        have g7:(v == 95)=false:=beq_eq_false_iff_ne.2 h7
        by_cases h5:48≤v
        ·have h8:(v≤57)=False:=eq_false (by omega)
         go_wp2_with fail
         go_ret
         exact ⟨rfl,rfl⟩
        ·have g5:(48≤v)=False:=eq_false h5
         go_wp2_with fail
         go_ret
         exact ⟨rfl,rfl⟩
  ·obtain rfl:k=n:=by omega
   have HK2:=(HKey.out fun j c hc => HA.out j c (by have:=(List.getElem?_eq_some_iff.1 hc).1;rw [Hn.out] at this;exact this) hc)
   clear HA HKey HBad HIx
   rcases Nat.eq_zero_or_pos k with rfl | h3
   ·have e:decide (1≤0∧0≤40)=false:=by decide
    rw [e] at HK2
    subst HK2
    have hS:S=⟨#[]⟩:=by
     rcases S with ⟨⟨l⟩⟩
     cases l with
     | nil => rfl
     | cons a l => simp [ByteArray.size] at hsz
    subst hS
    go_wp2_with fail
    go_ret
    exact ⟨rfl,rfl⟩
   ·have hne:(S.toList == [])=false:=by
     rw [ByteArray.toList_eq]
     rcases S with ⟨⟨l⟩⟩
     cases l with
     | nil => simp [ByteArray.size] at hsz;omega
     | cons a l => rfl
    by_cases h4:k≤40
    ·have h5:(k:Int)≤40:=by omega
     have e:decide (1≤k∧k≤40)=true:=by simp;omega
     rw [e] at HK2
     subst HK2
     go_wp2_with fail
     go_ret
     exact ⟨rfl,rfl⟩
    ·have h5:((k:Int)≤40)=False:=eq_false (by omega)
     have e:decide (1≤k∧k≤40)=false:=by simp;omega
     rw [e] at HK2
     subst HK2
     go_wp2_with fail
     go_ret
     exact ⟨rfl,rfl⟩
open Go.RowKit Go Go.Sort
theorem find_snoc {α:Type} (p:α→Bool) (T:List α) (e:α):(T ++ [e]).find? p=match T.find? p with
  | some a => some a
  | none => if p e=true then some e else none:=by
 rw [List.find?_append]
 cases T.find? p with
 | some a => rfl
 | none =>
   by_cases h:p e=true
   ·simp [h]
   ·simp [h]
theorem okPf_bits {p:Pf} (h:OkPf p):∃ n:Nat,p.2.2.2=(n:Int)∧n≤128:=by
 obtain ⟨h1,h2⟩:=h
 exact ⟨p.2.2.2.toNat,h1,Nat.le_trans h2.2.1 (by have:=lenN_le p.1;omega)⟩
def u2P (p:Pf):Prop:=U64N p.2.1∧U64N p.2.2.1
theorem size_ascii:(Tryz.prog.info? 176).map (·.size)=some 256:=by kernel_rfl
theorem zero_ascii (w:World):(zeroValue 176).run Tryz.prog w=.ok (.agg (Array.replicate 256 (.bool false))) w:=by kernel_rfl
theorem trimRA_any (L:List UInt8) (b:Nat) (q:UInt8→Bool) (w:World) (hL:L.length≤1000000) (hb:∀ x:UInt8,w.cell? ⟨b,x.toNat,none⟩=some (.bool (q x))) :
  Calls Tryz.prog 163 #[.string (strL L), .pointer (some ⟨b,0,none⟩)] w fun e w' => w'=w∧∃ n,n≤L.length∧e=.returned (.string (strL (L.take n)))∧(∀ (j:Nat) (x:UInt8),n≤j→L[j]?=some x→q x=true)∧(∀ x,L[n - 1]?=some x→1≤n→q x=false):=by
 have HC:=Lib.hid fun x => Tryz.asciiSet_contains b x (q x) w (hb x)
 clear hb
 obtain ⟨N,hN⟩:∃ n,L.length=n:=⟨_,rfl⟩
 have HN:=Lib.hid hN
 rw [hN] at hL ⊢
 clear hN
 go_enter Tryz.func163,Tryz.ntmps163
 go_wp2_with fail
 go_loop [0] (fun s => ∃ n:Nat,n≤N∧s=.string (strL (L.take n))∧Hid (∀ (j:Nat) (x:UInt8),n≤j→L[j]?=some x→q x=true)) (fun s => match s with | .string c => c.size | _ => 0)
 case atStart => exact ⟨N,Nat.le_refl _,by rw [List.take_of_length_le (by rw [HN.out];exact Nat.le_refl _)],Lib.hid fun j x h1 h2 => by have:=(List.getElem?_eq_some_iff.1 h2).1;rw [HN.out] at this;omega⟩
 case round =>
  obtain ⟨n,hn,rfl,HA⟩:=hrel
  have hsz:(strL (L.take n)).size=n:=by rw [strL_size,List.length_take,HN.out];omega
  rcases Nat.eq_zero_or_pos n with h0 | h0
  ·subst h0
   obtain ⟨S,hS⟩:∃ S,strL (L.take 0)=S:=⟨_,rfl⟩
   have HS:=Lib.hid hS
   rw [hS] at hsz ⊢
   clear hS
   go_wp2_with fail
   go_ret
   exact ⟨rfl,0,Nat.zero_le _,by rw [HS.out];rfl,HA.out,fun x _ h => absurd h (by omega)⟩
  ·obtain ⟨m,rfl⟩:∃ m,n=m + 1:=⟨n - 1,by omega⟩
   obtain ⟨x,hx⟩:∃ x,L[m]?=some x:=⟨_,List.getElem?_eq_getElem (by rw [HN.out];omega)⟩
   have hix:∀ h:m < (strL (L.take (m + 1))).size,(((strL (L.take (m + 1)))[m]'h).toNat:Int)=((x.toNat:Nat):Int):=fun h => by rw [strL_get (L.take (m + 1)) m x (by rw [List.getElem?_take,if_pos (by omega)];exact hx) h]
   have hcut:(strL (L.take (m + 1))).extract 0 m=strL (L.take m):=by rw [strL_take,List.take_take,Nat.min_eq_left (by omega)]
   have hsz2:(strL (L.take m)).size=m:=by rw [strL_size,List.length_take,HN.out];omega
   have HCx:=Lib.hid (HC.out x)
   obtain ⟨S,hS⟩:∃ S,strL (L.take (m + 1))=S:=⟨_,rfl⟩
   have HS:=Lib.hid hS
   obtain ⟨S2,hS2⟩:∃ S,strL (L.take m)=S:=⟨_,rfl⟩
   have HS2:=Lib.hid hS2
   have Hx:=Lib.hid hx
   rw [hS] at hsz hix hcut ⊢
   rw [hS2] at hcut hsz2
   clear hS hS2 hx
   have e1:(((m + 1:Nat):Int) - 1)=(m:Int):=by omega
   have e2:IntKind.i64.wrap (m:Int)=(m:Int):=wrap_i64R m (by omega)
   have e3:wrap64 (((m + 1:Nat):Int) - 1)=(m:Int):=by unfold wrap64;omega
   cases hq:q x
   ·have HQ:=Lib.hid hq
    rw [hq] at HCx
    clear hq
    go_wp2_with fail
    refine HCx.out.mono ?_
    rintro e w2 ⟨rfl,rfl⟩
    go_wp2_with fail
    go_ret
    exact ⟨rfl,m + 1,hn,by rw [HS.out];rfl,HA.out,fun y hy _ => by
     rw [show m + 1 - 1=m from rfl,Hx.out] at hy
     injection hy with hy
     rw [← hy];exact HQ.out⟩
   ·have HQ:=Lib.hid hq
    rw [hq] at HCx
    clear hq
    go_wp2_with fail
    refine HCx.out.mono ?_
    rintro e w2 ⟨rfl,rfl⟩
    go_wp2_with fail
    refine ⟨⟨m,by omega,by first | rfl | rw [HS2.out],Lib.hid fun j y h1 h2 => ?_⟩,by simp [hsz,hsz2]⟩
    rcases Nat.eq_or_lt_of_le h1 with h | h
    ·subst h
     rw [Hx.out] at h2
     injection h2 with h2
     rw [← h2];exact HQ.out
    ·exact HA.out j y h h2
theorem trimLA_any (L:List UInt8) (b:Nat) (q:UInt8→Bool) (w:World) (hL:L.length≤1000000) (hb:∀ x:UInt8,w.cell? ⟨b,x.toNat,none⟩=some (.bool (q x))) :
  Calls Tryz.prog 162 #[.string (strL L), .pointer (some ⟨b,0,none⟩)] w fun e w' => w'=w∧∃ n,e=.returned (.string (strL (L.drop n)))∧(∀ (j:Nat) (x:UInt8),j < n→L[j]?=some x→q x=true):=by
 have HC:=Lib.hid fun x => Tryz.asciiSet_contains b x (q x) w (hb x)
 clear hb
 obtain ⟨N,hN⟩:∃ n,L.length=n:=⟨_,rfl⟩
 have HN:=Lib.hid hN
 rw [hN] at hL
 clear hN
 go_enter Tryz.func162,Tryz.ntmps162
 go_wp2_with fail
 go_loop [0] (fun s => ∃ n:Nat,n≤N∧s=.string (strL (L.drop n))∧Hid (∀ (j:Nat) (x:UInt8),j < n→L[j]?=some x→q x=true)) (fun s => match s with | .string c => c.size | _ => 0)
 case atStart => exact ⟨0,Nat.zero_le _,rfl,Lib.hid fun j x h1 => absurd h1 (Nat.not_lt_zero _)⟩
 case round =>
  obtain ⟨n,hn,rfl,HA⟩:=hrel
  have hsz:(strL (L.drop n)).size=N - n:=by rw [strL_size,List.length_drop,HN.out]
  by_cases h0:n < N
  ·obtain ⟨x,hx⟩:∃ x,L[n]?=some x:=⟨_,List.getElem?_eq_getElem (by rw [HN.out];exact h0)⟩
   have hix:∀ h:0 < (strL (L.drop n)).size,(((strL (L.drop n))[0]'h).toNat:Int)=((x.toNat:Nat):Int):=fun h => by rw [strL_get (L.drop n) 0 x (by rw [List.getElem?_drop];exact hx) h]
   have hcut:(strL (L.drop n)).extract 1 (N - n)=strL (L.drop (n + 1)):=by rw [← hsz,strL_drop,List.drop_drop]
   have hsz2:(strL (L.drop (n + 1))).size=N - (n + 1):=by rw [strL_size,List.length_drop,HN.out]
   have HCx:=Lib.hid (HC.out x)
   obtain ⟨S,hS⟩:∃ S,strL (L.drop n)=S:=⟨_,rfl⟩
   have HS:=Lib.hid hS
   obtain ⟨S2,hS2⟩:∃ S,strL (L.drop (n + 1))=S:=⟨_,rfl⟩
   have HS2:=Lib.hid hS2
   have Hx:=Lib.hid hx
   rw [hS] at hsz hix hcut ⊢
   rw [hS2] at hcut hsz2
   clear hS hS2 hx
   have b1:(0:Int) < ((N - n:Nat):Int):=by omega
   have b2:(1:Int)≤((N - n:Nat):Int):=by omega
   cases hq:q x
   ·have HQ:=Lib.hid hq
    rw [hq] at HCx
    clear hq
    go_wp2_with fail
    refine HCx.out.mono ?_
    rintro e w2 ⟨rfl,rfl⟩
    go_wp2_with fail
    go_ret
    exact ⟨rfl,n,by rw [HS.out];rfl,HA.out⟩
   ·have HQ:=Lib.hid hq
    rw [hq] at HCx
    clear hq
    go_wp2_with fail
    refine HCx.out.mono ?_
    rintro e w2 ⟨rfl,rfl⟩
    go_wp2_with fail
    refine ⟨⟨n + 1,by omega,by first | rfl | rw [HS2.out],Lib.hid fun j y h1 h2 => ?_⟩,by simp [hsz,hsz2];omega⟩
    rcases Nat.lt_or_ge j n with h | h
    ·exact HA.out j y h h2
    ·obtain rfl:j=n:=by omega
     rw [Hx.out] at h2
     injection h2 with h2
     rw [← h2];exact HQ.out
  ·obtain rfl:n=N:=by omega
   rw [Nat.sub_self] at hsz
   obtain ⟨S,hS⟩:∃ S,strL (L.drop n)=S:=⟨_,rfl⟩
   have HS:=Lib.hid hS
   rw [hS] at hsz ⊢
   clear hS
   go_wp2_with fail
   go_ret
   exact ⟨rfl,n,by rw [HS.out];rfl,HA.out⟩
theorem trim_empty {L:List UInt8} {q:UInt8→Bool} {n m:Nat} (hn:n≤L.length) (h1:∀ (j:Nat) (x:UInt8),n≤j→L[j]?=some x→q x=true) (h2:∀ x,L[n - 1]?=some x→1≤n→q x=false)
  (h3:∀ (j:Nat) (x:UInt8),j < m→(L.take n)[j]?=some x→q x=true):((L.take n).drop m=[]) ↔ (L.all q=true):=by
 constructor
 ·intro h
  rw [List.all_eq_true]
  intro c hc
  obtain ⟨j,hj,rfl⟩:=List.getElem_of_mem hc
  rcases Nat.lt_or_ge j n with h4 | h4
  ·have hl:((L.take n).drop m).length=0:=by rw [h];rfl
   rw [List.length_drop,List.length_take] at hl
   exact h3 j _ (by omega) (by rw [List.getElem?_take,if_pos h4];exact List.getElem?_eq_getElem hj)
  ·exact h1 j _ h4 (List.getElem?_eq_getElem hj)
 ·intro h
  rw [List.all_eq_true] at h
  have h0:n=0:=by
   rcases Nat.eq_zero_or_pos n with h4 | h4
   ·exact h4
   ·have hx:=List.getElem?_eq_getElem (l:=L) (i:=n - 1) (by omega)
    have:=h2 _ hx h4
    rw [h _ (List.getElem_mem _)] at this
    cases this
  subst h0
  simp
theorem strL_nil {L:List UInt8}:(strL L).toList=[] ↔ L=[]:=by
 rw [ByteArray.toList_eq]
 exact Iff.rfl
def asciiB (S:List UInt8):Prop:=∀ (j:Nat) b,S[j]?=some b→b.toNat < 128
theorem trim_any (L S:List UInt8) (w:World) (hL:L.length≤1000000) (hS:2≤S.length∧S.length≤1000) (ha:asciiB S) (B:Bool) (hB:L.all S.contains=B) :
  Calls Tryz.prog 135 #[.string (strL L), .string (strL S)] w fun e w' => ∃ M:List UInt8,e=.returned (.string (strL M))∧(M=[] ↔ B=true)∧Below w.heap.size w w':=by
 have HM:=Lib.hid (Tryz.strings_makeASCIISet zero_ascii (strL S) w (by rw [strL_size];omega) ha)
 have hsS:(strL S).size=S.length:=strL_size S
 have hSd:(strL S).data.toList=S:=rfl
 rw [hSd] at HM
 have HSz:Hid ((Lib.setCells S).size=256):=Lib.hid (Lib.setCells_size S)
 have HSo:Hid ((Lib.setCells S).all (·.oneCell')=true):=Lib.hid (by rw [Lib.setCells_eq,Array.all_eq_true];intro i hi;simp [Value.oneCell'])
 have HAt:Hid (∀ x:UInt8,(Lib.setCells S)[x.toNat]?=some (.bool (S.contains x))):=Lib.hid (Lib.setCells_at S)
 have hne:((strL S).toList == [])=false:=by
  rw [ByteArray.toList_eq]
  show (S == [])=false
  cases S with
  | nil => simp at hS
  | cons a l => rfl
 have h2:((S.length:Int) == 1)=false:=beq_eq_false_iff_ne.2 (by omega)
 have HB:=Lib.hid hB
 generalize Lib.setCells S=X at *
 obtain ⟨SS,hSS⟩:∃ x,strL S=x:=⟨_,rfl⟩
 rw [hSS] at hne hsS HM ⊢
 by_cases hL0:L=[]
 ·subst hL0
  have hB1:B=true:=HB.out.symm
  go_enter Tryz.func135,Tryz.ntmps135
  have e:(strL []).toList=[]:=by rw [ByteArray.toList_eq];rfl
  go_wp2_with fail
  go_ret
  exact ⟨[],rfl,by simp [hB1],Below.refl _ _⟩
 ·have hLn:((strL L).toList == [])=false:=by
   rw [ByteArray.toList_eq]
   show (L == [])=false
   cases L with
   | nil => exact absurd rfl hL0
   | cons a l => rfl
  have HR:=Lib.hid fun b wx h => trimRA_any L b S.contains wx hL h
  have HL:=Lib.hid fun n b wx h => trimLA_any (L.take n) b S.contains wx (by rw [List.length_take];omega) h
  have HE:=Lib.hid fun n m h1 h2 h3 h4 => trim_empty (L:=L) (q:=S.contains) (n:=n) (m:=m) h1 h2 h3 h4
  obtain ⟨LL,hLL⟩:∃ x,strL L=x:=⟨_,rfl⟩
  rw [hLL] at hLn HR ⊢
  clear hLL hSS hSd hL0 hB
  go_enter Tryz.func135,Tryz.ntmps135
  go_wp2_with fail
  refine HM.out.mono ?_
  rintro e w1 ⟨rfl,rfl⟩
  have HB1:Hid (Below w.heap.size w ((w.alloc (.cells X 176)).alloc (.cells X 176 (0,0)))):=Lib.hid (below_alloc (below_alloc (Below.refl _ _) _) _)
  have HP1:Hid (Blk ((w.alloc (.cells X 176)).alloc (.cells X 176 (0,0))) (w.heap.size + 1) 176 X):=Lib.hid (by
   have:=Blk.new (w.alloc (.cells X 176)) 176 X
   rw [World.size_alloc] at this
   exact this)
  go_upto_region 6 with (refine wpList_var X 176 zero_ascii rfl rfl rfl _ _ rfl _ rfl ?_ ?_ 256 size_ascii HSz.out ?_ HSo.out ?_;all_goals (try rfl);try go_simp)
  generalize (w.alloc (.cells X 176)).alloc (.cells X 176 (0,0))=w2 at *
  generalize w.heap.size + 1=bx at HP1 ⊢
  have hcell:∀ x:UInt8,w2.cell? ⟨bx,x.toNat,none⟩=some (.bool (S.contains x)):=fun x => (HP1.out.cell x.toNat).trans (HAt.out x)
  have HR2:=Lib.hid (HR.out bx w2 hcell)
  have HL2:=Lib.hid fun n => HL.out n bx w2 hcell
  clear hcell HR HL HM HAt HP1 HSz HSo
  go_wp2_with fail
  refine HR2.out.mono ?_
  rintro e w3 ⟨rfl,n,hn,rfl,k1,k2⟩
  have HK:=Lib.hid (And.intro hn (And.intro k1 k2))
  clear hn k1 k2 HR2
  go_wp2_with fail
  refine (HL2.out n).mono ?_
  rintro e w3 ⟨rfl,m,rfl,k3⟩
  have HI:=Lib.hid (HE.out n m HK.out.1 HK.out.2.1 HK.out.2.2 k3)
  clear k3 HK HE HL2
  go_wp2_with fail
  go_ret
  exact ⟨_,rfl,by rw [HI.out,HB.out],HB1.out⟩
theorem only_any (L S:List UInt8) (w:World) (hL:L.length≤1000000) (hS:2≤S.length∧S.length≤1000) (ha:asciiB S) :
  Calls Tryz.prog 100 #[.string (strL L), .string (strL S)] w (Ret (.bool (L.all S.contains)) w):=by
 obtain ⟨B,hB⟩:∃ B,L.all S.contains=B:=⟨_,rfl⟩
 rw [hB]
 have hT:=trim_any L S w hL hS ha B hB
 have HT:=Lib.hid hT
 clear hT hB hS hL ha
 go_enter Tryz.func100,Tryz.ntmps100
 go_wp2_with fail
 refine HT.out.mono ?_
 rintro e w2 ⟨M,rfl,hM,hb⟩
 have HB2:=Lib.hid hb
 clear hb
 have hE:((strL M).toList == [])=B:=by
  rw [Bool.eq_iff_iff, ← hM]
  simp [strL_nil]
 generalize strL M=SM at *
 clear hM
 go_wp2_with fail
 go_ret
 exact ⟨rfl,HB2.out⟩
def smallsL:List UInt8:=[97,98,99,100,101,102,103,104,105,106,107,108,109,110,111,112,113,114,115,116,117,118,119,120,121,122]
def keysL:List UInt8:=[97,98,99,100,101,102,103,104,105,106,107,108,109,110,111,112,113,114,115,116,117,118,119,120,121,122] ++ [48,49,50,51,52,53,54,55,56,57,45,95]
theorem byte_all (p:UInt8→Bool) (h:∀ n:Fin 256,p (UInt8.ofNat n.val)=true) (c:UInt8):p c=true:=by
 have:=h ⟨c.toNat,c.toNat_lt⟩
 simpa using this
theorem small_set (c:UInt8):smallC c=smallsL.contains c:=by
 have:=byte_all (fun c => smallC c == smallsL.contains c) (by decide +kernel) c
 simpa using this
theorem key_set (c:UInt8):keyC c=keysL.contains c:=by
 have:=byte_all (fun c => keyC c == keysL.contains c) (by decide +kernel) c
 simpa using this
theorem smalls_ascii:asciiB smallsL:=fun j b h => by
 have hm:b ∈ smallsL:=List.mem_of_getElem? h
 revert hm b
 intro b _ hm
 exact (by decide +kernel:∀ b ∈ smallsL,b.toNat < 128) b hm
theorem keys_ascii:asciiB keysL:=fun j b h => (by decide +kernel:∀ b ∈ keysL,b.toNat < 128) b (List.mem_of_getElem? h)
theorem qKey_any (L:List UInt8) (w:World) (hL:L.length≤1000000):Calls Tryz.prog 40 #[.string (strL L)] w (Ret (.bool (keyB L)) w):=by
 obtain ⟨B,hB⟩:∃ B,keyB L=B:=⟨_,rfl⟩
 rw [hB]
 have HO1:=Lib.hid fun wx => only_any (L.take 1) smallsL wx (by rw [List.length_take];omega) (by decide) smalls_ascii
 have HO2:=Lib.hid fun wx => only_any L keysL wx hL (by decide) keys_ascii
 have e1:(L.take 1).all smallsL.contains=(L.take 1).all smallC:=by congr 1;funext c;exact (small_set c).symm
 have e2:L.all keysL.contains=L.all keyC:=by congr 1;funext c;exact (key_set c).symm
 rw [e1] at HO1
 rw [e2] at HO2
 clear e1 e2
 have HI:=Lib.hid fun wx => in_any (L.length:Int) 1 40 wx
 have hsz:=strL_size L
 have hcut:=strL_take L 1
 have hX1:strL smallsL=⟨#[97,98,99,100,101,102,103,104,105,106,107,108,109,110,111,112,113,114,115,116,117,118,119,120,121,122]⟩:=rfl
 have hX2:strL keysL=⟨#[97,98,99,100,101,102,103,104,105,106,107,108,109,110,111,112,113,114,115,116,117,118,119,120,121,122,48,49,50,51,52,53,54,55,56,57,45,95]⟩:=rfl
 rw [hX1] at HO1
 rw [hX2] at HO2
 clear hX1 hX2
 have HK:Hid ((decide (1≤L.length∧L.length≤40) && (L.take 1).all smallC && L.all keyC)=B):=Lib.hid hB
 generalize (L.take 1).all smallC=A1 at *
 generalize L.all keyC=A2 at *
 generalize strL (L.take 1)=S1 at *
 generalize strL L=S at *
 generalize L.length=n at *
 clear hB
 by_cases hn:1≤n∧n≤40
 ·have hin:inB (n:Int) 1 40=true:=by unfold inB;simp;omega
  rw [hin] at HI
  have b1:(1:Int)≤(n:Int):=by omega
  have hK:=HK.out
  rw [show decide (1≤n∧n≤40)=true by simp;omega,Bool.true_and] at hK
  clear hin HK
  go_enter Tryz.func40,Tryz.ntmps40
  go_wp2_with fail
  refine (HI.out _).mono ?_
  rintro e w' ⟨rfl,rfl⟩
  go_wp2_with fail
  refine (HO1.out _).mono ?_
  rintro e w2 ⟨rfl,hb⟩
  have HB2:=Lib.hid hb
  clear hb
  cases A1
  ·have:B=false:=by rw [← hK];rfl
   subst this
   clear hK
   go_wp2_with fail
   go_ret
   exact ⟨rfl,HB2.out⟩
  ·have:B=A2:=by rw [← hK];rfl
   subst this
   clear hK
   go_wp2_with fail
   refine (HO2.out _).mono ?_
   rintro e w3 ⟨rfl,hb⟩
   have HB3:=Lib.hid (HB2.out.trans (hb.mono HB2.out.size))
   clear hb HB2
   go_wp2_with fail
   go_ret
   exact ⟨rfl,HB3.out⟩
 ·have hin:inB (n:Int) 1 40=false:=by unfold inB;simp;omega
  rw [hin] at HI
  have hK:=HK.out
  rw [show decide (1≤n∧n≤40)=false by simp;omega,Bool.false_and,Bool.false_and] at hK
  subst hK
  clear hin HK
  go_enter Tryz.func40,Tryz.ntmps40
  go_wp2_with fail
  refine (HI.out _).mono ?_
  rintro e w' ⟨rfl,rfl⟩
  go_wp2_with fail
  go_ret
  exact ⟨rfl,Below.refl _ _⟩
end Go.Proofs.YteldaicgaeooiaaGreatDoor
