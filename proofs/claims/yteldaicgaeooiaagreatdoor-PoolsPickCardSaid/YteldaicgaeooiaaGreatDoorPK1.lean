/-
  The stream of drawn numbers: contracts of lanemake.Below and of the methods Next, Range, Flip of Stream. Conditions: fewer than 2^40 numbers drawn.
  What a law is handed: the form's reading of a slice of ints gives LawArg.
  A region that draws its order, by an invariant: each operation, run once all its forerunners have run, yields a value that meets its own predicate; the last operations, which wait for all others, are walked in order. Conditions: the closed check invB.
  Generators of numbers, addresses and flows: contracts of Odd, Addr, Raw, RightFlow, Flow, Times of Stream.
  Generators of addresses and flows: contracts of Raw, at, sixAt, RightFlow, Flow, Times.
  Generators of flows and times: contracts of RightFlow, Flow, Times.
  Small functions on numbers and addresses: Outside, in, CheckAddr, AddrFault, HasPorts.
  Addresses with their first bits alone: low, Length, Masked, Filled.
-/
import Derived.Test.YteldaicgaeooiaaGreatDoorProg
import Derived.WalkKit
import Derived.WalkLawsBesides
import Derived.WalkSpells
import Derived.Deep.QuietTactic
import Derived.BigQuiet
import Derived.Lib.Hide
import Derived.Test.YteldaicgaeooiaaGreatDoorRows
import Derived.ProofKit
import Derived.OpenShut
import Derived.StillTail
import Derived.KernelRfl
import Derived.Deep.RegionWith
import Derived.Deep.RegionHeld3
import Derived.Deep.Cut
import Derived.Deep.DeepCutAuto
set_option linter.unusedVariables false
set_option maxRecDepth 100000
set_option maxHeartbeats 1000000
namespace Go.Proofs.YteldaicgaeooiaaGreatDoor
open Go.RowKit
theorem wrap64_bd (x:Int):-9223372036854775808≤wrap64 x∧wrap64 x≤9223372036854775807 := by unfold wrap64;omega
def BelowRes (n k:Int):Prop := 0≤k∧(k < n ∨ k=0)
theorem below_any (x n:Int) (w:World) (hx:-9223372036854775808≤x∧x≤9223372036854775807) (hn:-9223372036854775808≤n∧n≤9223372036854775807) :
  Calls Tryz.prog 81 #[.int .i64 x, .int .i64 n] w fun e w' => ∃ k:Int,e=.returned (.int .i64 k)∧BelowRes n k∧w=w' := by
 have h3:1≤n→x.tmod n < n∧-n < x.tmod n := fun h => ⟨Int.tmod_lt_of_pos x (by omega),by have := Int.lt_tmod_of_pos x (show 0 < n by omega);omega⟩
 go_enter Tryz.func81,Tryz.ntmps81
 go_wp2
 ·go_ret;exact ⟨_,rfl,⟨by omega,by omega⟩,rfl⟩
 ·go_ret
  have h1:1≤n := by assumption
  have h2:x.tmod n < 0 := by assumption
  have := h3 h1
  exact ⟨_,rfl,⟨by omega,by omega⟩,rfl⟩
 ·go_ret
  have h1:1≤n := by assumption
  have h2:0≤x.tmod n := by assumption
  have := h3 h1
  exact ⟨_,rfl,⟨by omega,by omega⟩,rfl⟩
structure Strm (w:World) (b m:Nat):Prop where
 ex:∃ (ad:Option Addr) (n c:Nat) (k:Int) (zs:Nat→Int),w.heap[b]?=some (.cells #[.slice ad n c, .int .i64 k] 25 (0,0))∧n≤9223372036854775807∧0≤k∧k≤m ∧
  (∀ i,i < n→∃ bb oo,ad=some ⟨bb,oo,none⟩∧bb < b∧w.cell? ⟨bb,oo + i,none⟩=some (.int .i64 (zs i)))∧(∀ i, -9223372036854775808≤zs i∧zs i≤9223372036854775807)
theorem Strm.lt {w:World} {b m:Nat} (h:Strm w b m):b < w.heap.size := by
 obtain ⟨ad,n,c,k,zs,hb,_⟩ := h.ex
 exact lt_of_block hb
theorem Strm.mono {w:World} {b m m':Nat} (h:Strm w b m) (hm:m≤m'):Strm w b m' := by
 obtain ⟨ad,n,c,k,zs,hb,h1,h2,h3,h4,h5⟩ := h.ex
 exact ⟨ad,n,c,k,zs,hb,h1,h2,by omega,h4,h5⟩
theorem Strm.keep {w w':World} {b m:Nat} (h:Strm w b m) (hk:∀ i,i≤b→w'.heap[i]?=w.heap[i]?):Strm w' b m := by
 obtain ⟨ad,n,c,k,zs,hb,h1,h2,h3,h4,h5⟩ := h.ex
 refine ⟨ad,n,c,k,zs,(hk b (Nat.le_refl _)).trans hb,h1,h2,h3,fun i hi => ?_,h5⟩
 obtain ⟨bb,oo,e,hlt,hc⟩ := h4 i hi
 exact ⟨bb,oo,e,hlt,(World.cell?_of_block (w := w) (hk bb (by omega))).trans hc⟩
theorem Strm.below {w w':World} {b m B:Nat} (h:Strm w b m) (hb:Below B w w') (hB:b < B):Strm w' b m := h.keep fun i hi => hb.block i (by omega)
theorem Strm.drewN {w:World} {b m:Nat} (h:Strm w b m) (n:Nat):Strm (w.drewN n) b m := h.keep fun i hi => rfl
theorem Strm.alloc {w:World} {b m:Nat} (h:Strm w b m) (o:Obj):Strm (w.alloc o) b m := h.keep fun i hi => Below.heap_alloc w o i (by have := h.lt;omega)
theorem next_any (b m:Nat) (n:Int) (w:World) (h:Strm w b m) (hm:m < 1099511627776) (hn:-9223372036854775808≤n∧n≤9223372036854775807) :
  Calls Tryz.prog 29 #[.pointer (some ⟨b,0,none⟩), .int .i64 n] w fun e w' => ∃ k:Int,e=.returned (.int .i64 k)∧BelowRes n k∧w.grownBy w' (some b)∧Strm w' b (m + 1) := by
 obtain ⟨ad,len,c,k,zs,hb,hlen,hk0,hk1,hz,hzb⟩ := h.ex
 have c0:w.cell? ⟨b,0,none⟩=some (.slice ad len c) := by rw [cell_of_row w b 0 _ _ _ hb];rfl
 have c1:w.cell? ⟨b,1,none⟩=some (.int .i64 k) := by rw [cell_of_row w b 1 _ _ _ hb];rfl
 have f1:w.frozen? ⟨b,1,none⟩=false := frozen_of_row w b 1 _ _ hb
 have hend:∀ N,w.grownBy ((w.setCell ⟨b,1,none⟩ (.int .i64 (k + 1))).drewN N) (some b)∧Strm ((w.setCell ⟨b,1,none⟩ (.int .i64 (k + 1))).drewN N) b (m + 1) := by
  intro N
  refine ⟨⟨rfl,rfl,rfl,by simp [World.setCell],fun i hi hne => Below.heap_setCell w _ _ i (fun e => hne (by rw [e]))⟩,⟨ad,len,c,k + 1,zs,?_,hlen,by omega,by omega,fun i hi => ?_,hzb⟩⟩
  ·show (w.setCell ⟨b,1,none⟩ (.int .i64 (k + 1))).heap[b]?=_
   rw [heap_setCell_same w b 1 _ _ _ hb];rfl
  ·obtain ⟨bb,oo,e,hlt,hc⟩ := hz i hi
   exact ⟨bb,oo,e,hlt,(World.cell?_of_block (w := w) (Below.heap_setCell w ⟨b,1,none⟩ _ bb (by simp;omega))).trans hc⟩
 have Hend := Lib.hid hend
 clear hend h hb
 by_cases hl0:((len:Int) == 0)=true
 ·clear hz
  go_enter Tryz.func29,Tryz.ntmps29
  go_wp2_with (go_at_call 81;refine (below_any _ _ _ (by omega) (by omega)).mono ?_;rintro e w' ⟨k',rfl,hk',rfl⟩)
  go_ret
  exact ⟨_,rfl,hk',(Hend.out 0).1,(Hend.out 0).2⟩
 ·have hl1:0 < len := by simp at hl0;omega
  have hlf:((len:Int) == 0)=false := by simpa using hl0
  have hm0:0≤k % (len:Int) := Int.emod_nonneg _ (by omega)
  have hm1:k % (len:Int) < len := Int.emod_lt_of_pos _ (by omega)
  obtain ⟨bb,oo,rfl,hlt,hc⟩ := hz (k % (len:Int)).toNat (by omega)
  have hzi := hzb (k % (len:Int)).toNat
  generalize zs (k % (len:Int)).toNat=z at hc hzi
  clear hz hzb hl0
  have hbne:bb ≠ b := by omega
  go_enter Tryz.func29,Tryz.ntmps29
  go_wp2_with fail
  go_quiet (fail)
  go_wp2_with fail
  go_quiet (fail)
  go_wp2_with (go_at_call 81;refine (below_any _ _ _ (by first | omega | exact wrap64_bd _) (by omega)).mono ?_;rintro e w' ⟨k',rfl,hk',rfl⟩)
  go_ret
  exact ⟨_,rfl,hk',(Hend.out _).1,(Hend.out _).2⟩
structure Gen (b:Nat) (w w':World) (m':Nat):Prop where
 g:w.grownBy w' (some b)
 s:Strm w' b m'
theorem Gen.mono {b m m':Nat} {w w':World} (h:Gen b w w' m) (hm:m≤m'):Gen b w w' m' := ⟨h.g,h.s.mono hm⟩
theorem grown_trans {a b c:World} {r:Option Nat} (h:a.grownBy b r) (k:b.grownBy c r):a.grownBy c r :=
 ⟨k.os.trans h.os,k.tape.trans h.tape,k.output.trans h.output,Nat.le_trans h.size k.size,fun i hi hne => (k.block i (Nat.lt_of_lt_of_le hi h.size) hne).trans (h.block i hi hne)⟩
theorem Gen.trans {b m m':Nat} {u v w:World} (h:Gen b u v m) (k:Gen b v w m'):Gen b u w m' := ⟨grown_trans h.g k.g,k.s⟩
theorem Gen.drewN {b m:Nat} {u v:World} (h:Gen b u v m) (n:Nat):Gen b u (v.drewN n) m :=
 ⟨⟨h.g.os,h.g.tape,h.g.output,h.g.size,h.g.block⟩,h.s.drewN n⟩
theorem Gen.drew {b m:Nat} {u v:World} (h:Gen b u v m):Gen b u v.drew m := h.drewN 1
theorem Gen.alloc {b m:Nat} {u v:World} (h:Gen b u v m) (o:Obj):Gen b u (v.alloc o) m :=
 ⟨grown_trans h.g (World.grownBy_alloc v o _),h.s.alloc o⟩
theorem Gen.setCell {b m:Nat} {u v:World} (h:Gen b u v m) (a:Addr) (x:Value) (ha:u.heap.size≤a.block) (hb:b < a.block):Gen b u (v.setCell a x) m :=
 ⟨⟨h.g.os,h.g.tape,h.g.output,by simpa [World.setCell] using h.g.size,fun i hi hne => (Below.heap_setCell v a x i (by omega)).trans (h.g.block i hi hne)⟩,
  h.s.keep fun i hi => Below.heap_setCell v a x i (by omega)⟩
theorem Gen.start {b m:Nat} {w:World} (h:Strm w b m):Gen b w w m := ⟨World.grownBy.refl w _,h⟩
theorem Gen.below {b m B:Nat} {u v w:World} (h:Gen b u v m) (k:Below B v w) (hB:u.heap.size≤B) (hb:b < B):Gen b u w m :=
 ⟨⟨k.os.trans h.g.os,k.tape.trans h.g.tape,k.output.trans h.g.output,Nat.le_trans h.g.size k.size,fun i hi hne => (k.block i (by omega)).trans (h.g.block i hi hne)⟩,h.s.below k hb⟩
def RangeRes (low high k:Int):Prop := low≤k∧(k≤high ∨ k=low)
theorem next_gen (b m:Nat) (n:Int) (w:World) (h:Strm w b m) (hm:m < 1099511627776) (hn:-9223372036854775808≤n∧n≤9223372036854775807) :
  Calls Tryz.prog 29 #[.pointer (some ⟨b,0,none⟩), .int .i64 n] w fun e w' => ∃ k:Int,e=.returned (.int .i64 k)∧BelowRes n k∧Gen b w w' (m + 1) :=
 (next_any b m n w h hm hn).mono fun _ _ ⟨k,h1,h2,h3,h4⟩ => ⟨k,h1,h2,h3,h4⟩
theorem range_gen (b m:Nat) (low high:Int) (w:World) (h:Strm w b m) (hm:m < 1099511627776) (hl:-2305843009213693952≤low∧low≤2305843009213693952) (hh:-2305843009213693952≤high∧high≤2305843009213693952) :
  Calls Tryz.prog 79 #[.pointer (some ⟨b,0,none⟩), .int .i64 low, .int .i64 high] w fun e w' => ∃ k:Int,e=.returned (.int .i64 k)∧RangeRes low high k∧Gen b w w' (m + 1) := by
 go_enter Tryz.func79,Tryz.ntmps79
 go_wp2_with (go_at_call 29;refine (next_gen b m _ _ h hm (by omega)).mono ?_;rintro e w' ⟨k',rfl,⟨hk0,hk1⟩,hg⟩)
 ·go_ret;exact ⟨_,rfl,⟨by omega,by omega⟩,(Gen.start h).mono (by omega)⟩
 ·go_ret;exact ⟨_,rfl,⟨by omega,by omega⟩,hg⟩
theorem flip_gen (b m:Nat) (n:Int) (w:World) (h:Strm w b m) (hm:m < 1099511627776) (hn:-9223372036854775808≤n∧n≤9223372036854775807) :
  Calls Tryz.prog 28 #[.pointer (some ⟨b,0,none⟩), .int .i64 n] w fun e w' => ∃ k:Bool,e=.returned (.bool k)∧Gen b w w' (m + 1) := by
 go_enter Tryz.func28,Tryz.ntmps28
 go_wp2_with (go_at_call 29;refine (next_gen b m _ _ h hm (by omega)).mono ?_;rintro e w' ⟨k',rfl,⟨hk0,hk1⟩,hg⟩)
 go_ret;exact ⟨_,rfl,hg⟩
def RdInts (w:World) (g o n:Nat) (zs:List Int):Prop := zs.length=n∧g < w.heap.size∧∀ i,i < n→w.cell? ⟨g,o + i,none⟩=some (.int .i64 (zs.getD i 0))
theorem pick_gen (b m g o n c:Nat) (zs:List Int) (w:World) (h:Strm w b m) (hm:m < 1099511627776) (hn:1≤n∧n≤9223372036854775807) (hz:RdInts w g o n zs) (hgb:g ≠ b) :
  Calls Tryz.prog 7 #[.pointer (some ⟨b,0,none⟩), .slice (some ⟨g,o,none⟩) n c] w fun e w' => ∃ k:Int,e=.returned (.int .i64 k)∧k ∈ zs∧Gen b w w' (m + 1) := by
 obtain ⟨hl,hgs,hc⟩ := hz
 have Hc := Lib.hid hc
 have Hl := Lib.hid hl
 clear hc hl
 go_enter Tryz.func7,Tryz.ntmps7
 go_wp2_with fail
 refine (next_gen b m _ _ h hm (by omega)).mono ?_
 rintro e w' ⟨k,rfl,⟨hk0,hk1⟩,hg⟩
 have hk2:k < n := by omega
 have hcell:w'.cell? ⟨g,o + k.toNat,none⟩=some (.int .i64 (zs.getD k.toNat 0)) := (World.cell?_of_block (w := w) (hg.g.block g hgs (by simpa using hgb))).trans (Hc.out k.toNat (by omega))
 have hmem:zs.getD k.toNat 0 ∈ zs := by
  have hlt:k.toNat < zs.length := by rw [Hl.out];omega
  simp [List.getD,List.getElem?_eq_getElem hlt]
 generalize zs.getD k.toNat 0=z at hcell hmem
 go_wp2_with fail
 go_ret;exact ⟨_,rfl,hmem,hg⟩
def LawArg (w:World) (ad:Option Addr) (n:Nat):Prop :=
 n≤9223372036854775807∧∃ zs:Nat→Int,(∀ i,i < n→∃ bb oo,ad=some ⟨bb,oo,none⟩∧bb < w.heap.size∧w.cell? ⟨bb,oo + i,none⟩=some (.int .i64 (zs i)))∧(∀ i, -9223372036854775808≤zs i∧zs i≤9223372036854775807)
theorem LawArg.strm {w:World} {ad:Option Addr} {n c:Nat} (h:LawArg w ad n):Strm (w.alloc (.cells #[.slice ad n c, .int .i64 0] 25 (0,0))) w.heap.size 0 := by
 obtain ⟨hn,zs,hz,hb⟩ := h
 refine ⟨ad,n,c,0,zs,heap_alloc_new w _,hn,Int.le_refl _,Int.le_refl _,fun i hi => ?_,hb⟩
 obtain ⟨bb,oo,e,hlt,hc⟩ := hz i hi
 exact ⟨bb,oo,e,hlt,(World.cell?_of_block (w := w) (Below.heap_alloc w _ bb hlt)).trans hc⟩
open Go.ChangeShapes Go.WideShapes Go.ChangeAt Go.RowKit
def IsRow (k:IntKind) (w:World) (a:Option Addr) (len cap:Nat) (zs:List Int):Prop :=
 (a=none∧len=0∧cap=0∧zs=[]) ∨
 ∃ x,a=some x∧len≤cap∧cap≤maxLen∧zs.length=cap∧(∀ i,i < zs.length→w.cell? (x.add i)=some (.int k (zs.getD i 0)))∧∀ n ∈ zs,(Lit.int k n).wf=true
theorem lawArg_of_row {w:World} {a:Option Addr} {len cap:Nat} {zs:List Int} (h:IsRow .i64 w a len cap zs):LawArg w a len := by
 rcases h with ⟨rfl,rfl,rfl,rfl⟩ | ⟨x,rfl,hl,hm,hz,hc,hw⟩
 ·exact ⟨by omega,fun _ => 0,fun i hi => by omega,fun i => by simp only;omega⟩
 ·refine ⟨by unfold maxLen at hm;omega,fun i => zs.getD i 0,fun i hi => ?_,fun i => ?_⟩
  ·have h0 := hc 0 (by omega)
   have hi' := hc i (by omega)
   obtain ⟨b,o,s⟩ := x
   have hs:s=none := by
    cases s with
    | none => rfl
    | some y =>
      exfalso
      unfold World.cell? Addr.add at h0
      simp at h0
      split at h0 <;> simp at h0
   subst hs
   have hadd:(⟨b,o,none⟩:Addr).add i=⟨b,o + i,none⟩ := by unfold Addr.add;split <;> simp_all
   rw [hadd] at hi'
   exact ⟨b,o,rfl,block_lt_of_cell hi',hi'⟩
  ·rcases Nat.lt_or_ge i zs.length with h | h
   ·have hmem:zs.getD i 0 ∈ zs := by simp [List.getD,List.getElem?_eq_getElem h]
    show -9223372036854775808≤zs.getD i 0∧zs.getD i 0≤9223372036854775807
    generalize zs.getD i 0=z at hmem ⊢
    have := hw _ hmem
    simp [Lit.wf,IntKind.min,IntKind.max,IntKind.signed,IntKind.bits] at this
    omega
   ·show -9223372036854775808≤zs.getD i 0∧zs.getD i 0≤9223372036854775807
    simp [List.getD,List.getElem?_eq_none h]
open Go
def Op1 (P:Program) (o:Oper) (ρ:Operand→Value) (w:World) (post:Value→World→Prop):Prop :=
 match (execOp ρ o).run P w with
 | .ok (.value v) w' => post v w'
 | .ok .skip w' => post undef w'
 | .ok (.enter f args) w' => Calls P f args w' fun e w'' => ∃ v,e=.returned v∧post v w''
 | _ => False
theorem Op1.wp {P:Program} {o:Oper} {a:Act} {w:World} {post:Value→World→Prop} {K:Act→World→Prop} {Q:Exit→Act→World→Prop}
  (h:Op1 P o a.eval w post) (hK:∀ v w',post v w'→K (a.put o.dst v) w'):o.wp P a w K Q := by
 unfold Oper.wp
 unfold Op1 at h
 generalize (execOp a.eval o).run P w=r at *
 cases r with
 | halt x w' => exact h.elim
 | ok n w' =>
   cases n <;> simp only [Oper.upon] at h ⊢
   case value v => exact hK _ _ h
   case skip => exact hK _ _ h
   case enter f args => exact Calls.mono h fun e w'' ⟨v,he,hp⟩ => by subst he;exact hK _ _ hp
def setAll:List Oper→Nat→(Nat→Value)→Act→Act
 | [],_,_,a => a
 | o :: l,k,T,a => setAll l (k + 1) T (a.put o.dst (T k))
def lastW (t:Tmp):List Oper→Nat→Option Nat
 | [],_ => none
 | o :: l,k => match lastW t l (k + 1) with
  | some j => some j
  | none => if o.dst=some t then some k else none
theorem put_size (a:Act) (d:Option Tmp) (v:Value):(a.put d v).tmps.size=a.tmps.size := by cases d <;> simp [Act.put]
theorem put_get (a:Act) (d:Option Tmp) (v:Value) (t:Nat) (ht:t < a.tmps.size):(a.put d v).tmps[t]?=if d=some t then some v else a.tmps[t]? := by
 cases d with
 | none => simp [Act.put]
 | some d =>
   by_cases h:d=t
   ·subst h;simp [Act.put,ht]
   ·simp [Act.put,Array.getElem?_setIfInBounds_ne h,h]
theorem setAll_size (T:Nat→Value):∀ (l:List Oper) (k:Nat) (a:Act),(setAll l k T a).tmps.size=a.tmps.size
 | [],_,_ => rfl
 | o :: l,k,a => by rw [setAll,setAll_size T l,put_size]
theorem setAll_defers (T:Nat→Value):∀ (l:List Oper) (k:Nat) (a:Act),(setAll l k T a).defers=a.defers
 | [],_,_ => rfl
 | o :: l,k,a => by rw [setAll,setAll_defers T l];cases o.dst <;> rfl
theorem setAll_get (T:Nat→Value) (t:Nat):∀ (l:List Oper) (k:Nat) (a:Act),t < a.tmps.size →
  (setAll l k T a).tmps[t]?=match lastW t l k with | some j => some (T j) | none => a.tmps[t]?
 | [],_,_,_ => rfl
 | o :: l,k,a,ht => by
   rw [setAll,setAll_get T t l (k + 1) _ (by rw [put_size];exact ht),lastW]
   cases h:lastW t l (k + 1) with
   | some j => rfl
   | none =>
     simp only [put_get a _ _ t ht]
     by_cases h2:o.dst=some t <;> simp [h2]
theorem lastW_some {t:Tmp} {j:Nat}:∀ (l:List Oper) (k:Nat),lastW t l k=some j→k≤j∧∃ o,l[j - k]?=some o∧o.dst=some t
 | [],_,h => by cases h
 | o :: l,k,h => by
   rw [lastW] at h
   cases h2:lastW t l (k + 1) with
   | some i =>
     simp only [h2,Option.some.injEq] at h
     subst h
     obtain ⟨hk,o',ho,hd⟩ := lastW_some l (k + 1) h2
     refine ⟨by omega,o',?_,hd⟩
     rw [show i - k=(i - (k + 1)) + 1 by omega]
     simpa using ho
   | none =>
     simp only [h2] at h
     by_cases h3:o.dst=some t
     ·simp only [h3,if_true,Option.some.injEq] at h
      subst h
      exact ⟨Nat.le_refl _,o,by simp,h3⟩
     ·simp [h3] at h
theorem lastW_none {t:Tmp}:∀ (l:List Oper) (k:Nat),lastW t l k=none→∀ (i:Nat) (o:Oper),l[i]?=some o→o.dst ≠ some t
 | [],_,_,i,o,ho => by simp at ho
 | o' :: l,k,h,i,o,ho => by
   rw [lastW] at h
   cases h2:lastW t l (k + 1) with
   | some j => simp [h2] at h
   | none =>
     simp only [h2] at h
     cases i with
     | zero =>
       simp at ho;subst ho
       intro hd;simp [hd] at h
     | succ i => exact lastW_none l (k + 1) h2 i o (by simpa using ho)
def bef (ops:Array Oper) (i p:Nat):Bool := ((Region.before ops).getD i 0).testBit p
def invB (ops:Array Oper) (N sz:Nat):Bool :=
 Region.noSelect ops && decide (N≤ops.size) &&
 (List.range ops.size).all fun i => match ops[i]? with
  | none => true
  | some o =>
    ((List.range ops.size).all fun j => j == i || match ops[j]? with
     | none => true
     | some o' => o.dst == none || !(o.dst == o'.dst)) &&
    (match o.dst with | some d => decide (d < sz) | none => true) &&
    ((List.range N).all fun j => match ops[j]? with
     | none => true
     | some o' => match o'.dst with
      | none => true
      | some d => !(o.looksAt ops).contains d || bef ops i j) &&
    (match o.guard with | some (g,_) => bef ops i g && decide (g < ops.size) | none => true) &&
    ((List.range ops.size).all fun p => !bef ops i p || o.after.any fun e => Region.binds .any e && (e.on == p || bef ops e.on p)) &&
    (o.after.all fun e => !Region.binds .any e || decide (e.on < i)) &&
    (decide (i < N) || (List.range i).all fun j => bef ops i j)
structure InvB (ops:Array Oper) (N sz:Nat):Prop where
 sel:Region.noSelect ops=true
 le:N≤ops.size
 uniq:∀ (i j:Nat) (o o':Oper) d,ops[i]?=some o→ops[j]?=some o'→o.dst=some d→o'.dst=some d→i=j
 size:∀ (i:Nat) (o:Oper) d,ops[i]?=some o→o.dst=some d→d < sz
 looks:∀ (i j:Nat) (o o':Oper) d,j < N→ops[i]?=some o→ops[j]?=some o'→o'.dst=some d→d ∈ o.looksAt ops→bef ops i j=true
 guard:∀ (i:Nat) (o:Oper) g b,ops[i]?=some o→o.guard=some (g,b)→bef ops i g=true∧g < ops.size
 clos:∀ (i p:Nat) (o:Oper),ops[i]?=some o→p < ops.size→bef ops i p=true→∃ e ∈ o.after,Region.binds .any e=true∧(e.on=p ∨ bef ops e.on p=true)
 back:∀ (i:Nat) (o:Oper) e,ops[i]?=some o→e ∈ o.after→Region.binds .any e=true→e.on < i
 tail:∀ (i j:Nat),N≤i→i < ops.size→j < i→bef ops i j=true
theorem invB_spec {ops:Array Oper} {N sz:Nat} (h:invB ops N sz=true):InvB ops N sz := by
 simp only [invB,Bool.and_eq_true,List.all_eq_true,List.mem_range,decide_eq_true_eq] at h
 obtain ⟨⟨h1,h2⟩,h3⟩ := h
 have lt:∀ {i:Nat} {o:Oper},ops[i]?=some o→i < ops.size := fun ho => (Array.getElem?_eq_some_iff.1 ho).1
 have get:∀ {i:Nat} {o:Oper} (ho:ops[i]?=some o),_ := fun {i o} ho => by
  have := h3 i (lt ho)
  simp only [ho,Bool.and_eq_true] at this
  exact this
 refine ⟨h1,h2,?_,?_,?_,?_,?_,?_,?_⟩
 ·intro i j o o' d hi hj hd hd'
  have := (get hi).1.1.1.1.1.1
  simp only [List.all_eq_true,List.mem_range] at this
  have := this j (lt hj)
  simp only [hj,hd,hd'] at this
  simp at this
  exact this.symm
 ·intro i o d hi hd
  have := (get hi).1.1.1.1.1.2
  simpa [hd] using this
 ·intro i j o o' d hjN hi hj hd hm
  have := (get hi).1.1.1.1.2
  simp only [List.all_eq_true,List.mem_range] at this
  have := this j hjN
  simp only [hj,hd] at this
  simpa [hm] using this
 ·intro i o g b hi hg
  have := (get hi).1.1.1.2
  simpa [hg] using this
 ·intro i p o hi hp hb
  have := (get hi).1.1.2
  simp only [List.all_eq_true,List.mem_range] at this
  have := this p hp
  simp only [hb,Bool.not_true,Bool.false_or,Array.any_eq_true',Bool.and_eq_true,Bool.or_eq_true,beq_iff_eq] at this
  obtain ⟨e,he,h5,h6⟩ := this
  exact ⟨e,he,h5,h6⟩
 ·intro i o e hi he hb
  have := (get hi).1.2
  rw [Array.all_eq_true_iff_forall_mem] at this
  have := this e he
  simpa [hb] using this
 ·intro i j hN hi hj
  obtain ⟨o,ho⟩:∃ o,ops[i]?=some o := ⟨ops[i],Array.getElem?_eq_getElem hi⟩
  have := (get ho).2
  simp only [Bool.or_eq_true,decide_eq_true_eq,List.all_eq_true,List.mem_range] at this
  exact this.resolve_left (by omega) j hj
section
variable {P:Program} {ops:Array Oper} {Q:Exit→Act→World→Prop} {N total:Nat} {a0:Act}
variable {R:Nat→Value→World→Prop} {C:Nat→World→Prop} {S:World→World→Prop} {cost:Nat→Nat}
def Ob (P:Program) (ops:Array Oper) (a0:Act) (R:Nat→Value→World→Prop) (C:Nat→World→Prop) (S:World→World→Prop) (cost:Nat→Nat) (total N:Nat) (i:Nat) (o:Oper):Prop :=
 ∀ (T:Nat→Value) (w:World) (n:Nat),C n w→n + cost i≤total→(∀ p,p < ops.size→bef ops i p=true→R p (T p) w) →
  if Region.wanted o (yielded ops (setAll (ops.toList.take N) 0 T a0).tmps) then
   Op1 P o (setAll (ops.toList.take N) 0 T a0).eval w fun v w' => R i v w'∧C (n + cost i) w'∧S w w'
  else R i undef w∧C (n + cost i) w∧S w w
def sumCost (cost:Nat→Nat) (listed:Array Bool):Nat→Nat
 | 0 => 0
 | k + 1 => sumCost cost listed k + if listed.getD k false then cost k else 0
theorem sumCost_set {listed:Array Bool} {i:Nat} (hi:listed.getD i true=false):∀ k,sumCost cost (listed.setIfInBounds i true) k=sumCost cost listed k + if i < k then cost i else 0
 | 0 => rfl
 | k + 1 => by
   have hlt:i < listed.size := by
    rcases Nat.lt_or_ge i listed.size with h | h
    ·exact h
    ·simp [Array.getD,Nat.not_lt.2 h] at hi
   have hif:listed.getD i false=false := by simpa [Array.getD,hlt] using hi
   rw [sumCost,sumCost,sumCost_set hi k]
   by_cases hik:i=k
   ·subst hik
    have:(listed.setIfInBounds i true).getD i false=true := by simp [Array.getD,hlt]
    simp [this,hif]
   ·have h2:(listed.setIfInBounds i true).getD k false=listed.getD k false := getD_set_ne false hik
    rw [h2]
    have:(i < k + 1) ↔ i < k := by omega
    simp only [this]
    omega
theorem sumCost_le {listed:Array Bool}:∀ k,sumCost cost listed k≤sumCost cost (Array.replicate k true) k := by
 have gen:∀ k m,k≤m→sumCost cost listed k≤sumCost cost (Array.replicate m true) k := by
  intro k
  induction k with
  | zero => intro m _;exact Nat.le_refl _
  | succ k ih =>
    intro m hm
    have h1 := ih m (by omega)
    have h2:(Array.replicate m true).getD k false=true := by simp [Array.getD];omega
    simp only [sumCost,h2,if_true]
    split <;> omega
 exact fun k => gen k k (Nat.le_refl _)
def cnt (listed:Array Bool):Nat→Nat := sumCost (fun _ => 1) listed
theorem cnt_le (listed:Array Bool):∀ k,cnt listed k≤k
 | 0 => Nat.le_refl _
 | k + 1 => by have := cnt_le listed k;simp only [cnt,sumCost] at *;split <;> omega
theorem cnt_full {listed:Array Bool}:∀ k,cnt listed k=k→∀ j,j < k→listed.getD j false=true
 | 0,_,j,hj => by omega
 | k + 1,h,j,hj => by
   have h1 := cnt_le listed k
   simp only [cnt,sumCost] at h h1
   by_cases hk:listed.getD k false=true
   ·simp only [hk,if_true] at h
    rcases Nat.lt_or_ge j k with h2 | h2
    ·exact cnt_full k (by simp only [cnt];omega) j h2
    ·obtain rfl:j=k := by omega
     exact hk
   ·simp only [hk] at h
    simp at h
    omega
structure Fits (ops:Array Oper) (a0:Act) (listed:Array Bool) (T:Nat→Value) (a:Act):Prop where
 defers:a.defers=a0.defers
 size:a.tmps.size=a0.tmps.size
 set:∀ (j:Nat) (o:Oper) d,ops[j]?=some o→listed.getD j false=true→o.dst=some d→a.tmps[d]?=some (T j)
 rest:∀ t,(∀ (j:Nat) (o:Oper),ops[j]?=some o→listed.getD j false=true→o.dst ≠ some t)→a.tmps[t]?=a0.tmps[t]?
theorem getD_false {listed:Array Bool} {i:Nat} (h:listed.getD i true=false):i < listed.size∧listed.getD i false=false := by
 have hlt:i < listed.size := by
  rcases Nat.lt_or_ge i listed.size with h2 | h2
  ·exact h2
  ·simp [Array.getD,Nat.not_lt.2 h2] at h
 exact ⟨hlt,by simpa [Array.getD,hlt] using h⟩
theorem Fits.put {listed:Array Bool} {T:Nat→Value} {a:Act} (hB:InvB ops N a0.tmps.size) (h:Fits ops a0 listed T a) {i:Nat} {o:Oper} (ho:ops[i]?=some o) (hi:listed.getD i true=false) (v:Value) :
  Fits ops a0 (listed.setIfInBounds i true) (fun j => if j=i then v else T j) (a.put o.dst v) := by
 obtain ⟨hlt,hif⟩ := getD_false hi
 have hset:∀ j,(listed.setIfInBounds i true).getD j false=true ↔ (j=i ∨ listed.getD j false=true) := fun j => by
  by_cases hj:i=j
  ·subst hj;simp [Array.getD,hlt]
  ·rw [getD_set_ne false hj];simp [Ne.symm hj]
 refine ⟨by rw [← h.defers];cases o.dst <;> rfl,by rw [put_size,h.size],?_,?_⟩
 ·intro j o' d hj hl hd
  have hds := hB.size j o' d hj hd
  rw [put_get _ _ _ _ (by rw [h.size];exact hds)]
  rcases (hset j).1 hl with rfl | hl'
  ·rw [ho] at hj;injection hj with hj;subst hj
   simp [hd]
  ·have hne:j ≠ i := fun e => by subst e;rw [hif] at hl';cases hl'
   have:o.dst ≠ some d := fun e => hne (hB.uniq j i o' o d hj ho hd e)
   simp only [this,if_false,hne]
   exact h.set j o' d hj hl' hd
 ·intro t ht
  have h1:o.dst ≠ some t := ht i o ho ((hset i).2 (.inl rfl))
  have h2 := h.rest t fun j o' hj hl => ht j o' hj ((hset j).2 (.inr hl))
  rw [← h2]
  cases hd:o.dst with
  | none => simp [Act.put]
  | some d => simp only [Act.put];rw [Array.getElem?_setIfInBounds_ne (fun e => h1 (by rw [hd,e]))]
theorem Fits.agree {listed:Array Bool} {T:Nat→Value} {a:Act} (hB:InvB ops N a0.tmps.size) (h:Fits ops a0 listed T a) (htl:∀ j,N≤j→listed.getD j false=false) {i:Nat} {o:Oper} (ho:ops[i]?=some o)
  (hl:∀ p,bef ops i p=true→p < ops.size→listed.getD p false=true∧p < N) (t:Tmp) (ht:t ∈ o.looksAt ops):a.tmps[t]?=(setAll (ops.toList.take N) 0 T a0).tmps[t]? := by
 rcases Nat.lt_or_ge t a0.tmps.size with hts | hts
 ·rw [setAll_get T t _ 0 a0 hts]
  cases hw:lastW t (ops.toList.take N) 0 with
  | some j =>
    obtain ⟨_,o',ho',hd⟩ := lastW_some _ _ hw
    simp only [Nat.sub_zero,List.getElem?_take] at ho'
    split at ho'
    ·rename_i hjN
     have hj:ops[j]?=some o' := by simpa using ho'
     have hb := hB.looks i j o o' t (by simpa using hjN) ho hj hd ht
     exact h.set j o' t hj (hl j hb (Array.getElem?_eq_some_iff.1 hj).1).1 hd
    ·cases ho'
  | none =>
    refine h.rest t fun j o' hj hlj hd => ?_
    have hjN:j < N := by
     rcases Nat.lt_or_ge j N with h2 | h2
     ·exact h2
     ·rw [htl j h2] at hlj;cases hlj
    exact lastW_none _ _ hw j o' (by rw [List.getElem?_take,if_pos hjN];simpa using hj) hd
 ·rw [Array.getElem?_eq_none (by rw [h.size];exact hts),Array.getElem?_eq_none (by rw [setAll_size];exact hts)]
theorem eval_of_get {a b:Act} (o:Oper) (h:∀ t,t ∈ o.looksAt ops→a.tmps[t]?=b.tmps[t]?):∀ x ∈ o.op.operands,a.eval x=b.eval x := by
 intro x hx
 cases x with
 | tmp t =>
   have := h t (List.mem_append_left _ (List.mem_filterMap.2 ⟨.tmp t,by simpa using hx,rfl⟩))
   simp [Act.eval,Array.getD_eq_getD_getElem?,this]
 | _ => rfl
theorem wanted_of_get {a b:Act} (o:Oper) (h:∀ t,t ∈ o.looksAt ops→a.tmps[t]?=b.tmps[t]?):Region.wanted o (yielded ops a.tmps)=Region.wanted o (yielded ops b.tmps) := by
 unfold Region.wanted
 cases hg:o.guard with
 | none => rfl
 | some gw =>
   obtain ⟨g,want⟩ := gw
   have hy:yielded ops a.tmps g=yielded ops b.tmps g := by
    unfold yielded
    cases ht:(ops[g]?).bind (·.dst) with
    | none => rfl
    | some t =>
      have := h t (List.mem_append_right _ (by simp [hg,ht]))
      simp [this]
   simp only [hy]
theorem region_any (hB:InvB ops N a0.tmps.size) (hS:∀ p v w w',R p v w→S w w'→R p v w')
  (htot:sumCost cost (Array.replicate ops.size true) ops.size≤total)
  (hob:∀ (i:Nat) (o:Oper),ops[i]?=some o→i < N→Ob P ops a0 R C S cost total N i o)
  (hend:∀ T w,(∃ n,n≤total∧C n w)→(∀ p,p < N→R p (T p) w)→wpList P ops Q (ops.toList.drop N) (setAll (ops.toList.take N) 0 T a0) w) :
  ∀ (fuel:Nat) (listed:Array Bool) (a:Act) (w:World),listed.size=ops.size→fuel + cnt listed ops.size=ops.size →
   (∀ j,j < ops.size→listed.getD j false=true→∀ p,p < ops.size→bef ops j p=true→listed.getD p false=true) →
   ((∃ T,(∀ j,N≤j→listed.getD j false=false)∧Fits ops a0 listed T a∧C (sumCost cost listed ops.size) w∧∀ j,j < ops.size→listed.getD j false=true→R j (T j) w) ∨
    (∃ k,N≤k∧k≤ops.size∧(∀ j,j < ops.size→(listed.getD j false=true ↔ j < k))∧wpList P ops Q (ops.toList.drop k) a w)) →
   wpAny P .any ops Q fuel listed a w := by
 -- the whole head is there: the two frames are one
 have whole:∀ (listed:Array Bool) (T:Nat→Value) (a:Act),(∀ j,N≤j→listed.getD j false=false)→(∀ j,j < N→listed.getD j false=true)→Fits ops a0 listed T a→a=setAll (ops.toList.take N) 0 T a0 := by
  intro listed T a ht hh hF
  have h1:a.defers=(setAll (ops.toList.take N) 0 T a0).defers := by rw [setAll_defers,hF.defers]
  have h2:a.tmps=(setAll (ops.toList.take N) 0 T a0).tmps := by
   refine Array.ext_getElem? fun t => ?_
   rcases Nat.lt_or_ge t a0.tmps.size with hts | hts
   ·rw [setAll_get T t _ 0 a0 hts]
    cases hw:lastW t (ops.toList.take N) 0 with
    | some j =>
      obtain ⟨_,o',ho',hd⟩ := lastW_some _ _ hw
      simp only [Nat.sub_zero,List.getElem?_take] at ho'
      split at ho'
      ·rename_i hjN
       exact hF.set j o' t (by simpa using ho') (hh j hjN) hd
      ·cases ho'
    | none =>
      refine hF.rest t fun j o' hj hlj hd => ?_
      have hjN:j < N := by
       rcases Nat.lt_or_ge j N with h | h
       ·exact h
       ·rw [ht j h] at hlj;cases hlj
      exact lastW_none _ _ hw j o' (by rw [List.getElem?_take,if_pos hjN];simpa using hj) hd
   ·rw [Array.getElem?_eq_none (by rw [hF.size];exact hts),Array.getElem?_eq_none (by rw [setAll_size];exact hts)]
  cases a;cases hb:setAll (ops.toList.take N) 0 T a0;simp_all
 -- nothing ready: all is listed
 have allListed:∀ (listed:Array Bool),listed.size=ops.size→Region.ready .any ops listed=[]→∀ j,j < ops.size→listed.getD j false=true := by
  intro listed hsz hr j
  induction j using Nat.strongRecOn with
  | _ j ih =>
    intro hj
    cases hlj:listed.getD j false with
    | true => rfl
    | false =>
      exfalso
      obtain ⟨o,ho⟩:∃ o,ops[j]?=some o := ⟨ops[j],Array.getElem?_eq_getElem hj⟩
      have:j ∈ Region.ready .any ops listed := mem_ready.2 ⟨by simpa [Array.getD,hsz,hj] using hlj,o,ho,fun e he hb => ih e.on (hB.back j o e ho he hb) (by have := hB.back j o e ho he hb;omega)⟩
      rw [hr] at this;cases this
 -- the end
 have fin:∀ (listed:Array Bool) (a:Act) (w:World),(∀ j,j < ops.size→listed.getD j false=true) →
   ((∃ T,(∀ j,N≤j→listed.getD j false=false)∧Fits ops a0 listed T a∧C (sumCost cost listed ops.size) w∧∀ j,j < ops.size→listed.getD j false=true→R j (T j) w) ∨
    (∃ k,N≤k∧k≤ops.size∧(∀ j,j < ops.size→(listed.getD j false=true ↔ j < k))∧wpList P ops Q (ops.toList.drop k) a w))→Q .normal a w := by
  intro listed a w hall h
  rcases h with ⟨T,ht,hF,hC,hR⟩ | ⟨k,hk1,hk2,hk3,hk4⟩
  ·have hN:N=ops.size := by
    rcases Nat.lt_or_ge N ops.size with h | h
    ·have h1 := ht N (Nat.le_refl _)
     rw [hall N h] at h1;cases h1
    ·have := hB.le;omega
   have ha := whole listed T a ht (fun j hj => hall j (by omega)) hF
   have := hend T w ⟨_,Nat.le_trans (sumCost_le _) htot,hC⟩ fun p hp => hR p (by omega) (hall p (by omega))
   rw [← ha,List.drop_eq_nil_of_le (by simp;omega)] at this
   exact this
  ·have:k=ops.size := by
    rcases Nat.lt_or_ge k ops.size with h | h
    ·have := (hk3 k h).1 (hall k h);omega
    ·omega
   rw [List.drop_eq_nil_of_le (by simp;omega)] at hk4
   exact hk4
 intro fuel
 induction fuel with
 | zero =>
   intro listed a w hsz hf hd h
   have hall := cnt_full ops.size (by omega:cnt listed ops.size=ops.size)
   refine ⟨?_,fin listed a w hall h⟩
   refine List.eq_nil_iff_forall_not_mem.2 fun i hi => ?_
   obtain ⟨h1,o,ho,_⟩ := mem_ready.1 hi
   have := hall i (Array.getElem?_eq_some_iff.1 ho).1
   rw [(getD_false h1).2] at this;cases this
 | succ fuel ih =>
   intro listed a w hsz hf hd h
   refine ⟨fun hr => fin listed a w (allListed listed hsz hr) h,fun i hi => ?_⟩
   obtain ⟨h1,o,ho,hafter⟩ := mem_ready.1 hi
   have hilt:i < ops.size := (Array.getElem?_eq_some_iff.1 ho).1
   have hset:∀ j,(listed.setIfInBounds i true).getD j false=true ↔ (j=i ∨ listed.getD j false=true) := fun j => by
    by_cases hj:i=j
    ·subst hj;simp [Array.getD,hsz,hilt]
    ·rw [getD_set_ne false hj];simp [Ne.symm hj]
   have hbef:∀ p,p < ops.size→bef ops i p=true→listed.getD p false=true := fun p hp hb => by
    obtain ⟨e,he,hbi,hor⟩ := hB.clos i p o ho hp hb
    have h2 := hafter e he hbi
    rcases hor with rfl | hor
    ·exact h2
    ·exact hd e.on (by have := hB.back i o e ho he hbi;omega) h2 p hp hor
   have hsz':(listed.setIfInBounds i true).size=ops.size := by simpa using hsz
   have hf':fuel + cnt (listed.setIfInBounds i true) ops.size=ops.size := by
    have := sumCost_set (cost := fun _ => 1) h1 ops.size
    simp only [cnt,hilt,if_true] at this hf ⊢
    omega
   have hd':∀ j,j < ops.size→(listed.setIfInBounds i true).getD j false=true→∀ p,p < ops.size→bef ops j p=true→(listed.setIfInBounds i true).getD p false=true := by
    intro j hj hl p hp hb
    rcases (hset j).1 hl with rfl | hl'
    ·exact (hset p).2 (.inr (hbef p hp hb))
    ·exact (hset p).2 (.inr (hd j hj hl' p hp hb))
   rcases h with ⟨T,ht,hF,hC,hR⟩ | ⟨k,hk1,hk2,hk3,hk4⟩
   ·rcases Nat.lt_or_ge i N with hiN | hiN
    ·-- a step of the head
     have hpN:∀ p,bef ops i p=true→p < ops.size→listed.getD p false=true∧p < N := fun p hb hp => by
      have := hbef p hp hb
      refine ⟨this,?_⟩
      rcases Nat.lt_or_ge p N with h | h
      ·exact h
      ·rw [ht p h] at this;cases this
     have hag := hF.agree hB ht ho hpN
     have hsum := sumCost_set (cost := cost) h1 ops.size
     simp only [hilt,if_true] at hsum
     have hlim:sumCost cost listed ops.size + cost i≤total := by rw [← hsum];exact Nat.le_trans (sumCost_le _) htot
     have hO := hob i o ho hiN T w _ hC hlim fun p hp hb => hR p hp (hbef p hp hb)
     have next:∀ v w',R i v w'∧C (sumCost cost listed ops.size + cost i) w'∧S w w'→wpAny P .any ops Q fuel (listed.setIfInBounds i true) (a.put o.dst v) w' := fun v w' ⟨q1,q2,q3⟩ =>
      ih _ _ _ hsz' hf' hd' (.inl ⟨fun j => if j=i then v else T j,fun j hj => by
        rw [getD_set_ne false (by omega)];exact ht j hj,hF.put hB ho h1 v,by rw [hsum];exact q2,fun j hj hl => by
        by_cases hji:j=i
        ·subst hji;simpa using q1
        ·simp only [hji,if_false]
         exact hS j _ _ _ (hR j hj (((hset j).1 hl).resolve_left hji)) q3⟩)
     unfold wpOp
     simp only [ho]
     rw [wanted_of_get (a := a) (b := setAll (ops.toList.take N) 0 T a0) o hag]
     split
     ·rename_i hw
      rw [if_pos hw] at hO
      refine .inl (Op1.wp (post := fun v w' => R i v w'∧C (sumCost cost listed ops.size + cost i) w'∧S w w') ?_ next)
      unfold Op1 at hO ⊢
      rw [execOp_congr o (Region.noSelect_spec hB.sel i o · · ho) (eval_of_get o hag)]
      exact hO
     ·rename_i hw
      rw [if_neg hw] at hO
      exact next undef w hO
    ·-- the tail begins
     have hall:∀ j,j < i→listed.getD j false=true := fun j hj => hbef j (by omega) (hB.tail i j hiN hilt hj)
     have hiN':i=N := by
      rcases Nat.lt_or_ge N i with h | h
      ·have h2 := ht N (Nat.le_refl _)
       rw [hall N h] at h2;cases h2
      ·omega
     subst hiN'
     have ha := whole listed T a ht hall hF
     have hw := hend T w ⟨_,Nat.le_trans (sumCost_le _) htot,hC⟩ fun p hp => hR p (by omega) (hall p hp)
     rw [← ha] at hw
     have hdr:ops.toList.drop i=o :: ops.toList.drop (i + 1) := by
      rw [List.drop_eq_getElem_cons (by simpa using hilt)]
      congr 1
      have := (Array.getElem?_eq_some_iff.1 ho).2
      simpa using this
     rw [hdr] at hw
     have hwop:wpOp P ops Q i (wpList P ops Q (ops.toList.drop (i + 1))) a w := by unfold wpOp;simp only [ho];exact hw
     refine wpOp_mono (fun a' w' h' => ih _ _ _ hsz' hf' hd' (.inr ⟨i + 1,by omega,by omega,fun j hj => ?_,h'⟩)) hwop
     rw [hset j]
     constructor
     ·rintro (rfl | hl)
      ·omega
      ·rcases Nat.lt_or_ge j i with h | h
       ·omega
       ·rw [ht j h] at hl;cases hl
     ·intro hj'
      by_cases hji:j=i
      ·exact .inl hji
      ·exact .inr (hall j (by omega))
   ·-- a step of the tail
    have hik:i=k := by
     have hnl := (getD_false h1).2
     have h2:¬ i < k := fun hlt => by rw [(hk3 i hilt).2 hlt] at hnl;cases hnl
     rcases Nat.lt_or_ge k i with h | h
     ·have h3 := hbef k (by omega) (hB.tail i k (by omega) hilt h)
      have := (hk3 k (by omega)).1 h3;omega
     ·omega
    subst hik
    have hdr:ops.toList.drop i=o :: ops.toList.drop (i + 1) := by
     rw [List.drop_eq_getElem_cons (by simpa using hilt)]
     congr 1
     have := (Array.getElem?_eq_some_iff.1 ho).2
     simpa using this
    rw [hdr] at hk4
    have hwop:wpOp P ops Q i (wpList P ops Q (ops.toList.drop (i + 1))) a w := by unfold wpOp;simp only [ho];exact hk4
    refine wpOp_mono (fun a' w' h' => ih _ _ _ hsz' hf' hd' (.inr ⟨i + 1,by omega,by omega,fun j hj => ?_,h'⟩)) hwop
    rw [hset j,hk3 j hj]
    omega
def AfterAll (R:Nat→Value→World→Prop) (T:Nat→Value) (w:World):List Edge→Prop
 | [] => True
 | e :: l => match Region.binds .any e with
  | true => R e.on (T e.on) w∧AfterAll R T w l
  | false => AfterAll R T w l
theorem afterAll_of {R:Nat→Value→World→Prop} {T:Nat→Value} {w:World}:∀ (l:List Edge),(∀ e ∈ l,Region.binds .any e=true→R e.on (T e.on) w)→AfterAll R T w l
 | [],_ => trivial
 | e :: l,h => by
   have ih := afterAll_of l fun e' he' => h e' (List.mem_cons_of_mem _ he')
   unfold AfterAll
   cases hb:Region.binds .any e with
   | true => exact ⟨h e (List.mem_cons_self ..) hb,ih⟩
   | false => exact ih
def Ob' (P:Program) (A:(Nat→Value)→Act) (R:Nat→Value→World→Prop) (C:Nat→World→Prop) (S:World→World→Prop) (cost:Nat→Nat) (total:Nat) (i:Nat) (o:Oper):Prop :=
 ∀ (T:Nat→Value) (w:World) (n:Nat),C n w→n + cost i≤total→AfterAll R T w o.after.toList →
  match o.guard with
  | none => Op1 P o (A T).eval w fun v w' => R i v w'∧C (n + cost i) w'∧S w w'
  | some (g,want) => (T g=.bool want→Op1 P o (A T).eval w fun v w' => R i v w'∧C (n + cost i) w'∧S w w') ∧
    (T g ≠ .bool want→R i undef w∧C (n + cost i) w∧S w w)
def ObAll (P:Program) (A:(Nat→Value)→Act) (R:Nat→Value→World→Prop) (C:Nat→World→Prop) (S:World→World→Prop) (cost:Nat→Nat) (total:Nat):List Oper→Nat→Prop
 | [],_ => True
 | o :: l,k => Ob' P A R C S cost total k o∧ObAll P A R C S cost total l (k + 1)
theorem ObAll.get {A:(Nat→Value)→Act}:∀ (l:List Oper) (k:Nat),ObAll P A R C S cost total l k→∀ (i:Nat) (o:Oper),l[i]?=some o→Ob' P A R C S cost total (k + i) o
 | [],_,_,i,o,ho => by simp at ho
 | o' :: l,k,h,i,o,ho => by
   cases i with
   | zero => simp at ho;subst ho;exact h.1
   | succ i =>
     have := ObAll.get l (k + 1) h.2 i o (by simpa using ho)
     rwa [show k + (i + 1)=k + 1 + i by omega]
def edgeB (ops:Array Oper):Bool :=
 (List.range ops.size).all fun i => match ops[i]? with
  | none => true
  | some o => (o.after.all fun e => !Region.binds .any e || bef ops i e.on) &&
   (match o.guard with | some (g,_) => ((ops[g]?).bind (·.dst)).isSome | none => true)
theorem ob_of {A:(Nat→Value)→Act} (hB:InvB ops N a0.tmps.size) (hE:edgeB ops=true) {i:Nat} {o:Oper} (ho:ops[i]?=some o) (hi:i < N) (hA:∀ T,setAll (ops.toList.take N) 0 T a0=A T) (h:Ob' P A R C S cost total i o):Ob P ops a0 R C S cost total N i o := by
 intro T w n hC hn hp
 have hlt := (Array.getElem?_eq_some_iff.1 ho).1
 have hE' := hE
 simp only [edgeB,List.all_eq_true,List.mem_range] at hE'
 have hEi := hE' i hlt
 simp only [ho,Bool.and_eq_true] at hEi
 obtain ⟨he1,he2⟩ := hEi
 rw [Array.all_eq_true_iff_forall_mem] at he1
 have hAft:AfterAll R T w o.after.toList := afterAll_of _ fun e he hb => by
  have hm:e ∈ o.after := by simpa using he
  have h1 := he1 e hm
  simp only [hb,Bool.not_true,Bool.false_or] at h1
  exact hp e.on (by have := hB.back i o e ho hm hb;omega) h1
 have h0 := h T w n hC hn hAft
 unfold Region.wanted
 cases hg:o.guard with
 | none =>
   simp only [hg] at h0
   rw [hA T]
   exact h0
 | some gw =>
   obtain ⟨g,want⟩ := gw
   simp only [hg] at h0 he2
   obtain ⟨hbg,hgs⟩ := hB.guard i o g want ho hg
   obtain ⟨og,hog⟩:∃ og,ops[g]?=some og := ⟨ops[g],Array.getElem?_eq_getElem hgs⟩
   simp only [hog,Option.bind_some] at he2
   obtain ⟨d,hd⟩ := Option.isSome_iff_exists.1 he2
   have hgi:g < i := by
    have:∀ k, ∀ (i:Nat) (o:Oper),i < k→ops[i]?=some o→∀ p,p < ops.size→bef ops i p=true→p < i := by
     intro k
     induction k with
     | zero => intro i o hk;omega
     | succ k ih =>
       intro i o hk hio p hps hb
       obtain ⟨e,he,hbi,hor⟩ := hB.clos i p o hio hps hb
       have h5 := hB.back i o e hio he hbi
       rcases hor with rfl | hor
       ·exact h5
       ·obtain ⟨o',ho'⟩:∃ o',ops[e.on]?=some o' := ⟨ops[e.on]'(by have := (Array.getElem?_eq_some_iff.1 hio).1;omega),Array.getElem?_eq_getElem _⟩
        have := ih e.on o' (by omega) ho' p hps hor
        omega
    exact this (i + 1) i o (by omega) ho g hgs hbg
   have hts:d < a0.tmps.size := hB.size g og d hog hd
   have hget:(setAll (ops.toList.take N) 0 T a0).tmps[d]?=some (T g) := by
    rw [setAll_get T d _ 0 a0 hts]
    cases hw:lastW d (ops.toList.take N) 0 with
    | some j =>
      obtain ⟨_,o',ho',hd'⟩ := lastW_some _ _ hw
      simp only [Nat.sub_zero,List.getElem?_take] at ho'
      split at ho'
      ·have hj:ops[j]?=some o' := by simpa using ho'
       have := hB.uniq j g o' og d hj hog hd' hd
       simp [this]
      ·cases ho'
    | none =>
      exfalso
      exact lastW_none _ _ hw g og (by rw [List.getElem?_take,if_pos (by omega)];simpa using hog) hd
   have hy:yielded ops (setAll (ops.toList.take N) 0 T a0).tmps g=match T g with | .bool b => some b | _ => none := by
    unfold yielded
    simp only [hog,Option.bind_some,hd,hget]
    cases T g <;> rfl
   simp only [hy]
   by_cases hT:T g=.bool want
   ·simp only [hT]
    simp only [beq_self_eq_true,if_true]
    rw [hA T]
    exact h0.1 hT
   ·have hf:((match T g with | .bool b => some b | _ => none) == some want)=false := by
     cases hv:T g <;> simp
     intro e
     exact hT (by rw [hv,e])
    simp only [hf]
    exact h0.2 hT
end
theorem wp_region_inv {P:Program} {Q:Exit→Act→World→Prop} {id:Nat} {l:List Oper} {a0:Act} {w:World} (N total:Nat) (R:Nat→Value→World→Prop) (C:Nat→World→Prop) (S:World→World→Prop) (cost:Nat→Nat)
  (hm:P.follows .mixedOrders=true) (hB:(invB l.toArray N a0.tmps.size && edgeB l.toArray)=true) (htot:sumCost cost (Array.replicate l.toArray.size true) l.toArray.size≤total)
  (hS:∀ p v w w',R p v w→S w w'→R p v w') (hC:C 0 w.drew)
  (h:∃ A:(Nat→Value)→Act,(∀ T,setAll (l.take N) 0 T a0=A T)∧ObAll P A R C S cost total (l.take N) 0 ∧
   ∀ T w',(∃ n,n≤total∧C n w')→(∀ p,p < N→R p (T p) w')→wpList P l.toArray Q (l.drop N) (A T) w') :
  (Code.region id l.toArray true).wp P Q a0 w := by
 obtain ⟨A,hA,hob,hend⟩ := h
 simp only [Bool.and_eq_true] at hB
 refine wp_region_any hm ?_
 have key := region_any (P := P) (Q := Q) (ops := l.toArray) (a0 := a0) (R := R) (C := C) (S := S) (cost := cost) (total := total) (invB_spec hB.1) hS htot
  (fun i o ho hi => ob_of (invB_spec hB.1) hB.2 ho hi (fun T => by simpa using hA T) (by
   have := ObAll.get _ _ hob i o (by rw [List.getElem?_take,if_pos hi];simpa using ho)
   simpa using this))
  (fun T w' hc hr => by
   have := hend T w' hc hr
   rw [← hA T] at this
   simpa using this)
  l.toArray.size (Array.replicate l.toArray.size false) a0 w.drew (by simp)
 have h0:∀ j,(Array.replicate l.toArray.size false).getD j false=false := fun j => getD_replicate_false _ _
 have hz:∀ (c:Nat→Nat) k,sumCost c (Array.replicate l.toArray.size false) k=0 := by
  intro c k
  induction k with
  | zero => rfl
  | succ k ih => simp only [sumCost,ih,h0];rfl
 have hF:Fits l.toArray a0 (Array.replicate l.toArray.size false) (fun _ => undef) a0 := by
  refine ⟨rfl,rfl,?_,fun t _ => rfl⟩
  intro j o d _ hl
  rw [h0] at hl
  cases hl
 refine key (by simp only [cnt,hz];omega) ?_ (.inl ⟨fun _ => undef,fun j _ => h0 j,hF,by rw [hz];exact hC,?_⟩)
 ·intro j _ hl
  rw [h0] at hl
  cases hl
 ·intro j _ hl
  rw [h0] at hl
  cases hl
def Ret (v:Value) (w:World) (e:Ending) (w':World):Prop := e=.returned v∧Below w.heap.size w w'
theorem below_alloc {u v:World} (h:Below u.heap.size u v) (o:Obj):Below u.heap.size u (v.alloc o) := h.alloc h.size o
theorem below_drewN {u v:World} (h:Below u.heap.size u v) (n:Nat):Below u.heap.size u (v.drewN n) := ⟨h.os,h.tape,h.output,h.size,h.block⟩
theorem below_drew {u v:World} (h:Below u.heap.size u v):Below u.heap.size u v.drew := ⟨h.os,h.tape,h.output,h.size,h.block⟩
theorem below_set {u v:World} (h:Below u.heap.size u v) {B:Nat} (hB:u.heap.size≤B) (i:Nat) (x:Value):Below u.heap.size u (v.setCell ⟨B,i,none⟩ x) := h.setCell hB x
def Later (W:World):Type := { w':World // Below W.heap.size W w' }
instance (W:World):Inhabited (Later W) := ⟨⟨W,Below.refl _ _⟩⟩
theorem Later.cell {W:World} (n:Later W) {B i:Nat} (h:B < W.heap.size):n.1.cell? ⟨B,i,none⟩=W.cell? ⟨B,i,none⟩ := n.2.cell (p := ⟨B,i,none⟩) h
theorem Later.cell_of {W:World} {B i:Nat} {v:Value} (h:W.cell? ⟨B,i,none⟩=some v) (n:Later W):n.1.cell? ⟨B,i,none⟩=some v := by
 rw [n.cell (World.block_lt_of_cell? W _ h)];exact h
theorem Calls.later {P:Program} {f:FuncId} {args:Array Value} {W:World} {v:Value} (n:Later W) (h:Calls P f args n.1 (Ret v n.1)) :
  Calls P f args n.1 fun e w'' => e=.returned v∧∃ m:Later W,w''=m.1 :=
 h.mono fun _ w'' ⟨he,hb⟩ => ⟨he,⟨w'',n.2.trans (hb.mono n.2.size)⟩,rfl⟩
theorem Calls.later_same {P:Program} {f:FuncId} {args:Array Value} {W:World} {v:Value} (n:Later W) (h:Calls P f args n.1 fun e w' => e=.returned v∧n.1=w') :
  Calls P f args n.1 fun e w'' => e=.returned v∧∃ m:Later W,w''=m.1 :=
 h.mono fun _ _ ⟨he,hw⟩ => ⟨he,n,hw.symm⟩
theorem wp_region_later {P:Program} {id:Nat} {Q:Exit→Act→World→Prop} {a:Act} {W:World} {l:List Oper} (hm:P.follows .mixedOrders=true) (hB:Region.lexB .any l.toArray=true)
  (h:wpQuiet P l.toArray (fun w' => ∃ n:Later W,w'=n.1) (fun a' => ∀ w',(∃ n:Later W,w'=n.1)→Q .normal a' w') l a):(Code.region id l.toArray true).wp P Q a W :=
 wp_region_quiet (C := fun w' => ∃ n:Later W,w'=n.1) hm hB ⟨⟨W.drew,below_drew (Below.refl _ _)⟩,rfl⟩ (by simpa using h)
theorem rdInts_new (w:World) (t:TypeId) (zs:List Int) (vs:Array Value) (h:vs=(zs.map (Value.int .i64)).toArray):RdInts (w.alloc (.cells vs t)) w.heap.size 0 zs.length zs := by
 subst h
 refine ⟨rfl,by simp,fun i hi => ?_⟩
 rw [Nat.zero_add,cell_of_row _ _ i _ t (0,0) (heap_alloc_new w _)]
 simp [List.getD,hi]
theorem odd_gen (b m:Nat) (low high:Int) (w:World) (h:Strm w b m) (hm:m + 2 < 1099511627776) (hl:-1099511627776≤low∧low≤1099511627776) (hh:-1099511627776≤high∧high≤1099511627776) :
  Calls Tryz.prog 84 #[.pointer (some ⟨b,0,none⟩), .int .i64 low, .int .i64 high] w fun e w' => ∃ k:Int,e=.returned (.int .i64 k)∧(-1099511627777≤k∧k≤1099511627777)∧Gen b w w' (m + 2) := by
 go_enter Tryz.func84,Tryz.ntmps84
 go_wp2_with fail
 refine (flip_gen b m _ _ h (by omega) (by omega)).mono ?_
 rintro e w1 ⟨k,rfl,hg⟩
 cases k
 ·go_wp2_with fail
  refine (range_gen b (m + 1) _ _ _ hg.s (by omega) (by omega) (by omega)).mono ?_
  rintro e w2 ⟨k,rfl,⟨hk0,hk1⟩,hg2⟩
  go_wp2_with fail
  go_ret;exact ⟨_,rfl,⟨by omega,by omega⟩,hg.trans hg2⟩
 ·go_wp2_with fail
  refine (pick_gen b (m + 1) w1.heap.size 0 6 6 [low - 1,high + 1,low,high, -1099511627776,1099511627776] _ (hg.s.alloc _) (by omega) (by omega) (rdInts_new w1 _ _ _ rfl) (by have := hg.s.lt;omega)).mono ?_
  rintro e w2 ⟨k,rfl,hk,hg2⟩
  have hk':-1099511627777≤k∧k≤1099511627777 := by simp at hk;omega
  clear hk
  go_wp2_with fail
  go_ret;exact ⟨_,rfl,hk',(hg.alloc _).trans hg2⟩
def U64 (x:Int):Prop := 0≤x∧x≤18446744073709551615
def vAddr (six:Bool) (hi lo:Int):Value := .agg #[.bool six, .int .u64 hi, .int .u64 lo]
theorem blk_keep {w w':World} {b B:Nat} {o:Obj} (hg:w.grownBy w' (some b)) (hB:B ≠ b) (h:w.heap[B]?=some o):w'.heap[B]?=some o :=
 (hg.block B (lt_of_block h) (by simpa using hB)).trans h
def Up (M x:Int):Prop := 0≤x∧x≤M
abbrev M64:Int := 18446744073709551615
abbrev M32:Int := 4294967295
def Five (b:Nat) (M:Int) (v:Value) (w:World):Prop := ∃ B x0 x1 x2 x3 x4,v=.slice (some ⟨B,0,none⟩) 5 5∧B ≠ b∧w.heap[B]?=some (.cells #[.int .u64 x0, .int .u64 x1, .int .u64 x2, .int .u64 x3, .int .u64 x4] 26 (0,0))∧Up M x0∧Up M x1∧Up M x2∧Up M x3∧Up M x4
def PtrU (b:Nat) (M:Int) (v:Value) (w:World):Prop := ∃ B k x,v=.pointer (some ⟨B,k,none⟩)∧B ≠ b∧B < w.heap.size∧w.cell? ⟨B,k,none⟩=some (.int .u64 x)∧Up M x
def IsU (M:Int) (v:Value):Prop := ∃ x,v=.int .u64 x∧Up M x
def IsK (v:Value):Prop := ∃ k,v=.int .i64 k∧0≤k∧k < 5
theorem Five.at {b:Nat} {M:Int} {v:Value} {w:World} (h:Five b M v w):∃ B,v=.slice (some ⟨B,0,none⟩) 5 5∧∀ k:Int,0≤k→k < 5→PtrU b M (.pointer (some ⟨B,k.toNat,none⟩)) w := by
 obtain ⟨B,x0,x1,x2,x3,x4,rfl,hne,hb,h0,h1,h2,h3,h4⟩ := h
 refine ⟨B,rfl,fun k hk0 hk5 => ?_⟩
 obtain ⟨j,rfl⟩ := Int.eq_ofNat_of_zero_le hk0
 have hj:j=0 ∨ j=1 ∨ j=2 ∨ j=3 ∨ j=4 := by omega
 rcases hj with rfl | rfl | rfl | rfl | rfl
 ·exact ⟨B,_,x0,rfl,hne,lt_of_block hb,by rw [cell_of_row w B _ _ _ _ hb];rfl,h0⟩
 ·exact ⟨B,_,x1,rfl,hne,lt_of_block hb,by rw [cell_of_row w B _ _ _ _ hb];rfl,h1⟩
 ·exact ⟨B,_,x2,rfl,hne,lt_of_block hb,by rw [cell_of_row w B _ _ _ _ hb];rfl,h2⟩
 ·exact ⟨B,_,x3,rfl,hne,lt_of_block hb,by rw [cell_of_row w B _ _ _ _ hb];rfl,h3⟩
 ·exact ⟨B,_,x4,rfl,hne,lt_of_block hb,by rw [cell_of_row w B _ _ _ _ hb];rfl,h4⟩
theorem Five.keep {b:Nat} {M:Int} {v:Value} {w w':World} (h:Five b M v w) (hg:w.grownBy w' (some b)):Five b M v w' := by
 obtain ⟨B,x0,x1,x2,x3,x4,rfl,hne,hb,hx⟩ := h
 exact ⟨B,x0,x1,x2,x3,x4,rfl,hne,blk_keep hg hne hb,hx⟩
theorem PtrU.keep {b:Nat} {M:Int} {v:Value} {w w':World} (h:PtrU b M v w) (hg:w.grownBy w' (some b)):PtrU b M v w' := by
 obtain ⟨B,k,x,rfl,hne,hlt,hc,hx⟩ := h
 exact ⟨B,k,x,rfl,hne,Nat.lt_of_lt_of_le hlt hg.size,(World.cell?_of_block (w := w) (hg.block B hlt (by simpa using hne))).trans hc,hx⟩
def mAddrR (b:Nat):Nat→Value→World→Prop
 | 0,v,w => Five b M64 v w
 | 1,v,_ => v=.pointer (some ⟨b,0,none⟩)
 | 2,v,_ => IsK v
 | 3,v,w => PtrU b M64 v w
 | 4,v,_ => IsU M64 v
 | 5,v,w => Five b M64 v w
 | 6,v,_ => v=.pointer (some ⟨b,0,none⟩)
 | 7,v,_ => IsK v
 | 8,v,w => PtrU b M64 v w
 | 9,v,_ => IsU M64 v
 | _,v,_ => ∃ x y,v=.agg #[.bool true, .int .u64 x, .int .u64 y]∧Up M64 x∧Up M64 y
def ABlk (w:World) (B:Nat):Prop := w.heap[B]?=some (.cells #[.bool false, .int .u64 0, .int .u64 0] 28 (0,0))
theorem ABlk.cells {w:World} {B:Nat} (h:ABlk w B):w.cell? ⟨B,0,none⟩=some (.bool false)∧w.cell? ⟨B,1,none⟩=some (.int .u64 0)∧w.cell? ⟨B,2,none⟩=some (.int .u64 0)∧∀ i,w.frozen? ⟨B,i,none⟩=false :=
 ⟨by rw [cell_of_row w _ 0 _ _ _ h];rfl,by rw [cell_of_row w _ 1 _ _ _ h];rfl,by rw [cell_of_row w _ 2 _ _ _ h];rfl,fun i => frozen_of_row w _ i _ _ h⟩
theorem Gen.set3 {b m B:Nat} {u v:World} (h:Gen b u v m) (hB:u.heap.size≤B) (hb:b < B) (x y z:Value):Gen b u (((v.setCell ⟨B,0,none⟩ x).setCell ⟨B,1,none⟩ y).setCell ⟨B,2,none⟩ z) m :=
 ((h.setCell _ _ hB hb).setCell _ _ hB hb).setCell _ _ hB hb
def AddrOK (six:Bool) (hi lo:Int):Prop := U64 hi∧U64 lo∧(six=false→hi=0∧lo≤4294967295)
theorem mAddr_gen (b m:Nat) (w:World) (h:Strm w b m) (hm:m + 3 < 1099511627776) :
  Calls Tryz.prog 121 #[.pointer (some ⟨b,0,none⟩)] w fun e w' => ∃ six hi lo,e=.returned (vAddr six hi lo)∧AddrOK six hi lo∧Gen b w w' (m + 3) := by
 have hblt := h.lt
 go_enter Tryz.func121,Tryz.ntmps121
 go_wp2_with fail
 refine (next_gen b m _ _ (h.alloc _) (by omega) (by omega)).mono ?_
 rintro e w1 ⟨k,rfl,⟨hk0,hk1⟩,hg⟩
 have hblk:w1.heap[w.heap.size]?=some (.cells #[.bool false, .int .u64 0, .int .u64 0] 28 (0,0)) := blk_keep hg.g (by omega) (heap_alloc_new w _)
 have hg':Gen b w w1 (m + 1) := ((Gen.start (h)).alloc _).trans hg
 have Hblk := Lib.hid hblk
 clear hblk
 go_wp2_with fail
 ·refine wp_region_inv 11 2 (mAddrR b) (fun n w' => Gen b w w' (m + 1 + n)∧w'.heap[w.heap.size]?=some (.cells #[.bool false, .int .u64 0, .int .u64 0] 28 (0,0))) (fun u v => u.grownBy v (some b)) (fun i => if i=2 ∨ i=7 then 1 else 0)
   (by kernel_rfl) (by kernel_rfl) (by decide) ?hS ⟨hg'.drew,Hblk.out⟩ ?hX
  case' hX => (apply Exists.intro;refine ⟨fun T => ?hA,?hob,?hend⟩)
  case hA =>
   simp only [setAll,List.take_succ_cons,List.take_zero,Act.put,List.setIfInBounds_toArray,List.set_cons_succ,List.set_cons_zero,Nat.reduceAdd]
   exact rfl
  case hob =>
   refine ⟨?_,?_,?_,?_,?_,?_,?_,?_,?_,?_,?_,trivial⟩
   all_goals (intro T wx n hC hn hp;obtain ⟨hC,hB⟩ := hC;dsimp only at hn ⊢;unfold Op1)
   ·go_simp
    exact ⟨⟨wx.heap.size,_,_,_,_,_,rfl,by have := hC.s.lt;omega,heap_alloc_new wx _,by unfold Up;decide,by unfold Up;decide,by unfold Up;decide,by unfold Up;decide,by unfold Up;decide⟩,⟨hC.alloc _,(Below.heap_alloc _ _ _ (lt_of_block hB)).trans hB⟩,World.grownBy_alloc _ _ _⟩
   ·go_simp
    exact ⟨rfl,World.grownBy.refl _ _⟩
   ·obtain ⟨h1, -⟩ := hp
    have h1:T 1=.pointer (some ⟨b,0,none⟩) := h1
    go_simp
    refine (next_gen b (m + 1 + n) _ _ hC.s (by simp at hn;omega) (by omega)).mono ?_
    rintro e w2 ⟨k,rfl,⟨hk0,hk1⟩,hg2⟩
    exact ⟨_,rfl,⟨k,rfl,hk0,by omega⟩,⟨hC.trans hg2,blk_keep hg2.g (by omega) hB⟩,hg2.g⟩
   ·obtain ⟨h0,⟨k,hT2,hk2,hk3⟩, -⟩ := hp
    obtain ⟨B,hT0,hP⟩ := Five.at h0
    have hP := hP k hk2 hk3
    clear h0
    go_simp
    exact ⟨hP,World.grownBy.refl _ _⟩
   ·obtain ⟨⟨B,k,x,hT3,hne,hlt,hc,hx⟩, -⟩ := hp
    go_simp
    exact ⟨⟨x,rfl,hx⟩,World.grownBy.refl _ _⟩
   ·go_simp
    exact ⟨⟨wx.heap.size,_,_,_,_,_,rfl,by have := hC.s.lt;omega,heap_alloc_new wx _,by unfold Up;decide,by unfold Up;decide,by unfold Up;decide,by unfold Up;decide,by unfold Up;decide⟩,⟨hC.alloc _,(Below.heap_alloc _ _ _ (lt_of_block hB)).trans hB⟩,World.grownBy_alloc _ _ _⟩
   ·go_simp
    exact ⟨rfl,World.grownBy.refl _ _⟩
   ·obtain ⟨h1, -⟩ := hp
    have h1:T 6=.pointer (some ⟨b,0,none⟩) := h1
    go_simp
    refine (next_gen b (m + 1 + n) _ _ hC.s (by simp at hn;omega) (by omega)).mono ?_
    rintro e w2 ⟨k,rfl,⟨hk0,hk1⟩,hg2⟩
    exact ⟨_,rfl,⟨k,rfl,hk0,by omega⟩,⟨hC.trans hg2,blk_keep hg2.g (by omega) hB⟩,hg2.g⟩
   ·obtain ⟨h0,⟨k,hT2,hk2,hk3⟩, -⟩ := hp
    obtain ⟨B,hT0,hP⟩ := Five.at h0
    have hP := hP k hk2 hk3
    clear h0
    go_simp
    exact ⟨hP,World.grownBy.refl _ _⟩
   ·obtain ⟨⟨B,k,x,hT3,hne,hlt,hc,hx⟩, -⟩ := hp
    go_simp
    exact ⟨⟨x,rfl,hx⟩,World.grownBy.refl _ _⟩
   ·obtain ⟨⟨x,hx,hx1⟩,⟨y,hy,hy1⟩, -⟩ := hp
    go_simp
    exact ⟨⟨x,y,rfl,hx1,hy1⟩,World.grownBy.refl _ _⟩
  case hS =>
   intro p v u u' hR hg
   rcases p with _ | _ | _ | _ | _ | _ | _ | _ | _ | _ | p
   all_goals first | exact Five.keep hR hg | exact PtrU.keep hR hg | exact hR
  case hend =>
   intro T wx ⟨n,hn,hC,hB⟩ hR
   obtain ⟨x,y,hT,hx,hy⟩ := hR 10 (by omega)
   clear hR hg hg'
   obtain ⟨c0,c1,c2,f0⟩ := ABlk.cells hB
   clear hB
   go_wp2_with fail
   refine bodyPost_ret (v := vAddr true x y) (by simp [results,Tryz.results121,go_sem,c0,c1,c2,vAddr]) rfl ⟨true,x,y,rfl,⟨hx,hy,by simp⟩,?_⟩
   exact (hC.mono (by omega)).set3 (Nat.le_refl _) hblt _ _ _
 ·refine (next_gen b (m + 1) _ _ (hg'.s.alloc _) (by omega) (by omega)).mono ?_
  rintro e w2 ⟨k2,rfl,⟨hk20,hk21⟩,hg2⟩
  have hF:Five b M32 (.slice (some ⟨w1.heap.size,0,none⟩) 5 5) w2 := Five.keep (w := w1.alloc (.cells #[.int .u64 0, .int .u64 1, .int .u64 4294967295, .int .u64 2130706433, .int .u64 3232235521] 26 (0,0))) ⟨w1.heap.size,_,_,_,_,_,rfl,by have := hg'.s.lt;omega,heap_alloc_new w1 _,by unfold Up;decide,by unfold Up;decide,by unfold Up;decide,by unfold Up;decide,by unfold Up;decide⟩ hg2.g
  have hA:ABlk w2 w.heap.size := blk_keep hg2.g (by omega) ((Below.heap_alloc _ _ _ (lt_of_block Hblk.out)).trans Hblk.out)
  obtain ⟨c0,c1,c2,f0⟩ := hA.cells
  obtain ⟨B,hB,hP⟩ := hF.at
  injection hB with hB
  injection hB with hB
  injection hB with hB
  subst hB
  obtain ⟨B',k',x,hv,hne,hlt,hc,hx⟩ := hP k2 hk20 (by omega)
  injection hv with hv
  injection hv with hv
  injection hv with hv hv2
  subst hv hv2
  have hgg := (hg'.alloc (.cells #[.int .u64 0, .int .u64 1, .int .u64 4294967295, .int .u64 2130706433, .int .u64 3232235521] 26 (0,0))).trans hg2
  have hk5:k2 < 5 := by omega
  clear hP hF hA hg hg' hg2 Hblk
  go_wp2_with fail
  refine bodyPost_ret (v := vAddr false 0 x) (by simp [results,Tryz.results121,go_sem,c0,c1,c2,vAddr]) rfl ⟨false,0,x,rfl,⟨by unfold U64;decide,⟨hx.1,Int.le_trans hx.2 (by decide)⟩,fun _ => ⟨rfl,hx.2⟩⟩,?_⟩
  exact (hgg.mono (by omega)).set3 (Nat.le_refl _) hblt _ _ _
 ·refine (range_gen b (m + 1) _ _ _ hg'.s (by omega) (by omega) (by omega)).mono ?_
  rintro e w2 ⟨k2,rfl,⟨hk20,hk21⟩,hg2⟩
  have hA:ABlk w2 w.heap.size := blk_keep hg2.g (by omega) Hblk.out
  obtain ⟨c0,c1,c2,f0⟩ := hA.cells
  have hgg := hg'.trans hg2
  clear hA hg hg' hg2 Hblk
  go_wp2_with fail
  refine bodyPost_ret (v := vAddr false 0 (k2 * 251 % 4294967296)) (by simp [results,Tryz.results121,go_sem,c0,c1,c2,vAddr]) rfl ⟨false,0,_,rfl,⟨by unfold U64;decide,⟨by omega,by omega⟩,fun _ => ⟨rfl,by omega⟩⟩,?_⟩
  exact (hgg.mono (by omega)).set3 (Nat.le_refl _) hblt _ _ _
 ·refine (range_gen b (m + 1) _ _ _ hg'.s (by omega) (by omega) (by omega)).mono ?_
  rintro e w2 ⟨k2,rfl,⟨hk20,hk21⟩,hg2⟩
  have hA:ABlk w2 w.heap.size := blk_keep hg2.g (by omega) Hblk.out
  obtain ⟨c0,c1,c2,f0⟩ := hA.cells
  have hgg := hg'.trans hg2
  clear hA hg hg' hg2 Hblk
  go_wp2_with fail
  refine bodyPost_ret (v := vAddr false 0 (167772160 + k2)) (by simp [results,Tryz.results121,go_sem,c0,c1,c2,vAddr]) rfl ⟨false,0,_,rfl,⟨by unfold U64;decide,⟨by omega,by omega⟩,fun _ => ⟨rfl,by omega⟩⟩,?_⟩
  exact (hgg.mono (by omega)).set3 (Nat.le_refl _) hblt _ _ _
theorem ABlk.new (w:World):ABlk (w.alloc (.cells #[.bool false, .int .u64 0, .int .u64 0] 28 (0,0))) w.heap.size := heap_alloc_new w _
theorem ABlk.keep {w w':World} {b B:Nat} (h:ABlk w B) (hg:w.grownBy w' (some b)) (hne:B ≠ b):ABlk w' B := blk_keep hg hne h
def VBlk (w:World) (B:Nat) (six:Bool) (hi lo:Int):Prop := w.heap[B]?=some (.cells #[.bool six, .int .u64 hi, .int .u64 lo] 28 (0,0))
theorem VBlk.cells {w:World} {B:Nat} {six:Bool} {hi lo:Int} (h:VBlk w B six hi lo):w.cell? ⟨B,0,none⟩=some (.bool six)∧w.cell? ⟨B,1,none⟩=some (.int .u64 hi)∧w.cell? ⟨B,2,none⟩=some (.int .u64 lo)∧∀ i,w.frozen? ⟨B,i,none⟩=false :=
 ⟨by rw [cell_of_row w _ 0 _ _ _ h];rfl,by rw [cell_of_row w _ 1 _ _ _ h];rfl,by rw [cell_of_row w _ 2 _ _ _ h];rfl,fun i => frozen_of_row w _ i _ _ h⟩
theorem raw_gen (b m:Nat) (w:World) (h:Strm w b m) (hm:m + 6 < 1099511627776) :
  Calls Tryz.prog 83 #[.pointer (some ⟨b,0,none⟩)] w fun e w' => ∃ six hi lo,e=.returned (vAddr six hi lo)∧(U64 hi∧U64 lo)∧Gen b w w' (m + 6) := by
 have hblt := h.lt
 go_enter Tryz.func83,Tryz.ntmps83
 go_wp2_with fail
 refine (mAddr_gen b m _ (h.alloc _) (by omega)).mono ?_
 rintro e w1 ⟨six,hi,lo,rfl,⟨hu1,hu2,hu3⟩,hg⟩
 have hA:ABlk w1 w.heap.size := (ABlk.new w).keep hg.g (by omega)
 have hG:Gen b w w1 (m + 3) := ((Gen.start h).alloc _).trans hg
 have HA := Lib.hid hA
 have HG := Lib.hid hG
 clear hA hg hG
 unfold vAddr
 go_wp2_with fail
 refine (flip_gen b (m + 3) _ _ (HG.out.s.alloc _) (by omega) (by omega)).mono ?_
 rintro e w2 ⟨k,rfl,hg⟩
 have hb1:b < w1.heap.size := HG.out.s.lt
 have hV:VBlk w2 w1.heap.size six hi lo := blk_keep hg.g (by omega) (heap_alloc_new w1 _)
 have hA:ABlk w2 w.heap.size := ABlk.keep (w := w1.alloc (.cells #[.bool six, .int .u64 hi, .int .u64 lo] 28 (0,0))) ((Below.heap_alloc _ _ _ (lt_of_block HA.out)).trans HA.out) hg.g (by omega)
 have hG := (HG.out.alloc (.cells #[.bool six, .int .u64 hi, .int .u64 lo] 28 (0,0))).trans hg
 have hlt:w.heap.size < w1.heap.size := lt_of_block HA.out
 clear HG HA hg
 cases k
 ·have hne:w.heap.size ≠ w1.heap.size := by omega
  obtain ⟨c0,c1,c2,f0⟩ := hA.cells
  obtain ⟨d0,d1,d2,g0⟩ := hV.cells
  clear hA hV
  have HG := Lib.hid hG
  clear hG
  go_wp2_with fail
  refine bodyPost_ret (v := vAddr six hi lo) (by simp [results,Tryz.results83,go_sem,c0,c1,c2,vAddr]) rfl ⟨six,hi,lo,rfl,⟨hu1,hu2⟩,?_⟩
  exact (HG.out.mono (by omega)).set3 (Nat.le_refl _) hblt _ _ _
 ·have HA := Lib.hid hA
  have HG := Lib.hid hG
  clear hA hG hV
  go_wp2_with fail
  refine (next_gen b (m + 3 + 1) _ _ HG.out.s (by omega) (by omega)).mono ?_
  rintro e w3 ⟨k2,rfl,⟨hk20,hk21⟩,hg2⟩
  have hA:ABlk w3 w.heap.size := HA.out.keep hg2.g (by omega)
  have HG2 := Lib.hid (HG.out.trans hg2)
  have HA2 := Lib.hid hA
  clear HG HA hA hg2
  go_wp2_with fail
  refine (next_gen b (m + 3 + 1 + 1) _ _ (HG2.out.s.alloc _) (by omega) (by omega)).mono ?_
  rintro e w4 ⟨k3,rfl,⟨hk30,hk31⟩,hg3⟩
  have hA:ABlk w4 w.heap.size := ABlk.keep (w := w3.alloc (.cells #[.int .u64 4294967296, .int .u64 5, .int .u64 1099511627776] 26 (0,0))) ((Below.heap_alloc _ _ _ (lt_of_block HA2.out)).trans HA2.out) hg3.g (by omega)
  have hb3:w4.heap[w3.heap.size]?=some (.cells #[.int .u64 4294967296, .int .u64 5, .int .u64 1099511627776] 26 (0,0)) := blk_keep hg3.g (by have := HG2.out.s.lt;omega) (heap_alloc_new w3 _)
  have hG := (HG2.out.alloc (.cells #[.int .u64 4294967296, .int .u64 5, .int .u64 1099511627776] 26 (0,0))).trans hg3
  obtain ⟨x,hx,hxu⟩:∃ x,w4.cell? ⟨w3.heap.size,k3.toNat,none⟩=some (.int .u64 x)∧U64 x := by
   have hj:k3.toNat=0 ∨ k3.toNat=1 ∨ k3.toNat=2 := by omega
   rcases hj with hj | hj | hj <;> rw [hj]
   ·exact ⟨_,by rw [cell_of_row _ _ 0 _ _ _ hb3];rfl,by unfold U64;decide⟩
   ·exact ⟨_,by rw [cell_of_row _ _ 1 _ _ _ hb3];rfl,by unfold U64;decide⟩
   ·exact ⟨_,by rw [cell_of_row _ _ 2 _ _ _ hb3];rfl,by unfold U64;decide⟩
  obtain ⟨c0,c1,c2,f0⟩ := hA.cells
  have HG := Lib.hid hG
  have hk33:k3 < 3 := by omega
  have hk23:k2 < 2 := by omega
  clear hA hG hb3 HG2 HA2 hg3
  go_wp2_with fail
  refine bodyPost_ret (v := vAddr false k2 x) (by simp [results,Tryz.results83,go_sem,c0,c1,c2,vAddr]) rfl ⟨false,k2,x,rfl,⟨⟨by omega,by omega⟩,hxu⟩,?_⟩
  exact (HG.out.mono (by omega)).set3 (Nat.le_refl _) hblt _ _ _
def Blk (w:World) (B:Nat) (t:TypeId) (cs:Array Value):Prop := w.heap[B]?=some (.cells cs t (0,0))
theorem Blk.lt {w:World} {B:Nat} {t:TypeId} {cs:Array Value} (h:Blk w B t cs):B < w.heap.size := lt_of_block h
theorem Blk.new (w:World) (t:TypeId) (cs:Array Value):Blk (w.alloc (.cells cs t (0,0))) w.heap.size t cs := heap_alloc_new w _
theorem Blk.alloc {w:World} {B:Nat} {t:TypeId} {cs:Array Value} (h:Blk w B t cs) (o:Obj):Blk (w.alloc o) B t cs := (Below.heap_alloc w o B h.lt).trans h
theorem Blk.keep {w w':World} {b B:Nat} {t:TypeId} {cs:Array Value} (h:Blk w B t cs) (hg:w.grownBy w' (some b)) (hne:B ≠ b):Blk w' B t cs := blk_keep hg hne h
theorem Blk.below {w w':World} {B B':Nat} {t:TypeId} {cs:Array Value} (h:Blk w B t cs) (hb:Below B' w w') (hlt:B < B'):Blk w' B t cs := (hb.block B hlt).trans h
theorem Blk.drewN {w:World} {B:Nat} {t:TypeId} {cs:Array Value} (h:Blk w B t cs) (n:Nat):Blk (w.drewN n) B t cs := h
theorem Blk.cell {w:World} {B:Nat} {t:TypeId} {cs:Array Value} (h:Blk w B t cs) (i:Nat):w.cell? ⟨B,i,none⟩=cs[i]? := cell_of_row w B i cs t (0,0) h
theorem Blk.free {w:World} {B:Nat} {t:TypeId} {cs:Array Value} (h:Blk w B t cs) (i:Nat):w.frozen? ⟨B,i,none⟩=false := frozen_of_row w B i cs t h
theorem Blk.set {w:World} {B:Nat} {t:TypeId} {cs:Array Value} (h:Blk w B t cs) (i:Nat) (v:Value):Blk (w.setCell ⟨B,i,none⟩ v) B t (cs.setIfInBounds i v) := heap_setCell_same w B i cs t v h
theorem Blk.far {w:World} {B B':Nat} {t:TypeId} {cs:Array Value} (h:Blk w B t cs) (hne:B ≠ B') (i:Nat) (v:Value):Blk (w.setCell ⟨B',i,none⟩ v) B t cs := (Below.heap_setCell w ⟨B',i,none⟩ v B hne).trans h
theorem pick_new (b m g n:Nat) (t:TypeId) (vs:Array Value) (zs:List Int) (w:World) (h:Strm w b m) (hg:w.heap.size=g) (hm:m < 1099511627776) (hn:zs.length=n) (hn1:1≤n∧n≤1000) (hv:vs=(zs.map (Value.int .i64)).toArray) :
  Calls Tryz.prog 7 #[.pointer (some ⟨b,0,none⟩), .slice (some ⟨g,0,none⟩) n n] (w.alloc (.cells vs t)) fun e w' => ∃ k:Int,e=.returned (.int .i64 k)∧k ∈ zs∧Gen b w w' (m + 1) := by
 subst hg hn
 exact (pick_gen b m w.heap.size 0 zs.length zs.length zs _ (h.alloc _) hm (by omega) (rdInts_new w t zs vs hv) (by have := h.lt;omega)).mono fun _ _ ⟨k,h1,h2,h3⟩ => ⟨k,h1,h2,((Gen.start h).alloc _).trans h3⟩
def outB (n lo hi:Int):Bool := decide (n < lo) || decide (hi < n)
def inB (n lo hi:Int):Bool := decide (lo≤n) && decide (n≤hi)
theorem inB_out (n lo hi:Int):inB n lo hi=!outB n lo hi := by unfold inB outB;rw [Bool.eq_iff_iff];simp
def aFault (six:Bool) (hi lo:Int):Int := if six=false∧(hi ≠ 0 ∨ 4294967296≤lo) then 3 else 0
theorem aFault_vals (six:Bool) (hi lo:Int):aFault six hi lo=0 ∨ aFault six hi lo=3 := by unfold aFault;split <;> simp
theorem outside_any (n lo hi:Int) (w:World):Calls Tryz.prog 95 #[.int .i64 n, .int .i64 lo, .int .i64 hi] w fun e w' => e=.returned (.bool (outB n lo hi))∧w=w' := by
 go_enter Tryz.func95,Tryz.ntmps95
 go_wp2
 all_goals (go_ret;exact ⟨by simp [outB, *] <;> omega,rfl⟩)
theorem in_any (n lo hi:Int) (w:World):Calls Tryz.prog 56 #[.int .i64 n, .int .i64 lo, .int .i64 hi] w fun e w' => e=.returned (.bool (inB n lo hi))∧w=w' := by
 go_enter Tryz.func56,Tryz.ntmps56
 go_wp2
 all_goals (go_ret;refine ⟨?_,rfl⟩;first | (simp [inB, *];done) | (simp [inB, *];intros;omega))
theorem checkAddr_any (six:Bool) (hi lo:Int) (w:World) (h1:U64 hi) (h2:U64 lo):Calls Tryz.prog 103 #[vAddr six hi lo] w fun e w' => e=.returned (.int .i64 (aFault six hi lo))∧∃ o,w'=w.alloc o := by
 unfold vAddr
 go_enter Tryz.func103,Tryz.ntmps103
 go_wp2
 all_goals (go_ret;refine ⟨?_,_,rfl⟩)
 all_goals (cases six <;> simp_all [aFault] <;> omega)
theorem addrFault_any (six:Bool) (hi lo:Int) (w:World) (h1:U64 hi) (h2:U64 lo):Calls Tryz.prog 96 #[vAddr six hi lo] w fun e w' => e=.returned (.int .i64 (aFault six hi lo))∧∃ o,w'=w.alloc o := by
 obtain ⟨h10,h11⟩ := h1
 obtain ⟨h20,h21⟩ := h2
 unfold vAddr
 go_enter Tryz.func96,Tryz.ntmps96
 go_wp2
 all_goals (go_ret;refine ⟨?_,_,rfl⟩)
 all_goals (cases six <;> simp_all [aFault] <;> omega)
open Go.RowKit Go
def lowLo (n:Nat):Nat := if 64≤n then 18446744073709551615 else 2 ^ n - 1
def lowHi (n:Nat):Nat := if 128≤n then 18446744073709551615 else if 64 < n then 2 ^ (n - 64) - 1 else 0
theorem pow_lt64 {n:Nat} (h:n < 64):2 ^ n < 18446744073709551616∧1≤2 ^ n :=
 ⟨Nat.pow_lt_pow_right (by decide) h,Nat.one_le_two_pow⟩
theorem low_wrap (k:Nat) (h:k < 64):IntKind.u64.wrap (IntKind.u64.wrap ((2:Int) ^ k) - 1)=((2 ^ k - 1:Nat):Int) := by
 obtain ⟨h1,h2⟩ := pow_lt64 h
 have e:(2:Int) ^ k=((2 ^ k:Nat):Int) := by rw [Int.natCast_pow];rfl
 rw [e,IntKind.wrap_u64,IntKind.wrap_u64]
 omega
theorem low_any (n:Nat) (w:World) (hn:n≤1000):Calls Tryz.prog 136 #[.int .i64 (n:Int)] w fun e w' => e=.returned (.tuple #[.int .u64 ((lowHi n:Nat):Int), .int .u64 ((lowLo n:Nat):Int)])∧∃ k,w'=w.drewN k := by
 by_cases h1:128≤n
 ·have e1:lowHi n=18446744073709551615 := by unfold lowHi;rw [if_pos h1]
  have e2:lowLo n=18446744073709551615 := by unfold lowLo;rw [if_pos (by omega)]
  rw [e1,e2]
  go_enter Tryz.func136,Tryz.ntmps136
  go_wp2
  go_ret2
  exact ⟨rfl,0,rfl⟩
 ·by_cases h2:64 < n
  ·have e1:lowHi n=2 ^ (n - 64) - 1 := by unfold lowHi;rw [if_neg h1,if_pos h2]
   have e2:lowLo n=18446744073709551615 := by unfold lowLo;rw [if_pos (by omega)]
   rw [e1,e2]
   go_enter Tryz.func136,Tryz.ntmps136
   go_wp2
   rw [low_wrap (n - 64) (by omega)]
   go_ret2
   exact ⟨rfl,0,rfl⟩
  ·by_cases h3:n=64
   ·subst h3
    go_enter Tryz.func136,Tryz.ntmps136
    go_wp2
    go_ret2
    exact ⟨rfl,0,rfl⟩
   ·have e1:lowHi n=0 := by unfold lowHi;rw [if_neg h1,if_neg h2]
    have e2:lowLo n=2 ^ n - 1 := by unfold lowLo;rw [if_neg (by omega)]
    rw [e1,e2]
    go_enter Tryz.func136,Tryz.ntmps136
    have hneg:¬ (n:Int) < 0 := by omega
    go_wp2_with (go_region)
    all_goals
     rw [low_wrap n (by omega)]
     go_ret2
     exact ⟨rfl,1,rfl⟩
def vA (six:Bool) (hi lo:Nat):Value := .agg #[.bool six, .int .u64 (hi:Int), .int .u64 (lo:Int)]
def lenN (six:Bool):Nat := if six=true then 128 else 32
theorem length_any (six:Bool) (hi lo:Nat) (w:World):Calls Tryz.prog 62 #[vA six hi lo] w (Ret (.int .i64 ((lenN six:Nat):Int)) w) := by
 unfold vA
 cases six
 all_goals
  go_enter Tryz.func62,Tryz.ntmps62
  go_wp2
  go_ret
  exact ⟨rfl,below_alloc (Below.refl _ _) _⟩
theorem lengthQ_any (six:Bool) (hi lo:Nat) (w:World):Calls Tryz.prog 57 #[vA six hi lo] w (Ret (.int .i64 ((lenN six:Nat):Int)) w) := by
 unfold vA
 cases six
 all_goals
  go_enter Tryz.func57,Tryz.ntmps57
  go_wp2
  go_ret
  exact ⟨rfl,below_alloc (Below.refl _ _) _⟩
theorem andNot_low (x k:Nat) (hx:x < 18446744073709551616) (hk:k≤64):bits .andNot .u64 (x:Int) ((2 ^ k - 1:Nat):Int)=((x - x % 2 ^ k:Nat):Int) := by
 have key:(BitVec.ofNat 64 x &&& ~~~ BitVec.ofNat 64 (2 ^ k - 1)).toNat=x - x % 2 ^ k := by
  have e:x - x % 2 ^ k=(x >>> k) <<< k := by
   rw [Nat.shiftLeft_eq,Nat.shiftRight_eq_div_pow,Nat.mul_comm]
   have := Nat.div_add_mod x (2 ^ k)
   omega
  rw [e]
  refine Nat.eq_of_testBit_eq fun i => ?_
  rw [BitVec.testBit_toNat,BitVec.getLsbD_and,BitVec.getLsbD_not,BitVec.getLsbD_ofNat,BitVec.getLsbD_ofNat,Nat.testBit_shiftLeft,Nat.testBit_shiftRight,Nat.testBit_two_pow_sub_one]
  by_cases hi:i < 64
  ·by_cases hik:i < k
   ·simp [hi,hik]
    intro h
    omega
   ·have h3:k + (i - k)=i := by omega
    simp [hi,hik,h3]
    omega
  ·have h4:x.testBit i=false := Nat.testBit_lt_two_pow (Nat.lt_of_lt_of_le hx (Nat.pow_le_pow_right (n := 2) (by decide) (by omega:64≤i)))
   have h5:k≤i := by omega
   have h3:k + (i - k)=i := by omega
   simp [hi,h3,h4]
 have o1:BitVec.ofInt 64 (x:Int)=BitVec.ofNat 64 x := BitVec.ofInt_natCast ..
 have o2:BitVec.ofInt 64 ((2 ^ k - 1:Nat):Int)=BitVec.ofNat 64 (2 ^ k - 1) := BitVec.ofInt_natCast ..
 show IntKind.u64.wrap ((BitVec.ofInt 64 (x:Int) &&& ~~~ BitVec.ofInt 64 ((2 ^ k - 1:Nat):Int)).toNat:Nat)=_
 rw [o1,o2,key,IntKind.wrap_u64]
 omega
theorem or_low (x k:Nat) (hx:x < 18446744073709551616) (hk:k≤64):bits .or .u64 (x:Int) ((2 ^ k - 1:Nat):Int)=((x - x % 2 ^ k + (2 ^ k - 1):Nat):Int) := by
 have hp:2 ^ k≤2 ^ 64 := Nat.pow_le_pow_right (by decide) hk
 have h1 := Nat.one_le_two_pow (n := k)
 have hlt:x - x % 2 ^ k + (2 ^ k - 1) < 2 ^ 64 := by
  obtain ⟨c,hc⟩:∃ c,2 ^ 64=2 ^ k * c := ⟨2 ^ (64 - k),by rw [← Nat.pow_add];congr 1;omega⟩
  have hd := Nat.div_add_mod x (2 ^ k)
  have hq:x / 2 ^ k < c := by
   rw [Nat.div_lt_iff_lt_mul (by omega),Nat.mul_comm, ← hc]
   exact hx
  have hq2:2 ^ k * (x / 2 ^ k) + 2 ^ k≤2 ^ k * c := by
   have := Nat.mul_le_mul_left (2 ^ k) (show x / 2 ^ k + 1≤c by omega)
   rw [Nat.mul_add,Nat.mul_one] at this
   exact this
  omega
 have key:(BitVec.ofNat 64 x ||| BitVec.ofNat 64 (2 ^ k - 1)).toNat=x - x % 2 ^ k + (2 ^ k - 1) := by
  have e:x - x % 2 ^ k + (2 ^ k - 1)=2 ^ k * (x / 2 ^ k) ||| (2 ^ k - 1) := by
   rw [← Nat.two_pow_add_eq_or_of_lt (by omega)]
   have := Nat.div_add_mod x (2 ^ k)
   omega
  rw [e,BitVec.toNat_or,BitVec.toNat_ofNat,BitVec.toNat_ofNat,Nat.mod_eq_of_lt (by omega:x < 2 ^ 64),Nat.mod_eq_of_lt (by omega:2 ^ k - 1 < 2 ^ 64)]
  refine Nat.eq_of_testBit_eq fun i => ?_
  rw [Nat.testBit_or,Nat.testBit_or,Nat.testBit_two_pow_sub_one,Nat.testBit_two_pow_mul]
  by_cases hik:i < k
  ·simp [hik]
  ·have h3:i - k + k=i := by omega
   simp [hik,Nat.testBit_div_two_pow,h3]
   omega
 have o1:BitVec.ofInt 64 (x:Int)=BitVec.ofNat 64 x := BitVec.ofInt_natCast ..
 have o2:BitVec.ofInt 64 ((2 ^ k - 1:Nat):Int)=BitVec.ofNat 64 (2 ^ k - 1) := BitVec.ofInt_natCast ..
 show IntKind.u64.wrap ((BitVec.ofInt 64 (x:Int) ||| BitVec.ofInt 64 ((2 ^ k - 1:Nat):Int)).toNat:Nat)=_
 rw [o1,o2,key,IntKind.wrap_u64]
 omega
theorem lowHi_eq (k:Nat) (h:k≤128):lowHi k=2 ^ (k - 64) - 1 := by
 unfold lowHi
 split
 ·obtain rfl:k=128 := by omega
  rfl
 ·split
  ·rfl
  ·rw [show k - 64=0 by omega]
theorem lowLo_eq (k:Nat):lowLo k=2 ^ (min k 64) - 1 := by
 unfold lowLo
 split
 ·rw [Nat.min_eq_right (by omega)]
 ·rw [Nat.min_eq_left (by omega)]
def mHi (six:Bool) (hi n:Nat):Nat := hi - hi % 2 ^ (lenN six - n - 64)
def mLo (six:Bool) (lo n:Nat):Nat := lo - lo % 2 ^ (min (lenN six - n) 64)
def fHi (six:Bool) (hi n:Nat):Nat := mHi six hi n + (2 ^ (lenN six - n - 64) - 1)
def fLo (six:Bool) (lo n:Nat):Nat := mLo six lo n + (2 ^ (min (lenN six - n) 64) - 1)
theorem lenN_le (six:Bool):lenN six≤128 := by cases six <;> decide
theorem length_alloc (six:Bool) (hi lo:Nat) (w:World):Calls Tryz.prog 62 #[vA six hi lo] w fun e w' => e=.returned (.int .i64 ((lenN six:Nat):Int))∧∃ o,w'=w.alloc o := by
 unfold vA
 cases six
 all_goals
  go_enter Tryz.func62,Tryz.ntmps62
  go_wp2
  go_ret
  exact ⟨rfl,_,rfl⟩
theorem masked_any (six:Bool) (hi lo n:Nat) (w:World) (h1:hi < 18446744073709551616) (h2:lo < 18446744073709551616) (hn:n≤lenN six) :
  Calls Tryz.prog 104 #[vA six hi lo, .int .i64 (n:Int)] w (Ret (vA six (mHi six hi n) (mLo six lo n)) w) := by
 have hL := length_alloc six hi lo
 have e1 := andNot_low hi (lenN six - n - 64) h1 (by have := lenN_le six;omega)
 have e2 := andNot_low lo (min (lenN six - n) 64) h2 (by omega)
 rw [← lowHi_eq _ (by have := lenN_le six;omega)] at e1
 rw [← lowLo_eq] at e2
 have hw := fun w => low_any (lenN six - n) w (by have := lenN_le six;omega)
 have hln := lenN_le six
 have hcast:((lenN six:Nat):Int) - (n:Int)=((lenN six - n:Nat):Int) := by omega
 unfold mHi mLo
 generalize hi - hi % 2 ^ (lenN six - n - 64)=rh at *
 generalize lo - lo % 2 ^ (min (lenN six - n) 64)=rl at *
 generalize lowHi (lenN six - n)=mh at *
 generalize lowLo (lenN six - n)=ml at *
 generalize lenN six - n=kk at *
 generalize lenN six=ln at *
 unfold vA at hL ⊢
 replace hL := Lib.hid hL
 replace hw := Lib.hid hw
 replace hcast := Lib.hid hcast
 go_enter Tryz.func104,Tryz.ntmps104
 go_wp2_with fail
 refine (hL.out _).mono ?_
 rintro e w1 ⟨rfl,o,rfl⟩
 go_wp2_with fail
 rw [hcast.out]
 refine (hw.out _).mono ?_
 rintro e w2 ⟨rfl,k,rfl⟩
 have HA:Blk ((((w.alloc (.cells #[.bool six, .int .u64 (hi:Int), .int .u64 (lo:Int)] 28 (0,0))).alloc (.cells #[.bool false, .int .u64 0, .int .u64 0] 28 (0,0))).alloc o).drewN k) w.heap.size 28 #[.bool six, .int .u64 (hi:Int), .int .u64 (lo:Int)] := (((Blk.new w _ _).alloc _).alloc _).drewN k
 have HZ:Blk ((((w.alloc (.cells #[.bool six, .int .u64 (hi:Int), .int .u64 (lo:Int)] 28 (0,0))).alloc (.cells #[.bool false, .int .u64 0, .int .u64 0] 28 (0,0))).alloc o).drewN k) (w.heap.size + 1) 28 #[.bool false, .int .u64 0, .int .u64 0] := by
  have := Blk.new (w.alloc (.cells #[.bool six, .int .u64 (hi:Int), .int .u64 (lo:Int)] 28 (0,0))) 28 #[.bool false, .int .u64 0, .int .u64 0]
  rw [World.size_alloc] at this
  exact (this.alloc _).drewN k
 have HB:Hid (Below w.heap.size w ((((w.alloc (.cells #[.bool six, .int .u64 (hi:Int), .int .u64 (lo:Int)] 28 (0,0))).alloc (.cells #[.bool false, .int .u64 0, .int .u64 0] 28 (0,0))).alloc o).drewN k)) := Lib.hid (below_drewN (below_alloc (below_alloc (below_alloc (Below.refl _ _) _) _) _) k)
 generalize ((((w.alloc (.cells #[.bool six, .int .u64 (hi:Int), .int .u64 (lo:Int)] 28 (0,0))).alloc (.cells #[.bool false, .int .u64 0, .int .u64 0] 28 (0,0))).alloc o).drewN k)=w3 at *
 have a0 := HA.cell 0
 have a1 := HA.cell 1
 have a2 := HA.cell 2
 have af := HA.free
 have z0 := HZ.cell 0
 have z1 := HZ.cell 1
 have z2 := HZ.cell 2
 have zf := HZ.free
 simp at a0 a1 a2 z0 z1 z2
 clear HA HZ
 go_wp2_with fail
 refine bodyPost_ret (v := .agg #[.bool six, .int .u64 (rh:Int), .int .u64 (rl:Int)]) (by simp [results,Tryz.results104,go_sem,z0,z1,z2]) rfl ⟨rfl,?_⟩
 repeat refine Below.setCell ?_ (by simp) _
 exact HB.out
theorem filled_any (six:Bool) (hi lo n:Nat) (w:World) (h1:hi < 18446744073709551616) (h2:lo < 18446744073709551616) (hn:n≤lenN six) :
  Calls Tryz.prog 127 #[vA six hi lo, .int .i64 (n:Int)] w (Ret (vA six (fHi six hi n) (fLo six lo n)) w) := by
 have hL := length_alloc six hi lo
 have e1 := or_low hi (lenN six - n - 64) h1 (by have := lenN_le six;omega)
 have e2 := or_low lo (min (lenN six - n) 64) h2 (by omega)
 have hw := fun w => low_any (lenN six - n) w (by have := lenN_le six;omega)
 have hln := lenN_le six
 have hcast:((lenN six:Nat):Int) - (n:Int)=((lenN six - n:Nat):Int) := by omega
 unfold fHi fLo mHi mLo
 generalize hi - hi % 2 ^ (lenN six - n - 64) + (2 ^ (lenN six - n - 64) - 1)=rh at *
 generalize lo - lo % 2 ^ (min (lenN six - n) 64) + (2 ^ (min (lenN six - n) 64) - 1)=rl at *
 rw [← lowHi_eq _ (by have := lenN_le six;omega)] at e1
 rw [← lowLo_eq] at e2
 generalize lowHi (lenN six - n)=mh at *
 generalize lowLo (lenN six - n)=ml at *
 generalize lenN six - n=kk at *
 generalize lenN six=ln at *
 unfold vA at hL ⊢
 replace hL := Lib.hid hL
 replace hw := Lib.hid hw
 replace hcast := Lib.hid hcast
 go_enter Tryz.func127,Tryz.ntmps127
 go_wp2_with fail
 refine (hL.out _).mono ?_
 rintro e w1 ⟨rfl,o,rfl⟩
 go_wp2_with fail
 rw [hcast.out]
 refine (hw.out _).mono ?_
 rintro e w2 ⟨rfl,k,rfl⟩
 have HA:Blk ((((w.alloc (.cells #[.bool six, .int .u64 (hi:Int), .int .u64 (lo:Int)] 28 (0,0))).alloc (.cells #[.bool false, .int .u64 0, .int .u64 0] 28 (0,0))).alloc o).drewN k) w.heap.size 28 #[.bool six, .int .u64 (hi:Int), .int .u64 (lo:Int)] := (((Blk.new w _ _).alloc _).alloc _).drewN k
 have HZ:Blk ((((w.alloc (.cells #[.bool six, .int .u64 (hi:Int), .int .u64 (lo:Int)] 28 (0,0))).alloc (.cells #[.bool false, .int .u64 0, .int .u64 0] 28 (0,0))).alloc o).drewN k) (w.heap.size + 1) 28 #[.bool false, .int .u64 0, .int .u64 0] := by
  have := Blk.new (w.alloc (.cells #[.bool six, .int .u64 (hi:Int), .int .u64 (lo:Int)] 28 (0,0))) 28 #[.bool false, .int .u64 0, .int .u64 0]
  rw [World.size_alloc] at this
  exact (this.alloc _).drewN k
 have HB:Hid (Below w.heap.size w ((((w.alloc (.cells #[.bool six, .int .u64 (hi:Int), .int .u64 (lo:Int)] 28 (0,0))).alloc (.cells #[.bool false, .int .u64 0, .int .u64 0] 28 (0,0))).alloc o).drewN k)) := Lib.hid (below_drewN (below_alloc (below_alloc (below_alloc (Below.refl _ _) _) _) _) k)
 generalize ((((w.alloc (.cells #[.bool six, .int .u64 (hi:Int), .int .u64 (lo:Int)] 28 (0,0))).alloc (.cells #[.bool false, .int .u64 0, .int .u64 0] 28 (0,0))).alloc o).drewN k)=w3 at *
 have a0 := HA.cell 0
 have a1 := HA.cell 1
 have a2 := HA.cell 2
 have af := HA.free
 have z0 := HZ.cell 0
 have z1 := HZ.cell 1
 have z2 := HZ.cell 2
 have zf := HZ.free
 simp at a0 a1 a2 z0 z1 z2
 clear HA HZ
 go_wp2_with fail
 refine bodyPost_ret (v := .agg #[.bool six, .int .u64 (rh:Int), .int .u64 (rl:Int)]) (by simp [results,Tryz.results127,go_sem,z0,z1,z2]) rfl ⟨rfl,?_⟩
 repeat refine Below.setCell ?_ (by simp) _
 exact HB.out
end Go.Proofs.YteldaicgaeooiaaGreatDoor
