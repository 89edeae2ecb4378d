/-
  The address of a wide number.
  The reference's prefixes: PrefixFault, MaskOf, LastOf.
  Two wide numbers compared.
  The reference's PrefixFault and MaskOf.
  Slices that a call owns, and slices that can be read: append, for every element type. Lemmas of this claim's own.
-/
import Derived.Test.YtgkhcdjoilgfmaaGreatDoorRPX2
import Derived.ChangeKeysEq
import Derived.Laws.StructEq
import Derived.Test.YtgkhcdjoilgfmaaGreatDoorRPX1
import Derived.Maps.AppendAt
import Derived.Lib.Hide
set_option linter.unusedVariables false
set_option maxRecDepth 100000
namespace Go.Proofs.YtgkhcdjoilgfmaaGreatDoor
open Go.RowKit Go
def PS (f:Nat→Nat) (o:Nat):Nat→Nat
 | 0 => 0
 | k + 1 => PS f o k + f (o + k) * 2 ^ (16 * k)
theorem PS_four (f:Nat→Nat) (o:Nat):PS f o 4=f o + 65536 * (f (o + 1) + 65536 * (f (o + 2) + 65536 * f (o + 3))):=by
 simp only [PS,Nat.add_zero,Nat.mul_zero,Nat.pow_zero,Nat.mul_one,Nat.zero_add,Nat.reduceMul,Nat.reducePow]
 omega
theorem PS_dg_lo (hi lo:Nat) (h:lo < 18446744073709551616):PS (dg hi lo) 0 4=lo:=by
 rw [PS_four];exact (digits4 lo h).symm
theorem PS_dg_hi (hi lo:Nat) (h:hi < 18446744073709551616):PS (dg hi lo) 4 4=hi:=by
 rw [PS_four];exact (digits4 hi h).symm
def wl (six:Bool) (f:Nat→Nat):List Int:=[(f 0:Nat),(f 1:Nat),(f 2:Nat),(f 3:Nat),(f 4:Nat),(f 5:Nat),(f 6:Nat),(f 7:Nat),if six=true then 1 else 0]
structure EI (P:Program) (t e:TypeId) (size bytes:Nat):Prop where
 ht:P.underlying t=some (.slice e)
 hi:∃ i z,P.info? e=some i∧i.zero=some z∧i.size=size∧i.bytes=bytes∧z.cells.size=size
 hsz:0 < size
theorem EI.mk' {P:Program} {t e:TypeId} {size bytes:Nat} {z:Value} (ht:P.underlying t=some (.slice e)) (h:(P.info? e).map (fun i => (i.zero,i.size,i.bytes))=some (some z,size,bytes)) (hz:z.cells.size=size) (hsz:0 < size):EI P t e size bytes:=by
 obtain ⟨i,h0,h1,h2,h3⟩:=info_parts h
 exact ⟨ht,⟨i,z,h0,h1,h2,h3,hz⟩,hsz⟩
def Src (w:World) (ad:Option Addr) (m size:Nat) (news:List Value):Prop :=
 news.length=m * size∧∀ j u,news[j]?=some u→∃ a,ad=some a∧a.block < w.heap.size∧w.cell? (a.add j)=some u
structure Grew (w w':World) (v v':Value):Prop where
 g:w.grownBy w' v.ownBlock
 o:v'.ownBlock=v.ownBlock ∨ ∃ k,v'.ownBlock=some k∧w.heap.size≤k
theorem Grew.refl (w:World) (v:Value):Grew w w v v:=⟨World.grownBy.refl w _, .inl rfl⟩
theorem Grew.trans {a b c:World} {u v x:Value} (h:Grew a b u v) (k:Grew b c v x):Grew a c u x:=by
 refine ⟨⟨k.g.os.trans h.g.os,k.g.tape.trans h.g.tape,k.g.output.trans h.g.output,Nat.le_trans h.g.size k.g.size,fun i hi hne => ?_⟩,?_⟩
 ·refine (k.g.block i (Nat.lt_of_lt_of_le hi h.g.size) ?_).trans (h.g.block i hi hne)
  rcases h.o with e | ⟨j,e,hj⟩
  ·rw [e];exact hne
  ·rw [e];intro e2;injection e2 with e2;omega
 ·rcases k.o with e | ⟨j,e,hj⟩
  ·rcases h.o with e2 | ⟨j,e2,hj⟩
   ·exact .inl (e.trans e2)
   ·exact .inr ⟨j,e.trans e2,hj⟩
  ·exact .inr ⟨j,e,Nat.le_trans h.g.size hj⟩
theorem Grew.below {a b:World} {u v:Value} {B:Nat} (h:Grew a b u v) (hB:B≤a.heap.size) (hu:∀ k,u.ownBlock=some k→B≤k):Below B a b :=
 (Below.refl B a).grown h.g hB hu
theorem own_form {w:World} {base:Nat} {e:TypeId} {size:Nat} {v:Value} {n:Nat} {xs:List Value} (h:w.ownsRow base e size v n xs):∃ ad c,v=.slice ad n c∧Src w ad n size xs∧n≤c∧c≤maxLen:=by
 rcases h.2 with ⟨rfl,rfl⟩ | ⟨g,cap,cur,rfl,hb,hg,hn,hc,hs,ht⟩
 ·have hx:xs=[]:=List.eq_nil_of_length_eq_zero (by simpa using h.1)
  subst hx
  exact ⟨none,0,rfl,⟨by simp,fun j u hu => by simp at hu⟩,Nat.le_refl _,by unfold maxLen;omega⟩
 ·exact ⟨_,cap,rfl,⟨h.1,fun j u hu => ⟨_,rfl,lt_of_block hg,h.cells (g:=g) rfl j u hu⟩⟩,hn,hc⟩
theorem own_base {w:World} {base:Nat} {e:TypeId} {size:Nat} {v:Value} {n:Nat} {xs:List Value} (h:w.ownsRow base e size v n xs):∀ k,v.ownBlock=some k→base≤k:=fun k hk => (h.lt k hk).1
theorem own_lt {w:World} {base:Nat} {e:TypeId} {size:Nat} {v:Value} {n:Nat} {xs:List Value} (h:w.ownsRow base e size v n xs):∀ k,v.ownBlock=some k→k < w.heap.size:=fun k hk => (h.lt k hk).2
theorem own_weak {w:World} {base base':Nat} {e:TypeId} {size:Nat} {v:Value} {n:Nat} {xs:List Value} (h:w.ownsRow base e size v n xs) (hb:base'≤base):w.ownsRow base' e size v n xs:=by
 refine ⟨h.1,?_⟩
 rcases h.2 with h2 | ⟨g,cap,cur,hv,hg,r⟩
 ·exact .inl h2
 ·exact .inr ⟨g,cap,cur,hv,Nat.le_trans hb hg,r⟩
theorem own_below {w w':World} {base B:Nat} {e:TypeId} {size:Nat} {v:Value} {n:Nat} {xs:List Value} (h:w.ownsRow base e size v n xs) (hb:Below B w w') (hB:∀ k,v.ownBlock=some k→k < B):w'.ownsRow base e size v n xs:=by
 refine ⟨h.1,?_⟩
 rcases h.2 with h2 | ⟨g,cap,cur,rfl,hg,hh,r⟩
 ·exact .inl h2
 ·exact .inr ⟨g,cap,cur,rfl,hg,(hb.block g (hB g rfl)).trans hh,r⟩
theorem own_later {w w':World} {base:Nat} {e:TypeId} {size:Nat} {v:Value} {n:Nat} {xs:List Value} (h:w.ownsRow base e size v n xs) (hb:Below w.heap.size w w'):w'.ownsRow base e size v n xs:=own_below h hb fun k hk => own_lt h k hk
section
variable {P:Program}
theorem run_append_src {t e:TypeId} {size bytes:Nat} (E:EI P t e size bytes) (w:World) (base:Nat) (ty:TypeId) (v:Value) (n:Nat) (xs:List Value) (hown:w.ownsRow base e size v n xs)
  (ad:Option Addr) (m c:Nat) (news:List Value) (hsrc:Src w ad m size news) (h1:∀ u ∈ news,u.oneCell'=true)
  (h63:n + m≤maxLen) (hbytes:(n + m) * bytes≤140737488355328) (hbase:base≤w.heap.size) :
  ∃ v' w',(Builtin.append_ #[t,t] ty #[v, .slice ad m c]).run P w=.ok v' w'∧w'.ownsRow base e size v' (n + m) (xs ++ news)∧Grew w w' v v':=by
 obtain ⟨ht,⟨i,z,hi,hz,hs,hb,hzs⟩,hsz⟩:=E
 cases ad with
 | some a =>
   have hcells:∀ j u,news[j]?=some u→w.cell? (a.add j)=some u:=fun j u hu => by
    obtain ⟨a',e,_,hc⟩:=hsrc.2 j u hu
    injection e with e;subst e;exact hc
   obtain ⟨v',w',hr,h2,h3,_,h5⟩:=run_append_own_at (P:=P) w base t ty e i z size bytes ht hi hz hs hb hzs hsz v n xs hown a m c news hsrc.1 hcells h1 h63 hbytes hbase
   exact ⟨v',w',hr,h2,h3,h5.imp id fun h => ⟨_,h,Nat.le_refl _⟩⟩
 | none =>
   have hn:news=[]:=by
    cases news with
    | nil => rfl
    | cons x l => obtain ⟨a,e,_⟩:=hsrc.2 0 x rfl;cases e
   subst hn
   have hm:m=0:=by
    have h0:m * size=0:=by have:=hsrc.1;simpa using this.symm
    rcases Nat.mul_eq_zero.1 h0 with h | h <;> omega
   subst hm
   have hr:(Builtin.append_ #[t,t] ty #[v, .slice none 0 c]).run P w=.ok v w:=by
    rcases hown.2 with ⟨rfl,rfl⟩ | ⟨g,cap,cur,rfl,_,_,hnc,_⟩
    ·simp [Builtin.append_,run_underlying ht,sizeOf,typeInfo,hi,Builtin.lenOf,Builtin.firstCells]
    ·simp [Builtin.append_,run_underlying ht,sizeOf,typeInfo,hi,Builtin.lenOf,Builtin.firstCells,hnc,storeCells]
   exact ⟨v,w,hr,by simpa using hown,Grew.refl w v⟩
theorem wpList_app {t e:TypeId} {size bytes:Nat} (E:EI P t e size bytes) {w:World} {ops:Array Oper} {rest:List Oper} {o:Oper} {a:Act} {Q:Exit→Act→World→Prop} (hgd:o.guard=none) (s x:Operand)
  (ho:o.op=.call { callee:=.builtin .append,args:=#[s,x],argTypes:=#[t,t] })
  {base:Nat} {v:Value} {n:Nat} {xs:List Value} (hs:a.eval s=v) (hown:w.ownsRow base e size v n xs)
  {ad:Option Addr} {m c:Nat} {news:List Value} (hx:a.eval x=.slice ad m c) (hsrc:Src w ad m size news) (h1:∀ u ∈ news,u.oneCell'=true)
  (h63:n + m≤maxLen) (hbytes:(n + m) * bytes≤140737488355328) (hbase:base≤w.heap.size)
  (h:∀ v' w',w'.ownsRow base e size v' (n + m) (xs ++ news)→Grew w w' v v'→wpList P ops Q rest (a.put o.dst v') w') :
  wpList P ops Q (o :: rest) a w:=by
 refine wpList_plain hgd fun K hK => ?_
 obtain ⟨v',w',hr,h2,h3⟩:=run_append_src E w base o.type v n xs hown ad m c news hsrc h1 h63 hbytes hbase
 unfold Oper.wp execOp
 simp only [ho,resolve,invoke,builtin,Sem.run_bind,Sem.run_pure,Result.andThen_ok,List.map_toArray,List.map_cons,List.map_nil,hs,hx,hr]
 exact hK _ _ (h v' w' h2 h3)
end
theorem src_one_new (w:World) (x:Value) (t:TypeId):Src (w.alloc (.cells #[x] t)) (some ⟨w.heap.size,0,none⟩) 1 1 [x] :=
 ⟨rfl,fun j u hu => ⟨_,rfl,by simp,cell_one_new w x t j u hu⟩⟩
end Go.Proofs.YtgkhcdjoilgfmaaGreatDoor
