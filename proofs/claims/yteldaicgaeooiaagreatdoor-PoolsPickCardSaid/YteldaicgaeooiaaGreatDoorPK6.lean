/-
  Flows: view.FlowFault and the reference's FlowFault are the same function; Back and BackOf.
  The sum of bytes: filter.Sum and the reference's CheckSumOf are the same function of the bytes.
  The last of the law's marks: filtered is true.
  Generators of flows and times: contracts of Flow, Times.
  Flows turned round, and times: back, Back, BackOf, CheckTimes, TimesFault, Times, filtered.
  Reports: how they lie; when they are equal; their order.
  cmp.Or of a row of ints, cmp.Compare of ints, the order of bools, slices.Compare of two rows of two ints.
  Sorting an own row of structs by a number of each element, in the words of an own row.
-/
import Derived.Test.YteldaicgaeooiaaGreatDoorPK1
import Derived.Test.YteldaicgaeooiaaGreatDoorPK5
import Derived.Test.YteldaicgaeooiaaGreatDoorPK4
import Derived.Laws.StructEq
import Derived.Lib.Bytealg
import Derived.Lib.Small
import Derived.Shelf.SlSortCmp.NoneTotal
set_option linter.unusedVariables false
set_option maxRecDepth 100000
set_option maxHeartbeats 1000000
namespace Go.Proofs.YteldaicgaeooiaaGreatDoor
open Go.RowKit
open Go.RowKit Go
/-! times -/
structure TV where
 y:Int
 t:Int
 d:Int
 o:Int
def TV.cells (x:TV):Array Value:=#[.int .i64 x.y, .int .i64 x.t, .int .i64 x.d, .int .i64 x.o]
def TV.zero:TV:=⟨0,0,0,0⟩
theorem isNaNI_any (x:Int) (w:World):Calls Tryz.prog 119 #[.int .i64 x] w fun e w' => e=.returned (.bool false)∧w'=w:=by
 go_enter Tryz.func119,Tryz.ntmps119
 go_wp2
 go_ret
 exact ⟨by simp,rfl⟩
theorem cmpInt_any (a b:Int) (w:World):Calls Tryz.prog 69 #[.int .i64 a, .int .i64 b] w fun e w' => e=.returned (.int .i64 (Lib.compareInt a b))∧w'=w:=by
 have HN:=Lib.hid fun x wx => isNaNI_any x wx
 by_cases h1:a < b
 ·have e:Lib.compareInt a b=-1:=by unfold Lib.compareInt;rw [if_pos h1]
  rw [e]
  clear e
  go_enter Tryz.func69,Tryz.ntmps69
  go_wp2_with fail
  refine (HN.out _ _).mono ?_
  rintro e w' ⟨rfl,rfl⟩
  go_wp2_with fail
  refine (HN.out _ _).mono ?_
  rintro e w' ⟨rfl,rfl⟩
  go_wp2_with fail
  go_ret
  exact ⟨rfl,rfl⟩
 ·by_cases h2:b < a
  ·have e:Lib.compareInt a b=1:=by unfold Lib.compareInt;rw [if_neg h1,if_pos h2]
   rw [e]
   clear e
   go_enter Tryz.func69,Tryz.ntmps69
   go_wp2_with fail
   refine (HN.out _ _).mono ?_
   rintro e w' ⟨rfl,rfl⟩
   go_wp2_with fail
   refine (HN.out _ _).mono ?_
   rintro e w' ⟨rfl,rfl⟩
   go_wp2_with fail
   go_ret
   exact ⟨rfl,rfl⟩
  ·obtain rfl:a=b:=by omega
   have e:Lib.compareInt a a=0:=by unfold Lib.compareInt;rw [if_neg h1,if_neg h1]
   rw [e]
   clear h1 h2 e
   go_enter Tryz.func69,Tryz.ntmps69
   go_wp2_with fail
   refine (HN.out _ _).mono ?_
   rintro e w' ⟨rfl,rfl⟩
   go_wp2_with fail
   refine (HN.out _ _).mono ?_
   rintro e w' ⟨rfl,rfl⟩
   go_wp2_with fail
   go_ret
   exact ⟨rfl,rfl⟩
open Go.RowKit Go Go.Sort
def cfK {α:Type} (f:α→Nat) (x y:α):Int:=cN (f x) (f y)
theorem ltK {α:Type} (f:α→Nat) (x y:α):Go.Proofs.ltOf (cfK f) x y=decide (f x < f y):=by
 unfold Go.Proofs.ltOf cfK
 rw [decide_eq_decide]
 exact cN_lt_iff _ _
theorem swoK {α:Type} (f:α→Nat):SWO (Go.Proofs.ltOf (cfK f)) where
 irrefl x:=by rw [ltK];simp
 trans x y z h1 h2:=by rw [ltK] at *;simp at *;omega
 ntrans x y z h1 h2:=by rw [ltK] at *;simp at *;omega
theorem putK_take (F cur:Array Value) (h:F.size≤cur.size):(putCells id 0 F cur).size=cur.size∧(putCells id 0 F cur).toList.take F.size=F.toList:=by
 refine ⟨by simp [putCells],List.ext_getElem? fun i => ?_⟩
 rcases Nat.lt_or_ge i F.size with hi | hi
 ·rw [List.getElem?_take,if_pos hi,Array.getElem?_toList,Array.getElem?_toList]
  simp only [putCells,Array.getElem?_mapIdx]
  rw [Array.getElem?_eq_getElem (by omega)]
  simp [hi]
 ·rw [List.getElem?_eq_none (by simp;omega),List.getElem?_eq_none (by simpa using hi)]
section
variable {α:Type} [Inhabited α] {E:Lay α} {f:α→Nat}
theorem flat_all (E:Lay α) (d:Array α):(flatK E.enc E.K d).toList=E.all d.toList:=by
 refine List.ext_getElem? fun t => ?_
 rcases Nat.lt_or_ge t (d.size * E.K) with h | h
 ·have hs:t < (flatK E.enc E.K d).size:=by rw [size_flatK];exact h
  obtain ⟨x,hx,e⟩:=E.all_cut d.toList t (by simpa using h)
  rw [e,Array.getElem?_toList,Array.getElem?_eq_getElem hs, ← getElem!_pos (flatK E.enc E.K d) t hs,get_flatK _ _ _ _ h]
  have hx2:d[t / E.K]?=some x:=by rw [← Array.getElem?_toList];exact hx
  have hd:d[t / E.K]! = x:=by rw [getElem!_def,hx2]
  have hm:t % E.K < (E.enc x).length:=by rw [E.len];exact Nat.mod_lt _ E.pos
  rw [hd,List.getElem?_eq_getElem hm]
  first | rfl | simp [hm]
 ·rw [List.getElem?_eq_none (by rw [Array.length_toList,size_flatK];exact h),List.getElem?_eq_none (by rw [E.all_len];simpa using h)]
theorem cmpLays_of {P:Program} {g blk off size:Nat} {w:World} (h:∀ x y W,Calls P g #[.agg (E.enc x).toArray, .agg (E.enc y).toArray] W (RetD (.int .i64 (cfK f x y)) W)):CmpLays P g #[] E.enc E.K (cfK f) blk off size w :=
 fun m os dk _ x y => by
  rw [Array.append_empty]
  exact (h x y _).mono fun _ _ ⟨he,hb⟩ => ⟨he,hb.grow⟩
theorem OwnK.holds {w:World} {B g n c:Nat} {M:List α} (h:OwnK E w B (.slice (some ⟨g,0,none⟩) n c) M):HoldsK E.enc E.K w g 0 M.toArray∧g < w.heap.size:=by
 obtain ⟨_,hb,hc,hm,cur,hg,hs,ht⟩:=h.block
 refine ⟨?_,lt_of_block hg⟩
 have hF:=flat_all E M.toArray
 rw [List.toList_toArray] at hF
 have hfs:(flatK E.enc E.K M.toArray).size=M.length * E.K:=by rw [size_flatK];rfl
 intro j hj
 rw [hfs] at hj
 refine ⟨?_,frozen_of_row w g (0 + j) cur _ hg⟩
 rw [Nat.zero_add,cell_of_row w g j _ _ _ hg]
 have h1:(cur.toList.take (M.length * E.K))[j]?=(flatK E.enc E.K M.toArray).toList[j]?:=by rw [ht,hF]
 rw [List.getElem?_take,if_pos hj,Array.getElem?_toList,Array.getElem?_toList,Array.getElem?_eq_getElem (xs:=flatK E.enc E.K M.toArray) (by omega)] at h1
 rw [h1,getElem!_pos _ j (by omega)]
 rfl
theorem OwnK.sorted {w w':World} {B g n c:Nat} {M:List α} (h:OwnK E w B (.slice (some ⟨g,0,none⟩) n c) M) (hB:B≤w.heap.size) {d':Array α} {q:Nat} {os:Array Obj}
  (hp:PermIn 0 M.toArray.size M.toArray d') (hso:SortedIn (Go.Proofs.ltOf (cfK f)) 0 M.toArray.size d') (hw:w'=sortWorldK E.enc E.K w g 0 q d' os) :
  ∃ S:List α,S.Perm M∧S.Pairwise (fun p q => f p≤f q)∧OwnK E w' B (.slice (some ⟨g,0,none⟩) n c) S∧Below B w w':=by
 subst hw
 obtain ⟨hn,hb,hc,hm,cur,hg,hs,ht⟩:=h.block
 have hlt:=lt_of_block hg
 have hms:M.toArray.size=M.length:=rfl
 have hds':d'.size=M.length:=hp.1
 have hperm:d'.toList.Perm M:=by
  have h3:=hp.2.2
  rw [Array.extract_eq_self_of_le (by omega),Array.extract_eq_self_of_le (by omega)] at h3
  exact h3
 have hF':=flat_all E d'
 have hfs':(flatK E.enc E.K d').size=M.length * E.K:=by rw [size_flatK,hds']
 refine ⟨d'.toList,hperm,?_,?_⟩
 ·rw [List.pairwise_iff_getElem]
  intro i j hi hj hij
  have hj':j < d'.size:=by simpa using hj
  have hs:=hso i j (Nat.zero_le _) hij (by omega)
  rw [ltK,getElem!_pos d' j hj',getElem!_pos d' i (by omega)] at hs
  simp at hs ⊢
  exact hs
 ·show OwnK E (grow (putRow id (Sort.ahead w q) g 0 (flatK E.enc E.K d')) os) B _ _∧Below B w (grow (putRow id (Sort.ahead w q) g 0 (flatK E.enc E.K d')) os)
  generalize flatK E.enc E.K d'=F at hF' hfs' ⊢
  have hlen:d'.toList.length=M.length:=by simp [hds']
  generalize d'.toList=L at hF' hlen ⊢
  have hheap:∀ i,i < w.heap.size→(grow (putRow id (Sort.ahead w q) g 0 F) os).heap[i]?=if g=i then some (.cells (putCells id 0 F cur) E.ty (0,0)) else w.heap[i]?:=by
   intro i hi
   simp only [grow,putRow,mapBlock,Sort.ahead]
   rw [Array.getElem?_append_left (by simpa using hi),Array.getElem?_modify]
   by_cases e:g=i
   ·subst e
    rw [if_pos rfl,if_pos rfl,hg]
    rfl
   ·rw [if_neg e,if_neg e]
  have hFc:F.size≤cur.size:=by
   rw [hfs',hs]
   exact Nat.mul_le_mul_right _ (by omega)
  obtain ⟨p1,p2⟩:=putK_take F cur hFc
  refine ⟨⟨by rw [E.all_len], .inr ⟨g,c,_,by rw [hlen,hn],hb,by rw [hheap g hlt,if_pos rfl],by omega,hm,by omega,by rw [hlen, ← hfs',p2];exact hF'⟩⟩,?_⟩
  refine ⟨rfl,rfl,rfl,by simp [grow,putRow,mapBlock,Sort.ahead],fun i hi => ?_⟩
  rw [hheap i (by omega),if_neg (by omega)]
end
end Go.Proofs.YteldaicgaeooiaaGreatDoor
