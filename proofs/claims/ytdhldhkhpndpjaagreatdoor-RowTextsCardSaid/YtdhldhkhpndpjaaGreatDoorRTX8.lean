/-
  The fault of a list of reports, in plain words.
  Sorting an own row of structs by a number of each element, in the words of an own row.
  The contract of slices.SortFunc at a slice of structs over this program, as the kit's lay-plain.mjs prints it. Condition: the slice has no element, or its cells are known, fewer than 2^62 of them.
  The contract of slices.SortFunc at a slice of structs over this program, as the kit's lay-plain.mjs prints it. Condition: the slice has no element, or its cells are known, fewer than 2^62 of them.
  Rows of prefixes, of ranges, of spans: how they lie; the comparisons of the two sorts; the sorts; the copies.
  The copies and the sorts of rows of ranges (program) and of spans (reference).
  span.touches: whether a range that does not begin earlier has addresses in common with another one, or lies next to it.
  Several cells of one element of an own row set, one after the other.
-/
import Derived.Test.YtdhldhkhpndpjaaGreatDoorRTX7
import Derived.Test.YtdhldhkhpndpjaaGreatDoorRTX6
import Derived.Shelf.SlSortCmp.NoneTotal
import Derived.Test.YtdhldhkhpndpjaaGreatDoorProg
import Derived.Test.YtdhldhkhpndpjaaGreatDoorRTX4
import Derived.WalkSpells
set_option linter.unusedVariables false
set_option maxRecDepth 100000
set_option maxHeartbeats 1000000
namespace Go.Proofs.YtdhldhkhpndpjaaGreatDoor
open Go.RowKit Go
def smallC (c:UInt8):Bool:=97≤c && c≤122
def digitC (c:UInt8):Bool:=48≤c && c≤57
def keyC (c:UInt8):Bool:=smallC c || digitC c || c == 45 || c == 95
def keyB (l:List UInt8):Bool:=decide (1≤l.length∧l.length≤40) && (l.take 1).all smallC && l.all keyC
open Go.RowKit Go Go.Sort
def cfK {α:Type} (f:α→Nat) (x y:α):Int:=cN (f x) (f y)
theorem ltK {α:Type} (f:α→Nat) (x y:α):Go.Proofs.ltOf (cfK f) x y=decide (f x < f y):=by
 unfold Go.Proofs.ltOf cfK
 rw [decide_eq_decide]
 exact cN_lt_iff _ _
theorem swoK {α:Type} (f:α→Nat):SWO (Go.Proofs.ltOf (cfK f)) where
 irrefl x:=by rw [ltK];simp
 trans x y z h1 h2:=by rw [ltK] at *;simp at *;omega
 ntrans x y z h1 h2:=by rw [ltK] at *;simp at *;omega
theorem putK_take (F cur:Array Value) (h:F.size≤cur.size):(putCells id 0 F cur).size=cur.size∧(putCells id 0 F cur).toList.take F.size=F.toList:=by
 refine ⟨by simp [putCells],List.ext_getElem? fun i => ?_⟩
 rcases Nat.lt_or_ge i F.size with hi | hi
 ·rw [List.getElem?_take,if_pos hi,Array.getElem?_toList,Array.getElem?_toList]
  simp only [putCells,Array.getElem?_mapIdx]
  rw [Array.getElem?_eq_getElem (by omega)]
  simp [hi]
 ·rw [List.getElem?_eq_none (by simp;omega),List.getElem?_eq_none (by simpa using hi)]
section
variable {α:Type} [Inhabited α] {E:Lay α} {f:α→Nat}
theorem flat_all (E:Lay α) (d:Array α):(flatK E.enc E.K d).toList=E.all d.toList:=by
 refine List.ext_getElem? fun t => ?_
 rcases Nat.lt_or_ge t (d.size * E.K) with h | h
 ·have hs:t < (flatK E.enc E.K d).size:=by rw [size_flatK];exact h
  obtain ⟨x,hx,e⟩:=E.all_cut d.toList t (by simpa using h)
  rw [e,Array.getElem?_toList,Array.getElem?_eq_getElem hs, ← getElem!_pos (flatK E.enc E.K d) t hs,get_flatK _ _ _ _ h]
  have hx2:d[t / E.K]?=some x:=by rw [← Array.getElem?_toList];exact hx
  have hd:d[t / E.K]! = x:=by rw [getElem!_def,hx2]
  have hm:t % E.K < (E.enc x).length:=by rw [E.len];exact Nat.mod_lt _ E.pos
  rw [hd,List.getElem?_eq_getElem hm]
  first | rfl | simp [hm]
 ·rw [List.getElem?_eq_none (by rw [Array.length_toList,size_flatK];exact h),List.getElem?_eq_none (by rw [E.all_len];simpa using h)]
theorem cmpLays_of {P:Program} {g blk off size:Nat} {w:World} (h:∀ x y W,Calls P g #[.agg (E.enc x).toArray, .agg (E.enc y).toArray] W (RetD (.int .i64 (cfK f x y)) W)):CmpLays P g #[] E.enc E.K (cfK f) blk off size w :=
 fun m os dk _ x y => by
  rw [Array.append_empty]
  exact (h x y _).mono fun _ _ ⟨he,hb⟩ => ⟨he,hb.grow⟩
theorem OwnK.holds {w:World} {B g n c:Nat} {M:List α} (h:OwnK E w B (.slice (some ⟨g,0,none⟩) n c) M):HoldsK E.enc E.K w g 0 M.toArray∧g < w.heap.size:=by
 obtain ⟨_,hb,hc,hm,cur,hg,hs,ht⟩:=h.block
 refine ⟨?_,lt_of_block hg⟩
 have hF:=flat_all E M.toArray
 rw [List.toList_toArray] at hF
 have hfs:(flatK E.enc E.K M.toArray).size=M.length * E.K:=by rw [size_flatK];rfl
 intro j hj
 rw [hfs] at hj
 refine ⟨?_,frozen_of_row w g (0 + j) cur _ hg⟩
 rw [Nat.zero_add,cell_of_row w g j _ _ _ hg]
 have h1:(cur.toList.take (M.length * E.K))[j]?=(flatK E.enc E.K M.toArray).toList[j]?:=by rw [ht,hF]
 rw [List.getElem?_take,if_pos hj,Array.getElem?_toList,Array.getElem?_toList,Array.getElem?_eq_getElem (xs:=flatK E.enc E.K M.toArray) (by omega)] at h1
 rw [h1,getElem!_pos _ j (by omega)]
 rfl
theorem OwnK.sorted {w w':World} {B g n c:Nat} {M:List α} (h:OwnK E w B (.slice (some ⟨g,0,none⟩) n c) M) (hB:B≤w.heap.size) {d':Array α} {q:Nat} {os:Array Obj}
  (hp:PermIn 0 M.toArray.size M.toArray d') (hso:SortedIn (Go.Proofs.ltOf (cfK f)) 0 M.toArray.size d') (hw:w'=sortWorldK E.enc E.K w g 0 q d' os) :
  ∃ S:List α,S.Perm M∧S.Pairwise (fun p q => f p≤f q)∧OwnK E w' B (.slice (some ⟨g,0,none⟩) n c) S∧Below B w w':=by
 subst hw
 obtain ⟨hn,hb,hc,hm,cur,hg,hs,ht⟩:=h.block
 have hlt:=lt_of_block hg
 have hms:M.toArray.size=M.length:=rfl
 have hds':d'.size=M.length:=hp.1
 have hperm:d'.toList.Perm M:=by
  have h3:=hp.2.2
  rw [Array.extract_eq_self_of_le (by omega),Array.extract_eq_self_of_le (by omega)] at h3
  exact h3
 have hF':=flat_all E d'
 have hfs':(flatK E.enc E.K d').size=M.length * E.K:=by rw [size_flatK,hds']
 refine ⟨d'.toList,hperm,?_,?_⟩
 ·rw [List.pairwise_iff_getElem]
  intro i j hi hj hij
  have hj':j < d'.size:=by simpa using hj
  have hs:=hso i j (Nat.zero_le _) hij (by omega)
  rw [ltK,getElem!_pos d' j hj',getElem!_pos d' i (by omega)] at hs
  simp at hs ⊢
  exact hs
 ·show OwnK E (grow (putRow id (Sort.ahead w q) g 0 (flatK E.enc E.K d')) os) B _ _∧Below B w (grow (putRow id (Sort.ahead w q) g 0 (flatK E.enc E.K d')) os)
  generalize flatK E.enc E.K d'=F at hF' hfs' ⊢
  have hlen:d'.toList.length=M.length:=by simp [hds']
  generalize d'.toList=L at hF' hlen ⊢
  have hheap:∀ i,i < w.heap.size→(grow (putRow id (Sort.ahead w q) g 0 F) os).heap[i]?=if g=i then some (.cells (putCells id 0 F cur) E.ty (0,0)) else w.heap[i]?:=by
   intro i hi
   simp only [grow,putRow,mapBlock,Sort.ahead]
   rw [Array.getElem?_append_left (by simpa using hi),Array.getElem?_modify]
   by_cases e:g=i
   ·subst e
    rw [if_pos rfl,if_pos rfl,hg]
    rfl
   ·rw [if_neg e,if_neg e]
  have hFc:F.size≤cur.size:=by
   rw [hfs',hs]
   exact Nat.mul_le_mul_right _ (by omega)
  obtain ⟨p1,p2⟩:=putK_take F cur hFc
  refine ⟨⟨by rw [E.all_len], .inr ⟨g,c,_,by rw [hlen,hn],hb,by rw [hheap g hlt,if_pos rfl],by omega,hm,by omega,by rw [hlen, ← hfs',p2];exact hF'⟩⟩,?_⟩
  refine ⟨rfl,rfl,rfl,by simp [grow,putRow,mapBlock,Sort.ahead],fun i hi => ?_⟩
  rw [hheap i (by omega),if_neg (by omega)]
end
end Go.Proofs.YtdhldhkhpndpjaaGreatDoor
namespace Go.Proofs
open Go.Shelf
def Tryz.pdqRg_ren:Go.Shelf.Ren:=⟨fun | 14 => 330 | 20 => 366 | 21 => 367 | 22 => 368 | 23 => 369 | 24 => 370 | 25 => 371 | 26 => 372 | 27 => 373 | 46 => 395 | 47 => 338 | 48 => 339 | 49 => 396 | 50 => 397 | 15 => 238 | 57 => 404 | 28 => 303 | 29 => 304 | n => n,fun | 24 => 113 | 22 => 93 | 3 => 3 | 25 => 286 | 4 => 4 | 0 => 0 | 46 => 299 | 45 => 298 | 50 => 159 | 66 => 330 | 39 => 185 | 55 => 26 | 70 => 334 | 76 => 362 | 77 => 255 | 53 => 235 | 5 => 5 | 9 => 9 | n => n,fun | n => n⟩
theorem Tryz.pdqRg:Go.Proofs.SlLaysF0.n14 Tryz.prog Tryz.pdqRg_ren:={
 mixed:=by kernel_rfl
 f14:=⟨Tryz.f330.name,by decide,Tryz.func330.trans (congrArg some (by kernel_rfl))⟩
 f15:=Tryz.func238.trans (congrArg some (by kernel_rfl))
 f20:=⟨Tryz.f366.name,by decide,Tryz.func366.trans (congrArg some (by kernel_rfl))⟩
 f21:=⟨Tryz.f367.name,by decide,Tryz.func367.trans (congrArg some (by kernel_rfl))⟩
 f22:=⟨Tryz.f368.name,by decide,Tryz.func368.trans (congrArg some (by kernel_rfl))⟩
 f23:=⟨Tryz.f369.name,by decide,Tryz.func369.trans (congrArg some (by kernel_rfl))⟩
 f24:=⟨Tryz.f370.name,by decide,Tryz.func370.trans (congrArg some (by kernel_rfl))⟩
 f25:=⟨Tryz.f371.name,by decide,Tryz.func371.trans (congrArg some (by kernel_rfl))⟩
 f26:=⟨Tryz.f372.name,by decide,Tryz.func372.trans (congrArg some (by kernel_rfl))⟩
 f27:=⟨Tryz.f373.name,by decide,Tryz.func373.trans (congrArg some (by kernel_rfl))⟩
 f28:=Tryz.func303.trans (congrArg some (by kernel_rfl))
 f29:=Tryz.func304.trans (congrArg some (by kernel_rfl))
 f46:=⟨Tryz.f395.name,by decide,Tryz.func395.trans (congrArg some (by kernel_rfl))⟩
 f47:=Tryz.func338.trans (congrArg some (by kernel_rfl))
 f48:=Tryz.func339.trans (congrArg some (by kernel_rfl))
 f49:=⟨Tryz.f396.name,by decide,Tryz.func396.trans (congrArg some (by kernel_rfl))⟩
 f50:=⟨Tryz.f397.name,by decide,Tryz.func397.trans (congrArg some (by kernel_rfl))⟩
 f57:=⟨Tryz.f404.name,by decide,Tryz.func404.trans (congrArg some (by kernel_rfl))⟩
 t0:=Tryz.underlying0
 a0:=Tryz.isAgg0
 z0:=Tryz.sizeOf0
 v0:=Tryz.zeroValue0
 t3:=Tryz.underlying3
 a3:=Tryz.isAgg3
 z3:=Tryz.sizeOf3
 v3:=Tryz.zeroValue3
 t4:=Tryz.underlying4
 a4:=Tryz.isAgg4
 z4:=Tryz.sizeOf4
 v4:=Tryz.zeroValue4
 t5:=Tryz.underlying5
 a5:=Tryz.isAgg5
 z5:=Tryz.sizeOf5
 v5:=Tryz.zeroValue5
 t9:=Tryz.underlying9
 a9:=Tryz.isAgg9
 z9:=Tryz.sizeOf9
 v9:=Tryz.zeroValue9
 t22:=Tryz.underlying93
 a22:=Tryz.isAgg93
 z22:=Tryz.sizeOf93
 v22:=Tryz.zeroValue93
 t25:=Tryz.underlying286
 a25:=Tryz.isAgg286
 z25:=Tryz.sizeOf286
 v25:=Tryz.zeroValue286
 t39:=Tryz.underlying185
 a39:=Tryz.isAgg185
 z39:=Tryz.sizeOf185
 v39:=Tryz.zeroValue185
 t45:=Tryz.underlying298
 a45:=Tryz.isAgg298
 z45:=Tryz.sizeOf298
 v45:=Tryz.zeroValue298
 t46:=Tryz.underlying299
 a46:=Tryz.isAgg299
 z46:=Tryz.sizeOf299
 v46:=Tryz.zeroValue299
 t50:=Tryz.underlying159
 a50:=Tryz.isAgg159
 z50:=Tryz.sizeOf159
 v50:=Tryz.zeroValue159
 t53:=Tryz.underlying235
 a53:=Tryz.isAgg235
 z53:=Tryz.sizeOf235
 v53:=Tryz.zeroValue235
 t55:=Tryz.underlying26
 a55:=Tryz.isAgg26
 z55:=Tryz.sizeOf26
 v55:=Tryz.zeroValue26
 t66:=Tryz.underlying330
 a66:=Tryz.isAgg330
 z66:=Tryz.sizeOf330
 v66:=Tryz.zeroValue330
 t70:=Tryz.underlying334
 a70:=Tryz.isAgg334
 z70:=Tryz.sizeOf334
 v70:=Tryz.zeroValue334
 t76:=Tryz.underlying362
 a76:=Tryz.isAgg362
 z76:=Tryz.sizeOf362
 v76:=Tryz.zeroValue362
 t77:=Tryz.underlying255
 a77:=Tryz.isAgg255
 z77:=Tryz.sizeOf255
 v77:=Tryz.zeroValue255 }
open Go.Sort Go.RowKit in
theorem Tryz.slices_pdq_Rg {α:Type} [Inhabited α] (enc:α→List Value) (hk:∀ x,(enc x).length=6) (h1:∀ x, ∀ v ∈ enc x,v.oneCell'=true) (cf:α→α→Int) (hO:SWO (ltOf cf)) (g:Nat) (cb:Array Value) (blk off cap lim:Nat) (d:Array α) (w:World)
  (eg:∀ args w,(callFunc g args).run Tryz.prog w=.ok (.enter g args) w) (hcmp:CmpLays Tryz.prog g cb enc 6 cf blk off d.size w) (hH:HoldsK enc 6 w blk off d) (hblk:blk < w.heap.size) (hsz:d.size < 4611686018427387904) (hlim:lim < 4611686018427387904) :
  Calls Tryz.prog 330 #[.slice (some ⟨blk,off,none⟩) d.size cap, .int .i64 (0:Nat), .int .i64 (d.size:Nat), .int .i64 (lim:Nat), .func (.func g) #[] cb] w fun e w' =>
   e=.returned (.tuple #[])∧∃ d' n os,PermIn 0 d.size d d'∧SortedIn (ltOf cf) 0 d.size d'∧w'=sortWorldK enc 6 w blk off n d' os :=
 (AnyQ.pdqsortCmpFunc_all Tryz.pdqRg 6 Tryz.isAgg113 Tryz.sizeOf113 enc cf g cb hO blk off cap d w eg hcmp ⟨hk,h1,hH,hblk⟩ (d.size + 1) 0 d.size lim d w (by omega) rfl (SWK.start hH) (Nat.zero_le _) (Nat.le_refl _) hsz hlim (Or.inl rfl)).mono fun _ _ ⟨he,n,os,hw⟩ =>
  have h:=pdq_sorts (ltOf cf) hO d 0 d.size lim true true (Nat.zero_le _) (Nat.le_refl _) (Or.inl rfl)
  ⟨he,_,n,os,h.1,h.2,hw⟩
open Go.Sort Go.RowKit in
theorem Tryz.slices_pdq_Rg_none (p:Option Addr) (cap:Nat) (lim:Int) (fv:Value) (w:World) :
  Calls Tryz.prog 330 #[.slice p 0 cap, .int .i64 0, .int .i64 0, .int .i64 lim,fv] w fun e w' => e=.returned (.tuple #[])∧w'=w :=
 AnyF.pdqsortCmpFunc_none Tryz.pdqRg p cap lim fv w
end Go.Proofs
namespace Go.Proofs
open Go.Shelf
def Tryz.sortQs_ren:Go.Shelf.Ren:=⟨fun | 6 => 294 | 15 => 238 | 14 => 336 | 28 => 303 | 29 => 304 | 20 => 377 | 21 => 378 | 22 => 379 | 23 => 380 | 24 => 381 | 25 => 382 | 26 => 383 | 27 => 384 | 46 => 400 | 47 => 338 | 48 => 339 | 49 => 401 | 50 => 402 | 57 => 405 | n => n,fun | 22 => 201 | 24 => 249 | 25 => 297 | 3 => 3 | 39 => 185 | 0 => 0 | 53 => 235 | 55 => 26 | 4 => 4 | 46 => 299 | 45 => 298 | 50 => 159 | 5 => 5 | 9 => 9 | 66 => 330 | 70 => 334 | 76 => 362 | 77 => 255 | n => n,fun | n => n⟩
theorem Tryz.sortQs:Go.Proofs.SlLaysF0.n6 Tryz.prog Tryz.sortQs_ren:={
 mixed:=by kernel_rfl
 f6:=⟨Tryz.f294.name,by decide,Tryz.func294.trans (congrArg some (by kernel_rfl))⟩
 f14:=⟨Tryz.f336.name,by decide,Tryz.func336.trans (congrArg some (by kernel_rfl))⟩
 f15:=Tryz.func238.trans (congrArg some (by kernel_rfl))
 f20:=⟨Tryz.f377.name,by decide,Tryz.func377.trans (congrArg some (by kernel_rfl))⟩
 f21:=⟨Tryz.f378.name,by decide,Tryz.func378.trans (congrArg some (by kernel_rfl))⟩
 f22:=⟨Tryz.f379.name,by decide,Tryz.func379.trans (congrArg some (by kernel_rfl))⟩
 f23:=⟨Tryz.f380.name,by decide,Tryz.func380.trans (congrArg some (by kernel_rfl))⟩
 f24:=⟨Tryz.f381.name,by decide,Tryz.func381.trans (congrArg some (by kernel_rfl))⟩
 f25:=⟨Tryz.f382.name,by decide,Tryz.func382.trans (congrArg some (by kernel_rfl))⟩
 f26:=⟨Tryz.f383.name,by decide,Tryz.func383.trans (congrArg some (by kernel_rfl))⟩
 f27:=⟨Tryz.f384.name,by decide,Tryz.func384.trans (congrArg some (by kernel_rfl))⟩
 f28:=Tryz.func303.trans (congrArg some (by kernel_rfl))
 f29:=Tryz.func304.trans (congrArg some (by kernel_rfl))
 f46:=⟨Tryz.f400.name,by decide,Tryz.func400.trans (congrArg some (by kernel_rfl))⟩
 f47:=Tryz.func338.trans (congrArg some (by kernel_rfl))
 f48:=Tryz.func339.trans (congrArg some (by kernel_rfl))
 f49:=⟨Tryz.f401.name,by decide,Tryz.func401.trans (congrArg some (by kernel_rfl))⟩
 f50:=⟨Tryz.f402.name,by decide,Tryz.func402.trans (congrArg some (by kernel_rfl))⟩
 f57:=⟨Tryz.f405.name,by decide,Tryz.func405.trans (congrArg some (by kernel_rfl))⟩
 t0:=Tryz.underlying0
 a0:=Tryz.isAgg0
 z0:=Tryz.sizeOf0
 v0:=Tryz.zeroValue0
 t3:=Tryz.underlying3
 a3:=Tryz.isAgg3
 z3:=Tryz.sizeOf3
 v3:=Tryz.zeroValue3
 t4:=Tryz.underlying4
 a4:=Tryz.isAgg4
 z4:=Tryz.sizeOf4
 v4:=Tryz.zeroValue4
 t5:=Tryz.underlying5
 a5:=Tryz.isAgg5
 z5:=Tryz.sizeOf5
 v5:=Tryz.zeroValue5
 t9:=Tryz.underlying9
 a9:=Tryz.isAgg9
 z9:=Tryz.sizeOf9
 v9:=Tryz.zeroValue9
 t22:=Tryz.underlying201
 a22:=Tryz.isAgg201
 z22:=Tryz.sizeOf201
 v22:=Tryz.zeroValue201
 t25:=Tryz.underlying297
 a25:=Tryz.isAgg297
 z25:=Tryz.sizeOf297
 v25:=Tryz.zeroValue297
 t39:=Tryz.underlying185
 a39:=Tryz.isAgg185
 z39:=Tryz.sizeOf185
 v39:=Tryz.zeroValue185
 t45:=Tryz.underlying298
 a45:=Tryz.isAgg298
 z45:=Tryz.sizeOf298
 v45:=Tryz.zeroValue298
 t46:=Tryz.underlying299
 a46:=Tryz.isAgg299
 z46:=Tryz.sizeOf299
 v46:=Tryz.zeroValue299
 t50:=Tryz.underlying159
 a50:=Tryz.isAgg159
 z50:=Tryz.sizeOf159
 v50:=Tryz.zeroValue159
 t53:=Tryz.underlying235
 a53:=Tryz.isAgg235
 z53:=Tryz.sizeOf235
 v53:=Tryz.zeroValue235
 t55:=Tryz.underlying26
 a55:=Tryz.isAgg26
 z55:=Tryz.sizeOf26
 v55:=Tryz.zeroValue26
 t66:=Tryz.underlying330
 a66:=Tryz.isAgg330
 z66:=Tryz.sizeOf330
 v66:=Tryz.zeroValue330
 t70:=Tryz.underlying334
 a70:=Tryz.isAgg334
 z70:=Tryz.sizeOf334
 v70:=Tryz.zeroValue334
 t76:=Tryz.underlying362
 a76:=Tryz.isAgg362
 z76:=Tryz.sizeOf362
 v76:=Tryz.zeroValue362
 t77:=Tryz.underlying255
 a77:=Tryz.isAgg255
 z77:=Tryz.sizeOf255
 v77:=Tryz.zeroValue255 }
open Go.Sort Go.RowKit in
theorem Tryz.slices_SortFunc_Qs {α:Type} [Inhabited α] (enc:α→List Value) (hk:∀ x,(enc x).length=18) (h1:∀ x, ∀ v ∈ enc x,v.oneCell'=true) (cf:α→α→Int) (hO:SWO (ltOf cf)) (g:Nat) (cb:Array Value) (blk off cap:Nat) (d:Array α) (w:World)
  (eg:∀ args w,(callFunc g args).run Tryz.prog w=.ok (.enter g args) w) (hcmp:CmpLays Tryz.prog g cb enc 18 cf blk off d.size w) (hH:HoldsK enc 18 w blk off d) (hblk:blk < w.heap.size) (hsz:d.size < 4611686018427387904) :
  Calls Tryz.prog 294 #[.slice (some ⟨blk,off,none⟩) d.size cap, .func (.func g) #[] cb] w fun e w' =>
   e=.returned (.tuple #[])∧∃ d' n os,PermIn 0 d.size d d'∧SortedIn (ltOf cf) 0 d.size d'∧w'=sortWorldK enc 18 w blk off n d' os :=
 AnyQ.slices_SortFunc Tryz.sortQs 18 Tryz.isAgg249 Tryz.sizeOf249 enc hk h1 cf hO g cb blk off cap d w eg hcmp hH hblk hsz
open Go.Sort Go.RowKit in
theorem Tryz.slices_SortFunc_Qs_none (p:Option Addr) (cap:Nat) (fv:Value) (w:World) :
  Calls Tryz.prog 294 #[.slice p 0 cap,fv] w fun e w' => e=.returned (.tuple #[])∧w'=w :=
 AnyF.slices_SortFunc_none Tryz.sortQs p cap fv w
end Go.Proofs
namespace Go.Proofs.YtdhldhkhpndpjaaGreatDoor
open Go.RowKit Go Go.Sort
abbrev Pf:=Bool × Nat × Nat × Int
def pfC (p:Pf):List Value:=[.bool p.1, .int .u64 ((p.2.1:Nat):Int), .int .u64 ((p.2.2.1:Nat):Int), .int .i64 p.2.2.2]
def layPf:Lay Pf:=⟨pfC,4,30,by decide,fun _ => rfl,fun p v hv => by simp [pfC] at hv;rcases hv with rfl | rfl | rfl | rfl <;> rfl⟩
def rgC (p:Sp):List Value:=[.bool (sixN p.1), .int .u64 ((hiN p.1:Nat):Int), .int .u64 ((loN p.1:Nat):Int), .bool (sixN p.2), .int .u64 ((hiN p.2:Nat):Int), .int .u64 ((loN p.2:Nat):Int)]
def layRg:Lay Sp:=⟨rgC,6,113,by decide,fun _ => rfl,fun p v hv => by simp [rgC] at hv;rcases hv with rfl | rfl | rfl | rfl | rfl | rfl <;> rfl⟩
def qsC (p:Sp):List Value:=(wN p.1 ++ wN p.2).toList
theorem wN_one (N:Nat):∀ v ∈ (wN N).toList,v.oneCell'=true:=fun v hv => by
 simp [wN,wd] at hv
 rcases hv with rfl | rfl | rfl | rfl | rfl | rfl | rfl | rfl | rfl <;> rfl
def layQs:Lay Sp:=⟨qsC,18,249,by decide,fun _ => rfl,fun p v hv => by
 rw [qsC,Array.toList_append,List.mem_append] at hv
 rcases hv with hv | hv <;> exact wN_one _ v hv⟩
theorem pfE:EI Tryz.prog 31 30 4 32:=EI.mk' (z:=.agg #[.bool false, .int .u64 0, .int .u64 0, .int .i64 0]) Tryz.underlying31 (by kernel_rfl) rfl (by decide)
theorem rgE:EI Tryz.prog 94 113 6 48:=EI.mk' (z:=.agg #[.bool false, .int .u64 0, .int .u64 0, .bool false, .int .u64 0, .int .u64 0]) Tryz.underlying94 (by kernel_rfl) rfl (by decide)
theorem qsE:EI Tryz.prog 201 249 18 144:=EI.mk' (z:=.agg #[.int .i64 0, .int .i64 0, .int .i64 0, .int .i64 0, .int .i64 0, .int .i64 0, .int .i64 0, .int .i64 0, .int .i64 0, .int .i64 0, .int .i64 0, .int .i64 0, .int .i64 0, .int .i64 0, .int .i64 0, .int .i64 0, .int .i64 0, .int .i64 0]) Tryz.underlying201 (by kernel_rfl) rfl (by decide)
/-! ### The comparisons -/
def nmN (x:Nat):Nat:=numA (sixN x) (hiN x) (loN x)
def keyRg (p:Sp):Nat:=nmN p.1
def keyQs (p:Sp):Nat:=p.1 % 65536 ^ 9
theorem cmpRg_any (p q:Sp) (w:World):Calls Tryz.prog 282 #[.agg (layRg.enc p).toArray, .agg (layRg.enc q).toArray] w (RetD (.int .i64 (cfK keyRg p q)) w):=by
 have HC:=Lib.hid fun wx => spanCompareD_any (sixN p.1) (hiN p.1) (loN p.1) (sixN q.1) (hiN q.1) (loN q.1) wx (hiN_u _) (loN_u _) (hiN_u _) (loN_u _)
 show Calls Tryz.prog 282 #[.agg #[.bool (sixN p.1), .int .u64 ((hiN p.1:Nat):Int), .int .u64 ((loN p.1:Nat):Int), .bool (sixN p.2), .int .u64 ((hiN p.2:Nat):Int), .int .u64 ((loN p.2:Nat):Int)], .agg #[.bool (sixN q.1), .int .u64 ((hiN q.1:Nat):Int), .int .u64 ((loN q.1:Nat):Int), .bool (sixN q.2), .int .u64 ((hiN q.2:Nat):Int), .int .u64 ((loN q.2:Nat):Int)]] w (RetD (.int .i64 (cN (numA (sixN p.1) (hiN p.1) (loN p.1)) (numA (sixN q.1) (hiN q.1) (loN q.1)))) w)
 generalize cN (numA (sixN p.1) (hiN p.1) (loN p.1)) (numA (sixN q.1) (hiN q.1) (loN q.1))=C at *
 generalize sixN p.1=a1 at *
 generalize hiN p.1=a2 at *
 generalize loN p.1=a3 at *
 generalize sixN p.2=a4 at *
 generalize hiN p.2=a5 at *
 generalize loN p.2=a6 at *
 generalize sixN q.1=b1 at *
 generalize hiN q.1=b2 at *
 generalize loN q.1=b3 at *
 generalize sixN q.2=b4 at *
 generalize hiN q.2=b5 at *
 generalize loN q.2=b6 at *
 have HP':Blk ((w.alloc (.cells #[.bool a1, .int .u64 (a2:Int), .int .u64 (a3:Int), .bool a4, .int .u64 (a5:Int), .int .u64 (a6:Int)] 113 (0,0))).alloc (.cells #[.bool b1, .int .u64 (b2:Int), .int .u64 (b3:Int), .bool b4, .int .u64 (b5:Int), .int .u64 (b6:Int)] 113 (0,0))) (w.heap.size) 113 #[.bool a1, .int .u64 (a2:Int), .int .u64 (a3:Int), .bool a4, .int .u64 (a5:Int), .int .u64 (a6:Int)] :=
  (Blk.new w 113 #[.bool a1, .int .u64 (a2:Int), .int .u64 (a3:Int), .bool a4, .int .u64 (a5:Int), .int .u64 (a6:Int)]).alloc _
 have HP:=Lib.hid HP'
 clear HP'
 have HQ':Blk ((w.alloc (.cells #[.bool a1, .int .u64 (a2:Int), .int .u64 (a3:Int), .bool a4, .int .u64 (a5:Int), .int .u64 (a6:Int)] 113 (0,0))).alloc (.cells #[.bool b1, .int .u64 (b2:Int), .int .u64 (b3:Int), .bool b4, .int .u64 (b5:Int), .int .u64 (b6:Int)] 113 (0,0))) (w.heap.size + 1) 113 #[.bool b1, .int .u64 (b2:Int), .int .u64 (b3:Int), .bool b4, .int .u64 (b5:Int), .int .u64 (b6:Int)]:=by
  have this:=Blk.new (w.alloc (.cells #[.bool a1, .int .u64 (a2:Int), .int .u64 (a3:Int), .bool a4, .int .u64 (a5:Int), .int .u64 (a6:Int)] 113 (0,0))) 113 #[.bool b1, .int .u64 (b2:Int), .int .u64 (b3:Int), .bool b4, .int .u64 (b5:Int), .int .u64 (b6:Int)]
  rw [World.size_alloc] at this
  exact this
 have HQ:=Lib.hid HQ'
 clear HQ'
 have HB:Hid (BelD w ((w.alloc (.cells #[.bool a1, .int .u64 (a2:Int), .int .u64 (a3:Int), .bool a4, .int .u64 (a5:Int), .int .u64 (a6:Int)] 113 (0,0))).alloc (.cells #[.bool b1, .int .u64 (b2:Int), .int .u64 (b3:Int), .bool b4, .int .u64 (b5:Int), .int .u64 (b6:Int)] 113 (0,0)))):=Lib.hid (((BelD.refl _).alloc _).alloc _)
 go_enter Tryz.func282,Tryz.ntmps282
 go_upto_region 1 with fail
 generalize ((w.alloc (.cells #[.bool a1, .int .u64 (a2:Int), .int .u64 (a3:Int), .bool a4, .int .u64 (a5:Int), .int .u64 (a6:Int)] 113 (0,0))).alloc (.cells #[.bool b1, .int .u64 (b2:Int), .int .u64 (b3:Int), .bool b4, .int .u64 (b5:Int), .int .u64 (b6:Int)] 113 (0,0)))=w1 at *
 have p0:=HP.out.cell 0
 have p1:=HP.out.cell 1
 have p2:=HP.out.cell 2
 simp at p0 p1 p2
 have q0:=HQ.out.cell 0
 have q1:=HQ.out.cell 1
 have q2:=HQ.out.cell 2
 simp at q0 q1 q2
 go_wp2_with fail
 refine (HC.out _).mono ?_
 rintro e w2 ⟨rfl,hb⟩
 go_wp2_with fail
 go_ret
 exact ⟨rfl,HB.out.trans hb⟩
theorem cmpQs_any (p q:Sp) (w:World):Calls Tryz.prog 295 #[.agg (layQs.enc p).toArray, .agg (layQs.enc q).toArray] w (RetD (.int .i64 (cfK keyQs p q)) w):=by
 have HC:=Lib.hid fun wx => wideCmpD_any (digN p.1) (digN q.1) wx (digN_lt _) (digN_lt _)
 rw [PW_digN,PW_digN] at HC
 show Calls Tryz.prog 295 #[.agg (wN p.1 ++ wN p.2), .agg (wN q.1 ++ wN q.2)] w (RetD (.int .i64 (cN (p.1 % 65536 ^ 9) (q.1 % 65536 ^ 9))) w)
 generalize cN (p.1 % 65536 ^ 9) (q.1 % 65536 ^ 9)=C at *
 have HP':Blk ((w.alloc (.cells (wN p.1 ++ wN p.2) 249 (0,0))).alloc (.cells (wN q.1 ++ wN q.2) 249 (0,0))) (w.heap.size) 249 (wN p.1 ++ wN p.2) :=
  (Blk.new w 249 (wN p.1 ++ wN p.2)).alloc _
 have HP:=Lib.hid HP'
 clear HP'
 have HQ':Blk ((w.alloc (.cells (wN p.1 ++ wN p.2) 249 (0,0))).alloc (.cells (wN q.1 ++ wN q.2) 249 (0,0))) (w.heap.size + 1) 249 (wN q.1 ++ wN q.2):=by
  have this:=Blk.new (w.alloc (.cells (wN p.1 ++ wN p.2) 249 (0,0))) 249 (wN q.1 ++ wN q.2)
  rw [World.size_alloc] at this
  exact this
 have HQ:=Lib.hid HQ'
 clear HQ'
 have HB:Hid (BelD w ((w.alloc (.cells (wN p.1 ++ wN p.2) 249 (0,0))).alloc (.cells (wN q.1 ++ wN q.2) 249 (0,0)))):=Lib.hid (((BelD.refl _).alloc _).alloc _)
 have e1:∀ i,i < 9→(wN p.1 ++ wN p.2)[i]?=some (.int .i64 ((digN p.1 i:Nat):Int)):=fun i hi => by
  rw [Array.getElem?_append_left (show i < (wN p.1).size from hi)];exact wd_get _ _ hi
 have e2:∀ i,i < 9→(wN q.1 ++ wN q.2)[i]?=some (.int .i64 ((digN q.1 i:Nat):Int)):=fun i hi => by
  rw [Array.getElem?_append_left (show i < (wN q.1).size from hi)];exact wd_get _ _ hi
 have E1:=Lib.hid e1
 have E2:=Lib.hid e2
 clear e1 e2
 generalize wN p.1 ++ wN p.2=X at *
 generalize wN q.1 ++ wN q.2=Y at *
 unfold wd at HC
 generalize digN p.1=f at *
 generalize digN q.1=g at *
 go_enter Tryz.func295,Tryz.ntmps295
 go_upto_region 1 with fail
 generalize ((w.alloc (.cells X 249 (0,0))).alloc (.cells Y 249 (0,0)))=w1 at *
 have p0:=(HP.out.cell 0).trans (E1.out 0 (by decide))
 have p1:=(HP.out.cell 1).trans (E1.out 1 (by decide))
 have p2:=(HP.out.cell 2).trans (E1.out 2 (by decide))
 have p3:=(HP.out.cell 3).trans (E1.out 3 (by decide))
 have p4:=(HP.out.cell 4).trans (E1.out 4 (by decide))
 have p5:=(HP.out.cell 5).trans (E1.out 5 (by decide))
 have p6:=(HP.out.cell 6).trans (E1.out 6 (by decide))
 have p7:=(HP.out.cell 7).trans (E1.out 7 (by decide))
 have p8:=(HP.out.cell 8).trans (E1.out 8 (by decide))
 have q0:=(HQ.out.cell 0).trans (E2.out 0 (by decide))
 have q1:=(HQ.out.cell 1).trans (E2.out 1 (by decide))
 have q2:=(HQ.out.cell 2).trans (E2.out 2 (by decide))
 have q3:=(HQ.out.cell 3).trans (E2.out 3 (by decide))
 have q4:=(HQ.out.cell 4).trans (E2.out 4 (by decide))
 have q5:=(HQ.out.cell 5).trans (E2.out 5 (by decide))
 have q6:=(HQ.out.cell 6).trans (E2.out 6 (by decide))
 have q7:=(HQ.out.cell 7).trans (E2.out 7 (by decide))
 have q8:=(HQ.out.cell 8).trans (E2.out 8 (by decide))
 go_wp2_with fail
 refine (HC.out _).mono ?_
 rintro e w2 ⟨rfl,hb⟩
 go_wp2_with fail
 go_ret
 exact ⟨rfl,HB.out.trans hb⟩
theorem nil_rg (w:World) (a:Option Addr) (l c:Nat):(binOp .eql 94 (.slice a l c) (.slice none 0 0)).run Tryz.prog w=.ok (.bool a.isNone) w :=
 Lib.run_eql_slice_nil (h:=Tryz.underlying94) ..
theorem clone_rg (ad:Option Addr) (n c:Nat) (L:List Sp) (w:World) (h:RdK layRg w ad L) (hn:L.length=n) (hs:n≤1000000) :
  Calls Tryz.prog 280 #[.slice ad n c] w fun e w' => ∃ v,e=.returned v∧OwnK layRg w' w.heap.size v L∧Below w.heap.size w w':=by
 cases ad with
 | none =>
   have en:=fun w => nil_rg w none n c
   simp only [Option.isNone_none] at en
   have hL:Hid (L=[]):=Lib.hid h.none_
   clear h hn hs
   go_enter Tryz.func280,Tryz.ntmps280
   go_wp2
   go_ret
   exact ⟨_,rfl,by rw [hL.out];exact OwnK.nil _ _ _,Below.refl _ _⟩
 | some a =>
   have en:=fun w => nil_rg w (some a) n c
   simp only [Option.isNone_some] at en
   subst hn
   have HS:=Lib.hid h.src
   have hB:Hid (Below w.heap.size w (w.alloc (.cells #[] layRg.ty (0,0)))):=Lib.hid (below_alloc (Below.refl _ _) _)
   clear h
   go_enter Tryz.func280,Tryz.ntmps280
   go_wp2_with (at_builtin;refine wpList_app rgE rfl (.tmp 5) (.tmp 6) rfl rfl (ownK_empty layRg w) rfl (src_later HS.out hB.out) (layRg.all_one L) ?c2 ?c3 ?c4 ?_)
   case c2 => unfold maxLen;simp only [List.length_nil];omega
   case c3 => simp only [List.length_nil];omega
   case c4 => simp
   intro v' w' hO hG
   have HO:Hid (OwnK layRg w' w.heap.size v' L):=Lib.hid hO
   have HG:=Lib.hid hG
   clear hO hG
   go_wp2
   go_ret
   exact ⟨_,rfl,HO.out,HG.out.below (u:=.slice (some ⟨w.heap.size,0,none⟩) 0 0) (by simp) (by intro k hk;simp [Value.ownBlock] at hk;omega) |> (below_alloc (Below.refl _ _) _).trans⟩
theorem nil_qs (w:World) (a:Option Addr) (l c:Nat):(binOp .eql 201 (.slice a l c) (.slice none 0 0)).run Tryz.prog w=.ok (.bool a.isNone) w :=
 Lib.run_eql_slice_nil (h:=Tryz.underlying201) ..
theorem clone_qs (ad:Option Addr) (n c:Nat) (L:List Sp) (w:World) (h:RdK layQs w ad L) (hn:L.length=n) (hs:n≤1000000) :
  Calls Tryz.prog 293 #[.slice ad n c] w fun e w' => ∃ v,e=.returned v∧OwnK layQs w' w.heap.size v L∧Below w.heap.size w w':=by
 cases ad with
 | none =>
   have en:=fun w => nil_qs w none n c
   simp only [Option.isNone_none] at en
   have hL:Hid (L=[]):=Lib.hid h.none_
   clear h hn hs
   go_enter Tryz.func293,Tryz.ntmps293
   go_wp2
   go_ret
   exact ⟨_,rfl,by rw [hL.out];exact OwnK.nil _ _ _,Below.refl _ _⟩
 | some a =>
   have en:=fun w => nil_qs w (some a) n c
   simp only [Option.isNone_some] at en
   subst hn
   have HS:=Lib.hid h.src
   have hB:Hid (Below w.heap.size w (w.alloc (.cells #[] layQs.ty (0,0)))):=Lib.hid (below_alloc (Below.refl _ _) _)
   clear h
   go_enter Tryz.func293,Tryz.ntmps293
   go_wp2_with (at_builtin;refine wpList_app qsE rfl (.tmp 5) (.tmp 6) rfl rfl (ownK_empty layQs w) rfl (src_later HS.out hB.out) (layQs.all_one L) ?c2 ?c3 ?c4 ?_)
   case c2 => unfold maxLen;simp only [List.length_nil];omega
   case c3 => simp only [List.length_nil];omega
   case c4 => simp
   intro v' w' hO hG
   have HO:Hid (OwnK layQs w' w.heap.size v' L):=Lib.hid hO
   have HG:=Lib.hid hG
   clear hO hG
   go_wp2
   go_ret
   exact ⟨_,rfl,HO.out,HG.out.below (u:=.slice (some ⟨w.heap.size,0,none⟩) 0 0) (by simp) (by intro k hk;simp [Value.ownBlock] at hk;omega) |> (below_alloc (Below.refl _ _) _).trans⟩
theorem sortRg_any (B n c:Nat) (ad:Option Addr) (M:List Sp) (w:World) (h:OwnK layRg w B (.slice ad n c) M) (hn:M.length=n) (hs:n≤1000000) (hB:B≤w.heap.size) :
  Calls Tryz.prog 281 #[.slice ad n c, .func (.func 282) #[] #[]] w fun e w' => e=.returned (.tuple #[])∧∃ S:List Sp,S.Perm M∧S.Pairwise (fun p q => keyRg p≤keyRg q)∧OwnK layRg w' B (.slice ad n c) S∧Below B w w':=by
 have hl:=Tryz.bits_Len (n:Int) w (by omega) (by omega)
 rw [Int.toNat_natCast] at hl
 have wr:IntKind.u64.wrap (n:Int)=n:=by simp [IntKind.wrap,IntKind.bits,IntKind.signed];omega
 rcases Nat.eq_zero_or_pos n with h0 | h0
 ·subst h0
  have hM:M=[]:=List.eq_nil_of_length_eq_zero hn
  subst hM
  have hp:=Tryz.slices_pdq_Rg_none ad c (Lib.bitLen 0:Nat) (.func (.func 282) #[] #[]) w
  have H0:=Lib.hid h
  have Hl:=Lib.hid hl
  have Hp:=Lib.hid hp
  clear h hl hp
  go_enter Tryz.func281,Tryz.ntmps281
  go_wp2_with fail
  refine Hl.out.mono ?_
  rintro e w' ⟨rfl,rfl⟩
  go_wp2_with fail
  refine Hp.out.mono ?_
  rintro e w' ⟨rfl,rfl⟩
  go_wp2_with fail
  go_end0
  exact ⟨rfl, [],List.Perm.refl _,List.Pairwise.nil,H0.out,(Below.refl _ _).mono hB⟩
 ·obtain ⟨g,c',hv2,_⟩:=h.one (by omega)
  simp at hv2
  obtain ⟨rfl, -,rfl⟩:=hv2
  have hlim:Lib.bitLen n < 4611686018427387904:=Nat.lt_of_le_of_lt (Lib.bitLen_le n 62 (by omega) (by omega)) (by omega)
  obtain ⟨hH,hlt⟩:=h.holds
  have eg:∀ args w,(callFunc 282 args).run Tryz.prog w=.ok (.enter 282 args) w:=Go.Proofs.enters_of Tryz.func282 (by kernel_rfl) rfl
  have hp:=Tryz.slices_pdq_Rg layRg.enc layRg.len layRg.one (cfK keyRg) (swoK keyRg) 282 #[] g 0 c (Lib.bitLen n) M.toArray w eg (cmpLays_of cmpRg_any) hH hlt (by show M.length < _;omega) hlim
  have hsz:M.toArray.size=n:=hn
  rw [hsz] at hp
  have hq:Calls Tryz.prog 330 #[.slice (some ⟨g,0,none⟩) n c, .int .i64 0, .int .i64 (n:Int), .int .i64 (Lib.bitLen n:Nat), .func (.func 282) #[] #[]] w fun e w' => e=.returned (.tuple #[])∧∃ S:List Sp,S.Perm M∧S.Pairwise (fun p q => keyRg p≤keyRg q)∧OwnK layRg w' B (.slice (some ⟨g,0,none⟩) n c) S∧Below B w w' :=
   hp.mono fun e w' ⟨he,d',q,os,h1,h2,h3⟩ => ⟨he,h.sorted hB (by rw [hsz];exact h1) (by rw [hsz];exact h2) h3⟩
  have Hl:=Lib.hid hl
  have Hq:=Lib.hid hq
  clear hl hq hp hH eg h hlim hsz hn hlt
  go_enter Tryz.func281,Tryz.ntmps281
  go_wp2_with fail
  refine Hl.out.mono ?_
  rintro e w' ⟨rfl,rfl⟩
  go_wp2_with fail
  refine Hq.out.mono ?_
  rintro e w2 ⟨rfl,hS⟩
  have HS:=Lib.hid hS
  clear hS
  go_wp2_with fail
  go_end0
  exact ⟨rfl,HS.out⟩
theorem sortQs_any (B n c:Nat) (ad:Option Addr) (M:List Sp) (w:World) (h:OwnK layQs w B (.slice ad n c) M) (hn:M.length=n) (hs:n≤1000000) (hB:B≤w.heap.size) :
  Calls Tryz.prog 294 #[.slice ad n c, .func (.func 295) #[] #[]] w fun e w' => e=.returned (.tuple #[])∧∃ S:List Sp,S.Perm M∧S.Pairwise (fun p q => keyQs p≤keyQs q)∧OwnK layQs w' B (.slice ad n c) S∧Below B w w':=by
 rcases Nat.eq_zero_or_pos n with h0 | h0
 ·subst h0
  have hM:M=[]:=List.eq_nil_of_length_eq_zero hn
  subst hM
  refine (Tryz.slices_SortFunc_Qs_none ad c _ w).mono ?_
  rintro e w' ⟨rfl,rfl⟩
  exact ⟨rfl, [],List.Perm.refl _,List.Pairwise.nil,h,(Below.refl _ _).mono hB⟩
 ·obtain ⟨g,c',hv2,_⟩:=h.one (by omega)
  simp at hv2
  obtain ⟨rfl, -,rfl⟩:=hv2
  obtain ⟨hH,hlt⟩:=h.holds
  have eg:∀ args w,(callFunc 295 args).run Tryz.prog w=.ok (.enter 295 args) w:=Go.Proofs.enters_of Tryz.func295 (by kernel_rfl) rfl
  have hp:=Tryz.slices_SortFunc_Qs layQs.enc layQs.len layQs.one (cfK keyQs) (swoK keyQs) 295 #[] g 0 c M.toArray w eg (cmpLays_of cmpQs_any) hH hlt (by show M.length < _;omega)
  have hsz:M.toArray.size=n:=hn
  rw [hsz] at hp
  exact hp.mono fun e w' ⟨he,d',q,os,h1,h2,h3⟩ => ⟨he,h.sorted hB (by rw [hsz];exact h1) (by rw [hsz];exact h2) h3⟩
open Go.RowKit Go
structure VR (p:Sp):Prop where
 a:VN p.1
 b:VN p.2
 s:sixN p.1=sixN p.2
 le:p.1≤p.2
theorem nm_VN {x:Nat} (h:VN x):nmN x=x:=num_aN h
theorem VR.key {p:Sp} (h:VR p):keyRg p=p.1∧keyQs p=p.1:=⟨nm_VN h.a,Nat.mod_eq_of_lt (by have:=h.a.lt9;omega)⟩
theorem six_lt {x y:Nat} (hx:VN x) (hy:VN y) (hs:sixN x ≠ sixN y) (hle:x≤y):x + 1 < y:=by
 have e32:(2:Nat) ^ 32 < 2 ^ 128:=by decide
 rcases hx.cases with ⟨a,_,_,d⟩ | ⟨a,b,_⟩ <;> rcases hy.cases with ⟨a',_,_,d'⟩ | ⟨a',b',_⟩
 ·exact absurd (a.trans a'.symm) hs
 ·omega
 ·omega
 ·exact absurd (a.trans a'.symm) hs
theorem six_of_le {x y:Nat} (hx:VN x) (hy:VN y) (h:sixN x=sixN y):topN x=topN y:=by rw [top_val hx,top_val hy,h]
theorem touch_num {p q:Sp} (hp:VR p) (hq:VR q) (hpq:p.1≤q.1):decide (q.1≤p.2 + 1)=if sixN p.1=sixN q.1 then (if p.2=topN p.2 then true else decide (q.1≤p.2 + 1)) else false:=by
 by_cases hs:sixN p.1=sixN q.1
 ·rw [if_pos hs]
  by_cases ht:p.2=topN p.2
  ·rw [if_pos ht]
   have:=le_top hq.a
   rw [six_of_le hq.a hp.b (hs.symm.trans hp.s), ← ht] at this
   exact decide_eq_true (by omega)
  ·rw [if_neg ht]
 ·rw [if_neg hs]
  refine decide_eq_false ?_
  have hs2:sixN p.2 ≠ sixN q.1:=fun e => hs (hp.s.trans e)
  rcases Nat.le_total p.2 q.1 with h | h
  ·have:=six_lt hp.b hq.a hs2 h;omega
  ·exfalso
   have h1:=six_lt hp.a hq.a hs hpq
   have h2:=six_lt hq.a hp.b (Ne.symm hs2) h
   have e32:(2:Nat) ^ 32 < 2 ^ 128:=by decide
   rcases hp.a.cases with ⟨a,_,_,d⟩ | ⟨a,b,_⟩ <;> rcases hq.a.cases with ⟨a',_,_,d'⟩ | ⟨a',b',_⟩
   ·exact hs (a.trans a'.symm)
   ·rcases hp.b.cases with ⟨a'',_,_,d''⟩ | ⟨a'',b'',_⟩
    ·omega
    ·rw [hp.s,a''] at a;cases a
   ·omega
   ·exact hs (a.trans a'.symm)
theorem touches_any {p q:Sp} (w:World) (hp:VR p) (hq:VR q) (hpq:p.1≤q.1):Calls Tryz.prog 283 #[.agg (rgC p).toArray, .agg (rgC q).toArray] w (Ret (.bool (decide (q.1≤p.2 + 1))) w):=by
 have HN:=Lib.hid fun wx => nextN wx hp.b
 have HC:=Lib.hid fun h wx => spanCompareN (x:=q.1) (y:=p.2 + 1) wx hq.a (next_num hp.b h).1
 have hR:=touch_num hp hq hpq
 have HD:=Lib.hid (cN_le q.1 (p.2 + 1))
 show Calls Tryz.prog 283 #[.agg #[.bool (sixN p.1), .int .u64 ((hiN p.1:Nat):Int), .int .u64 ((loN p.1:Nat):Int), .bool (sixN p.2), .int .u64 ((hiN p.2:Nat):Int), .int .u64 ((loN p.2:Nat):Int)], .agg #[.bool (sixN q.1), .int .u64 ((hiN q.1:Nat):Int), .int .u64 ((loN q.1:Nat):Int), .bool (sixN q.2), .int .u64 ((hiN q.2:Nat):Int), .int .u64 ((loN q.2:Nat):Int)]] w (Ret (.bool (decide (q.1≤p.2 + 1))) w)
 rw [hR]
 by_cases hs:sixN p.1=sixN q.1
 ·rw [if_pos hs]
  by_cases ht:p.2=topN p.2
  ·rw [if_pos ht]
   rw [if_pos ht,decide_eq_true ht] at HN
   unfold aN at HN
   rw [hs]
   clear HC hR HD hs ht hp hq hpq
   generalize sixN p.1=z1 at *
   generalize hiN p.1=a2 at *
   generalize loN p.1=a3 at *
   generalize sixN p.2=a4 at *
   generalize hiN p.2=a5 at *
   generalize loN p.2=a6 at *
   generalize sixN q.1=a1 at *
   generalize hiN q.1=b2 at *
   generalize loN q.1=b3 at *
   generalize sixN q.2=b4 at *
   generalize hiN q.2=b5 at *
   generalize loN q.2=b6 at *
   have HP':Blk ((w.alloc (.cells #[.bool a1, .int .u64 (a2:Int), .int .u64 (a3:Int), .bool a4, .int .u64 (a5:Int), .int .u64 (a6:Int)] 113 (0,0))).alloc (.cells #[.bool a1, .int .u64 (b2:Int), .int .u64 (b3:Int), .bool b4, .int .u64 (b5:Int), .int .u64 (b6:Int)] 113 (0,0))) (w.heap.size) 113 #[.bool a1, .int .u64 (a2:Int), .int .u64 (a3:Int), .bool a4, .int .u64 (a5:Int), .int .u64 (a6:Int)]:=(Blk.new w 113 #[.bool a1, .int .u64 (a2:Int), .int .u64 (a3:Int), .bool a4, .int .u64 (a5:Int), .int .u64 (a6:Int)]).alloc _
   have HP:=Lib.hid HP'
   clear HP'
   have HQ':Blk ((w.alloc (.cells #[.bool a1, .int .u64 (a2:Int), .int .u64 (a3:Int), .bool a4, .int .u64 (a5:Int), .int .u64 (a6:Int)] 113 (0,0))).alloc (.cells #[.bool a1, .int .u64 (b2:Int), .int .u64 (b3:Int), .bool b4, .int .u64 (b5:Int), .int .u64 (b6:Int)] 113 (0,0))) (w.heap.size + 1) 113 #[.bool a1, .int .u64 (b2:Int), .int .u64 (b3:Int), .bool b4, .int .u64 (b5:Int), .int .u64 (b6:Int)]:=by
    have this:=Blk.new (w.alloc (.cells #[.bool a1, .int .u64 (a2:Int), .int .u64 (a3:Int), .bool a4, .int .u64 (a5:Int), .int .u64 (a6:Int)] 113 (0,0))) 113 #[.bool a1, .int .u64 (b2:Int), .int .u64 (b3:Int), .bool b4, .int .u64 (b5:Int), .int .u64 (b6:Int)]
    rw [World.size_alloc] at this
    exact this
   have HQ:=Lib.hid HQ'
   clear HQ'
   have HB:Hid (Below w.heap.size w ((w.alloc (.cells #[.bool a1, .int .u64 (a2:Int), .int .u64 (a3:Int), .bool a4, .int .u64 (a5:Int), .int .u64 (a6:Int)] 113 (0,0))).alloc (.cells #[.bool a1, .int .u64 (b2:Int), .int .u64 (b3:Int), .bool b4, .int .u64 (b5:Int), .int .u64 (b6:Int)] 113 (0,0)))):=Lib.hid (below_alloc (below_alloc (Below.refl _ _) _) _)
   go_enter Tryz.func283,Tryz.ntmps283
   go_upto_region 1 with fail
   generalize ((w.alloc (.cells #[.bool a1, .int .u64 (a2:Int), .int .u64 (a3:Int), .bool a4, .int .u64 (a5:Int), .int .u64 (a6:Int)] 113 (0,0))).alloc (.cells #[.bool a1, .int .u64 (b2:Int), .int .u64 (b3:Int), .bool b4, .int .u64 (b5:Int), .int .u64 (b6:Int)] 113 (0,0)))=w1 at *
   have p0:=HP.out.cell 0
   have p1:=HP.out.cell 1
   have p2:=HP.out.cell 2
   have p3:=HP.out.cell 3
   have p4:=HP.out.cell 4
   have p5:=HP.out.cell 5
   simp at p0 p1 p2 p3 p4 p5
   have q0:=HQ.out.cell 0
   have q1:=HQ.out.cell 1
   have q2:=HQ.out.cell 2
   simp at q0 q1 q2
   go_wp2_with fail
   refine (HN.out _).mono ?_
   rintro e w2 ⟨rfl,hb⟩
   go_wp2_with fail
   go_ret
   exact ⟨rfl,below_alloc (HB.out.trans (hb.mono HB.out.size)) _⟩
  ·rw [if_neg ht]
   rw [if_neg ht,decide_eq_false ht] at HN
   have HC2:=Lib.hid (HC.out ht)
   have hd:decide (q.1≤p.2 + 1)=decide (cN q.1 (p.2 + 1)≤0):=decide_eq_decide.2 HD.out.symm
   rw [hd]
   unfold aN at HN HC2
   rw [hs]
   clear HC hR HD ht hp hq hpq hd
   generalize cN q.1 (p.2 + 1)=C at *
   generalize sixN (p.2 + 1)=e1 at *
   generalize hiN (p.2 + 1)=e2 at *
   generalize loN (p.2 + 1)=e3 at *
   clear hs
   generalize sixN p.1=z1 at *
   generalize hiN p.1=a2 at *
   generalize loN p.1=a3 at *
   generalize sixN p.2=a4 at *
   generalize hiN p.2=a5 at *
   generalize loN p.2=a6 at *
   generalize sixN q.1=a1 at *
   generalize hiN q.1=b2 at *
   generalize loN q.1=b3 at *
   generalize sixN q.2=b4 at *
   generalize hiN q.2=b5 at *
   generalize loN q.2=b6 at *
   have HP':Blk ((w.alloc (.cells #[.bool a1, .int .u64 (a2:Int), .int .u64 (a3:Int), .bool a4, .int .u64 (a5:Int), .int .u64 (a6:Int)] 113 (0,0))).alloc (.cells #[.bool a1, .int .u64 (b2:Int), .int .u64 (b3:Int), .bool b4, .int .u64 (b5:Int), .int .u64 (b6:Int)] 113 (0,0))) (w.heap.size) 113 #[.bool a1, .int .u64 (a2:Int), .int .u64 (a3:Int), .bool a4, .int .u64 (a5:Int), .int .u64 (a6:Int)]:=(Blk.new w 113 #[.bool a1, .int .u64 (a2:Int), .int .u64 (a3:Int), .bool a4, .int .u64 (a5:Int), .int .u64 (a6:Int)]).alloc _
   have HP:=Lib.hid HP'
   clear HP'
   have HQ':Blk ((w.alloc (.cells #[.bool a1, .int .u64 (a2:Int), .int .u64 (a3:Int), .bool a4, .int .u64 (a5:Int), .int .u64 (a6:Int)] 113 (0,0))).alloc (.cells #[.bool a1, .int .u64 (b2:Int), .int .u64 (b3:Int), .bool b4, .int .u64 (b5:Int), .int .u64 (b6:Int)] 113 (0,0))) (w.heap.size + 1) 113 #[.bool a1, .int .u64 (b2:Int), .int .u64 (b3:Int), .bool b4, .int .u64 (b5:Int), .int .u64 (b6:Int)]:=by
    have this:=Blk.new (w.alloc (.cells #[.bool a1, .int .u64 (a2:Int), .int .u64 (a3:Int), .bool a4, .int .u64 (a5:Int), .int .u64 (a6:Int)] 113 (0,0))) 113 #[.bool a1, .int .u64 (b2:Int), .int .u64 (b3:Int), .bool b4, .int .u64 (b5:Int), .int .u64 (b6:Int)]
    rw [World.size_alloc] at this
    exact this
   have HQ:=Lib.hid HQ'
   clear HQ'
   have HB:Hid (Below w.heap.size w ((w.alloc (.cells #[.bool a1, .int .u64 (a2:Int), .int .u64 (a3:Int), .bool a4, .int .u64 (a5:Int), .int .u64 (a6:Int)] 113 (0,0))).alloc (.cells #[.bool a1, .int .u64 (b2:Int), .int .u64 (b3:Int), .bool b4, .int .u64 (b5:Int), .int .u64 (b6:Int)] 113 (0,0)))):=Lib.hid (below_alloc (below_alloc (Below.refl _ _) _) _)
   go_enter Tryz.func283,Tryz.ntmps283
   go_upto_region 1 with fail
   generalize ((w.alloc (.cells #[.bool a1, .int .u64 (a2:Int), .int .u64 (a3:Int), .bool a4, .int .u64 (a5:Int), .int .u64 (a6:Int)] 113 (0,0))).alloc (.cells #[.bool a1, .int .u64 (b2:Int), .int .u64 (b3:Int), .bool b4, .int .u64 (b5:Int), .int .u64 (b6:Int)] 113 (0,0)))=w1 at *
   have p0:=HP.out.cell 0
   have p1:=HP.out.cell 1
   have p2:=HP.out.cell 2
   have p3:=HP.out.cell 3
   have p4:=HP.out.cell 4
   have p5:=HP.out.cell 5
   simp at p0 p1 p2 p3 p4 p5
   have q0:=HQ.out.cell 0
   have q1:=HQ.out.cell 1
   have q2:=HQ.out.cell 2
   simp at q0 q1 q2
   go_wp2_with fail
   refine (HN.out _).mono ?_
   rintro e w2 ⟨rfl,hb⟩
   have HQ2:=Lib.hid ((HQ.out.below hb HQ.out.lt).alloc (.cells #[.bool e1, .int .u64 (e2:Int), .int .u64 (e3:Int)] 28 (0,0)))
   have HE2:Hid (Blk (w2.alloc (.cells #[.bool e1, .int .u64 (e2:Int), .int .u64 (e3:Int)] 28 (0,0))) w2.heap.size 28 #[.bool e1, .int .u64 (e2:Int), .int .u64 (e3:Int)]):=Lib.hid (Blk.new w2 _ _)
   have HB2:=Lib.hid (below_alloc (HB.out.trans (hb.mono HB.out.size)) (.cells #[.bool e1, .int .u64 (e2:Int), .int .u64 (e3:Int)] 28 (0,0)))
   clear hb HP HQ HB HN p0 p1 p2 p3 p4 p5 q0 q1 q2
   go_upto_region 4 with fail
   generalize w2.alloc (.cells #[.bool e1, .int .u64 (e2:Int), .int .u64 (e3:Int)] 28 (0,0))=w3 at *
   generalize w2.heap.size=G at *
   have q0:=HQ2.out.cell 0
   have q1:=HQ2.out.cell 1
   have q2:=HQ2.out.cell 2
   simp at q0 q1 q2
   have p0:=HE2.out.cell 0
   have p1:=HE2.out.cell 1
   have p2:=HE2.out.cell 2
   simp at p0 p1 p2
   go_wp2_with fail
   refine (HC2.out _).mono ?_
   rintro e w4 ⟨rfl,hb⟩
   go_wp2_with fail
   go_ret
   exact ⟨rfl,HB2.out.trans (hb.b.mono HB2.out.size)⟩
 ·rw [if_neg hs]
  have hs2:(sixN p.1 == sixN q.1)=false:=by simpa using hs
  clear HN HC hR HD hp hq hpq
  generalize sixN p.1=a1 at *
  generalize hiN p.1=a2 at *
  generalize loN p.1=a3 at *
  generalize sixN p.2=a4 at *
  generalize hiN p.2=a5 at *
  generalize loN p.2=a6 at *
  generalize sixN q.1=b1 at *
  generalize hiN q.1=b2 at *
  generalize loN q.1=b3 at *
  generalize sixN q.2=b4 at *
  generalize hiN q.2=b5 at *
  generalize loN q.2=b6 at *
  have HP':Blk ((w.alloc (.cells #[.bool a1, .int .u64 (a2:Int), .int .u64 (a3:Int), .bool a4, .int .u64 (a5:Int), .int .u64 (a6:Int)] 113 (0,0))).alloc (.cells #[.bool b1, .int .u64 (b2:Int), .int .u64 (b3:Int), .bool b4, .int .u64 (b5:Int), .int .u64 (b6:Int)] 113 (0,0))) (w.heap.size) 113 #[.bool a1, .int .u64 (a2:Int), .int .u64 (a3:Int), .bool a4, .int .u64 (a5:Int), .int .u64 (a6:Int)]:=(Blk.new w 113 #[.bool a1, .int .u64 (a2:Int), .int .u64 (a3:Int), .bool a4, .int .u64 (a5:Int), .int .u64 (a6:Int)]).alloc _
  have HP:=Lib.hid HP'
  clear HP'
  have HQ':Blk ((w.alloc (.cells #[.bool a1, .int .u64 (a2:Int), .int .u64 (a3:Int), .bool a4, .int .u64 (a5:Int), .int .u64 (a6:Int)] 113 (0,0))).alloc (.cells #[.bool b1, .int .u64 (b2:Int), .int .u64 (b3:Int), .bool b4, .int .u64 (b5:Int), .int .u64 (b6:Int)] 113 (0,0))) (w.heap.size + 1) 113 #[.bool b1, .int .u64 (b2:Int), .int .u64 (b3:Int), .bool b4, .int .u64 (b5:Int), .int .u64 (b6:Int)]:=by
   have this:=Blk.new (w.alloc (.cells #[.bool a1, .int .u64 (a2:Int), .int .u64 (a3:Int), .bool a4, .int .u64 (a5:Int), .int .u64 (a6:Int)] 113 (0,0))) 113 #[.bool b1, .int .u64 (b2:Int), .int .u64 (b3:Int), .bool b4, .int .u64 (b5:Int), .int .u64 (b6:Int)]
   rw [World.size_alloc] at this
   exact this
  have HQ:=Lib.hid HQ'
  clear HQ'
  have HB:Hid (Below w.heap.size w ((w.alloc (.cells #[.bool a1, .int .u64 (a2:Int), .int .u64 (a3:Int), .bool a4, .int .u64 (a5:Int), .int .u64 (a6:Int)] 113 (0,0))).alloc (.cells #[.bool b1, .int .u64 (b2:Int), .int .u64 (b3:Int), .bool b4, .int .u64 (b5:Int), .int .u64 (b6:Int)] 113 (0,0)))):=Lib.hid (below_alloc (below_alloc (Below.refl _ _) _) _)
  go_enter Tryz.func283,Tryz.ntmps283
  go_upto_region 1 with fail
  generalize ((w.alloc (.cells #[.bool a1, .int .u64 (a2:Int), .int .u64 (a3:Int), .bool a4, .int .u64 (a5:Int), .int .u64 (a6:Int)] 113 (0,0))).alloc (.cells #[.bool b1, .int .u64 (b2:Int), .int .u64 (b3:Int), .bool b4, .int .u64 (b5:Int), .int .u64 (b6:Int)] 113 (0,0)))=w1 at *
  have p0:=HP.out.cell 0
  simp at p0
  have q0:=HQ.out.cell 0
  simp at q0
  go_wp2_with fail
  go_ret
  exact ⟨rfl,HB.out⟩
theorem flat_set (K:Nat):∀ (LL:List (List Value)) (i j:Nat) (xs:List Value) (v:Value),(∀ l ∈ LL,l.length=K)→LL[i]?=some xs→j < K→LL.flatten.set (i * K + j) v=(LL.set i (xs.set j v)).flatten
 | [],i,j,xs,v,_,h,_ => by simp at h
 | l :: LL,0,j,xs,v,hl,h,hj => by
   simp at h
   subst h
   rw [Nat.zero_mul,Nat.zero_add,List.flatten_cons,List.set_append_left _ _ (by rw [hl l (List.mem_cons_self ..)];exact hj)]
   rfl
 | l :: LL,i + 1,j,xs,v,hl,h,hj => by
   have:=flat_set K LL i j xs v (fun l h => hl l (List.mem_cons_of_mem _ h)) (by simpa using h) hj
   have hk:=hl l (List.mem_cons_self ..)
   rw [List.flatten_cons,List.set_append_right _ _ (by rw [hk,Nat.add_mul];omega),hk,show (i + 1) * K + j - K=i * K + j by rw [Nat.add_mul];omega,this]
   rfl
theorem raw_set {w:World} {B ty K g n c:Nat} {xs:List Value} (h:w.ownsRow B ty K (.slice (some ⟨g,0,none⟩) n c) n xs) (t:Nat) (v:Value):(w.setCell ⟨g,t,none⟩ v).ownsRow B ty K (.slice (some ⟨g,0,none⟩) n c) n (xs.set t v):=by
 rcases h with ⟨hl,⟨hv,_⟩ | ⟨g2,c2,cur,hv,hb,hg,hc,hm,hs,ht⟩⟩
 ·cases hv
 ·simp at hv
  obtain ⟨rfl,rfl⟩:=hv
  refine ⟨by rw [List.length_set];exact hl, .inr ⟨g,c,cur.setIfInBounds t v,rfl,hb,heap_setCell_same w g _ cur _ _ hg,hc,hm,by simpa using hs,?_⟩⟩
  rw [Array.toList_setIfInBounds,List.take_set,ht]
section
variable {α:Type} {E:Lay α}
theorem Lay.all_flat (E:Lay α) (L:List α):E.all L=(L.map E.enc).flatten:=by simp [Lay.all,List.flatMap]
theorem Lay.all_set3 (E:Lay α) (L:List α) (i j:Nat) (x y:α) (v0 v1 v2:Value) (hx:L[i]?=some x) (hj:j + 2 < E.K) (hy:E.enc y=(((E.enc x).set j v0).set (j + 1) v1).set (j + 2) v2) :
  (((E.all L).set (i * E.K + j) v0).set (i * E.K + (j + 1)) v1).set (i * E.K + (j + 2)) v2=E.all (L.set i y):=by
 have hi:=(List.getElem?_eq_some_iff.1 hx).1
 have hm:(L.map E.enc)[i]?=some (E.enc x):=by rw [List.getElem?_map,hx];rfl
 have hk:∀ l ∈ L.map E.enc,l.length=E.K:=fun l hl => by obtain ⟨z,_,rfl⟩:=List.mem_map.1 hl;exact E.len z
 have hks:∀ (LL:List (List Value)) (z:List Value),(∀ l ∈ LL,l.length=E.K)→z.length=E.K→∀ l ∈ LL.set i z,l.length=E.K:=fun LL z h hz l hl => by
  rcases List.mem_or_eq_of_mem_set hl with h1 | rfl
  ·exact h l h1
  ·exact hz
 have hg:∀ (LL:List (List Value)) (z:List Value),i < LL.length→(LL.set i z)[i]?=some z:=fun LL z h => by simp [h]
 have hl:=E.len x
 rw [E.all_flat,flat_set E.K _ i j _ v0 hk hm (by omega),
  flat_set E.K _ i (j + 1) _ v1 (hks _ _ hk (by simpa using hl)) (hg _ _ (by simpa using hi)) (by omega),
  flat_set E.K _ i (j + 2) _ v2 (hks _ _ (hks _ _ hk (by simpa using hl)) (by simpa using hl)) (hg _ _ (by simpa using hi)) (by omega),
  List.set_set,List.set_set, ← hy,E.all_flat,List.map_set]
theorem OwnK.set3 {w:World} {B g n c:Nat} {L:List α} (h:OwnK E w B (.slice (some ⟨g,0,none⟩) n c) L) {i j:Nat} {x y:α} (v0 v1 v2:Value) (hx:L[i]?=some x) (hj:j + 2 < E.K) (hy:E.enc y=(((E.enc x).set j v0).set (j + 1) v1).set (j + 2) v2) :
  OwnK E (((w.setCell ⟨g,i * E.K + j,none⟩ v0).setCell ⟨g,i * E.K + (j + 1),none⟩ v1).setCell ⟨g,i * E.K + (j + 2),none⟩ v2) B (.slice (some ⟨g,0,none⟩) n c) (L.set i y):=by
 obtain ⟨rfl,_⟩:=h.block
 have:=raw_set (raw_set (raw_set h (i * E.K + j) v0) (i * E.K + (j + 1)) v1) (i * E.K + (j + 2)) v2
 rw [E.all_set3 L i j x y v0 v1 v2 hx hj hy] at this
 show World.ownsRow _ _ _ _ _ _ _
 rw [List.length_set]
 exact this
end
/-! ### joined,plain -/
def jn (L:List Sp):List Sp:=joinL (L.mergeSort fun p q => decide (p.1≤q.1))
theorem jn_srt (L:List Sp):Srt (L.mergeSort fun p q => decide (p.1≤q.1)):=by
 have:=List.pairwise_mergeSort (le:=fun (p q:Sp) => decide (p.1≤q.1)) (fun a b c h1 h2 => by simp at *;omega) (fun a b => by simp;omega) L
 exact this.imp fun h => by simpa using h
theorem jn_perm (L:List Sp):(L.mergeSort fun p q => decide (p.1≤q.1)).Perm L:=List.mergeSort_perm _ _
theorem jn_of {L S:List Sp} (h:S.Perm L) (hs:Srt S) (hv:∀ p ∈ L,p.1≤p.2):joinL S=jn L :=
 joinL_perm (h.trans (jn_perm L).symm) hs (jn_srt L) fun p hp => hv p (h.mem_iff.1 hp)
theorem jn_joined {L:List Sp} (hv:∀ p ∈ L,p.1≤p.2):Joined (jn L) L:=by
 have:=joined_all (jn_srt L) fun p hp => hv p ((jn_perm L).mem_iff.1 hp)
 refine ⟨this.can,fun x => (this.mem x).trans (inS_perm (jn_perm L) x),fun p hp => this.lie p ((jn_perm L).mem_iff.2 hp),fun c hc => ?_,fun c hc => ?_⟩
 ·obtain ⟨p,hp,e⟩:=this.fst c hc
  exact ⟨p,(jn_perm L).mem_iff.1 hp,e⟩
 ·obtain ⟨p,hp,e⟩:=this.snd c hc
  exact ⟨p,(jn_perm L).mem_iff.1 hp,e⟩
theorem vr_stp {A:List Sp} {r:Sp} (hA:∀ p ∈ A,VR p) (hr:VR r) (hs:∀ p ∈ A,p.1≤r.1):∀ p ∈ stp A r,VR p:=by
 rcases snoc_cases A with rfl | ⟨D,c,rfl⟩
 ·intro p hp
  rw [List.mem_singleton.1 hp];exact hr
 ·rw [stp_snoc]
  have hc:=hA c (by simp)
  by_cases ht:r.1≤c.2 + 1
  ·rw [if_pos ht]
   by_cases hb:c.2 < r.2
   ·rw [if_pos hb]
    intro p hp
    rcases List.mem_append.1 hp with hp | hp
    ·exact hA p (List.mem_append_left _ hp)
    ·rw [List.mem_singleton.1 hp]
     have hcr:=hs c (by simp)
     have hsix:sixN c.1=sixN r.1:=by
      have e:=touch_num hc hr hcr
      rw [decide_eq_true ht] at e
      by_cases h6:sixN c.1=sixN r.1
      ·exact h6
      ·rw [if_neg h6] at e;cases e
     exact ⟨hc.a,hr.b,hsix.trans hr.s,by have:=hr.le;show c.1≤r.2;omega⟩
   ·rw [if_neg hb];exact hA
  ·rw [if_neg ht]
   intro p hp
   rcases List.mem_append.1 hp with hp | hp
   ·exact hA p hp
   ·rw [List.mem_singleton.1 hp];exact hr
theorem fst_stp {A:List Sp} {r:Sp} {N:Nat} (hA:∀ p ∈ A,p.1≤N) (hr:r.1≤N):∀ p ∈ stp A r,p.1≤N:=by
 rcases snoc_cases A with rfl | ⟨D,c,rfl⟩
 ·intro p hp
  rw [List.mem_singleton.1 hp];exact hr
 ·rw [stp_snoc]
  have hc:=hA c (by simp)
  split
  ·split
   ·intro p hp
    rcases List.mem_append.1 hp with hp | hp
    ·exact hA p (List.mem_append_left _ hp)
    ·rw [List.mem_singleton.1 hp];exact hc
   ·exact hA
  ·intro p hp
   rcases List.mem_append.1 hp with hp | hp
   ·exact hA p hp
   ·rw [List.mem_singleton.1 hp];exact hr
theorem vr_take {S:List Sp} (hs:Srt S) (hv:∀ p ∈ S,VR p):∀ k,k≤S.length→(∀ p ∈ (S.take k).foldl stp [],VR p)∧∀ j x,k≤j→S[j]?=some x→∀ p ∈ (S.take k).foldl stp [],p.1≤x.1
 | 0,_ => by simp
 | k + 1,hk => by
   obtain ⟨h1,h2⟩:=vr_take hs hv k (by omega)
   have hlt:k < S.length:=by omega
   have hx:=List.getElem?_eq_getElem hlt
   have hb:=h2 k S[k] (Nat.le_refl _) hx
   rw [List.take_succ_eq_append_getElem hlt,List.foldl_append]
   refine ⟨vr_stp h1 (hv _ (List.getElem_mem hlt)) hb,fun j x hj hjx => ?_⟩
   have hjl:=(List.getElem?_eq_some_iff.1 hjx).1
   have hle:S[k].1≤x.1:=by
    have:=List.pairwise_iff_getElem.1 hs k j hlt hjl (by omega)
    rw [List.getElem?_eq_getElem hjl] at hjx
    injection hjx with hjx
    rw [← hjx];exact this
   exact fst_stp (fun p hp => Nat.le_trans (hb p hp) hle) hle
theorem stp_len (A:List Sp) (r:Sp):(stp A r).length≤A.length + 1:=by
 rcases snoc_cases A with rfl | ⟨D,c,rfl⟩
 ·exact Nat.le_refl 1
 ·rw [stp_snoc]
  split
  ·split <;> simp
  ·simp
theorem fold_len:∀ (S A:List Sp),(S.foldl stp A).length≤A.length + S.length
 | [],A => by simp
 | r :: S,A => by
   have:=fold_len S (stp A r)
   have:=stp_len A r
   simp only [List.foldl_cons,List.length_cons]
   omega
end Go.Proofs.YtdhldhkhpndpjaaGreatDoor
