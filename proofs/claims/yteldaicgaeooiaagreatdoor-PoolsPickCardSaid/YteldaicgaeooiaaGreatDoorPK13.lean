/-
  A region that draws its order, by an invariant with a phase, where each operation knows that what depends on it has not run: a bound on the phase.
  A region that draws its order, by an invariant that may speak of the values that its operations have yielded.
  The reference's gaps: the spans between those of a list, of all addresses.
  slices.Grow of nil and slices.Concat of two slices of prefixes.
  The reference's RestOf, UnionOf, BothOf, WithoutOf.
  What is free of a pool: used, free, FreeOf, Free.
  The contract of slices.SortFunc at a slice of structs over this program, as the kit's lay-plain.mjs prints it. Condition: the slice has no element, or its cells are known, fewer than 2^62 of them.
  The sorts of leases (at most twelve) by any order; the orders by key and by bits.
-/
import Derived.Test.YteldaicgaeooiaaGreatDoorPK1
import Derived.Test.YteldaicgaeooiaaGreatDoorPK12
import Derived.Test.YteldaicgaeooiaaGreatDoorPK7
import Derived.Lib.AppendZeros
import Derived.Test.YteldaicgaeooiaaGreatDoorPK11
import Derived.Test.YteldaicgaeooiaaGreatDoorPK8
import Derived.Shelf.SlSortCmp.NoneTotal
import Derived.Test.YteldaicgaeooiaaGreatDoorProg
import Derived.Test.YteldaicgaeooiaaGreatDoorPK10
import Derived.Test.YteldaicgaeooiaaGreatDoorPK6
import Derived.Test.YteldaicgaeooiaaGreatDoorPK4
set_option linter.unusedVariables false
set_option maxRecDepth 100000
set_option maxHeartbeats 16000000
namespace Go.Proofs.YteldaicgaeooiaaGreatDoor.Lm
open Go Go.Proofs.YteldaicgaeooiaaGreatDoor
section
variable {P:Program} {ops:Array Oper} {Q:Exit→Act→World→Prop} {N total:Nat} {a0:Act}
variable {R:Nat→Value→Nat→World→Prop} {C:Nat→World→Prop} {S:Nat→World→Nat→World→Prop} {cost lim:Nat→Nat}
def msk (ops:Array Oper) (i:Nat):Array Bool:=(Array.range ops.size).map fun j => j == i || bef ops j i
theorem msk_get (ops:Array Oper) (i j:Nat) (hj:j < ops.size):(msk ops i).getD j false=(j == i || bef ops j i):=by
 simp [msk,Array.getD,hj]
def limB (ops:Array Oper) (N total:Nat) (cost lim:Nat→Nat):Bool:=(List.range N).all fun i => decide (total≤lim i + sumCost cost (msk ops i) ops.size)
theorem limB_spec {ops:Array Oper} {N total:Nat} {cost lim:Nat→Nat} (h:limB ops N total cost lim=true):∀ i,i < N→total≤lim i + sumCost cost (msk ops i) ops.size:=by
 simpa [limB] using h
theorem sumCost_disj {cost:Nat→Nat} {listed mask:Array Bool}:∀ k,(∀ j,j < k→listed.getD j false=true→mask.getD j false=false)→sumCost cost listed k + sumCost cost mask k≤sumCost cost (Array.replicate k true) k
 | 0,_ => by simp [sumCost]
 | k + 1,h => by
   have ih:=sumCost_disj (cost:=cost) (listed:=listed) (mask:=mask) k fun j hj => h j (by omega)
   have hk:=h k (by omega)
   have hfull:∀ m,m≤k→sumCost cost (Array.replicate (k + 1) true) m=sumCost cost (Array.replicate k true) m:=by
    intro m
    induction m with
    | zero => intro _;rfl
    | succ m ihm =>
      intro hm
      simp only [sumCost,ihm (by omega)]
      simp [Array.getD,show m < k by omega,show m < k + 1 by omega]
   simp only [sumCost,hfull k (Nat.le_refl _)]
   have h1:(Array.replicate (k + 1) true).getD k false=true:=by simp [Array.getD]
   simp only [h1,if_true]
   cases hl:listed.getD k false
   ·simp only [Bool.false_eq_true,if_false]
    cases hm:mask.getD k false <;> simp <;> omega
   ·simp only [hk hl,if_true,Bool.false_eq_true,if_false]
    omega
def Ob (P:Program) (ops:Array Oper) (a0:Act) (R:Nat→Value→Nat→World→Prop) (C:Nat→World→Prop) (S:Nat→World→Nat→World→Prop) (cost lim:Nat→Nat) (N:Nat) (i:Nat) (o:Oper):Prop :=
 ∀ (T:Nat→Value) (w:World) (n:Nat),C n w→n≤lim i→(∀ p,p < ops.size→bef ops i p=true→R p (T p) n w) →
  if Region.wanted o (yielded ops (setAll (ops.toList.take N) 0 T a0).tmps) then
   Op1 P o (setAll (ops.toList.take N) 0 T a0).eval w fun v w' => R i v (n + cost i) w'∧C (n + cost i) w'∧S n w (n + cost i) w'
  else R i undef (n + cost i) w∧C (n + cost i) w∧S n w (n + cost i) w
theorem region_any (hB:InvB ops N a0.tmps.size) (hS:∀ p v n w n' w',R p v n w→S n w n' w'→R p v n' w')
  (htot:sumCost cost (Array.replicate ops.size true) ops.size≤total) (hlm:∀ i,i < N→total≤lim i + sumCost cost (msk ops i) ops.size)
  (hob:∀ (i:Nat) (o:Oper),ops[i]?=some o→i < N→Ob P ops a0 R C S cost lim N i o)
  (hend:∀ T w,(∃ n,n≤total∧C n w∧∀ p,p < N→R p (T p) n w)→wpList P ops Q (ops.toList.drop N) (setAll (ops.toList.take N) 0 T a0) w) :
  ∀ (fuel:Nat) (listed:Array Bool) (a:Act) (w:World),listed.size=ops.size→fuel + cnt listed ops.size=ops.size →
   (∀ j,j < ops.size→listed.getD j false=true→∀ p,p < ops.size→bef ops j p=true→listed.getD p false=true) →
   ((∃ T,(∀ j,N≤j→listed.getD j false=false)∧Fits ops a0 listed T a∧C (sumCost cost listed ops.size) w∧∀ j,j < ops.size→listed.getD j false=true→R j (T j) (sumCost cost listed ops.size) w) ∨
    (∃ k,N≤k∧k≤ops.size∧(∀ j,j < ops.size→(listed.getD j false=true ↔ j < k))∧wpList P ops Q (ops.toList.drop k) a w)) →
   wpAny P .any ops Q fuel listed a w:=by
 -- the whole head is there: the two frames are one
 have whole:∀ (listed:Array Bool) (T:Nat→Value) (a:Act),(∀ j,N≤j→listed.getD j false=false)→(∀ j,j < N→listed.getD j false=true)→Fits ops a0 listed T a→a=setAll (ops.toList.take N) 0 T a0:=by
  intro listed T a ht hh hF
  have h1:a.defers=(setAll (ops.toList.take N) 0 T a0).defers:=by rw [setAll_defers,hF.defers]
  have h2:a.tmps=(setAll (ops.toList.take N) 0 T a0).tmps:=by
   refine Array.ext_getElem? fun t => ?_
   rcases Nat.lt_or_ge t a0.tmps.size with hts | hts
   ·rw [setAll_get T t _ 0 a0 hts]
    cases hw:lastW t (ops.toList.take N) 0 with
    | some j =>
      obtain ⟨_,o',ho',hd⟩:=lastW_some _ _ hw
      simp only [Nat.sub_zero,List.getElem?_take] at ho'
      split at ho'
      ·rename_i hjN
       exact hF.set j o' t (by simpa using ho') (hh j hjN) hd
      ·cases ho'
    | none =>
      refine hF.rest t fun j o' hj hlj hd => ?_
      have hjN:j < N:=by
       rcases Nat.lt_or_ge j N with h | h
       ·exact h
       ·rw [ht j h] at hlj;cases hlj
      exact lastW_none _ _ hw j o' (by rw [List.getElem?_take,if_pos hjN];simpa using hj) hd
   ·rw [Array.getElem?_eq_none (by rw [hF.size];exact hts),Array.getElem?_eq_none (by rw [setAll_size];exact hts)]
  cases a;cases hb:setAll (ops.toList.take N) 0 T a0;simp_all
 -- nothing ready: all is listed
 have allListed:∀ (listed:Array Bool),listed.size=ops.size→Region.ready .any ops listed=[]→∀ j,j < ops.size→listed.getD j false=true:=by
  intro listed hsz hr j
  induction j using Nat.strongRecOn with
  | _ j ih =>
    intro hj
    cases hlj:listed.getD j false with
    | true => rfl
    | false =>
      exfalso
      obtain ⟨o,ho⟩:∃ o,ops[j]?=some o:=⟨ops[j],Array.getElem?_eq_getElem hj⟩
      have:j ∈ Region.ready .any ops listed:=mem_ready.2 ⟨by simpa [Array.getD,hsz,hj] using hlj,o,ho,fun e he hb => ih e.on (hB.back j o e ho he hb) (by have:=hB.back j o e ho he hb;omega)⟩
      rw [hr] at this;cases this
 -- the end
 have fin:∀ (listed:Array Bool) (a:Act) (w:World),(∀ j,j < ops.size→listed.getD j false=true) →
   ((∃ T,(∀ j,N≤j→listed.getD j false=false)∧Fits ops a0 listed T a∧C (sumCost cost listed ops.size) w∧∀ j,j < ops.size→listed.getD j false=true→R j (T j) (sumCost cost listed ops.size) w) ∨
    (∃ k,N≤k∧k≤ops.size∧(∀ j,j < ops.size→(listed.getD j false=true ↔ j < k))∧wpList P ops Q (ops.toList.drop k) a w))→Q .normal a w:=by
  intro listed a w hall h
  rcases h with ⟨T,ht,hF,hC,hR⟩ | ⟨k,hk1,hk2,hk3,hk4⟩
  ·have hN:N=ops.size:=by
    rcases Nat.lt_or_ge N ops.size with h | h
    ·have h1:=ht N (Nat.le_refl _)
     rw [hall N h] at h1;cases h1
    ·have:=hB.le;omega
   have ha:=whole listed T a ht (fun j hj => hall j (by omega)) hF
   have:=hend T w ⟨_,Nat.le_trans (sumCost_le _) htot,hC,fun p hp => hR p (by omega) (hall p (by omega))⟩
   rw [← ha,List.drop_eq_nil_of_le (by simp;omega)] at this
   exact this
  ·have:k=ops.size:=by
    rcases Nat.lt_or_ge k ops.size with h | h
    ·have:=(hk3 k h).1 (hall k h);omega
    ·omega
   rw [List.drop_eq_nil_of_le (by simp;omega)] at hk4
   exact hk4
 intro fuel
 induction fuel with
 | zero =>
   intro listed a w hsz hf hd h
   have hall:=cnt_full ops.size (by omega:cnt listed ops.size=ops.size)
   refine ⟨?_,fin listed a w hall h⟩
   refine List.eq_nil_iff_forall_not_mem.2 fun i hi => ?_
   obtain ⟨h1,o,ho,_⟩:=mem_ready.1 hi
   have:=hall i (Array.getElem?_eq_some_iff.1 ho).1
   rw [(getD_false h1).2] at this;cases this
 | succ fuel ih =>
   intro listed a w hsz hf hd h
   refine ⟨fun hr => fin listed a w (allListed listed hsz hr) h,fun i hi => ?_⟩
   obtain ⟨h1,o,ho,hafter⟩:=mem_ready.1 hi
   have hilt:i < ops.size:=(Array.getElem?_eq_some_iff.1 ho).1
   have hset:∀ j,(listed.setIfInBounds i true).getD j false=true ↔ (j=i ∨ listed.getD j false=true):=fun j => by
    by_cases hj:i=j
    ·subst hj;simp [Array.getD,hsz,hilt]
    ·rw [getD_set_ne false hj];simp [Ne.symm hj]
   have hbef:∀ p,p < ops.size→bef ops i p=true→listed.getD p false=true:=fun p hp hb => by
    obtain ⟨e,he,hbi,hor⟩:=hB.clos i p o ho hp hb
    have h2:=hafter e he hbi
    rcases hor with rfl | hor
    ·exact h2
    ·exact hd e.on (by have:=hB.back i o e ho he hbi;omega) h2 p hp hor
   have hsz':(listed.setIfInBounds i true).size=ops.size:=by simpa using hsz
   have hf':fuel + cnt (listed.setIfInBounds i true) ops.size=ops.size:=by
    have:=sumCost_set (cost:=fun _ => 1) h1 ops.size
    simp only [cnt,hilt,if_true] at this hf ⊢
    omega
   have hd':∀ j,j < ops.size→(listed.setIfInBounds i true).getD j false=true→∀ p,p < ops.size→bef ops j p=true→(listed.setIfInBounds i true).getD p false=true:=by
    intro j hj hl p hp hb
    rcases (hset j).1 hl with rfl | hl'
    ·exact (hset p).2 (.inr (hbef p hp hb))
    ·exact (hset p).2 (.inr (hd j hj hl' p hp hb))
   rcases h with ⟨T,ht,hF,hC,hR⟩ | ⟨k,hk1,hk2,hk3,hk4⟩
   ·rcases Nat.lt_or_ge i N with hiN | hiN
    ·-- a step of the head
     have hpN:∀ p,bef ops i p=true→p < ops.size→listed.getD p false=true∧p < N:=fun p hb hp => by
      have:=hbef p hp hb
      refine ⟨this,?_⟩
      rcases Nat.lt_or_ge p N with h | h
      ·exact h
      ·rw [ht p h] at this;cases this
     have hag:=hF.agree hB ht ho hpN
     have hsum:=sumCost_set (cost:=cost) h1 ops.size
     simp only [hilt,if_true] at hsum
     have hlim:sumCost cost listed ops.size≤lim i:=by
      have h5:=sumCost_disj (cost:=cost) (listed:=listed) (mask:=msk ops i) ops.size fun j hj hl => by
       rw [msk_get ops i j hj]
       cases hji:j == i
       ·cases hbf:bef ops j i
        ·rfl
        ·have:=hd j hj hl i hilt hbf
         rw [(getD_false h1).2] at this;cases this
       ·obtain rfl:j=i:=by simpa using hji
        rw [(getD_false h1).2] at hl;cases hl
      have h6:=hlm i hiN
      omega
     have hO:=hob i o ho hiN T w _ hC hlim fun p hp hb => hR p hp (hbef p hp hb)
     have next:∀ v w',R i v (sumCost cost listed ops.size + cost i) w'∧C (sumCost cost listed ops.size + cost i) w'∧S (sumCost cost listed ops.size) w (sumCost cost listed ops.size + cost i) w'→wpAny P .any ops Q fuel (listed.setIfInBounds i true) (a.put o.dst v) w':=fun v w' ⟨q1,q2,q3⟩ =>
      ih _ _ _ hsz' hf' hd' (.inl ⟨fun j => if j=i then v else T j,fun j hj => by
        rw [getD_set_ne false (by omega)];exact ht j hj,hF.put hB ho h1 v,by rw [hsum];exact q2,fun j hj hl => by
        by_cases hji:j=i
        ·subst hji;rw [hsum];simpa using q1
        ·simp only [hji,if_false]
         rw [hsum];exact hS j _ _ _ _ _ (hR j hj (((hset j).1 hl).resolve_left hji)) q3⟩)
     unfold wpOp
     simp only [ho]
     rw [wanted_of_get (a:=a) (b:=setAll (ops.toList.take N) 0 T a0) o hag]
     split
     ·rename_i hw
      rw [if_pos hw] at hO
      refine .inl (Op1.wp (post:=fun v w' => R i v (sumCost cost listed ops.size + cost i) w'∧C (sumCost cost listed ops.size + cost i) w'∧S (sumCost cost listed ops.size) w (sumCost cost listed ops.size + cost i) w') ?_ next)
      unfold Op1 at hO ⊢
      rw [execOp_congr o (Region.noSelect_spec hB.sel i o · · ho) (eval_of_get o hag)]
      exact hO
     ·rename_i hw
      rw [if_neg hw] at hO
      exact next undef w hO
    ·-- the tail begins
     have hall:∀ j,j < i→listed.getD j false=true:=fun j hj => hbef j (by omega) (hB.tail i j hiN hilt hj)
     have hiN':i=N:=by
      rcases Nat.lt_or_ge N i with h | h
      ·have h2:=ht N (Nat.le_refl _)
       rw [hall N h] at h2;cases h2
      ·omega
     subst hiN'
     have ha:=whole listed T a ht hall hF
     have hw:=hend T w ⟨_,Nat.le_trans (sumCost_le _) htot,hC,fun p hp => hR p (by omega) (hall p hp)⟩
     rw [← ha] at hw
     have hdr:ops.toList.drop i=o :: ops.toList.drop (i + 1):=by
      rw [List.drop_eq_getElem_cons (by simpa using hilt)]
      congr 1
      have:=(Array.getElem?_eq_some_iff.1 ho).2
      simpa using this
     rw [hdr] at hw
     have hwop:wpOp P ops Q i (wpList P ops Q (ops.toList.drop (i + 1))) a w:=by unfold wpOp;simp only [ho];exact hw
     refine wpOp_mono (fun a' w' h' => ih _ _ _ hsz' hf' hd' (.inr ⟨i + 1,by omega,by omega,fun j hj => ?_,h'⟩)) hwop
     rw [hset j]
     constructor
     ·rintro (rfl | hl)
      ·omega
      ·rcases Nat.lt_or_ge j i with h | h
       ·omega
       ·rw [ht j h] at hl;cases hl
     ·intro hj'
      by_cases hji:j=i
      ·exact .inl hji
      ·exact .inr (hall j (by omega))
   ·-- a step of the tail
    have hik:i=k:=by
     have hnl:=(getD_false h1).2
     have h2:¬ i < k:=fun hlt => by rw [(hk3 i hilt).2 hlt] at hnl;cases hnl
     rcases Nat.lt_or_ge k i with h | h
     ·have h3:=hbef k (by omega) (hB.tail i k (by omega) hilt h)
      have:=(hk3 k (by omega)).1 h3;omega
     ·omega
    subst hik
    have hdr:ops.toList.drop i=o :: ops.toList.drop (i + 1):=by
     rw [List.drop_eq_getElem_cons (by simpa using hilt)]
     congr 1
     have:=(Array.getElem?_eq_some_iff.1 ho).2
     simpa using this
    rw [hdr] at hk4
    have hwop:wpOp P ops Q i (wpList P ops Q (ops.toList.drop (i + 1))) a w:=by unfold wpOp;simp only [ho];exact hk4
    refine wpOp_mono (fun a' w' h' => ih _ _ _ hsz' hf' hd' (.inr ⟨i + 1,by omega,by omega,fun j hj => ?_,h'⟩)) hwop
    rw [hset j,hk3 j hj]
    omega
def AfterAll (R:Nat→Value→Nat→World→Prop) (T:Nat→Value) (n:Nat) (w:World):List Edge→Prop
 | [] => True
 | e :: l => match Region.binds .any e with
  | true => R e.on (T e.on) n w∧AfterAll R T n w l
  | false => AfterAll R T n w l
theorem afterAll_of {R:Nat→Value→Nat→World→Prop} {T:Nat→Value} {n:Nat} {w:World}:∀ (l:List Edge),(∀ e ∈ l,Region.binds .any e=true→R e.on (T e.on) n w)→AfterAll R T n w l
 | [],_ => trivial
 | e :: l,h => by
   have ih:=afterAll_of l fun e' he' => h e' (List.mem_cons_of_mem _ he')
   unfold AfterAll
   cases hb:Region.binds .any e with
   | true => exact ⟨h e (List.mem_cons_self ..) hb,ih⟩
   | false => exact ih
def Ob' (P:Program) (A:(Nat→Value)→Act) (R:Nat→Value→Nat→World→Prop) (C:Nat→World→Prop) (S:Nat→World→Nat→World→Prop) (cost lim:Nat→Nat) (i:Nat) (o:Oper):Prop :=
 ∀ (T:Nat→Value) (w:World) (n:Nat),C n w→n≤lim i→AfterAll R T n w o.after.toList →
  match o.guard with
  | none => Op1 P o (A T).eval w fun v w' => R i v (n + cost i) w'∧C (n + cost i) w'∧S n w (n + cost i) w'
  | some (g,want) => (T g=.bool want→Op1 P o (A T).eval w fun v w' => R i v (n + cost i) w'∧C (n + cost i) w'∧S n w (n + cost i) w') ∧
    (T g ≠ .bool want→R i undef (n + cost i) w∧C (n + cost i) w∧S n w (n + cost i) w)
def ObAll (P:Program) (A:(Nat→Value)→Act) (R:Nat→Value→Nat→World→Prop) (C:Nat→World→Prop) (S:Nat→World→Nat→World→Prop) (cost lim:Nat→Nat):List Oper→Nat→Prop
 | [],_ => True
 | o :: l,k => Ob' P A R C S cost lim k o∧ObAll P A R C S cost lim l (k + 1)
theorem ObAll.get {A:(Nat→Value)→Act}:∀ (l:List Oper) (k:Nat),ObAll P A R C S cost lim l k→∀ (i:Nat) (o:Oper),l[i]?=some o→Ob' P A R C S cost lim (k + i) o
 | [],_,_,i,o,ho => by simp at ho
 | o' :: l,k,h,i,o,ho => by
   cases i with
   | zero => simp at ho;subst ho;exact h.1
   | succ i =>
     have:=ObAll.get l (k + 1) h.2 i o (by simpa using ho)
     rwa [show k + (i + 1)=k + 1 + i by omega]
theorem ob_of {A:(Nat→Value)→Act} (hB:InvB ops N a0.tmps.size) (hE:edgeB ops=true) {i:Nat} {o:Oper} (ho:ops[i]?=some o) (hi:i < N) (hA:∀ T,setAll (ops.toList.take N) 0 T a0=A T) (h:Ob' P A R C S cost lim i o):Ob P ops a0 R C S cost lim N i o:=by
 intro T w n hC hn hp
 have hlt:=(Array.getElem?_eq_some_iff.1 ho).1
 have hE':=hE
 simp only [edgeB,List.all_eq_true,List.mem_range] at hE'
 have hEi:=hE' i hlt
 simp only [ho,Bool.and_eq_true] at hEi
 obtain ⟨he1,he2⟩:=hEi
 rw [Array.all_eq_true_iff_forall_mem] at he1
 have hAft:AfterAll R T n w o.after.toList:=afterAll_of _ fun e he hb => by
  have hm:e ∈ o.after:=by simpa using he
  have h1:=he1 e hm
  simp only [hb,Bool.not_true,Bool.false_or] at h1
  exact hp e.on (by have:=hB.back i o e ho hm hb;omega) h1
 have h0:=h T w n hC hn hAft
 unfold Region.wanted
 cases hg:o.guard with
 | none =>
   simp only [hg] at h0
   rw [hA T]
   exact h0
 | some gw =>
   obtain ⟨g,want⟩:=gw
   simp only [hg] at h0 he2
   obtain ⟨hbg,hgs⟩:=hB.guard i o g want ho hg
   obtain ⟨og,hog⟩:∃ og,ops[g]?=some og:=⟨ops[g],Array.getElem?_eq_getElem hgs⟩
   simp only [hog,Option.bind_some] at he2
   obtain ⟨d,hd⟩:=Option.isSome_iff_exists.1 he2
   have hgi:g < i:=by
    have:∀ k, ∀ (i:Nat) (o:Oper),i < k→ops[i]?=some o→∀ p,p < ops.size→bef ops i p=true→p < i:=by
     intro k
     induction k with
     | zero => intro i o hk;omega
     | succ k ih =>
       intro i o hk hio p hps hb
       obtain ⟨e,he,hbi,hor⟩:=hB.clos i p o hio hps hb
       have h5:=hB.back i o e hio he hbi
       rcases hor with rfl | hor
       ·exact h5
       ·obtain ⟨o',ho'⟩:∃ o',ops[e.on]?=some o':=⟨ops[e.on]'(by have:=(Array.getElem?_eq_some_iff.1 hio).1;omega),Array.getElem?_eq_getElem _⟩
        have:=ih e.on o' (by omega) ho' p hps hor
        omega
    exact this (i + 1) i o (by omega) ho g hgs hbg
   have hts:d < a0.tmps.size:=hB.size g og d hog hd
   have hget:(setAll (ops.toList.take N) 0 T a0).tmps[d]?=some (T g):=by
    rw [setAll_get T d _ 0 a0 hts]
    cases hw:lastW d (ops.toList.take N) 0 with
    | some j =>
      obtain ⟨_,o',ho',hd'⟩:=lastW_some _ _ hw
      simp only [Nat.sub_zero,List.getElem?_take] at ho'
      split at ho'
      ·have hj:ops[j]?=some o':=by simpa using ho'
       have:=hB.uniq j g o' og d hj hog hd' hd
       simp [this]
      ·cases ho'
    | none =>
      exfalso
      exact lastW_none _ _ hw g og (by rw [List.getElem?_take,if_pos (by omega)];simpa using hog) hd
   have hy:yielded ops (setAll (ops.toList.take N) 0 T a0).tmps g=match T g with | .bool b => some b | _ => none:=by
    unfold yielded
    simp only [hog,Option.bind_some,hd,hget]
    cases T g <;> rfl
   simp only [hy]
   by_cases hT:T g=.bool want
   ·simp only [hT]
    simp only [beq_self_eq_true,if_true]
    rw [hA T]
    exact h0.1 hT
   ·have hf:((match T g with | .bool b => some b | _ => none) == some want)=false:=by
     cases hv:T g <;> simp
     intro e
     exact hT (by rw [hv,e])
    simp only [hf]
    exact h0.2 hT
end
theorem wp_region_lim {P:Program} {Q:Exit→Act→World→Prop} {id:Nat} {l:List Oper} {a0:Act} {w:World} (N total:Nat) (R:Nat→Value→Nat→World→Prop) (C:Nat→World→Prop) (S:Nat→World→Nat→World→Prop) (cost lim:Nat→Nat)
  (hm:P.follows .mixedOrders=true) (hB:(invB l.toArray N a0.tmps.size && edgeB l.toArray)=true) (htot:sumCost cost (Array.replicate l.toArray.size true) l.toArray.size≤total) (hlm:limB l.toArray N total cost lim=true)
  (hS:∀ p v n w n' w',R p v n w→S n w n' w'→R p v n' w') (hC:C 0 w.drew)
  (h:∃ A:(Nat→Value)→Act,(∀ T,setAll (l.take N) 0 T a0=A T)∧ObAll P A R C S cost lim (l.take N) 0 ∧
   ∀ T w',(∃ n,n≤total∧C n w'∧∀ p,p < N→R p (T p) n w')→wpList P l.toArray Q (l.drop N) (A T) w') :
  (Code.region id l.toArray true).wp P Q a0 w:=by
 obtain ⟨A,hA,hob,hend⟩:=h
 simp only [Bool.and_eq_true] at hB
 refine wp_region_any hm ?_
 have key:=region_any (P:=P) (Q:=Q) (ops:=l.toArray) (a0:=a0) (R:=R) (C:=C) (S:=S) (cost:=cost) (lim:=lim) (total:=total) (invB_spec hB.1) hS htot (limB_spec hlm)
  (fun i o ho hi => ob_of (invB_spec hB.1) hB.2 ho hi (fun T => by simpa using hA T) (by
   have:=ObAll.get _ _ hob i o (by rw [List.getElem?_take,if_pos hi];simpa using ho)
   simpa using this))
  (fun T w' hc => by
   have:=hend T w' hc
   rw [← hA T] at this
   simpa using this)
  l.toArray.size (Array.replicate l.toArray.size false) a0 w.drew (by simp)
 have h0:∀ j,(Array.replicate l.toArray.size false).getD j false=false:=fun j => getD_replicate_false _ _
 have hz:∀ (c:Nat→Nat) k,sumCost c (Array.replicate l.toArray.size false) k=0:=by
  intro c k
  induction k with
  | zero => rfl
  | succ k ih => simp only [sumCost,ih,h0];rfl
 have hF:Fits l.toArray a0 (Array.replicate l.toArray.size false) (fun _ => undef) a0:=by
  refine ⟨rfl,rfl,?_,fun t _ => rfl⟩
  intro j o d _ hl
  rw [h0] at hl
  cases hl
 refine key (by simp only [cnt,hz];omega) ?_ (.inl ⟨fun _ => undef,fun j _ => h0 j,hF,by rw [hz];exact hC,?_⟩)
 ·intro j _ hl
  rw [h0] at hl
  cases hl
 ·intro j _ hl
  rw [h0] at hl
  cases hl
end Go.Proofs.YteldaicgaeooiaaGreatDoor.Lm
namespace Go.Proofs.YteldaicgaeooiaaGreatDoor.Lt
open Go Go.Proofs.YteldaicgaeooiaaGreatDoor
section
variable {P:Program} {ops:Array Oper} {Q:Exit→Act→World→Prop} {N total:Nat} {a0:Act}
variable {R:Nat→Value→Nat→World→Prop} {C:(Nat→Value)→Nat→World→Prop} {S:Nat→World→Nat→World→Prop} {cost lim:Nat→Nat}
def msk (ops:Array Oper) (i:Nat):Array Bool:=(Array.range ops.size).map fun j => j == i || bef ops j i
theorem msk_get (ops:Array Oper) (i j:Nat) (hj:j < ops.size):(msk ops i).getD j false=(j == i || bef ops j i):=by
 simp [msk,Array.getD,hj]
def limB (ops:Array Oper) (N total:Nat) (cost lim:Nat→Nat):Bool:=(List.range N).all fun i => decide (total≤lim i + sumCost cost (msk ops i) ops.size)
theorem limB_spec {ops:Array Oper} {N total:Nat} {cost lim:Nat→Nat} (h:limB ops N total cost lim=true):∀ i,i < N→total≤lim i + sumCost cost (msk ops i) ops.size:=by
 simpa [limB] using h
theorem sumCost_disj {cost:Nat→Nat} {listed mask:Array Bool}:∀ k,(∀ j,j < k→listed.getD j false=true→mask.getD j false=false)→sumCost cost listed k + sumCost cost mask k≤sumCost cost (Array.replicate k true) k
 | 0,_ => by simp [sumCost]
 | k + 1,h => by
   have ih:=sumCost_disj (cost:=cost) (listed:=listed) (mask:=mask) k fun j hj => h j (by omega)
   have hk:=h k (by omega)
   have hfull:∀ m,m≤k→sumCost cost (Array.replicate (k + 1) true) m=sumCost cost (Array.replicate k true) m:=by
    intro m
    induction m with
    | zero => intro _;rfl
    | succ m ihm =>
      intro hm
      simp only [sumCost,ihm (by omega)]
      simp [Array.getD,show m < k by omega,show m < k + 1 by omega]
   simp only [sumCost,hfull k (Nat.le_refl _)]
   have h1:(Array.replicate (k + 1) true).getD k false=true:=by simp [Array.getD]
   simp only [h1,if_true]
   cases hl:listed.getD k false
   ·simp only [Bool.false_eq_true,if_false]
    cases hm:mask.getD k false <;> simp <;> omega
   ·simp only [hk hl,if_true,Bool.false_eq_true,if_false]
    omega
def on (T:Nat→Value) (i:Nat) (v:Value):Nat→Value:=fun j => if j=i then v else T j
def Ob (P:Program) (ops:Array Oper) (a0:Act) (R:Nat→Value→Nat→World→Prop) (C:(Nat→Value)→Nat→World→Prop) (S:Nat→World→Nat→World→Prop) (cost lim:Nat→Nat) (N:Nat) (i:Nat) (o:Oper):Prop :=
 ∀ (T:Nat→Value) (w:World) (n:Nat),T i=undef→C T n w→n≤lim i→(∀ p,p < ops.size→bef ops i p=true→R p (T p) n w) →
  if Region.wanted o (yielded ops (setAll (ops.toList.take N) 0 T a0).tmps) then
   Op1 P o (setAll (ops.toList.take N) 0 T a0).eval w fun v w' => R i v (n + cost i) w'∧C (on T i v) (n + cost i) w'∧S n w (n + cost i) w'
  else R i undef (n + cost i) w∧C (on T i undef) (n + cost i) w∧S n w (n + cost i) w
theorem region_any (hB:InvB ops N a0.tmps.size) (hS:∀ p v n w n' w',R p v n w→S n w n' w'→R p v n' w')
  (htot:sumCost cost (Array.replicate ops.size true) ops.size≤total) (hlm:∀ i,i < N→total≤lim i + sumCost cost (msk ops i) ops.size)
  (hob:∀ (i:Nat) (o:Oper),ops[i]?=some o→i < N→Ob P ops a0 R C S cost lim N i o)
  (hend:∀ T w,(∃ n,n≤total∧C T n w∧∀ p,p < N→R p (T p) n w)→wpList P ops Q (ops.toList.drop N) (setAll (ops.toList.take N) 0 T a0) w) :
  ∀ (fuel:Nat) (listed:Array Bool) (a:Act) (w:World),listed.size=ops.size→fuel + cnt listed ops.size=ops.size →
   (∀ j,j < ops.size→listed.getD j false=true→∀ p,p < ops.size→bef ops j p=true→listed.getD p false=true) →
   ((∃ T,((∀ j,N≤j→listed.getD j false=false)∧∀ j,listed.getD j false=false→T j=undef)∧Fits ops a0 listed T a∧C T (sumCost cost listed ops.size) w∧∀ j,j < ops.size→listed.getD j false=true→R j (T j) (sumCost cost listed ops.size) w) ∨
    (∃ k,N≤k∧k≤ops.size∧(∀ j,j < ops.size→(listed.getD j false=true ↔ j < k))∧wpList P ops Q (ops.toList.drop k) a w)) →
   wpAny P .any ops Q fuel listed a w:=by
 -- the whole head is there: the two frames are one
 have whole:∀ (listed:Array Bool) (T:Nat→Value) (a:Act),(∀ j,N≤j→listed.getD j false=false)→(∀ j,j < N→listed.getD j false=true)→Fits ops a0 listed T a→a=setAll (ops.toList.take N) 0 T a0:=by
  intro listed T a ht hh hF
  have h1:a.defers=(setAll (ops.toList.take N) 0 T a0).defers:=by rw [setAll_defers,hF.defers]
  have h2:a.tmps=(setAll (ops.toList.take N) 0 T a0).tmps:=by
   refine Array.ext_getElem? fun t => ?_
   rcases Nat.lt_or_ge t a0.tmps.size with hts | hts
   ·rw [setAll_get T t _ 0 a0 hts]
    cases hw:lastW t (ops.toList.take N) 0 with
    | some j =>
      obtain ⟨_,o',ho',hd⟩:=lastW_some _ _ hw
      simp only [Nat.sub_zero,List.getElem?_take] at ho'
      split at ho'
      ·rename_i hjN
       exact hF.set j o' t (by simpa using ho') (hh j hjN) hd
      ·cases ho'
    | none =>
      refine hF.rest t fun j o' hj hlj hd => ?_
      have hjN:j < N:=by
       rcases Nat.lt_or_ge j N with h | h
       ·exact h
       ·rw [ht j h] at hlj;cases hlj
      exact lastW_none _ _ hw j o' (by rw [List.getElem?_take,if_pos hjN];simpa using hj) hd
   ·rw [Array.getElem?_eq_none (by rw [hF.size];exact hts),Array.getElem?_eq_none (by rw [setAll_size];exact hts)]
  cases a;cases hb:setAll (ops.toList.take N) 0 T a0;simp_all
 -- nothing ready: all is listed
 have allListed:∀ (listed:Array Bool),listed.size=ops.size→Region.ready .any ops listed=[]→∀ j,j < ops.size→listed.getD j false=true:=by
  intro listed hsz hr j
  induction j using Nat.strongRecOn with
  | _ j ih =>
    intro hj
    cases hlj:listed.getD j false with
    | true => rfl
    | false =>
      exfalso
      obtain ⟨o,ho⟩:∃ o,ops[j]?=some o:=⟨ops[j],Array.getElem?_eq_getElem hj⟩
      have:j ∈ Region.ready .any ops listed:=mem_ready.2 ⟨by simpa [Array.getD,hsz,hj] using hlj,o,ho,fun e he hb => ih e.on (hB.back j o e ho he hb) (by have:=hB.back j o e ho he hb;omega)⟩
      rw [hr] at this;cases this
 -- the end
 have fin:∀ (listed:Array Bool) (a:Act) (w:World),(∀ j,j < ops.size→listed.getD j false=true) →
   ((∃ T,((∀ j,N≤j→listed.getD j false=false)∧∀ j,listed.getD j false=false→T j=undef)∧Fits ops a0 listed T a∧C T (sumCost cost listed ops.size) w∧∀ j,j < ops.size→listed.getD j false=true→R j (T j) (sumCost cost listed ops.size) w) ∨
    (∃ k,N≤k∧k≤ops.size∧(∀ j,j < ops.size→(listed.getD j false=true ↔ j < k))∧wpList P ops Q (ops.toList.drop k) a w))→Q .normal a w:=by
  intro listed a w hall h
  rcases h with ⟨T,ht,hF,hC,hR⟩ | ⟨k,hk1,hk2,hk3,hk4⟩
  ·have hN:N=ops.size:=by
    rcases Nat.lt_or_ge N ops.size with h | h
    ·have h1:=ht.1 N (Nat.le_refl _)
     rw [hall N h] at h1;cases h1
    ·have:=hB.le;omega
   have ha:=whole listed T a ht.1 (fun j hj => hall j (by omega)) hF
   have:=hend T w ⟨_,Nat.le_trans (sumCost_le _) htot,hC,fun p hp => hR p (by omega) (hall p (by omega))⟩
   rw [← ha,List.drop_eq_nil_of_le (by simp;omega)] at this
   exact this
  ·have:k=ops.size:=by
    rcases Nat.lt_or_ge k ops.size with h | h
    ·have:=(hk3 k h).1 (hall k h);omega
    ·omega
   rw [List.drop_eq_nil_of_le (by simp;omega)] at hk4
   exact hk4
 intro fuel
 induction fuel with
 | zero =>
   intro listed a w hsz hf hd h
   have hall:=cnt_full ops.size (by omega:cnt listed ops.size=ops.size)
   refine ⟨?_,fin listed a w hall h⟩
   refine List.eq_nil_iff_forall_not_mem.2 fun i hi => ?_
   obtain ⟨h1,o,ho,_⟩:=mem_ready.1 hi
   have:=hall i (Array.getElem?_eq_some_iff.1 ho).1
   rw [(getD_false h1).2] at this;cases this
 | succ fuel ih =>
   intro listed a w hsz hf hd h
   refine ⟨fun hr => fin listed a w (allListed listed hsz hr) h,fun i hi => ?_⟩
   obtain ⟨h1,o,ho,hafter⟩:=mem_ready.1 hi
   have hilt:i < ops.size:=(Array.getElem?_eq_some_iff.1 ho).1
   have hset:∀ j,(listed.setIfInBounds i true).getD j false=true ↔ (j=i ∨ listed.getD j false=true):=fun j => by
    by_cases hj:i=j
    ·subst hj;simp [Array.getD,hsz,hilt]
    ·rw [getD_set_ne false hj];simp [Ne.symm hj]
   have hbef:∀ p,p < ops.size→bef ops i p=true→listed.getD p false=true:=fun p hp hb => by
    obtain ⟨e,he,hbi,hor⟩:=hB.clos i p o ho hp hb
    have h2:=hafter e he hbi
    rcases hor with rfl | hor
    ·exact h2
    ·exact hd e.on (by have:=hB.back i o e ho he hbi;omega) h2 p hp hor
   have hsz':(listed.setIfInBounds i true).size=ops.size:=by simpa using hsz
   have hf':fuel + cnt (listed.setIfInBounds i true) ops.size=ops.size:=by
    have:=sumCost_set (cost:=fun _ => 1) h1 ops.size
    simp only [cnt,hilt,if_true] at this hf ⊢
    omega
   have hd':∀ j,j < ops.size→(listed.setIfInBounds i true).getD j false=true→∀ p,p < ops.size→bef ops j p=true→(listed.setIfInBounds i true).getD p false=true:=by
    intro j hj hl p hp hb
    rcases (hset j).1 hl with rfl | hl'
    ·exact (hset p).2 (.inr (hbef p hp hb))
    ·exact (hset p).2 (.inr (hd j hj hl' p hp hb))
   rcases h with ⟨T,ht,hF,hC,hR⟩ | ⟨k,hk1,hk2,hk3,hk4⟩
   ·rcases Nat.lt_or_ge i N with hiN | hiN
    ·-- a step of the head
     have hpN:∀ p,bef ops i p=true→p < ops.size→listed.getD p false=true∧p < N:=fun p hb hp => by
      have:=hbef p hp hb
      refine ⟨this,?_⟩
      rcases Nat.lt_or_ge p N with h | h
      ·exact h
      ·rw [ht.1 p h] at this;cases this
     have hag:=hF.agree hB ht.1 ho hpN
     have hsum:=sumCost_set (cost:=cost) h1 ops.size
     simp only [hilt,if_true] at hsum
     have hlim:sumCost cost listed ops.size≤lim i:=by
      have h5:=sumCost_disj (cost:=cost) (listed:=listed) (mask:=msk ops i) ops.size fun j hj hl => by
       rw [msk_get ops i j hj]
       cases hji:j == i
       ·cases hbf:bef ops j i
        ·rfl
        ·have:=hd j hj hl i hilt hbf
         rw [(getD_false h1).2] at this;cases this
       ·obtain rfl:j=i:=by simpa using hji
        rw [(getD_false h1).2] at hl;cases hl
      have h6:=hlm i hiN
      omega
     have hO:=hob i o ho hiN T w _ (ht.2 i (getD_false h1).2) hC hlim fun p hp hb => hR p hp (hbef p hp hb)
     have next:∀ v w',R i v (sumCost cost listed ops.size + cost i) w'∧C (on T i v) (sumCost cost listed ops.size + cost i) w'∧S (sumCost cost listed ops.size) w (sumCost cost listed ops.size + cost i) w'→wpAny P .any ops Q fuel (listed.setIfInBounds i true) (a.put o.dst v) w':=fun v w' ⟨q1,q2,q3⟩ =>
      ih _ _ _ hsz' hf' hd' (.inl ⟨fun j => if j=i then v else T j,⟨fun j hj => by
        rw [getD_set_ne false (by omega)];exact ht.1 j hj,fun j hj => by
        by_cases hji:j=i
        ·subst hji
         have:=(hset j).2 (.inl rfl)
         rw [hj] at this;cases this
        ·simp only [hji,if_false]
         exact ht.2 j ((getD_set_ne false (fun e => hji e.symm)).symm.trans hj)⟩,hF.put hB ho h1 v,by rw [hsum];exact q2,fun j hj hl => by
        by_cases hji:j=i
        ·subst hji;rw [hsum];simpa using q1
        ·simp only [hji,if_false]
         rw [hsum];exact hS j _ _ _ _ _ (hR j hj (((hset j).1 hl).resolve_left hji)) q3⟩)
     unfold wpOp
     simp only [ho]
     rw [wanted_of_get (a:=a) (b:=setAll (ops.toList.take N) 0 T a0) o hag]
     split
     ·rename_i hw
      rw [if_pos hw] at hO
      refine .inl (Op1.wp (post:=fun v w' => R i v (sumCost cost listed ops.size + cost i) w'∧C (on T i v) (sumCost cost listed ops.size + cost i) w'∧S (sumCost cost listed ops.size) w (sumCost cost listed ops.size + cost i) w') ?_ next)
      unfold Op1 at hO ⊢
      rw [execOp_congr o (Region.noSelect_spec hB.sel i o · · ho) (eval_of_get o hag)]
      exact hO
     ·rename_i hw
      rw [if_neg hw] at hO
      exact next undef w hO
    ·-- the tail begins
     have hall:∀ j,j < i→listed.getD j false=true:=fun j hj => hbef j (by omega) (hB.tail i j hiN hilt hj)
     have hiN':i=N:=by
      rcases Nat.lt_or_ge N i with h | h
      ·have h2:=ht.1 N (Nat.le_refl _)
       rw [hall N h] at h2;cases h2
      ·omega
     subst hiN'
     have ha:=whole listed T a ht.1 hall hF
     have hw:=hend T w ⟨_,Nat.le_trans (sumCost_le _) htot,hC,fun p hp => hR p (by omega) (hall p hp)⟩
     rw [← ha] at hw
     have hdr:ops.toList.drop i=o :: ops.toList.drop (i + 1):=by
      rw [List.drop_eq_getElem_cons (by simpa using hilt)]
      congr 1
      have:=(Array.getElem?_eq_some_iff.1 ho).2
      simpa using this
     rw [hdr] at hw
     have hwop:wpOp P ops Q i (wpList P ops Q (ops.toList.drop (i + 1))) a w:=by unfold wpOp;simp only [ho];exact hw
     refine wpOp_mono (fun a' w' h' => ih _ _ _ hsz' hf' hd' (.inr ⟨i + 1,by omega,by omega,fun j hj => ?_,h'⟩)) hwop
     rw [hset j]
     constructor
     ·rintro (rfl | hl)
      ·omega
      ·rcases Nat.lt_or_ge j i with h | h
       ·omega
       ·rw [ht.1 j h] at hl;cases hl
     ·intro hj'
      by_cases hji:j=i
      ·exact .inl hji
      ·exact .inr (hall j (by omega))
   ·-- a step of the tail
    have hik:i=k:=by
     have hnl:=(getD_false h1).2
     have h2:¬ i < k:=fun hlt => by rw [(hk3 i hilt).2 hlt] at hnl;cases hnl
     rcases Nat.lt_or_ge k i with h | h
     ·have h3:=hbef k (by omega) (hB.tail i k (by omega) hilt h)
      have:=(hk3 k (by omega)).1 h3;omega
     ·omega
    subst hik
    have hdr:ops.toList.drop i=o :: ops.toList.drop (i + 1):=by
     rw [List.drop_eq_getElem_cons (by simpa using hilt)]
     congr 1
     have:=(Array.getElem?_eq_some_iff.1 ho).2
     simpa using this
    rw [hdr] at hk4
    have hwop:wpOp P ops Q i (wpList P ops Q (ops.toList.drop (i + 1))) a w:=by unfold wpOp;simp only [ho];exact hk4
    refine wpOp_mono (fun a' w' h' => ih _ _ _ hsz' hf' hd' (.inr ⟨i + 1,by omega,by omega,fun j hj => ?_,h'⟩)) hwop
    rw [hset j,hk3 j hj]
    omega
def AfterAll (R:Nat→Value→Nat→World→Prop) (T:Nat→Value) (n:Nat) (w:World):List Edge→Prop
 | [] => True
 | e :: l => match Region.binds .any e with
  | true => R e.on (T e.on) n w∧AfterAll R T n w l
  | false => AfterAll R T n w l
theorem afterAll_of {R:Nat→Value→Nat→World→Prop} {T:Nat→Value} {n:Nat} {w:World}:∀ (l:List Edge),(∀ e ∈ l,Region.binds .any e=true→R e.on (T e.on) n w)→AfterAll R T n w l
 | [],_ => trivial
 | e :: l,h => by
   have ih:=afterAll_of l fun e' he' => h e' (List.mem_cons_of_mem _ he')
   unfold AfterAll
   cases hb:Region.binds .any e with
   | true => exact ⟨h e (List.mem_cons_self ..) hb,ih⟩
   | false => exact ih
def Ob' (P:Program) (A:(Nat→Value)→Act) (R:Nat→Value→Nat→World→Prop) (C:(Nat→Value)→Nat→World→Prop) (S:Nat→World→Nat→World→Prop) (cost lim:Nat→Nat) (i:Nat) (o:Oper):Prop :=
 ∀ (T:Nat→Value) (w:World) (n:Nat),T i=undef→C T n w→n≤lim i→AfterAll R T n w o.after.toList →
  match o.guard with
  | none => Op1 P o (A T).eval w fun v w' => R i v (n + cost i) w'∧C (on T i v) (n + cost i) w'∧S n w (n + cost i) w'
  | some (g,want) => (T g=.bool want→Op1 P o (A T).eval w fun v w' => R i v (n + cost i) w'∧C (on T i v) (n + cost i) w'∧S n w (n + cost i) w') ∧
    (T g ≠ .bool want→R i undef (n + cost i) w∧C (on T i undef) (n + cost i) w∧S n w (n + cost i) w)
def ObAll (P:Program) (A:(Nat→Value)→Act) (R:Nat→Value→Nat→World→Prop) (C:(Nat→Value)→Nat→World→Prop) (S:Nat→World→Nat→World→Prop) (cost lim:Nat→Nat):List Oper→Nat→Prop
 | [],_ => True
 | o :: l,k => Ob' P A R C S cost lim k o∧ObAll P A R C S cost lim l (k + 1)
theorem ObAll.get {A:(Nat→Value)→Act}:∀ (l:List Oper) (k:Nat),ObAll P A R C S cost lim l k→∀ (i:Nat) (o:Oper),l[i]?=some o→Ob' P A R C S cost lim (k + i) o
 | [],_,_,i,o,ho => by simp at ho
 | o' :: l,k,h,i,o,ho => by
   cases i with
   | zero => simp at ho;subst ho;exact h.1
   | succ i =>
     have:=ObAll.get l (k + 1) h.2 i o (by simpa using ho)
     rwa [show k + (i + 1)=k + 1 + i by omega]
theorem ob_of {A:(Nat→Value)→Act} (hB:InvB ops N a0.tmps.size) (hE:edgeB ops=true) {i:Nat} {o:Oper} (ho:ops[i]?=some o) (hi:i < N) (hA:∀ T,setAll (ops.toList.take N) 0 T a0=A T) (h:Ob' P A R C S cost lim i o):Ob P ops a0 R C S cost lim N i o:=by
 intro T w n hU hC hn hp
 have hlt:=(Array.getElem?_eq_some_iff.1 ho).1
 have hE':=hE
 simp only [edgeB,List.all_eq_true,List.mem_range] at hE'
 have hEi:=hE' i hlt
 simp only [ho,Bool.and_eq_true] at hEi
 obtain ⟨he1,he2⟩:=hEi
 rw [Array.all_eq_true_iff_forall_mem] at he1
 have hAft:AfterAll R T n w o.after.toList:=afterAll_of _ fun e he hb => by
  have hm:e ∈ o.after:=by simpa using he
  have h1:=he1 e hm
  simp only [hb,Bool.not_true,Bool.false_or] at h1
  exact hp e.on (by have:=hB.back i o e ho hm hb;omega) h1
 have h0:=h T w n hU hC hn hAft
 unfold Region.wanted
 cases hg:o.guard with
 | none =>
   simp only [hg] at h0
   rw [hA T]
   exact h0
 | some gw =>
   obtain ⟨g,want⟩:=gw
   simp only [hg] at h0 he2
   obtain ⟨hbg,hgs⟩:=hB.guard i o g want ho hg
   obtain ⟨og,hog⟩:∃ og,ops[g]?=some og:=⟨ops[g],Array.getElem?_eq_getElem hgs⟩
   simp only [hog,Option.bind_some] at he2
   obtain ⟨d,hd⟩:=Option.isSome_iff_exists.1 he2
   have hgi:g < i:=by
    have:∀ k, ∀ (i:Nat) (o:Oper),i < k→ops[i]?=some o→∀ p,p < ops.size→bef ops i p=true→p < i:=by
     intro k
     induction k with
     | zero => intro i o hk;omega
     | succ k ih =>
       intro i o hk hio p hps hb
       obtain ⟨e,he,hbi,hor⟩:=hB.clos i p o hio hps hb
       have h5:=hB.back i o e hio he hbi
       rcases hor with rfl | hor
       ·exact h5
       ·obtain ⟨o',ho'⟩:∃ o',ops[e.on]?=some o':=⟨ops[e.on]'(by have:=(Array.getElem?_eq_some_iff.1 hio).1;omega),Array.getElem?_eq_getElem _⟩
        have:=ih e.on o' (by omega) ho' p hps hor
        omega
    exact this (i + 1) i o (by omega) ho g hgs hbg
   have hts:d < a0.tmps.size:=hB.size g og d hog hd
   have hget:(setAll (ops.toList.take N) 0 T a0).tmps[d]?=some (T g):=by
    rw [setAll_get T d _ 0 a0 hts]
    cases hw:lastW d (ops.toList.take N) 0 with
    | some j =>
      obtain ⟨_,o',ho',hd'⟩:=lastW_some _ _ hw
      simp only [Nat.sub_zero,List.getElem?_take] at ho'
      split at ho'
      ·have hj:ops[j]?=some o':=by simpa using ho'
       have:=hB.uniq j g o' og d hj hog hd' hd
       simp [this]
      ·cases ho'
    | none =>
      exfalso
      exact lastW_none _ _ hw g og (by rw [List.getElem?_take,if_pos (by omega)];simpa using hog) hd
   have hy:yielded ops (setAll (ops.toList.take N) 0 T a0).tmps g=match T g with | .bool b => some b | _ => none:=by
    unfold yielded
    simp only [hog,Option.bind_some,hd,hget]
    cases T g <;> rfl
   simp only [hy]
   by_cases hT:T g=.bool want
   ·simp only [hT]
    simp only [beq_self_eq_true,if_true]
    rw [hA T]
    exact h0.1 hT
   ·have hf:((match T g with | .bool b => some b | _ => none) == some want)=false:=by
     cases hv:T g <;> simp
     intro e
     exact hT (by rw [hv,e])
    simp only [hf]
    exact h0.2 hT
end
theorem wp_region_lim {P:Program} {Q:Exit→Act→World→Prop} {id:Nat} {l:List Oper} {a0:Act} {w:World} (N total:Nat) (R:Nat→Value→Nat→World→Prop) (C:(Nat→Value)→Nat→World→Prop) (S:Nat→World→Nat→World→Prop) (cost lim:Nat→Nat)
  (hm:P.follows .mixedOrders=true) (hB:(invB l.toArray N a0.tmps.size && edgeB l.toArray)=true) (htot:sumCost cost (Array.replicate l.toArray.size true) l.toArray.size≤total) (hlm:limB l.toArray N total cost lim=true)
  (hS:∀ p v n w n' w',R p v n w→S n w n' w'→R p v n' w') (hC:∀ T,C T 0 w.drew)
  (h:∃ A:(Nat→Value)→Act,(∀ T,setAll (l.take N) 0 T a0=A T)∧ObAll P A R C S cost lim (l.take N) 0 ∧
   ∀ T w',(∃ n,n≤total∧C T n w'∧∀ p,p < N→R p (T p) n w')→wpList P l.toArray Q (l.drop N) (A T) w') :
  (Code.region id l.toArray true).wp P Q a0 w:=by
 obtain ⟨A,hA,hob,hend⟩:=h
 simp only [Bool.and_eq_true] at hB
 refine wp_region_any hm ?_
 have key:=region_any (P:=P) (Q:=Q) (ops:=l.toArray) (a0:=a0) (R:=R) (C:=C) (S:=S) (cost:=cost) (lim:=lim) (total:=total) (invB_spec hB.1) hS htot (limB_spec hlm)
  (fun i o ho hi => ob_of (invB_spec hB.1) hB.2 ho hi (fun T => by simpa using hA T) (by
   have:=ObAll.get _ _ hob i o (by rw [List.getElem?_take,if_pos hi];simpa using ho)
   simpa using this))
  (fun T w' hc => by
   have:=hend T w' hc
   rw [← hA T] at this
   simpa using this)
  l.toArray.size (Array.replicate l.toArray.size false) a0 w.drew (by simp)
 have h0:∀ j,(Array.replicate l.toArray.size false).getD j false=false:=fun j => getD_replicate_false _ _
 have hz:∀ (c:Nat→Nat) k,sumCost c (Array.replicate l.toArray.size false) k=0:=by
  intro c k
  induction k with
  | zero => rfl
  | succ k ih => simp only [sumCost,ih,h0];rfl
 have hF:Fits l.toArray a0 (Array.replicate l.toArray.size false) (fun _ => undef) a0:=by
  refine ⟨rfl,rfl,?_,fun t _ => rfl⟩
  intro j o d _ hl
  rw [h0] at hl
  cases hl
 refine key (by simp only [cnt,hz];omega) ?_ (.inl ⟨fun _ => undef,⟨fun j _ => h0 j,fun _ _ => rfl⟩,hF,by rw [hz];exact hC _,?_⟩)
 ·intro j _ hl
  rw [h0] at hl
  cases hl
 ·intro j _ hl
  rw [h0] at hl
  cases hl
end Go.Proofs.YteldaicgaeooiaaGreatDoor.Lt
namespace Go.Proofs.YteldaicgaeooiaaGreatDoor
open Go.RowKit Go
theorem wpList_buildv {P:Program} {ops:Array Oper} {rest:List Oper} {o:Oper} {a:Act} {w:World} {Q:Exit→Act→World→Prop} (hg:o.guard=none) (t:TypeId) (parts:Array (Nat × Operand)) (ho:o.op=.build t parts)
  (q:Array (Nat × Value)) (hq:(parts.map fun (i,x) => (i,a.eval x))=q) (v:Value) (hr:∀ w,(Instr.build t q).run P w=.ok v w) (h:wpList P ops Q rest (a.put o.dst v) w):wpList P ops Q (o :: rest) a w:=by
 subst hq
 refine wpList_plain hg fun K hK => ?_
 unfold Oper.wp execOp
 simp only [ho,Sem.run_bind,hr w,Result.andThen_ok,Sem.run_pure]
 exact hK _ _ h
structure GapQ (S:List Sp) (six done:Bool) (k y:Nat) (D:List Sp):Prop where
 st:∃ x,GapSt S six (!done) k x D∧(done=false→y=x)
 lt:y < 65536 ^ 9
theorem gapQ_zero {S:List Sp} (hv:∀ p ∈ S,VR p) (six:Bool):GapQ S six false 0 (loF six) [] :=
 ⟨⟨_,gapSt_zero hv six,fun _ => rfl⟩,(lo_vn six).1.lt10.1⟩
theorem GapQ.skip {S:List Sp} {six done:Bool} {k y:Nat} {D:List Sp} (h:GapQ S six done k y D) {r:Sp} (hr:S[k]?=some r) (hs:sixN r.1 ≠ six):GapQ S six done (k + 1) y D:=by
 obtain ⟨x,h1,h2⟩:=h.st
 exact ⟨⟨x,h1.skip hr hs,h2⟩,h.lt⟩
theorem GapQ.off {S:List Sp} {six:Bool} {k y:Nat} {D:List Sp} (h:GapQ S six true k y D) {r:Sp} (hr:S[k]?=some r):sixN r.1 ≠ six:=fun hs => by
 obtain ⟨x,h1,_⟩:=h.st
 have e:=fam_drop hr six
 rw [if_pos hs,h1.no rfl] at e
 cases e
theorem GapQ.hit {S:List Sp} (hc:Can S) (hv:∀ p ∈ S,VR p) {six:Bool} {k y:Nat} {D:List Sp} (h:GapQ S six false k y D) {r:Sp} (hr:S[k]?=some r) (hs:sixN r.1=six) :
  VN y∧(y < r.1→0 < r.1)∧GapQ S six (decide (r.2=topF six)) (k + 1) (r.2 + 1) (D ++ if y < r.1 then [(y,r.1 - 1)] else []):=by
 obtain ⟨x,h1,h2⟩:=h.st
 obtain rfl:=h2 rfl
 have hrv:=hv r (List.mem_of_getElem? hr)
 obtain ⟨-, -,h3,h4⟩:=h1.hit hc hv hr hs
 have ht:=top_fam hrv.b (hrv.s.symm.trans hs)
 rw [ht] at h4
 refine ⟨h1.vx,fun hlt => by omega,⟨⟨_,h4,fun hd => ?_⟩,hrv.b.lt10.2⟩⟩
 rw [if_neg (of_decide_eq_false hd)]
theorem GapQ.done {S:List Sp} {six done:Bool} {k y:Nat} {D:List Sp} (h:GapQ S six done k y D) (hk:S.length≤k):D ++ (if done=true then [] else [(y,topF six)])=gapsOf six S:=by
 obtain ⟨x,h1,h2⟩:=h.st
 have:=h1.done hk
 cases done
 ·obtain rfl:=h2 rfl
  rw [top_fam h1.vx h1.sx] at this
  simpa using this
 ·simpa using this
theorem GapQ.len {S:List Sp} {six done:Bool} {k y:Nat} {D:List Sp} (h:GapQ S six done k y D):D.length≤S.length + 1:=by
 obtain ⟨x,h1,_⟩:=h.st
 exact h1.len
def gqC (w0:World) (T:Nat→Value) (n:Nat) (w:World):Prop :=
 Below w0.heap.size w0 w∧(n=0 ∨ (n=1∧∃ B,T 5=.pointer (some ⟨B,0,none⟩)∧B < w.heap.size) ∨ (n=2∧∃ B,T 6=.pointer (some ⟨B,0,none⟩)∧B < w.heap.size) ∨ (n=3∧∃ B B',T 5=.pointer (some ⟨B,0,none⟩)∧T 6=.pointer (some ⟨B',0,none⟩)∧B ≠ B'))
def gqS (n:Nat) (w:World) (n':Nat) (w':World):Prop:=Below w.heap.size w w'∧(n'=n ∨ n'=3 ∨ n=0)
theorem gqS.same {n:Nat} {w w':World} (h:Below w.heap.size w w'):gqS n w n w':=⟨h, .inl rfl⟩
theorem gqC.on {w0:World} {T:Nat→Value} {n:Nat} {w w':World} (h:gqC w0 T n w) (hb:Below w.heap.size w w') (i:Nat) (v:Value) (h5:5 ≠ i) (h6:6 ≠ i):gqC w0 (Lt.on T i v) n w':=by
 unfold gqC Lt.on
 rw [if_neg h5,if_neg h6]
 refine ⟨h.1.trans (hb.mono h.1.size),?_⟩
 rcases h.2 with e | ⟨e,B,e1,e2⟩ | ⟨e,B,e1,e2⟩ | e
 ·exact .inl e
 ·exact .inr (.inl ⟨e,B,e1,Nat.lt_of_lt_of_le e2 hb.size⟩)
 ·exact .inr (.inr (.inl ⟨e,B,e1,Nat.lt_of_lt_of_le e2 hb.size⟩))
 ·exact .inr (.inr (.inr e))
theorem gqC.five {w0:World} {T:Nat→Value} {n:Nat} {w:World} (h:gqC w0 T n w) (hn:n≤2) (hU:T 5=undef) (ob:Obj):gqC w0 (Lt.on T 5 (.pointer (some ⟨w.heap.size,0,none⟩))) (n + 1) (w.alloc ob)∧gqS n w (n + 1) (w.alloc ob)∧(n + 1=1 ∨ n + 1=3):=by
 have hb:Below w.heap.size w (w.alloc ob):=below_alloc (Below.refl _ _) _
 unfold gqC gqS Lt.on
 rw [if_pos rfl,if_neg (by decide)]
 rcases h.2 with rfl | ⟨rfl,B,e1,e2⟩ | ⟨rfl,B,e1,e2⟩ | ⟨rfl,e⟩
 ·exact ⟨⟨below_alloc h.1 _, .inr (.inl ⟨rfl,_,rfl,by rw [World.size_alloc];omega⟩)⟩,⟨hb, .inr (.inr rfl)⟩, .inl rfl⟩
 ·rw [hU] at e1;cases e1
 ·exact ⟨⟨below_alloc h.1 _, .inr (.inr (.inr ⟨rfl,_,B,rfl,e1,by omega⟩))⟩,⟨hb, .inr (.inl rfl)⟩, .inr rfl⟩
 ·omega
theorem gqC.six {w0:World} {T:Nat→Value} {n:Nat} {w:World} (h:gqC w0 T n w) (hn:n≤1) (hU:T 6=undef) (ob:Obj):gqC w0 (Lt.on T 6 (.pointer (some ⟨w.heap.size,0,none⟩))) (n + 2) (w.alloc ob)∧gqS n w (n + 2) (w.alloc ob)∧(n + 2=2 ∨ n + 2=3):=by
 have hb:Below w.heap.size w (w.alloc ob):=below_alloc (Below.refl _ _) _
 unfold gqC gqS Lt.on
 rw [if_neg (by decide),if_pos rfl]
 rcases h.2 with rfl | ⟨rfl,B,e1,e2⟩ | ⟨rfl,B,e1,e2⟩ | ⟨rfl,e⟩
 ·exact ⟨⟨below_alloc h.1 _, .inr (.inr (.inl ⟨rfl,_,rfl,by rw [World.size_alloc];omega⟩))⟩,⟨hb, .inr (.inr rfl)⟩, .inl rfl⟩
 ·exact ⟨⟨below_alloc h.1 _, .inr (.inr (.inr ⟨rfl,B,_,e1,rfl,by omega⟩))⟩,⟨hb, .inr (.inl rfl)⟩, .inr rfl⟩
 ·rw [hU] at e1;cases e1
 ·omega
def gqR (bp w0:Nat) (six:Bool) (LW TW:Array Value):Nat→Value→Nat→World→Prop
 | 0,v,_,_ => v=.pointer (some ⟨bp,0,none⟩)
 | 1,v,_,_ => v=.agg #[.bool six, .int .u64 0, .int .u64 0]
 | 2,v,_,_ => v=.agg LW
 | 3,v,_,_ => v=.agg #[.bool six, .int .u64 0, .int .u64 0, .int .i64 0]
 | 4,v,_,_ => v=.agg TW
 | 5,v,n,w => ∃ B,v=.pointer (some ⟨B,0,none⟩)∧w0≤B∧Blk w B 101 #[.int .i64 0, .int .i64 0, .int .i64 0, .int .i64 0, .int .i64 0, .int .i64 0, .int .i64 0, .int .i64 0, .int .i64 0]∧(n=1 ∨ n=3)
 | _,v,n,w => ∃ B,v=.pointer (some ⟨B,0,none⟩)∧w0≤B∧Blk w B 101 #[.int .i64 0, .int .i64 0, .int .i64 0, .int .i64 0, .int .i64 0, .int .i64 0, .int .i64 0, .int .i64 0, .int .i64 0]∧(n=2 ∨ n=3)
theorem gqR_keep {bp w0:Nat} {six:Bool} {LW TW:Array Value} (p:Nat) (v:Value) (n:Nat) (u:World) (m:Nat) (w:World) (h:gqR bp w0 six LW TW p v n u) (hb:gqS n u m w):gqR bp w0 six LW TW p v m w:=by
 obtain ⟨hb,hm⟩:=hb
 rcases p with _ | _ | _ | _ | _ | _ | p
 all_goals first | exact h | (obtain ⟨B,h1,h2,h3,h4⟩:=h;exact ⟨B,h1,h2,h3.below hb h3.lt,by omega⟩)
def gaR (bs:Nat) (out:Value) (P1 WX MW:Array Value):Nat→Value→World→Prop
 | 0,v,_ => v=out
 | 1,v,_ => v=.agg WX
 | 2,v,_ => v=.pointer (some ⟨bs,0,none⟩)
 | 3,v,_ => v=.agg P1
 | 4,v,_ => v=.agg MW
 | 5,v,_ => v=.agg (WX ++ MW)
 | _,v,w => ∃ B,v=.slice (some ⟨B,0,none⟩) 1 1∧Blk w B 156 (WX ++ MW)
theorem gaR_keep {bs:Nat} {out:Value} {P1 WX MW:Array Value} (p:Nat) (v:Value) (u w:World) (h:gaR bs out P1 WX MW p v u) (hb:Below u.heap.size u w):gaR bs out P1 WX MW p v w:=by
 rcases p with _ | _ | _ | _ | _ | _ | p
 all_goals first | exact h | (obtain ⟨B,h1,h2⟩:=h;exact ⟨B,h1,h2.below hb h2.lt⟩)
theorem gaps_any (ad:Option Addr) (n c:Nat) (S:List Sp) (w:World) (h:RdK layQs w ad S) (hn:S.length=n) (hs:n≤10000) (hc:Can S) (hv:∀ p ∈ S,VR p) :
  Calls Tryz.prog 138 #[.slice ad n c] w fun e w' => ∃ v,e=.returned v∧OwnK layQs w' w.heap.size v (gaps S)∧Below w.heap.size w w':=by
 have Hv:=Lib.hid hv
 have Hc:=Lib.hid hc
 have H0:=Lib.hid h
 have Hn:=Lib.hid hn
 clear h hn hv hc
 have HB0:Hid (Below w.heap.size w (w.alloc (.cells #[.bool false, .bool true] 4 (0,0)))):=Lib.hid (below_alloc (Below.refl _ _) _)
 have HW0:Hid (Blk (w.alloc (.cells #[.bool false, .bool true] 4 (0,0))) w.heap.size 4 #[.bool false, .bool true]):=Lib.hid (Blk.new w _ _)
 go_enter Tryz.func138,Tryz.ntmps138
 go_upto_block 0 with fail
 generalize (w.alloc (.cells #[.bool false, .bool true] 4 (0,0)))=w1 at *
 generalize hbb:w.heap.size=bb at *
 have Hbb:=Lib.hid hbb
 clear hbb
 have HS1:Hid (RdK layQs w1 ad S):=Lib.hid (H0.out.below (by rw [Hbb.out];exact HB0.out))
 clear H0
 go_wp2_with fail
 go_loopw [3,5,6,7,8,9,11,14] (fun out s5 s6 s7 s8 s9 s11 i wr => ∃ j:Nat,j≤2∧i=.int .i64 (j:Int)∧Hid (OwnK layQs wr w1.heap.size out (gapsTo S j))∧Hid (Below w1.heap.size w1 wr)) (fun _ _ _ _ _ _ _ i _ => 2 - (intOf i).toNat)
 case atStart => exact ⟨0,by omega,rfl,Lib.hid (OwnK.nil _ _ _),Lib.hid (Below.refl _ _)⟩
 case round =>
  obtain ⟨j,hj,rfl,HO,HB⟩:=hrel
  by_cases hlt:j < 2
  ·obtain ⟨six,hsix⟩:∃ b:Bool,decide (j=1)=b:=⟨_,rfl⟩
   have hcell:wr.cell? ⟨bb,j,none⟩=some (.bool six):=by
    rw [(HW0.out.below HB.out HW0.out.lt).cell j, ← hsix]
    have:j=0 ∨ j=1:=by omega
    rcases this with rfl | rfl <;> rfl
   have HGs:Hid (gapsTo S (j + 1)=gapsTo S j ++ gapsOf six S):=Lib.hid (by rw [gapsTo_succ S j hlt,hsix])
   have HGl:Hid ((gapsTo S j).length≤2 * 10000 + 2):=Lib.hid (by have:=gapsTo_len S j;rw [Hn.out] at this;omega)
   have HP1:Hid (Blk (wr.alloc (.cells #[.bool six, .int .u64 0, .int .u64 0, .int .i64 0] 30 (0,0))) wr.heap.size 30 #[.bool six, .int .u64 0, .int .u64 0, .int .i64 0]):=Lib.hid (Blk.new wr _ _)
   have HB1:Hid (Below w1.heap.size w1 (wr.alloc (.cells #[.bool six, .int .u64 0, .int .u64 0, .int .i64 0] 30 (0,0)))):=Lib.hid (Below.alloc HB.out HB.out.size _)
   have HO1:Hid (OwnK layQs (wr.alloc (.cells #[.bool six, .int .u64 0, .int .u64 0, .int .i64 0] 30 (0,0))) w1.heap.size u3 (gapsTo S j ++ [])):=Lib.hid (by rw [List.append_nil];exact HO.out.alloc _)
   have HG0:=Lib.hid (gapQ_zero Hv.out six)
   have HOf:=Lib.hid fun wx => ofN wx (lo_vn six).1
   have HLf:=Lib.hid fun wx => lastOfN (n:=0) wx (lo_vn six).1 (Nat.zero_le _)
   have hpl:pN (loF six) ((0:Nat):Int)=#[.bool six, .int .u64 0, .int .u64 0, .int .i64 0]:=by cases six <;> rfl
   have htp:fil (loF six) (LN (loF six) - 0)=topF six:=top_fam (lo_vn six).1 (lo_vn six).2
   rw [aN_lo] at HOf
   rw [hpl,htp] at HLf
   have HTs:Hid ((wN (topF six)).size=9):=Lib.hid (wN_size _)
   have HTo:Hid ((wN (topF six)).all (·.oneCell')=true):=Lib.hid (wd_one _)
   have HLs:Hid ((wN (loF six)).size=9):=Lib.hid (wN_size _)
   have HLo:Hid ((wN (loF six)).all (·.oneCell')=true):=Lib.hid (wd_one _)
   clear hsix hpl htp
   have hj2:(j:Int) < 2:=by omega
   have hj3:decide ((j:Int) < 2)=true:=decide_eq_true hj2
   obtain ⟨TW,hTW⟩:∃ TW,wN (topF six)=TW:=⟨_,rfl⟩
   have HTW:=Lib.hid hTW
   obtain ⟨LW,hLW⟩:∃ LW,wN (loF six)=LW:=⟨_,rfl⟩
   have HLW:=Lib.hid hLW
   rw [hTW] at HLf HTs HTo
   rw [hLW] at HOf HLs HLo
   clear hTW hLW
   go_upto_region 6 with fail
   generalize (wr.alloc (.cells #[.bool six, .int .u64 0, .int .u64 0, .int .i64 0] 30 (0,0)))=w3 at *
   generalize wr.heap.size=bp at *
   clear HB HO hcell
   have c0:=HP1.out.cell 0
   have c1:=HP1.out.cell 1
   have c2:=HP1.out.cell 2
   have c3:=HP1.out.cell 3
   simp at c0 c1 c2 c3
   have l0:=Later.cell_of c0
   have l1:=Later.cell_of c1
   have l2:=Later.cell_of c2
   have l3:=Later.cell_of c3
   refine Lt.wp_region_lim 7 3 (gqR bp w3.heap.size six LW TW) (gqC w3) gqS (fun i => if i=5 then 1 else if i=6 then 2 else 0) (fun i => if i=5 then 2 else if i=6 then 1 else 3)
    (by kernel_rfl) (by kernel_rfl) (by decide) (by kernel_rfl) gqR_keep (fun T => ⟨below_drew (Below.refl _ _), .inl rfl⟩) ?hX
   case' hX => (apply Exists.intro;refine ⟨fun T => ?hA,?hob,?hend⟩)
   case hA =>
    simp only [setAll,List.take_succ_cons,List.take_zero,Act.put,List.setIfInBounds_toArray,List.set_cons_succ,List.set_cons_zero,Nat.reduceAdd]
    exact rfl
   case hob =>
    clear HO1 HB1 HP1 HG0 HGs HGl c0 c1 c2 c3 HS1 HW0 HB0
    go_light
    refine ⟨?_,?_,?_,?_,?_,?_,?_,trivial⟩
    all_goals (intro T wx n0 hU hC hn hp;dsimp only at hn ⊢;unfold Op1)
    ·clear l0 l1 l2 l3
     go_simp
     exact ⟨rfl,hC.on (Below.refl _ _) 0 _ (by decide) (by decide),gqS.same (Below.refl _ _)⟩
    ·obtain ⟨h0, -⟩:=hp
     have h0:T 0=.pointer (some ⟨bp,0,none⟩):=h0
     have e0:=l0 ⟨wx,hC.1⟩
     have e1:=l1 ⟨wx,hC.1⟩
     have e2:=l2 ⟨wx,hC.1⟩
     simp only at e0 e1 e2
     clear l0 l1 l2 l3
     go_simp
     exact ⟨rfl,hC.on (Below.refl _ _) 1 _ (by decide) (by decide),gqS.same (Below.refl _ _)⟩
    ·obtain ⟨h0, -⟩:=hp
     have h0:T 1=.agg #[.bool six, .int .u64 0, .int .u64 0]:=h0
     clear l0 l1 l2 l3
     go_simp
     refine (HOf.out wx).mono ?_
     rintro e w5 ⟨rfl,hb⟩
     exact ⟨_,rfl,rfl,hC.on hb 2 _ (by decide) (by decide),gqS.same hb⟩
    ·have e0:=l0 ⟨wx,hC.1⟩
     have e1:=l1 ⟨wx,hC.1⟩
     have e2:=l2 ⟨wx,hC.1⟩
     have e3:=l3 ⟨wx,hC.1⟩
     simp only at e0 e1 e2 e3
     clear l0 l1 l2 l3
     go_simp
     exact ⟨rfl,hC.on (Below.refl _ _) 3 _ (by decide) (by decide),gqS.same (Below.refl _ _)⟩
    ·obtain ⟨h0, -⟩:=hp
     have h0:T 3=.agg #[.bool six, .int .u64 0, .int .u64 0, .int .i64 0]:=h0
     clear l0 l1 l2 l3
     go_simp
     refine (HLf.out wx).mono ?_
     rintro e w5 ⟨rfl,hb⟩
     exact ⟨_,rfl,rfl,hC.on hb 4 _ (by decide) (by decide),gqS.same hb⟩
    ·clear l0 l1 l2 l3
     go_simp
     obtain ⟨z1,z2,z3⟩:=hC.five hn hU (.cells #[.int .i64 0, .int .i64 0, .int .i64 0, .int .i64 0, .int .i64 0, .int .i64 0, .int .i64 0, .int .i64 0, .int .i64 0] 101 (0,0))
     exact ⟨⟨wx.heap.size,rfl,hC.1.size,Blk.new wx _ _,z3⟩,z1,z2⟩
    ·clear l0 l1 l2 l3
     go_simp
     obtain ⟨z1,z2,z3⟩:=hC.six hn hU (.cells #[.int .i64 0, .int .i64 0, .int .i64 0, .int .i64 0, .int .i64 0, .int .i64 0, .int .i64 0, .int .i64 0, .int .i64 0] 101 (0,0))
     exact ⟨⟨wx.heap.size,rfl,hC.1.size,Blk.new wx _ _,z3⟩,z1,z2⟩
   case hend =>
    intro T w4 ⟨n0,hn0,hC,hR⟩
    have hT2:T 2=.agg LW:=hR 2 (by omega)
    have hT4:T 4=.agg TW:=hR 4 (by omega)
    obtain ⟨bx,hT5,hwx,hBx,hn5⟩:=hR 5 (by omega)
    obtain ⟨be,hT6,hwe,hBe,hn6⟩:=hR 6 (by omega)
    have hne:bx ≠ be:=by
     rcases hC.2 with e | ⟨e, -⟩ | ⟨e, -⟩ | ⟨e,B,B',e1,e2,e3⟩
     ·omega
     ·omega
     ·omega
     ·rw [hT5] at e1;rw [hT6] at e2
      injection e1 with e1;injection e1 with e1;injection e1 with e1
      injection e2 with e2;injection e2 with e2;injection e2 with e2
      subst e1 e2;exact e3
    have hb:=hC.1
    have hw13:=HB1.out.size
    have HO4:=HO1.out.later hb
    have HB4:=HB1.out.trans (hb.mono hw13)
    have HHx:=Lib.hid (show w4.heap[bx]?=some (.cells #[.int .i64 0, .int .i64 0, .int .i64 0, .int .i64 0, .int .i64 0, .int .i64 0, .int .i64 0, .int .i64 0, .int .i64 0] 101 (0,0)) from hBx)
    have hBe2:=hBe.farRow (fun e => hne e.symm) LW
    have HHe:=Lib.hid (show (w4.setRow bx LW).heap[be]?=some (.cells #[.int .i64 0, .int .i64 0, .int .i64 0, .int .i64 0, .int .i64 0, .int .i64 0, .int .i64 0, .int .i64 0, .int .i64 0] 101 (0,0)) from hBe2)
    have HX5:Hid (Blk ((w4.setRow bx LW).setRow be TW) bx 101 LW):=Lib.hid ((hBx.setRow LW).farRow hne TW)
    have HE5:Hid (Blk ((w4.setRow bx LW).setRow be TW) be 101 TW):=Lib.hid (hBe2.setRow TW)
    have HO5:Hid (OwnK layQs ((w4.setRow bx LW).setRow be TW) w1.heap.size u3 (gapsTo S j ++ [])):=Lib.hid (own_farRow (own_farRow HO4 hBx (by decide) LW) hBe2 (by decide) TW)
    have HB5:Hid (Below w1.heap.size w1 ((w4.setRow bx LW).setRow be TW)):=Lib.hid (below_setRow (below_setRow HB4 (by omega) LW) (by omega) TW)
    have hbx1:w1.heap.size≤bx:=by omega
    have hbe1:w1.heap.size≤be:=by omega
    clear hR hC hb hBx hBe hBe2 HO4 HB4 HO1 HB1 HP1 c0 c1 c2 c3 l0 l1 l2 l3 HOf HLf
    simp only [List.drop_succ_cons,List.drop_zero]
    rw [hT2,hT4,hT5,hT6]
    generalize T 0=t0 at *
    generalize T 1=t1 at *
    generalize T 3=t3 at *
    clear hT2 hT4 hT5 hT6
    go_upto_region 7 with (first | (refine wpList_store_row rfl 101 (.tmp 7) (.tmp 23) rfl bx LW rfl rfl 101 #[.int .i64 0, .int .i64 0, .int .i64 0, .int .i64 0, .int .i64 0, .int .i64 0, .int .i64 0, .int .i64 0, .int .i64 0] HHx.out (by rw [HLs.out];exact size_wide) (by rw [HLs.out];rfl) HLo.out ?_;dsimp only [Act.put]) | (refine wpList_store_row rfl 101 (.tmp 8) (.tmp 25) rfl be TW rfl rfl 101 #[.int .i64 0, .int .i64 0, .int .i64 0, .int .i64 0, .int .i64 0, .int .i64 0, .int .i64 0, .int .i64 0, .int .i64 0] HHe.out (by rw [HTs.out];exact size_wide) (by rw [HTs.out];rfl) HTo.out ?_;dsimp only [Act.put]))
    generalize ((w4.setRow bx LW).setRow be TW)=w5 at *
    clear HHx HHe
    go_wp2_with fail
    go_loopw [3,9,11,28] (fun out dn s11 i wx => ∃ (k y:Nat) (done:Bool) (D:List Sp),k≤n∧i=.int .i64 (k:Int)∧dn=.bool done∧Hid (GapQ S six done k y D)∧Hid (OwnK layQs wx w1.heap.size out (gapsTo S j ++ D))∧Hid (Blk wx bx 101 (wN y))∧Hid (Blk wx be 101 TW)∧Hid (Below w1.heap.size w1 wx)) (fun _ _ _ i _ => n - (intOf i).toNat)
    case atStart => exact ⟨0,loF six,false, [],Nat.zero_le _,rfl,rfl,HG0,HO5,Lib.hid (by rw [HLW.out];exact HX5.out),HE5,HB5⟩
    case round =>
     clear HO5 HX5 HE5 HB5 HG0
     obtain ⟨k,y,done,D,hk,rfl,rfl,HG,HO,HX,HEn,HB⟩:=hrel
     have HDl:Hid (D.length≤10001):=Lib.hid (by have:=HG.out.len;rw [Hn.out] at this;omega)
     have HWs:Hid ((wN y).size=9):=Lib.hid (wN_size y)
     by_cases hlt2:k < n
     ·have hS:k < S.length:=by rw [Hn.out];exact hlt2
      obtain ⟨p,hp⟩:∃ p,S[k]?=some p:=⟨_,List.getElem?_eq_getElem hS⟩
      obtain ⟨g,o,had,hg,hcs⟩:=(HS1.out.below HB.out).qs hp
      subst had
      have HVp:=Lib.hid (Hv.out p (List.mem_of_getElem? hp))
      have hXs:=qs_split p
      obtain ⟨X,hX⟩:∃ X,layQs.enc p=X:=⟨_,rfl⟩
      have HX1:Hid (X.toArray.size=18):=Lib.hid (by rw [List.size_toArray, ← hX];rfl)
      have HX2:Hid (X.toArray.all (·.oneCell')=true):=Lib.hid (all_oneCell_toArray (by rw [← hX];exact layQs.one p))
      have HS1':=Lib.hid (wN_size p.1)
      have HS2':=Lib.hid (wN_size p.2)
      rw [hX] at hcs hXs
      have HXs:=Lib.hid hXs
      have HRA:Hid (wr.rangeAt g (o + k * 18) X):=Lib.hid hcs
      have HP1:Hid (Blk (wr.alloc (.cells X.toArray 156 (0,0))) wr.heap.size 156 X.toArray):=Lib.hid (Blk.new wr _ _)
      have HX3:Hid (Blk (wr.alloc (.cells X.toArray 156 (0,0))) bx 101 (wN y)):=Lib.hid (HX.out.alloc _)
      have HE3:Hid (Blk (wr.alloc (.cells X.toArray 156 (0,0))) be 101 TW):=Lib.hid (HEn.out.alloc _)
      have HB3:Hid (Below w1.heap.size w1 (wr.alloc (.cells X.toArray 156 (0,0)))):=Lib.hid (Below.alloc HB.out HB.out.size _)
      have HO3:Hid (OwnK layQs (wr.alloc (.cells X.toArray 156 (0,0))) w1.heap.size u3 (gapsTo S j ++ D)):=Lib.hid (HO.out.alloc _)
      have HLt:Hid (u3.ownBlock ≠ some wr.heap.size):=Lib.hid fun e => absurd (own_lt HO.out _ e) (Nat.lt_irrefl _)
      have hbxs:bx ≠ wr.heap.size:=fun e => by have:=HX.out.lt;omega
      have hbes:be ≠ wr.heap.size:=fun e => by have:=HEn.out.lt;omega
      have Hp:=Lib.hid hp
      clear hS hcs hX hXs hp
      go_upto_region 11 with (first | (refine wpList_loadn rfl 156 _ rfl g (o + k * 18) rfl _ _ HRA.out Tryz.underlying156 rfl 18 size_qs (by simpa using HX1.out) ?_;go_simp) | (refine wpList_var X.toArray 156 Tryz.zeroValue156 rfl rfl rfl _ _ rfl _ rfl ?_ ?_ 18 size_qs HX1.out ?_ HX2.out ?_;all_goals (try rfl);try go_simp))
      generalize (wr.alloc (.cells X.toArray 156 (0,0)))=w6 at *
      generalize wr.heap.size=bs at *
      clear HB HO HX HEn HRA hg
      have hr1:w6.rangeAt bs 0 ((wN p.1).toList ++ (wN p.2).toList):=by
       have:=HP1.out.range
       rw [HXs.out] at this
       exact this
      have d8:w6.cell? ⟨bs,8,none⟩=some (.int .i64 ((digN p.1 8:Nat):Int)):=(range_left hr1) 8 _ (wN_dig8 p.1)
      have q8:w6.cell? ⟨bx,8,none⟩=some (.int .i64 ((digN y 8:Nat):Int)):=HX3.out.rangeA 8 _ (wN_dig8 y)
      have HR1:Hid (∀ wx,Below w6.heap.size w6 wx→wx.rangeAt bs 0 (wN p.1).toList):=Lib.hid fun wx hb => range_below (range_left hr1) hb HP1.out.lt
      clear hr1
      cases done
      ·by_cases hf:sixN p.1=six
       ·obtain ⟨hvy,hp0,hg2⟩:=HG.out.hit Hc.out Hv.out Hp.out hf
        have hd:digN p.1 8=digN y 8:=(dig8_eq HVp.out.a hvy).2 (by
         obtain ⟨x,h1,h2⟩:=HG.out.st
         rw [h2 rfl,h1.sx,hf])
        rw [hd] at d8
        have HG2:=Lib.hid hg2
        have HP0:=Lib.hid hp0
        have HCm:=Lib.hid fun wx => wideCmpN wx hvy.lt10.1 HVp.out.a.lt10.1
        have HCl:=Lib.hid (cN_lt_iff y p.1)
        have HPl:=Lib.hid fun wx => plusN p.2 wx
        have HEq:=Lib.hid fun wx => wN_eql (x:=p.2) (y:=topF six) HVp.out.b.lt10.1 (by cases six <;> decide) wx
        rw [HTW.out] at HEq
        have HNs:Hid ((wN (p.2 + 1)).size=9):=Lib.hid (wN_size _)
        have HNo:Hid ((wN (p.2 + 1)).all (·.oneCell')=true):=Lib.hid (wd_one _)
        have HMi:=Lib.hid fun wx (h:0 < p.1) => minusN p.1 wx h
        have HEe:Hid (layQs.enc (y,p.1 - 1)=(wN y ++ wN (p.1 - 1)).toList):=Lib.hid rfl
        have HBd:=Lib.hid fun wx => build_qs y (p.1 - 1) wx
        have HRw:=Lib.hid fun wx => row_qs y (p.1 - 1) wx
        obtain ⟨dn2,hdn⟩:∃ d:Bool,decide (p.2=topF six)=d:=⟨_,rfl⟩
        rw [hdn] at HG2 HEq
        have HRx:Hid (∀ wx,Below w6.heap.size w6 wx→wx.rangeAt bx 0 (wN y).toList):=Lib.hid fun wx hb => range_below HX3.out.rangeA hb HX3.out.lt
        obtain ⟨NW,hNW⟩:∃ NW,wN (p.2 + 1)=NW:=⟨_,rfl⟩
        have HNW:=Lib.hid hNW
        rw [hNW] at HPl HNs HNo
        clear hvy hp0 hd hg2 hdn hNW hf HG
        generalize digN y 8=e8 at *
        generalize wN p.1=P1 at *
        generalize hP2:wN p.2=P2 at *
        clear hP2
        generalize hWX:wN y=WX at *
        have HWX:=Lib.hid hWX
        clear hWX
        generalize wN (p.1 - 1)=MW at *
        generalize cN y p.1=C at *
        have hR1:=HR1.out _ (Below.refl _ _)
        have hRx:=HRx.out _ (Below.refl _ _)
        have HR10:=Lib.hid hR1
        have HRx0:=Lib.hid hRx
        clear hR1 hRx
        go_upto_region 12 with fail
        go_wp2_with (first | (refine wpList_loadn rfl 101 _ rfl bx 0 rfl _ _ HRx0.out Tryz.underlying101 rfl 9 size_wide (by simpa using HWs.out) ?_;go_simp) | (refine wpList_loadn rfl 101 _ rfl bs 0 rfl _ _ HR10.out Tryz.underlying101 rfl 9 size_wide (by simpa using HS1'.out) ?_;go_simp))
        refine (HCm.out _).mono ?_
        rintro e w7 ⟨rfl,hb⟩
        have HP7:=Lib.hid (HP1.out.below hb HP1.out.lt)
        have HX7:=Lib.hid (HX3.out.below hb HX3.out.lt)
        have HE7:=Lib.hid (HE3.out.below hb HE3.out.lt)
        have HO7:=Lib.hid (HO3.out.later hb)
        have HB7:=Lib.hid (HB3.out.trans (hb.mono HB3.out.size))
        clear hb HP1 HX3 HE3 HO3 HB3 d8 q8 HR10 HRx0 HCm HR1 HRx
        by_cases hyl:y < p.1
        ·have hC:C < 0:=HCl.out.2 hyl
         rw [if_pos hyl] at HG2
         have HMi2:=Lib.hid fun wx => HMi.out wx (HP0.out hyl)
         clear HMi HCl
         go_upto_region 13 with fail
         have HR1:Hid (∀ wx,Below w7.heap.size w7 wx→wx.rangeAt bs 0 P1.toList):=Lib.hid fun wx hb => by
          have:=HP7.out.range
          rw [HXs.out] at this
          exact range_below (range_left this) hb HP7.out.lt
         have HRx:Hid (∀ wx,Below w7.heap.size w7 wx→wx.rangeAt bx 0 WX.toList):=Lib.hid fun wx hb => range_below HX7.out.rangeA hb HX7.out.lt
         generalize hLL:gapsTo S j ++ D=LL at *
         have HLL:Hid (LL.length≤40000):=Lib.hid (by rw [← hLL,List.length_append];have:=HGl.out;have:=HDl.out;omega)
         have HLe:=Lib.hid hLL
         clear hLL
         refine wp_region_inv 7 0 (gaR bs u3 P1 WX MW) (fun _ w' => Below w7.heap.size w7 w') (fun u v => Below u.heap.size u v) (fun _ => 0)
          (by kernel_rfl) (by kernel_rfl) (by decide) gaR_keep (below_drew (Below.refl _ _)) ?hXg
         case' hXg => (apply Exists.intro;refine ⟨fun T => ?hAg,?hobg,?hendg⟩)
         case hAg =>
          simp only [setAll,List.take_succ_cons,List.take_zero,Act.put,List.setIfInBounds_toArray,List.set_cons_succ,List.set_cons_zero,Nat.reduceAdd]
          exact rfl
         case hobg =>
          clear HP7 HX7 HE7 HO7 HB7 HEe HLe
          go_light
          refine ⟨?_,?_,?_,?_,?_,?_,?_,trivial⟩
          all_goals (intro T wx n0 hC2 hn hp;dsimp only at hn ⊢;unfold Op1)
          ·go_simp
           exact ⟨rfl,Below.refl _ _⟩
          ·rw [exec_loadn 101 _ rfl bx 0 rfl WX (HRx.out wx hC2) _ Tryz.underlying101 rfl 9 size_wide HWs.out]
           exact ⟨rfl,hC2,Below.refl _ _⟩
          ·go_simp
           exact ⟨rfl,Below.refl _ _⟩
          ·obtain ⟨h0, -⟩:=hp
           have h0:T 2=.pointer (some ⟨bs,0,none⟩):=h0
           rw [exec_loadn 101 _ rfl bs 0 h0 P1 (HR1.out wx hC2) _ Tryz.underlying101 rfl 9 size_wide HS1'.out]
           exact ⟨rfl,hC2,Below.refl _ _⟩
          ·obtain ⟨h0, -⟩:=hp
           have h0:T 3=.agg P1:=h0
           go_simp
           refine (HMi2.out wx).mono ?_
           rintro e w8 ⟨rfl,hb⟩
           exact ⟨_,rfl,rfl,hC2.trans (hb.mono hC2.size),hb⟩
          ·obtain ⟨h0,h1, -⟩:=hp
           have h0:T 1=.agg WX:=h0
           have h1:T 4=.agg MW:=h1
           rw [exec_build _ _ rfl #[(0, .agg WX),(1, .agg MW)] (by rw [← h0, ← h1];simp [Act.eval]) (HBd.out wx)]
           exact ⟨rfl,hC2,Below.refl _ _⟩
          ·obtain ⟨h0, -⟩:=hp
           have h0:T 5=.agg (WX ++ MW):=h0
           rw [exec_row _ _ _ rfl #[(0, .agg (WX ++ MW))] (by rw [← h0];simp [Act.eval]) (HRw.out wx)]
           exact ⟨⟨wx.heap.size,rfl,Blk.new wx _ _⟩,below_alloc hC2 _,below_alloc (Below.refl _ _) _⟩
         case hendg =>
          intro T w8 ⟨n0,hn0,hb⟩ hR
          have hT0:T 0=u3:=hR 0 (by omega)
          obtain ⟨B,hT6,hBl⟩:=hR 6 (by omega)
          have HO8:=Lib.hid (HO7.out.later hb)
          have HB8:=Lib.hid (HB7.out.trans (hb.mono HB7.out.size))
          have HP8:=Lib.hid (HP7.out.below hb HP7.out.lt)
          have HX8:=Lib.hid (HX7.out.below hb HX7.out.lt)
          have HE8:=Lib.hid (HE7.out.below hb HE7.out.lt)
          have HBl:=Lib.hid hBl
          clear hR hb hBl HO7 HB7 HP7 HX7 HE7 HR1 HRx HMi2
          simp only [List.drop_succ_cons,List.drop_zero]
          refine wpList_app (c:=1) qsE rfl (.tmp 46) (.tmp 52) rfl ?hsg HO8.out ?hxg (src_blk layQs (y,p.1 - 1) HBl.out ?c0g) ?c1g ?c2g ?c3g ?c4g ?_
          case hsg => exact hT0
          case hxg => exact hT6
          case c0g => exact (by rw [HEe.out])
          case c1g => exact layQs.one _
          case c2g => unfold maxLen;have:=HLL.out;omega
          case c3g => have:=HLL.out;omega
          case c4g => exact HB8.out.size
          intro v' w9 hO hG
          have HO9:Hid (OwnK layQs w9 w1.heap.size v' (gapsTo S j ++ (D ++ [(y,p.1 - 1)]))):=Lib.hid (by rw [← List.append_assoc,HLe.out];exact OwnK.snoc hO)
          have HB9:=Lib.hid (HB8.out.trans (hG.below HB8.out.size (own_base HO8.out)))
          have HP9:=Lib.hid (HP8.out.grew_ne HLt.out hG)
          have HX9:=Lib.hid (HX8.out.grew HO8.out (by decide) hG)
          have HE9:=Lib.hid (HE8.out.grew HO8.out (by decide) hG)
          clear hO hG HO8 HB8 HP8 HX8 HE8 HBl hT0 hT6
          generalize hDD:D ++ [(y,p.1 - 1)]=DD at *
          clear hDD
          have HR2:Hid (w9.rangeAt bs 9 P2.toList):=Lib.hid (by
           have:=HP9.out.range
           rw [HXs.out] at this
           have:=range_right this
           rw [Array.length_toList,HS1'.out] at this
           exact this)
          have HRe:=Lib.hid HE9.out.rangeA
          have hEq:=HEq.out
          have hGd:=wide_guard .eql
          go_wp2_with (first | (refine wpList_loadn rfl 101 _ rfl bs 9 rfl _ _ HR2.out Tryz.underlying101 rfl 9 size_wide (by simpa using HS2'.out) ?_;go_simp) | (refine wpList_loadn rfl 101 _ rfl be 0 rfl _ _ HRe.out Tryz.underlying101 rfl 9 size_wide (by simpa using HTs.out) ?_;go_simp))
          refine (HPl.out _).mono ?_
          rintro e w10 ⟨rfl,hb⟩
          have HX10:=HX9.out.below hb HX9.out.lt
          have HE10:=HE9.out.below hb HE9.out.lt
          have HO10:=HO9.out.later hb
          have HB10:=HB9.out.trans (hb.mono HB9.out.size)
          have HHx:=Lib.hid (show w10.heap[bx]?=some (.cells WX 101 (0,0)) from HX10)
          have HSt:=Lib.hid (And.intro (own_farRow HO10 HX10 (by decide) NW) (And.intro (HX10.setRow NW) (And.intro (HE10.farRow (fun e => hne e.symm) NW) (below_setRow HB10 hbx1 NW))))
          clear hb HO9 HB9 HP9 HX9 HE9 HX10 HE10 HO10 HB10 HPl HEq hEq hGd HR2 HRe
          go_wp2_with (refine wpList_store_row rfl 101 (.tmp 7) (.tmp 60) rfl bx NW rfl rfl 101 WX HHx.out (by rw [HNs.out];exact size_wide) (by rw [HWs.out,HNs.out]) HNo.out ?_;dsimp only [Act.put])
          exact ⟨⟨k + 1,p.2 + 1,dn2,DD,by omega,by go_num,rfl,HG2,Lib.hid HSt.out.1,Lib.hid (by rw [HNW.out];exact HSt.out.2.1),Lib.hid HSt.out.2.2.1,Lib.hid HSt.out.2.2.2⟩,by simp [intOf];omega⟩
        ·have hC:¬ C < 0:=fun h => hyl (HCl.out.1 h)
         rw [if_neg hyl,List.append_nil] at HG2
         have HO9:=HO7
         have HB9:=HB7
         have HP9:=HP7
         have HX9:=HX7
         have HE9:=HE7
         clear HO7 HB7 HP7 HX7 HE7 HMi HCl
         generalize hDD:D=DD at *
         clear hDD
         have HR2:Hid (w7.rangeAt bs 9 P2.toList):=Lib.hid (by
          have:=HP9.out.range
          rw [HXs.out] at this
          have:=range_right this
          rw [Array.length_toList,HS1'.out] at this
          exact this)
         have HRe:=Lib.hid HE9.out.rangeA
         have hEq:=HEq.out
         have hGd:=wide_guard .eql
         go_wp2_with (first | (refine wpList_loadn rfl 101 _ rfl bs 9 rfl _ _ HR2.out Tryz.underlying101 rfl 9 size_wide (by simpa using HS2'.out) ?_;go_simp) | (refine wpList_loadn rfl 101 _ rfl be 0 rfl _ _ HRe.out Tryz.underlying101 rfl 9 size_wide (by simpa using HTs.out) ?_;go_simp))
         refine (HPl.out _).mono ?_
         rintro e w10 ⟨rfl,hb⟩
         have HX10:=HX9.out.below hb HX9.out.lt
         have HE10:=HE9.out.below hb HE9.out.lt
         have HO10:=HO9.out.later hb
         have HB10:=HB9.out.trans (hb.mono HB9.out.size)
         have HHx:=Lib.hid (show w10.heap[bx]?=some (.cells WX 101 (0,0)) from HX10)
         have HSt:=Lib.hid (And.intro (own_farRow HO10 HX10 (by decide) NW) (And.intro (HX10.setRow NW) (And.intro (HE10.farRow (fun e => hne e.symm) NW) (below_setRow HB10 hbx1 NW))))
         clear hb HO9 HB9 HP9 HX9 HE9 HX10 HE10 HO10 HB10 HPl HEq hEq hGd HR2 HRe
         go_wp2_with (refine wpList_store_row rfl 101 (.tmp 7) (.tmp 60) rfl bx NW rfl rfl 101 WX HHx.out (by rw [HNs.out];exact size_wide) (by rw [HWs.out,HNs.out]) HNo.out ?_;dsimp only [Act.put])
         exact ⟨⟨k + 1,p.2 + 1,dn2,DD,by omega,by go_num,rfl,HG2,Lib.hid HSt.out.1,Lib.hid (by rw [HNW.out];exact HSt.out.2.1),Lib.hid HSt.out.2.2.1,Lib.hid HSt.out.2.2.2⟩,by simp [intOf];omega⟩
       ·have hd:digN p.1 8 ≠ digN y 8:=fun h => by
         obtain ⟨x,h1,h2⟩:=HG.out.st
         have hyx:=h2 rfl
         rw [hyx] at h
         exact hf (((dig8_eq HVp.out.a h1.vx).1 h).trans h1.sx)
        have HG2:=Lib.hid (HG.out.skip Hp.out hf)
        generalize digN p.1 8=e8 at *
        generalize digN y 8=e9 at *
        have hd2:((e8:Int) != (e9:Int))=true:=by simp;omega
        have hd3:¬ ((e8:Int)=(e9:Int)):=by omega
        clear HG hf
        go_wp2_with fail
        exact ⟨⟨k + 1,y,false,D,by omega,by go_num,rfl,HG2,HO3,HX3,HE3,HB3⟩,by simp [intOf];omega⟩
      ·have HG2:=Lib.hid (HG.out.skip Hp.out (HG.out.off Hp.out))
       generalize digN p.1 8=e8 at *
       generalize digN y 8=e9 at *
       clear HG
       by_cases hd:e8=e9
       ·subst hd
        go_wp2_with fail
        exact ⟨⟨k + 1,y,true,D,by omega,by go_num,rfl,HG2,HO3,HX3,HE3,HB3⟩,by simp [intOf];omega⟩
       ·have hd2:((e8:Int) != (e9:Int))=true:=by simp;omega
        have hd3:¬ ((e8:Int)=(e9:Int)):=by omega
        go_wp2_with fail
        exact ⟨⟨k + 1,y,true,D,by omega,by go_num,rfl,HG2,HO3,HX3,HE3,HB3⟩,by simp [intOf];omega⟩
     ·obtain rfl:k=n:=by omega
      have hdn:=HG.out.done (by rw [Hn.out];exact Nat.le_refl _)
      cases done
      ·have HDn:Hid (gapsTo S (j + 1)=gapsTo S j ++ D ++ [(y,topF six)]):=Lib.hid (by
        rw [if_neg (by decide)] at hdn
        rw [HGs.out, ← hdn,List.append_assoc])
       have HEe:Hid (layQs.enc (y,topF six)=(wN y ++ TW).toList):=Lib.hid (by rw [← HTW.out];rfl)
       have HBd:=Lib.hid fun wx => build_qs y (topF six) wx
       rw [HTW.out] at HBd
       have HQs:Hid ((wN y ++ TW).size=18):=Lib.hid (by rw [Array.size_append,wN_size,HTs.out])
       have HRx:=Lib.hid HX.out.rangeA
       have HRe:=Lib.hid HEn.out.rangeA
       generalize hLL:gapsTo S j ++ D=LL at *
       have HLL:Hid (LL.length≤40000):=Lib.hid (by rw [← hLL,List.length_append];have:=HGl.out;have:=HDl.out;omega)
       clear hLL hdn HG HGs
       generalize wN y=WX at *
       go_upto_region 18 with fail
       go_wp2_with (first | (refine wpList_loadn rfl 101 _ rfl bx 0 rfl _ _ HRx.out Tryz.underlying101 rfl 9 size_wide (by simpa using HWs.out) ?_) | (refine wpList_loadn rfl 101 _ rfl be 0 rfl _ _ HRe.out Tryz.underlying101 rfl 9 size_wide (by simpa using HTs.out) ?_) | (refine wpList_buildv rfl 156 _ rfl #[(0, .agg WX),(1, .agg TW)] (by simp [Act.eval,Act.put]) _ HBd.out ?_;go_simp) | (refine wpList_build1 rfl 134 156 _ rfl (WX ++ TW) rfl 18 Tryz.underlying134 zero_qs HQs.out (by decide) (by decide) ?_;go_simp) | (at_builtin;refine wpList_app qsE rfl (.tmp 64) (.tmp 68) rfl rfl (World.ownsRow.alloc HO.out _) rfl (src_new layQs _ (y,topF six) _ _ ?c0e) ?c1e ?c2e ?c3e ?c4e ?_))
       case c0e => rw [HEe.out]
       case c1e => exact layQs.one _
       case c2e => unfold maxLen;have:=HLL.out;omega
       case c3e => have:=HLL.out;omega
       case c4e => have:=HB.out.size;simp;omega
       intro v' w7 hO hG
       have HO7:Hid (OwnK layQs w7 w1.heap.size v' (gapsTo S (j + 1))):=Lib.hid (by rw [HDn.out];exact OwnK.snoc hO)
       have HB7:Hid (Below w1.heap.size w1 w7):=Lib.hid ((Below.alloc HB.out HB.out.size _).trans (hG.below (by have:=HB.out.size;simp;omega) (own_base HO.out)))
       clear hO hG
       go_wp2_with fail
       exact ⟨⟨j + 1,by omega,by go_num,HO7,HB7⟩,by simp [intOf];omega⟩
      ·have HO2:Hid (OwnK layQs wr w1.heap.size u3 (gapsTo S (j + 1))):=Lib.hid (by
        rw [if_pos rfl,List.append_nil] at hdn
        rw [HGs.out, ← hdn];exact HO.out)
       clear hdn HG HO
       go_wp2_with fail
       exact ⟨⟨j + 1,by omega,by go_num,HO2,HB⟩,by simp [intOf];omega⟩
  ·obtain rfl:j=2:=by omega
   have hw0:=HB0.out.size
   have hw1:w.heap.size≤w1.heap.size:=by rw [Hbb.out] at hw0 ⊢;exact hw0
   have HBf:Hid (Below w.heap.size w wr):=Lib.hid (Below.trans (by rw [Hbb.out];exact HB0.out) (HB.out.mono hw1))
   have HOf:Hid (OwnK layQs wr w.heap.size u3 (gaps S)):=Lib.hid (HO.out.weak hw1)
   go_wp2_with fail
   go_ret
   exact ⟨_,rfl,HOf.out,HBf.out⟩
theorem zeroCells_size (cs:Array Value) (n:Nat):(Builtin.zeroCells cs n).size=n * cs.size:=by
 first | simp [Builtin.zeroCells] | simp [Builtin.zeroCells]
theorem ownK_zero {α:Type} (E:Lay α) (w:World) (B:Nat) (hB:B≤w.heap.size) (cs:Array Value) (m:Nat) (hcs:cs.size=m * E.K) (hm:m≤maxLen):OwnK E (w.alloc (.cells cs E.ty (0,0))) B (.slice (some ⟨w.heap.size,0,none⟩) 0 m) [] :=
 ⟨by simp [Lay.all], .inr ⟨w.heap.size,m,cs,rfl,hB,heap_alloc_new w _,Nat.zero_le _,hm,hcs,by simp [Lay.all]⟩⟩
theorem growPf_any (n:Nat) (w:World) (hn:n≤1000000):Calls Tryz.prog 188 #[.slice none 0 0, .int .i64 (n:Int)] w fun e w' => ∃ v,e=.returned v∧OwnK layPf w' w.heap.size v []∧Below w.heap.size w w':=by
 by_cases h0:n=0
 ·subst h0
  go_enter Tryz.func188,Tryz.ntmps188
  go_wp2
  go_ret
  exact ⟨_,rfl,OwnK.nil _ _ _,Below.refl _ _⟩
 ·obtain ⟨i,hi0,hi1,hi2,hi3⟩:=info_parts (show (Tryz.prog.info? 30).map (fun i => (i.zero,i.size,i.bytes))=some (some (.agg #[.bool false, .int .u64 0, .int .u64 0, .int .i64 0]),4,32) by kernel_rfl)
  have hrun:=fun ty => Lib.run_append_nil_zeros (P:=Tryz.prog) w 31 3 ty 30 i (.agg #[.bool false, .int .u64 0, .int .u64 0, .int .i64 0]) .i64 .i64 Tryz.underlying31 Tryz.underlying3 hi0 hi1 n (by omega) (by rw [hi2];decide) (by omega) (by rw [hi3];omega)
  go_enter Tryz.func188,Tryz.ntmps188
  go_wp2_with (at_builtin;refine Lib.wpList_append_run _ rfl _ _ _ _ rfl _ _ rfl rfl _ _ (hrun _) ?_)
  have hge:=grownCap_ge w n 0 30
  have hle:=grownCap_le_maxLen w n 0 30 (by unfold maxLen;omega)
  generalize grownCap w n 0 30=m at *
  go_ret
  exact ⟨_,rfl,ownK_zero layPf w.drew w.heap.size (Nat.le_refl _) _ m (by rw [Array.size_append,zeroCells_size,zeroCells_size];show n * 4 + (m - n) * 4=m * 4;omega) hle,below_alloc (below_drew (Below.refl _ _)) _⟩
def tk (n1 n2:Nat):Nat→Nat
 | 0 => 0
 | 1 => n1
 | _ => n1 + n2
def tL (L1 L2:List Pf):Nat→List Pf
 | 0 => []
 | 1 => L1
 | _ => L1 ++ L2
theorem concatPf_any (g c:Nat) (ad1 ad2:Option Addr) (n1 c1 n2 c2:Nat) (L1 L2:List Pf) (w:World) (hg:w.heap[g]?=some (.cells #[.slice ad1 n1 c1, .slice ad2 n2 c2] 31 (0,0))) (h1:RdK layPf w ad1 L1) (h2:RdK layPf w ad2 L2) (hn1:L1.length=n1) (hn2:L2.length=n2) (hs1:n1≤100000) (hs2:n2≤100000) :
  Calls Tryz.prog 166 #[.slice (some ⟨g,0,none⟩) 2 c] w fun e w' => ∃ v,e=.returned v∧OwnK layPf w' w.heap.size v (L1 ++ L2)∧Below w.heap.size w w':=by
 have HG:Hid (Blk w g 31 #[.slice ad1 n1 c1, .slice ad2 n2 c2]):=Lib.hid hg
 have H1:=Lib.hid h1
 have H2:=Lib.hid h2
 have Hn1:=Lib.hid hn1
 have Hn2:=Lib.hid hn2
 have hglt:=HG.out.lt
 clear hg h1 h2 hn1 hn2
 have g0:=HG.out.cell 0
 have g1:=HG.out.cell 1
 simp at g0 g1
 go_enter Tryz.func166,Tryz.ntmps166
 go_wp2
 go_loop [3,11] (fun t i => ∃ k:Nat,k≤2∧i=.int .i64 (k:Int)∧t=.int .i64 ((tk n1 n2 k:Nat):Int)) (fun _ i => 2 - (intOf i).toNat)
 case atStart => exact ⟨0,Nat.zero_le _,rfl,rfl⟩
 case round =>
  obtain ⟨k,hk,rfl,rfl⟩:=hrel
  have hk3:k=0 ∨ k=1 ∨ k=2:=by omega
  rcases hk3 with rfl | rfl | rfl
  ·simp only [tk,Int.cast_ofNat_Int] at *
   go_wp2
   exact ⟨⟨1,by omega,rfl,by show _=Value.int .i64 (n1:Int);first | rfl | simp⟩,by simp [intOf]⟩
  ·simp only [tk,Int.cast_ofNat_Int] at *
   go_wp2
   exact ⟨⟨2,by omega,rfl,by show _=Value.int .i64 ((n1 + n2:Nat):Int);first | rfl | (congr 1)⟩,by simp [intOf]⟩
  ·simp only [tk] at *
   obtain ⟨tt,htt⟩:∃ tt,n1 + n2=tt:=⟨_,rfl⟩
   rw [htt]
   have htb:tt≤200000:=by omega
   go_wp2_with fail
   refine (growPf_any tt w (by omega)).mono ?_
   rintro e w1 ⟨v1,rfl,hO,hb⟩
   have HO:=Lib.hid hO
   have HB:=Lib.hid hb
   clear hO hb
   go_wp2
   go_loopw [6,27] (fun s i wr => ∃ k':Nat,k'≤2∧i=.int .i64 (k':Int)∧Hid (OwnK layPf wr w.heap.size s (tL L1 L2 k'))∧Hid (Below w.heap.size w wr)) (fun _ i _ => 2 - (intOf i).toNat)
   case atStart => exact ⟨0,Nat.zero_le _,rfl,HO,HB⟩
   case round =>
    clear HO HB
    obtain ⟨k',hk',rfl,HO,HB⟩:=hrel
    have hwlt:g < wr.heap.size:=Nat.lt_of_lt_of_le hglt HB.out.size
    have HG2:=HG.out.below HB.out hglt
    have e0:=HG2.cell 0
    have e1:=HG2.cell 1
    simp at e0 e1
    have hk3:k'=0 ∨ k'=1 ∨ k'=2:=by omega
    clear HG2
    rcases hk3 with rfl | rfl | rfl
    ·have hsr:=(H1.out.below HB.out).src
     rw [Hn1.out] at hsr
     have HS:Hid (Src wr ad1 n1 4 (layPf.all L1)):=Lib.hid hsr
     have HOr:Hid (wr.ownsRow w.heap.size 30 4 u6 0 []):=Lib.hid HO.out
     have HSo:=Lib.hid (layPf.all_one L1)
     clear hsr HO
     go_wp2_with (at_builtin;refine wpList_app pfE rfl (.tmp 31) (.tmp 32) rfl rfl HOr.out rfl HS.out HSo.out ?h1 ?h2 ?h3 ?_)
     case h1 => unfold maxLen;omega
     case h2 => omega
     case h3 => exact HB.out.size
     intro v' w' hO' hG
     have HO':Hid (OwnK layPf w' w.heap.size v' L1):=Lib.hid (by
      show w'.ownsRow _ _ _ _ L1.length (layPf.all L1)
      rw [Hn1.out]
      exact hO')
     have HB':=Lib.hid (HB.out.trans (hG.below HB.out.size (own_base HOr.out)))
     clear hO' hG HB HS HOr HSo
     go_wp2
     exact ⟨⟨1,by omega,rfl,HO',HB'⟩,by simp [intOf]⟩
    ·have hsr:=(H2.out.below HB.out).src
     rw [Hn2.out] at hsr
     have HS:Hid (Src wr ad2 n2 4 (layPf.all L2)):=Lib.hid hsr
     have HOr:Hid (wr.ownsRow w.heap.size 30 4 u6 n1 (layPf.all L1)):=Lib.hid (by
      have this:wr.ownsRow w.heap.size 30 4 u6 L1.length (layPf.all L1):=HO.out
      rw [Hn1.out] at this
      exact this)
     have HSo:=Lib.hid (layPf.all_one L2)
     clear hsr HO
     go_wp2_with (at_builtin;refine wpList_app pfE rfl (.tmp 31) (.tmp 32) rfl rfl HOr.out rfl HS.out HSo.out ?h1b ?h2b ?h3b ?_)
     case h1b => unfold maxLen;omega
     case h2b => omega
     case h3b => exact HB.out.size
     intro v' w' hO' hG
     have HO':Hid (OwnK layPf w' w.heap.size v' (L1 ++ L2)):=Lib.hid (OwnK.app (by rw [Hn1.out,Hn2.out,htt];exact hO'))
     have HB':=Lib.hid (HB.out.trans (hG.below HB.out.size (own_base HOr.out)))
     clear hO' hG HB HS HOr HSo
     go_wp2
     exact ⟨⟨2,by omega,rfl,HO',HB'⟩,by simp [intOf]⟩
    ·go_wp2
     go_ret
     exact ⟨_,rfl,HO.out,HB.out⟩
theorem restOf_any (ad:Option Addr) (n c:Nat) (L:List Pf) (w:World) (h:RdK layPf w ad L) (hn:L.length=n) (hs:n≤10000) (hv:∀ p ∈ L,OkPf p) :
  Calls Tryz.prog 108 #[.slice ad n c] w fun e w' => ∃ v,e=.returned v∧OwnK layPf w' w.heap.size v (restR L)∧Below w.heap.size w w':=by
 have HS:=Lib.hid (spansOf_any ad n c L w h hn (by omega) hv)
 have HJv:Hid (∀ p ∈ jn (L.map spP),VR p):=Lib.hid (spn_vr hv)
 have HJc:Hid (Can (jn (L.map spP))):=Lib.hid (spn_can hv)
 have HJl:Hid ((jn (L.map spP)).length≤n):=Lib.hid (by rw [← hn];exact spn_len L)
 have HR:Hid (restR L=pfs (gaps (jn (L.map spP)))):=Lib.hid rfl
 clear h hn hv
 generalize jn (L.map spP)=J at *
 go_enter Tryz.func108,Tryz.ntmps108
 go_wp2_with fail
 refine HS.out.mono ?_
 rintro e w3 ⟨v,rfl,hO,hB⟩
 obtain ⟨ad3,c3,rfl,_⟩:=hO.form
 have HT:=Lib.hid (gaps_any ad3 J.length c3 J w3 hO.rd rfl (by have:=HJl.out;omega) HJc.out HJv.out)
 have HB3:=Lib.hid hB
 have HGv:=Lib.hid (gaps_ok HJc.out HJv.out).2.2
 have HGl:=Lib.hid (gaps_len J)
 have HJl2:=Lib.hid HJl.out
 clear hO hB HS HJv HJc
 generalize gaps J=G at *
 generalize J.length=jl at *
 go_wp2_with fail
 refine HT.out.mono ?_
 rintro e w4 ⟨v,rfl,hO,hB⟩
 obtain ⟨ad4,c4,rfl,_⟩:=hO.form
 have HQ:=Lib.hid (qprefixes_any ad4 G.length c4 G w4 hO.rd rfl (by have:=HGl.out;have:=HJl2.out;omega) HGv.out)
 have HB4:=Lib.hid (HB3.out.trans (hB.mono HB3.out.size))
 clear hO hB HT HGv HGl
 generalize G.length=gl at *
 go_wp2_with fail
 refine HQ.out.mono ?_
 rintro e w5 ⟨v,rfl,hO,hB⟩
 have HO5:=Lib.hid (hO.weak HB4.out.size)
 have HB5:=Lib.hid (HB4.out.trans (hB.mono HB4.out.size))
 clear hO hB
 go_wp2_with fail
 go_ret
 exact ⟨_,rfl,by rw [HR.out];exact HO5.out,HB5.out⟩
theorem unionOf_any (ad1 ad2:Option Addr) (n1 c1 n2 c2:Nat) (L1 L2:List Pf) (w:World) (h1:RdK layPf w ad1 L1) (h2:RdK layPf w ad2 L2) (hn1:L1.length=n1) (hn2:L2.length=n2) (hs:n1 + n2≤100000) (hv1:∀ p ∈ L1,OkPf p) (hv2:∀ p ∈ L2,OkPf p) :
  Calls Tryz.prog 137 #[.slice ad1 n1 c1, .slice ad2 n2 c2] w fun e w' => ∃ v,e=.returned v∧OwnK layPf w' w.heap.size v (unionR L1 L2)∧Below w.heap.size w w':=by
 have hb0:Below w.heap.size w (w.alloc (.cells #[.slice ad1 n1 c1, .slice ad2 n2 c2] 31 (0,0))):=below_alloc (Below.refl _ _) _
 have HC:=Lib.hid fun c => concatPf_any w.heap.size c ad1 ad2 n1 c1 n2 c2 L1 L2 (w.alloc (.cells #[.slice ad1 n1 c1, .slice ad2 n2 c2] 31 (0,0))) (heap_alloc_new w _) (h1.below hb0) (h2.below hb0) hn1 hn2 (by omega) (by omega)
 have HB0:=Lib.hid hb0
 obtain ⟨LL,hLL⟩:∃ LL,L1 ++ L2=LL:=⟨_,rfl⟩
 obtain ⟨m,hm⟩:∃ m,LL.length=m:=⟨_,rfl⟩
 have hmb:m≤100000:=by rw [← hm, ← hLL,List.length_append,hn1,hn2];exact hs
 have HV:=Lib.hid (ok_append hv1 hv2)
 have HU:Hid (unionR L1 L2=lst LL):=Lib.hid (by rw [← hLL];rfl)
 rw [hLL] at HC HV
 have Hm:=Lib.hid hm
 clear h1 h2 hn1 hn2 hv1 hv2 hb0 hLL hm
 go_enter Tryz.func137,Tryz.ntmps137
 go_wp2_with fail
 refine (HC.out _).mono ?_
 rintro e w3 ⟨v,rfl,hO,hB⟩
 obtain ⟨ad3,c3,rfl,_⟩:=hO.form
 rw [Hm.out] at hO ⊢
 have HT:=Lib.hid (leastOf_any ad3 m c3 LL w3 hO.rd Hm.out hmb HV.out)
 have HB3:=Lib.hid (HB0.out.trans (hB.mono HB0.out.size))
 clear hO hB HC HB0
 go_wp2_with fail
 refine HT.out.mono ?_
 rintro e w4 ⟨v,rfl,hO,hB⟩
 have HO4:=Lib.hid (hO.weak HB3.out.size)
 have HB4:=Lib.hid (HB3.out.trans (hB.mono HB3.out.size))
 clear hO hB
 go_wp2_with fail
 go_ret
 exact ⟨_,rfl,by rw [HU.out];exact HO4.out,HB4.out⟩
theorem bothOf_any (ad1 ad2:Option Addr) (n1 c1 n2 c2:Nat) (L1 L2:List Pf) (w:World) (h1:RdK layPf w ad1 L1) (h2:RdK layPf w ad2 L2) (hn1:L1.length=n1) (hn2:L2.length=n2) (hs1:n1≤10000) (hs2:n2≤10000) (hr1:(restR L1).length≤4500) (hr2:(restR L2).length≤4500) (hv1:∀ p ∈ L1,OkPf p) (hv2:∀ p ∈ L2,OkPf p) :
  Calls Tryz.prog 107 #[.slice ad1 n1 c1, .slice ad2 n2 c2] w fun e w' => ∃ v,e=.returned v∧OwnK layPf w' w.heap.size v (bothR L1 L2)∧Below w.heap.size w w':=by
 have HR1:=Lib.hid (restOf_any ad1 n1 c1 L1 w h1 hn1 hs1 hv1)
 have HR2:=Lib.hid fun wx (hr:RdK layPf wx ad2 L2) => restOf_any ad2 n2 c2 L2 wx hr hn2 hs2 hv2
 have H2:=Lib.hid h2
 have HV1:=Lib.hid (ok_restR hv1)
 have HV2:=Lib.hid (ok_restR hv2)
 have HVu:=Lib.hid (ok_unionR (ok_restR hv1) (ok_restR hv2))
 have HL1:=Lib.hid hr1
 have HL2:=Lib.hid hr2
 have HUl:Hid ((unionR (restR L1) (restR L2)).length≤9000):=Lib.hid (by
  have:=lst_len (ok_append (ok_restR hv1) (ok_restR hv2))
  rw [List.length_append] at this
  unfold unionR
  omega)
 have HBo:Hid (bothR L1 L2=restR (unionR (restR L1) (restR L2))):=Lib.hid rfl
 clear h1 h2 hn1 hn2 hv1 hv2 hr1 hr2
 generalize restR L1=R1 at *
 generalize restR L2=R2 at *
 go_enter Tryz.func107,Tryz.ntmps107
 go_wp2_with fail
 refine HR1.out.mono ?_
 rintro e w3 ⟨v,rfl,hO,hB⟩
 obtain ⟨ad3,c3,rfl,_⟩:=hO.form
 have HO3:=Lib.hid hO.rd
 have HB3:=Lib.hid hB
 have HX2:=Lib.hid (H2.out.below hB)
 clear hO hB HR1 H2
 obtain ⟨m1,hm1⟩:∃ m,R1.length=m:=⟨_,rfl⟩
 have Hm1:=Lib.hid hm1
 rw [hm1]
 clear hm1
 go_wp2_with fail
 refine (HR2.out _ HX2.out).mono ?_
 rintro e w4 ⟨v,rfl,hO,hB⟩
 obtain ⟨ad4,c4,rfl,_⟩:=hO.form
 have HO4:=Lib.hid hO.rd
 have HO34:=Lib.hid (HO3.out.below hB)
 have HB4:=Lib.hid (HB3.out.trans (hB.mono HB3.out.size))
 clear hO hB HR2 HX2 HO3 HB3
 obtain ⟨m2,hm2⟩:∃ m,R2.length=m:=⟨_,rfl⟩
 have Hm2:=Lib.hid hm2
 rw [hm2]
 clear hm2
 have HU:=Lib.hid (unionOf_any ad3 ad4 m1 c3 m2 c4 R1 R2 w4 HO34.out HO4.out Hm1.out Hm2.out (by have:=HL1.out;have:=HL2.out;rw [Hm1.out] at *;rw [Hm2.out] at *;omega) HV1.out HV2.out)
 clear HO34 HO4
 go_wp2_with fail
 refine HU.out.mono ?_
 rintro e w5 ⟨v,rfl,hO,hB⟩
 obtain ⟨ad5,c5,rfl,_⟩:=hO.form
 have HT:=Lib.hid (restOf_any ad5 (unionR R1 R2).length c5 (unionR R1 R2) w5 hO.rd rfl (by have:=HUl.out;omega) HVu.out)
 rw [← HBo.out] at HT
 have HB5:=Lib.hid (HB4.out.trans (hB.mono HB4.out.size))
 clear hO hB HU HB4
 generalize (unionR R1 R2).length=ul at *
 go_wp2_with fail
 refine HT.out.mono ?_
 rintro e w6 ⟨v,rfl,hO,hB⟩
 have HO6:=Lib.hid (hO.weak HB5.out.size)
 have HB6:=Lib.hid (HB5.out.trans (hB.mono HB5.out.size))
 clear hO hB
 go_wp2_with fail
 go_ret
 exact ⟨_,rfl,HO6.out,HB6.out⟩
theorem withoutOf_any (ad1 ad2:Option Addr) (n1 c1 n2 c2:Nat) (L1 L2:List Pf) (w:World) (h1:RdK layPf w ad1 L1) (h2:RdK layPf w ad2 L2) (hn1:L1.length=n1) (hn2:L2.length=n2) (hs1:n1≤10000) (hs2:n2≤10000) (hr1:(restR L1).length≤4500) (hr2:(restR L2).length≤4500) (hr3:(restR (restR L2)).length≤4500) (hv1:∀ p ∈ L1,OkPf p) (hv2:∀ p ∈ L2,OkPf p) :
  Calls Tryz.prog 52 #[.slice ad1 n1 c1, .slice ad2 n2 c2] w fun e w' => ∃ v,e=.returned v∧OwnK layPf w' w.heap.size v (withoutR L1 L2)∧Below w.heap.size w w':=by
 have HR2:=Lib.hid (restOf_any ad2 n2 c2 L2 w h2 hn2 hs2 hv2)
 have H1:=Lib.hid h1
 have HV2:=Lib.hid (ok_restR hv2)
 have HV1:=Lib.hid hv1
 have Hn1:=Lib.hid hn1
 have HL1:=Lib.hid hr1
 have HL2:=Lib.hid hr2
 have HL3:=Lib.hid hr3
 have HBo:Hid (withoutR L1 L2=bothR L1 (restR L2)):=Lib.hid rfl
 clear h1 h2 hn1 hn2 hv1 hv2 hr1 hr2 hr3
 generalize restR L2=R2 at *
 go_enter Tryz.func52,Tryz.ntmps52
 go_wp2_with fail
 refine HR2.out.mono ?_
 rintro e w3 ⟨v,rfl,hO,hB⟩
 obtain ⟨ad3,c3,rfl,_⟩:=hO.form
 have HT:=Lib.hid (bothOf_any ad1 ad3 n1 c1 R2.length c3 L1 R2 w3 (H1.out.below hB) hO.rd Hn1.out rfl hs1 (by have:=HL2.out;omega) HL1.out HL3.out HV1.out HV2.out)
 rw [← HBo.out] at HT
 have HB3:=Lib.hid hB
 clear hO hB HR2 H1
 generalize R2.length=ul at *
 go_wp2_with fail
 refine HT.out.mono ?_
 rintro e w6 ⟨v,rfl,hO,hB⟩
 have HO6:=Lib.hid (hO.weak HB3.out.size)
 have HB6:=Lib.hid (HB3.out.trans (hB.mono HB3.out.size))
 clear hO hB
 go_wp2_with fail
 go_ret
 exact ⟨_,rfl,HO6.out,HB6.out⟩
theorem freeS_len {P:Pf} {K:List Pf} {L:List Ls} (h1:OkPf P) (h2:∀ p ∈ takenL K L,OkPf p) (hs:K.length + L.length≤7):(freeS P K L).length≤100000:=by
 have hP1:∀ p ∈ [P],OkPf p:=fun p hp => by rw [List.mem_singleton.1 hp];exact h1
 have g:=gaps_ok (spn_can h2) (spn_vr h2)
 have hb:=(both_vr _ (spn [P]) (gaps (spn (takenL K L))) (Nat.le_refl _) (spn_vr hP1) g.2.2).2
 have a1:=spn_len [P]
 have a2:=gaps_len (spn (takenL K L))
 have a3:=spn_len (takenL K L)
 have a4:=jn_len (both (spn [P]) (gaps (spn (takenL K L))))
 have a5:(takenL K L).length≤7:=by unfold takenL;rw [List.length_append,List.length_map];omega
 simp only [List.length_singleton] at a1
 show (jn (both (spn [P]) (gaps (spn (takenL K L))))).length≤100000
 omega
theorem used_any (P:Pf) (ka la:Option Addr) (kn kc ln lc:Nat) (K:List Pf) (L:List Ls) (w:World) (hK:RdK layPf w ka K) (hL:RdK layLs w la L) (hkn:K.length=kn) (hln:L.length=ln) (hks:kn≤100) (hls:ln≤100) :
  Calls Tryz.prog 54 #[.agg (plC P (.slice ka kn kc) (.slice la ln lc)).toArray] w fun e w' => ∃ v,e=.returned v∧OwnK layPf w' w.heap.size v (takenL K L)∧Below w.heap.size w w':=by
 have Hkn:=Lib.hid hkn
 have Hln:=Lib.hid hln
 have HB01:Hid (Below w.heap.size w (w.alloc (.cells (plC P (.slice ka kn kc) (.slice la ln lc)).toArray 34 (0,0)))):=Lib.hid (below_alloc (Below.refl _ _) _)
 have HK0:=Lib.hid (hK.below HB01.out)
 have HL0:=Lib.hid (hL.below HB01.out)
 have HQ0:Hid (Blk (w.alloc (.cells (plC P (.slice ka kn kc) (.slice la ln lc)).toArray 34 (0,0))) w.heap.size 34 (plC P (.slice ka kn kc) (.slice la ln lc)).toArray):=Lib.hid (Blk.new w _ _)
 clear hK hL
 obtain ⟨ps,ph,pl,pn⟩:=P
 rw [show (plC (ps,ph,pl,pn) (.slice ka kn kc) (.slice la ln lc)).toArray=#[.bool ps, .int .u64 (ph:Int), .int .u64 (pl:Int), .int .i64 pn, .slice ka kn kc, .slice la ln lc] from rfl] at *
 have HTk:Hid (takenL K L=K ++ (L.take ln).map (·.2)):=Lib.hid (by unfold takenL;rw [List.take_of_length_le (by omega)])
 clear hkn hln
 go_enter Tryz.func54,Tryz.ntmps54
 go_upto_region 1 with fail
 generalize w.alloc (.cells #[.bool ps, .int .u64 (ph:Int), .int .u64 (pl:Int), .int .i64 pn, .slice ka kn kc, .slice la ln lc] 34 (0,0))=w1 at *
 generalize w.heap.size=pb at HQ0 ⊢
 have HCl:=Lib.hid (clonePf_any ka kn kc K w1 HK0.out Hkn.out (by omega))
 have p4:=HQ0.out.cell 4
 simp at p4
 go_wp2_with fail
 refine HCl.out.mono ?_
 rintro e w2 ⟨v,rfl,hO,hb⟩
 have HO:=Lib.hid hO
 have HB:=Lib.hid hb
 have HQ:=Lib.hid (HQ0.out.below hb HQ0.out.lt)
 clear hO hb HCl p4
 have p5:=HQ.out.cell 5
 simp at p5
 go_wp2_with fail
 go_loopw [3,5,12] (fun v bx i wr => ∃ (k:Nat) (V:Value),k≤ln∧i=.int .i64 (k:Int)∧V=v∧Hid (OwnK layPf wr w1.heap.size V (K ++ (L.take k).map (·.2)))∧Hid (Below w1.heap.size w1 wr)) (fun _ _ i _ => ln - (intOf i).toNat)
 case atStart => exact ⟨0,_,Nat.zero_le _,rfl,rfl,Lib.hid (by simpa using HO.out),HB⟩
 case round =>
  clear HO HB HQ p5
  obtain ⟨k,V,hk,rfl,rfl,HO,HB⟩:=hrel
  have HQ:=Lib.hid (HQ0.out.below HB.out HQ0.out.lt)
  by_cases hlt:k < ln
  ·have hS:k < L.length:=by rw [Hln.out];exact hlt
   obtain ⟨x,hx⟩:∃ x,L[k]?=some x:=⟨_,List.getElem?_eq_getElem hS⟩
   have HT1:Hid (K ++ (L.take (k + 1)).map (·.2)=(K ++ (L.take k).map (·.2)) ++ [x.2]):=Lib.hid (by
    rw [List.take_add_one,hx];simp)
   have HLn:Hid ((K ++ (L.take k).map (·.2)).length≤200):=Lib.hid (by rw [List.length_append,List.length_map,List.length_take];have:=Hkn.out;omega)
   obtain ⟨S,s,h,l,n⟩:=x
   obtain ⟨g,o,had,hg,c0,c1,c2,c3,c4⟩:=(HL0.out.below HB.out).ls hx
   subst had
   generalize strL S=S at *
   have HX3:Hid (Blk (wr.alloc (.cells #[.string S, .bool s, .int .u64 (h:Int), .int .u64 (l:Int), .int .i64 n] 67 (0,0))) wr.heap.size 67 #[.string S, .bool s, .int .u64 (h:Int), .int .u64 (l:Int), .int .i64 n]):=Lib.hid (Blk.new wr _ _)
   have HO3:=Lib.hid (HO.out.alloc (.cells #[.string S, .bool s, .int .u64 (h:Int), .int .u64 (l:Int), .int .i64 n] 67 (0,0)))
   have HB3:Hid (Below w1.heap.size w1 (wr.alloc (.cells #[.string S, .bool s, .int .u64 (h:Int), .int .u64 (l:Int), .int .i64 n] 67 (0,0)))):=Lib.hid (Below.alloc HB.out HB.out.size _)
   clear hx hg hS
   go_upto_region 5 with fail
   generalize wr.alloc (.cells #[.string S, .bool s, .int .u64 (h:Int), .int .u64 (l:Int), .int .i64 n] 67 (0,0))=w3 at *
   generalize wr.heap.size=bx at *
   clear HB HO HQ c0 c1 c2 c3 c4
   have d1:=HX3.out.cell 1
   have d2:=HX3.out.cell 2
   have d3:=HX3.out.cell 3
   have d4:=HX3.out.cell 4
   simp at d1 d2 d3 d4
   have HX:Hid ((layPf.enc (s,h,l,n)).toArray=#[.bool s, .int .u64 (h:Int), .int .u64 (l:Int), .int .i64 n]):=Lib.hid rfl
   generalize hQ:K ++ (L.take k).map (·.2)=Q at *
   go_wp2_with (at_builtin;refine wpList_app pfE rfl (.tmp 16) (.tmp 19) rfl rfl (World.ownsRow.alloc HO3.out _) rfl (src_new layPf _ (s,h,l,n) _ _ ?c0) ?c1 ?c2 ?c3 ?c4 ?_)
   case c0 => first | rfl | exact HX.out.symm
   case c1 => exact layPf.one _
   case c2 => have:=HLn.out;unfold maxLen;omega
   case c3 => have:=HLn.out;omega
   case c4 => have:=HB3.out.size;simp;omega
   intro v' w' hO hG
   have HO':Hid (OwnK layPf w' w1.heap.size v' (Q ++ [(s,h,l,n)])):=Lib.hid (OwnK.snoc hO)
   have HB':Hid (Below w1.heap.size w1 w'):=Lib.hid (HB3.out.trans (hG.allocFirst.below HB3.out.size (own_base HO3.out)))
   clear hO hG HO3 HB3 HX3 d1 d2 d3 d4 HX
   go_wp2_with fail
   exact ⟨⟨k + 1,_,by omega,by go_num,rfl,Lib.hid (by rw [HT1.out];exact HO'.out),HB'⟩,by simp [intOf];omega⟩
  ·obtain ⟨l0,hl0⟩:∃ q,q=ln:=⟨_,rfl⟩
   obtain rfl:k=ln:=by omega
   subst hl0
   go_wp2_with fail
   go_ret
   exact ⟨_,rfl,by rw [HTk.out];exact HO.out.weak HB01.out.size,HB01.out.trans (HB.out.mono HB01.out.size)⟩
theorem free_any (P:Pf) (ka la:Option Addr) (kn kc ln lc:Nat) (K:List Pf) (L:List Ls) (w:World) (hK:RdK layPf w ka K) (hL:RdK layLs w la L) (hkn:K.length=kn) (hln:L.length=ln) (hks:kn≤100) (hls:ln≤100) (hP:OkPf P) (hT:∀ p ∈ takenL K L,OkPf p) :
  Calls Tryz.prog 36 #[.agg (plC P (.slice ka kn kc) (.slice la ln lc)).toArray] w fun e w' => ∃ v,e=.returned v∧OwnK layRg w' w.heap.size v (freeS P K L)∧Below w.heap.size w w':=by
 have Hkn:=Lib.hid hkn
 have Hln:=Lib.hid hln
 have HT:=Lib.hid hT
 have hP1:∀ p ∈ [P],OkPf p:=fun p hp => by rw [List.mem_singleton.1 hp];exact hP
 have HP1:=Lib.hid hP1
 have HFS:Hid (freeS P K L=jn (both (spn [P]) (gaps (spn (takenL K L))))):=Lib.hid rfl
 clear hP hT hP1
 have HB01:Hid (Below w.heap.size w (w.alloc (.cells (plC P (.slice ka kn kc) (.slice la ln lc)).toArray 34 (0,0)))):=Lib.hid (below_alloc (Below.refl _ _) _)
 have HK0:=Lib.hid (hK.below HB01.out)
 have HL0:=Lib.hid (hL.below HB01.out)
 have HQ0:Hid (Blk (w.alloc (.cells (plC P (.slice ka kn kc) (.slice la ln lc)).toArray 34 (0,0))) w.heap.size 34 (plC P (.slice ka kn kc) (.slice la ln lc)).toArray):=Lib.hid (Blk.new w _ _)
 clear hK hL
 obtain ⟨ps,ph,pl,pn⟩:=P
 rw [show (plC (ps,ph,pl,pn) (.slice ka kn kc) (.slice la ln lc)).toArray=#[.bool ps, .int .u64 (ph:Int), .int .u64 (pl:Int), .int .i64 pn, .slice ka kn kc, .slice la ln lc] from rfl] at *
 have HTk:Hid (takenL K L=K ++ (L.take ln).map (·.2)):=Lib.hid (by unfold takenL;rw [List.take_of_length_le (by omega)])
 clear hkn hln
 go_enter Tryz.func36,Tryz.ntmps36
 go_upto_region 1 with fail
 generalize w.alloc (.cells #[.bool ps, .int .u64 (ph:Int), .int .u64 (pl:Int), .int .i64 pn, .slice ka kn kc, .slice la ln lc] 34 (0,0))=w1 at *
 generalize w.heap.size=pb at HQ0 ⊢
 have HCl:=Lib.hid (clonePf_any ka kn kc K w1 HK0.out Hkn.out (by omega))
 have p4:=HQ0.out.cell 4
 simp at p4
 go_wp2_with fail
 refine HCl.out.mono ?_
 rintro e w2 ⟨v,rfl,hO,hb⟩
 have HO:=Lib.hid hO
 have HB:=Lib.hid hb
 have HQ:=Lib.hid (HQ0.out.below hb HQ0.out.lt)
 clear hO hb HCl p4
 have p5:=HQ.out.cell 5
 simp at p5
 go_wp2_with fail
 go_loopw [3,5,12] (fun v bx i wr => ∃ (k:Nat) (V:Value),k≤ln∧i=.int .i64 (k:Int)∧V=v∧Hid (OwnK layPf wr w1.heap.size V (K ++ (L.take k).map (·.2)))∧Hid (Below w1.heap.size w1 wr)) (fun _ _ i _ => ln - (intOf i).toNat)
 case atStart => exact ⟨0,_,Nat.zero_le _,rfl,rfl,Lib.hid (by simpa using HO.out),HB⟩
 case round =>
  clear HO HB HQ p5
  obtain ⟨k,V,hk,rfl,rfl,HO,HB⟩:=hrel
  have HQ:=Lib.hid (HQ0.out.below HB.out HQ0.out.lt)
  by_cases hlt:k < ln
  ·have hS:k < L.length:=by rw [Hln.out];exact hlt
   obtain ⟨x,hx⟩:∃ x,L[k]?=some x:=⟨_,List.getElem?_eq_getElem hS⟩
   have HT1:Hid (K ++ (L.take (k + 1)).map (·.2)=(K ++ (L.take k).map (·.2)) ++ [x.2]):=Lib.hid (by
    rw [List.take_add_one,hx];simp)
   have HLn:Hid ((K ++ (L.take k).map (·.2)).length≤200):=Lib.hid (by rw [List.length_append,List.length_map,List.length_take];have:=Hkn.out;omega)
   obtain ⟨S,s,h,l,n⟩:=x
   obtain ⟨g,o,had,hg,c0,c1,c2,c3,c4⟩:=(HL0.out.below HB.out).ls hx
   subst had
   generalize strL S=S at *
   have HX3:Hid (Blk (wr.alloc (.cells #[.string S, .bool s, .int .u64 (h:Int), .int .u64 (l:Int), .int .i64 n] 67 (0,0))) wr.heap.size 67 #[.string S, .bool s, .int .u64 (h:Int), .int .u64 (l:Int), .int .i64 n]):=Lib.hid (Blk.new wr _ _)
   have HO3:=Lib.hid (HO.out.alloc (.cells #[.string S, .bool s, .int .u64 (h:Int), .int .u64 (l:Int), .int .i64 n] 67 (0,0)))
   have HB3:Hid (Below w1.heap.size w1 (wr.alloc (.cells #[.string S, .bool s, .int .u64 (h:Int), .int .u64 (l:Int), .int .i64 n] 67 (0,0)))):=Lib.hid (Below.alloc HB.out HB.out.size _)
   clear hx hg hS
   go_upto_region 5 with fail
   generalize wr.alloc (.cells #[.string S, .bool s, .int .u64 (h:Int), .int .u64 (l:Int), .int .i64 n] 67 (0,0))=w3 at *
   generalize wr.heap.size=bx at *
   clear HB HO HQ c0 c1 c2 c3 c4
   have d1:=HX3.out.cell 1
   have d2:=HX3.out.cell 2
   have d3:=HX3.out.cell 3
   have d4:=HX3.out.cell 4
   simp at d1 d2 d3 d4
   have HX:Hid ((layPf.enc (s,h,l,n)).toArray=#[.bool s, .int .u64 (h:Int), .int .u64 (l:Int), .int .i64 n]):=Lib.hid rfl
   generalize hQ:K ++ (L.take k).map (·.2)=Q at *
   go_wp2_with (at_builtin;refine wpList_app pfE rfl (.tmp 16) (.tmp 19) rfl rfl (World.ownsRow.alloc HO3.out _) rfl (src_new layPf _ (s,h,l,n) _ _ ?c0) ?c1 ?c2 ?c3 ?c4 ?_)
   case c0 => first | rfl | exact HX.out.symm
   case c1 => exact layPf.one _
   case c2 => have:=HLn.out;unfold maxLen;omega
   case c3 => have:=HLn.out;omega
   case c4 => have:=HB3.out.size;simp;omega
   intro v' w' hO hG
   have HO':Hid (OwnK layPf w' w1.heap.size v' (Q ++ [(s,h,l,n)])):=Lib.hid (OwnK.snoc hO)
   have HB':Hid (Below w1.heap.size w1 w'):=Lib.hid (HB3.out.trans (hG.allocFirst.below HB3.out.size (own_base HO3.out)))
   clear hO hG HO3 HB3 HX3 d1 d2 d3 d4 HX
   go_wp2_with fail
   exact ⟨⟨k + 1,_,by omega,by go_num,rfl,Lib.hid (by rw [HT1.out];exact HO'.out),HB'⟩,by simp [intOf];omega⟩
  ·obtain ⟨l0,hl0⟩:∃ q,q=ln:=⟨_,rfl⟩
   obtain rfl:k=ln:=by omega
   subst hl0
   rw [← HTk.out] at HO
   clear HTk hlt
   have p0:=HQ.out.cell 0
   have p1:=HQ.out.cell 1
   have p2:=HQ.out.cell 2
   have p3:=HQ.out.cell 3
   simp at p0 p1 p2 p3
   have HTl:Hid ((takenL K L).length≤200):=Lib.hid (by unfold takenL;rw [List.length_append,List.length_map];have:=Hkn.out;have:=Hln.out;omega)
   have HPx:Hid (Blk ((wr.alloc (.cells #[.bool ps, .int .u64 (ph:Int), .int .u64 (pl:Int), .int .i64 pn] 30 (0,0)))) wr.heap.size 30 #[.bool ps, .int .u64 (ph:Int), .int .u64 (pl:Int), .int .i64 pn]):=Lib.hid (Blk.new wr _ _)
   have HOx:=Lib.hid (HO.out.alloc (.cells #[.bool ps, .int .u64 (ph:Int), .int .u64 (pl:Int), .int .i64 pn] 30 (0,0)))
   have HBx:Hid (Below w1.heap.size w1 (wr.alloc (.cells #[.bool ps, .int .u64 (ph:Int), .int .u64 (pl:Int), .int .i64 pn] 30 (0,0)))):=Lib.hid (Below.alloc HB.out HB.out.size _)
   have HS1:=Lib.hid (fun (c:Nat) => spanOf_any (some ⟨wr.heap.size,0,none⟩) 1 c [(ps,ph,pl,pn)] (wr.alloc (.cells #[.bool ps, .int .u64 (ph:Int), .int .u64 (pl:Int), .int .i64 pn] 30 (0,0))) (RdK.blk layPf HPx.out rfl) rfl (by omega) HP1.out)
   have e1:jn ([(ps,ph,pl,pn)].map spP)=spn [(ps,ph,pl,pn)]:=rfl
   have e2:jn ((takenL K L).map spP)=spn (takenL K L):=rfl
   rw [e1] at HS1
   have HV1:=Lib.hid (spn_vr HP1.out)
   have HV2:=Lib.hid (spn_vr HT.out)
   have HK2:=Lib.hid (spn_can HT.out)
   have HN1:Hid ((spn [(ps,ph,pl,pn)]).length≤1000):=Lib.hid (by have:=spn_len [(ps,ph,pl,pn)];simp only [List.length_singleton] at this;omega)
   have HN2:Hid ((spn (takenL K L)).length≤1000):=Lib.hid (by have:=spn_len (takenL K L);have:=HTl.out;omega)
   obtain ⟨ad,c,rfl, -,hlc, -⟩:=HO.out.form
   have HS2:=Lib.hid fun wx (hr:RdK layPf wx ad (takenL K L)) => spanOf_any ad (takenL K L).length c (takenL K L) wx hr rfl (by have:=HTl.out;omega) HT.out
   rw [e2] at HS2
   have HRd:=Lib.hid HOx.out.rd
   clear e1 e2 HT HP1 HPx hlc HOx
   generalize spn (takenL K L)=S2 at *
   generalize spn [(ps,ph,pl,pn)]=S1 at *
   generalize (takenL K L).length=tl at *
   generalize takenL K L=TL at *
   go_wp2_with fail
   refine (HS1.out _).mono ?_
   rintro e w3 ⟨v,rfl,hO,hb⟩
   obtain ⟨b1,d1,rfl,_⟩:=hO.form
   have HO1:=Lib.hid hO.rd
   have HB3:=Lib.hid (HBx.out.trans (hb.mono HBx.out.size))
   have HZ2:=Lib.hid (HRd.out.below hb)
   clear hO hb HS1 HRd HBx HB HO p0 p1 p2 p3
   obtain ⟨m1,hm1⟩:∃ m,S1.length=m:=⟨_,rfl⟩
   have Hm1:=Lib.hid hm1
   rw [hm1]
   clear hm1
   go_wp2_with fail
   refine (HS2.out _ HZ2.out).mono ?_
   rintro e w4 ⟨v,rfl,hO,hb⟩
   obtain ⟨b2,d2,rfl,_⟩:=hO.form
   have HO2:=Lib.hid hO.rd
   have HO1':=Lib.hid (HO1.out.below hb)
   have HB4:=Lib.hid (HB3.out.trans (hb.mono HB3.out.size))
   clear hO hb HS2 HZ2 HO1 HB3
   obtain ⟨m2,hm2⟩:∃ m,S2.length=m:=⟨_,rfl⟩
   have Hm2:=Lib.hid hm2
   rw [hm2]
   clear hm2
   have hmb1:m1≤1000:=by rw [← Hm1.out];exact HN1.out
   have hmb2:m2≤1000:=by rw [← Hm2.out];exact HN2.out
   have HRs:=Lib.hid (rest_any b2 m2 d2 S2 w4 HO2.out Hm2.out (by omega) HK2.out HV2.out)
   have HGv:=Lib.hid (gaps_ok HK2.out HV2.out).2.2
   have HGl:Hid ((gaps S2).length≤2002):=Lib.hid (by have:=gaps_len S2;rw [Hm2.out] at this;omega)
   clear HO2
   generalize gaps S2=G2 at *
   go_wp2_with fail
   refine HRs.out.mono ?_
   rintro e w5 ⟨v,rfl,hO,hb⟩
   obtain ⟨b5,d5,rfl,_⟩:=hO.form
   have HB5:=Lib.hid (HB4.out.trans (hb.mono HB4.out.size))
   obtain ⟨m5,hm5⟩:∃ m,G2.length=m:=⟨_,rfl⟩
   have HT:=Lib.hid (sboth_any b1 b5 m1 d1 m5 d5 S1 G2 w5 (HO1'.out.below hb) hO.rd Hm1.out hm5 (by omega) (by rw [← hm5];have:=HGl.out;omega) HV1.out HGv.out)
   rw [hm5]
   clear HO1' HB4 hO hb hm5 HRs HGl
   generalize jn (both S1 G2)=RJ at *
   go_wp2_with fail
   refine HT.out.mono ?_
   rintro e w6 ⟨v,rfl,hO,hb⟩
   have HO6:=Lib.hid hO
   have HB6:=Lib.hid (HB5.out.trans (hb.mono HB5.out.size))
   clear hO hb HT
   go_wp2_with fail
   go_ret
   exact ⟨_,rfl,by rw [HFS.out];exact HO6.out.weak (Nat.le_trans HB01.out.size HB5.out.size),HB01.out.trans (HB6.out.mono HB01.out.size)⟩
def frR (pb:Nat) (PVv P4v:Array Value) (T D F:List Pf) (base:Nat):Nat→Value→World→Prop
 | 0,v,_ => v=.pointer (some ⟨pb,0,none⟩)
 | 1,v,_ => v=.agg P4v
 | 2,v,w => ∃ B,v=.slice (some ⟨B,0,none⟩) 1 1∧Blk w B 30 P4v
 | 3,v,_ => v=.agg PVv
 | 4,v,w => ∃ ad c,v=.slice ad T.length c∧RdK layPf w ad T
 | 5,v,w => ∃ ad c,v=.slice ad D.length c∧RdK layPf w ad D
 | _,v,w => OwnK layPf w base v F
theorem frR_keep {pb:Nat} {PVv P4v:Array Value} {T D F:List Pf} {base:Nat} (p:Nat) (v:Value) (u w:World) (h:frR pb PVv P4v T D F base p v u) (hb:Below u.heap.size u w):frR pb PVv P4v T D F base p v w:=by
 rcases p with _ | _ | _ | _ | _ | _ | p
 ·exact h
 ·exact h
 ·obtain ⟨B,h1,h2⟩:=h;exact ⟨B,h1,h2.below hb h2.lt⟩
 ·exact h
 ·obtain ⟨ad,c,h1,h2⟩:=h;exact ⟨ad,c,h1,h2.below hb⟩
 ·obtain ⟨ad,c,h1,h2⟩:=h;exact ⟨ad,c,h1,h2.below hb⟩
 ·exact OwnK.later h hb
theorem restR_lst {T:List Pf} (hT:∀ p ∈ T,OkPf p):restR (lst T)=restR T:=by
 show pfs (gaps (spn (lst T)))=pfs (gaps (spn T))
 rw [spn_lst hT]
theorem freeOf_any (P:Pf) (ka la:Option Addr) (kn kc ln lc:Nat) (K:List Pf) (L:List Ls) (w:World) (hK:RdK layPf w ka K) (hL:RdK layLs w la L) (hkn:K.length=kn) (hln:L.length=ln) (hs:kn + ln≤7) (hP:OkPf P) (hT:∀ p ∈ takenL K L,OkPf p) :
  Calls Tryz.prog 14 #[.agg (plC P (.slice ka kn kc) (.slice la ln lc)).toArray] w fun e w' => ∃ v,e=.returned v∧OwnK layPf w' w.heap.size v (freeL P K L)∧Below w.heap.size w w':=by
 have hP1:∀ p ∈ [P],OkPf p:=fun p hp => by rw [List.mem_singleton.1 hp];exact hP
 have hTl:(takenL K L).length≤7:=by unfold takenL;rw [List.length_append,List.length_map];omega
 have hDl:(lst (takenL K L)).length≤7:=by have:=lst_len hT;omega
 have HU:=Lib.hid fun wx (hk:RdK layPf wx ka K) (hl:RdK layLs wx la L) => used_any P ka la kn kc ln lc K L wx hk hl hkn hln (by omega) (by omega)
 have HLs:=Lib.hid fun ad c wx (hr:RdK layPf wx ad (takenL K L)) => leastOf_any ad (takenL K L).length c (takenL K L) wx hr rfl (by omega) hT
 have hD:=ok_lst hT
 have r1:(restR [P]).length≤4500:=by have:=rest_len hP1;unfold restR;simp only [List.length_singleton] at this;omega
 have r2:(restR (lst (takenL K L))).length≤4500:=by rw [restR_lst hT];have:=rest_len hT;unfold restR;omega
 have r3:(restR (restR (lst (takenL K L)))).length≤4500:=by have:=rest2_len hD;omega
 have HWo:=Lib.hid fun B ad c wx (h1:RdK layPf wx (some ⟨B,0,none⟩) [P]) (h2:RdK layPf wx ad (lst (takenL K L))) => withoutOf_any (some ⟨B,0,none⟩) ad 1 1 (lst (takenL K L)).length c [P] (lst (takenL K L)) wx h1 h2 rfl rfl (by omega) (by omega) r1 r2 r3 hP1 hD
 rw [free_eq hP hT] at HWo
 clear hP1 hD r1 r2 r3 hTl hDl hP hT hkn hln
 generalize hX1:takenL K L=TL at HU HLs HWo
 generalize hX2:freeL P K L=FL at HWo ⊢
 clear hX1 hX2
 generalize lst TL=DL at *
 have HB01:Hid (Below w.heap.size w (w.alloc (.cells (plC P (.slice ka kn kc) (.slice la ln lc)).toArray 34 (0,0)))):=Lib.hid (below_alloc (Below.refl _ _) _)
 have HK0:=Lib.hid (hK.below HB01.out)
 have HL0:=Lib.hid (hL.below HB01.out)
 have HQ0:Hid (Blk (w.alloc (.cells (plC P (.slice ka kn kc) (.slice la ln lc)).toArray 34 (0,0))) w.heap.size 34 (plC P (.slice ka kn kc) (.slice la ln lc)).toArray):=Lib.hid (Blk.new w _ _)
 clear hK hL
 obtain ⟨ps,ph,pl,pn⟩:=P
 rw [show (plC (ps,ph,pl,pn) (.slice ka kn kc) (.slice la ln lc)).toArray=#[.bool ps, .int .u64 (ph:Int), .int .u64 (pl:Int), .int .i64 pn, .slice ka kn kc, .slice la ln lc] from rfl] at *
 have HRp:Hid (∀ wx B,Blk wx B 30 #[.bool ps, .int .u64 (ph:Int), .int .u64 (pl:Int), .int .i64 pn]→RdK layPf wx (some ⟨B,0,none⟩) [(ps,ph,pl,pn)]):=Lib.hid fun wx B h => RdK.blk layPf h rfl
 go_enter Tryz.func14,Tryz.ntmps14
 go_upto_region 1 with fail
 generalize w.alloc (.cells #[.bool ps, .int .u64 (ph:Int), .int .u64 (pl:Int), .int .i64 pn, .slice ka kn kc, .slice la ln lc] 34 (0,0))=w1 at *
 generalize w.heap.size=pb at HQ0 ⊢
 have p0:=HQ0.out.cell 0
 have p1:=HQ0.out.cell 1
 have p2:=HQ0.out.cell 2
 have p3:=HQ0.out.cell 3
 have p4:=HQ0.out.cell 4
 have p5:=HQ0.out.cell 5
 simp at p0 p1 p2 p3 p4 p5
 have l0:=Later.cell_of p0
 have l1:=Later.cell_of p1
 have l2:=Later.cell_of p2
 have l3:=Later.cell_of p3
 have l4:=Later.cell_of p4
 have l5:=Later.cell_of p5
 refine wp_region_inv 7 0 (frR pb #[.bool ps, .int .u64 (ph:Int), .int .u64 (pl:Int), .int .i64 pn, .slice ka kn kc, .slice la ln lc] #[.bool ps, .int .u64 (ph:Int), .int .u64 (pl:Int), .int .i64 pn] TL DL FL w.heap.size) (fun _ wx => Below w1.heap.size w1 wx) (fun u v => Below u.heap.size u v) (fun _ => 0)
  (by kernel_rfl) (by kernel_rfl) (by decide) frR_keep (below_drew (Below.refl _ _)) ?hX
 case' hX => (apply Exists.intro;refine ⟨fun T => ?hA,?hob,?hend⟩)
 case hA =>
  simp only [setAll,List.take_succ_cons,List.take_zero,Act.put,List.setIfInBounds_toArray,List.set_cons_succ,List.set_cons_zero,Nat.reduceAdd]
  exact rfl
 case hob =>
  clear HQ0 p0 p1 p2 p3 p4 p5
  go_light
  refine ⟨?_,?_,?_,?_,?_,?_,?_,trivial⟩
  all_goals (intro T wx n0 hC hn hp;dsimp only at hn ⊢;unfold Op1)
  ·go_simp
   exact ⟨rfl,Below.refl _ _⟩
  ·obtain ⟨h0, -⟩:=hp
   have h0:T 0=.pointer (some ⟨pb,0,none⟩):=h0
   have e0:=l0 ⟨wx,hC⟩
   have e1:=l1 ⟨wx,hC⟩
   have e2:=l2 ⟨wx,hC⟩
   have e3:=l3 ⟨wx,hC⟩
   simp only at e0 e1 e2 e3
   go_simp
   exact ⟨rfl,Below.refl _ _⟩
  ·obtain ⟨h0, -⟩:=hp
   have h0:T 1=.agg #[.bool ps, .int .u64 (ph:Int), .int .u64 (pl:Int), .int .i64 pn]:=h0
   go_simp
   exact ⟨⟨wx.heap.size,rfl,Blk.new wx _ _⟩,below_alloc hC _,below_alloc (Below.refl _ _) _⟩
  ·have e0:=l0 ⟨wx,hC⟩
   have e1:=l1 ⟨wx,hC⟩
   have e2:=l2 ⟨wx,hC⟩
   have e3:=l3 ⟨wx,hC⟩
   have e4:=l4 ⟨wx,hC⟩
   have e5:=l5 ⟨wx,hC⟩
   simp only at e0 e1 e2 e3 e4 e5
   go_simp
   exact ⟨rfl,Below.refl _ _⟩
  ·obtain ⟨h0, -⟩:=hp
   have h0:T 3=.agg #[.bool ps, .int .u64 (ph:Int), .int .u64 (pl:Int), .int .i64 pn, .slice ka kn kc, .slice la ln lc]:=h0
   go_simp
   refine (HU.out wx (HK0.out.below hC) (HL0.out.below hC)).mono ?_
   rintro e w5 ⟨v,rfl,hO,hb⟩
   obtain ⟨a5,c5,rfl,_⟩:=hO.form
   exact ⟨_,rfl,⟨_,_,rfl,hO.rd⟩,hC.trans (hb.mono hC.size),hb⟩
  ·obtain ⟨h0, -⟩:=hp
   obtain ⟨ad,c,h0,q⟩:∃ ad c,T 4=.slice ad TL.length c∧RdK layPf wx ad TL:=h0
   go_simp
   refine (HLs.out ad c wx q).mono ?_
   rintro e w5 ⟨v,rfl,hO,hb⟩
   obtain ⟨a5,c5,rfl,_⟩:=hO.form
   exact ⟨_,rfl,⟨_,_,rfl,hO.rd⟩,hC.trans (hb.mono hC.size),hb⟩
  ·obtain ⟨h0,h1, -⟩:=hp
   obtain ⟨B,h0,q0⟩:∃ B,T 2=.slice (some ⟨B,0,none⟩) 1 1∧Blk wx B 30 #[.bool ps, .int .u64 (ph:Int), .int .u64 (pl:Int), .int .i64 pn]:=h0
   obtain ⟨ad,c,h1,q⟩:∃ ad c,T 5=.slice ad DL.length c∧RdK layPf wx ad DL:=h1
   go_simp
   refine (HWo.out B ad c wx (HRp.out wx B q0) q).mono ?_
   rintro e w5 ⟨v,rfl,hO,hb⟩
   exact ⟨_,rfl,hO.weak (Nat.le_trans HB01.out.size hC.size),hC.trans (hb.mono hC.size),hb⟩
 case hend =>
  intro T w4 ⟨n0,hn0,hb⟩ hR
  have hO:OwnK layPf w4 w.heap.size (T 6) FL:=hR 6 (by omega)
  have HO:=Lib.hid hO
  have HB:=Lib.hid hb
  clear hR hb hO p0 p1 p2 p3 p4 p5 l0 l1 l2 l3 l4 l5 HQ0
  simp only [List.drop_succ_cons,List.drop_zero]
  generalize T 6=V at *
  go_wp2_with fail
  go_ret
  exact ⟨_,rfl,HO.out,HB01.out.trans (HB.out.mono HB01.out.size)⟩
end Go.Proofs.YteldaicgaeooiaaGreatDoor
namespace Go.Proofs
open Go.Shelf
def Tryz.insLs_ren:Go.Shelf.Ren:=⟨fun | 20 => 149 | n => n,fun | 24 => 67 | 22 => 32 | 3 => 3 | 25 => 97 | 4 => 4 | 0 => 0 | n => n,fun | n => n⟩
theorem Tryz.insLs:Go.Proofs.SlLaysF0.n20 Tryz.prog Tryz.insLs_ren:={
 mixed:=by kernel_rfl
 f20:=⟨Tryz.f149.name,by decide,Tryz.func149.trans (congrArg some (by kernel_rfl))⟩
 t0:=Tryz.underlying0
 a0:=Tryz.isAgg0
 z0:=Tryz.sizeOf0
 v0:=Tryz.zeroValue0
 t3:=Tryz.underlying3
 a3:=Tryz.isAgg3
 z3:=Tryz.sizeOf3
 v3:=Tryz.zeroValue3
 t4:=Tryz.underlying4
 a4:=Tryz.isAgg4
 z4:=Tryz.sizeOf4
 v4:=Tryz.zeroValue4
 t22:=Tryz.underlying32
 a22:=Tryz.isAgg32
 z22:=Tryz.sizeOf32
 v22:=Tryz.zeroValue32
 t25:=Tryz.underlying97
 a25:=Tryz.isAgg97
 z25:=Tryz.sizeOf97
 v25:=Tryz.zeroValue97 }
open Go.Sort Go.RowKit in
theorem Tryz.slices_ins_Ls {α:Type} [Inhabited α] (enc:α→List Value) (hk:∀ x,(enc x).length=5) (h1:∀ x, ∀ v ∈ enc x,v.oneCell'=true) (cf:α→α→Int) (g:Nat) (cb:Array Value) (blk off cap a b:Nat) (d:Array α) (w:World)
  (eg:∀ args w,(callFunc g args).run Tryz.prog w=.ok (.enter g args) w) (hcmp:CmpLays Tryz.prog g cb enc 5 cf blk off d.size w) (hH:HoldsK enc 5 w blk off d) (hblk:blk < w.heap.size) (hab:a≤b) (hb:b≤d.size) (hsz:d.size < 4611686018427387904) :
  Calls Tryz.prog 149 #[.slice (some ⟨blk,off,none⟩) d.size cap, .int .i64 a, .int .i64 b, .func (.func g) #[] cb] w fun e w' =>
   e=.returned (.tuple #[])∧∃ n os,w'=sortWorldK enc 5 w blk off n (Go.Sort.insertionSort (ltOf cf) d a b) os :=
 AnyQ.insertionSortCmpFunc Tryz.insLs 5 Tryz.isAgg67 Tryz.sizeOf67 enc hk h1 cf g cb blk off cap a b d w eg hcmp hH hblk hab hb hsz
open Go.Sort Go.RowKit in
theorem Tryz.slices_ins_Ls_none (p:Option Addr) (cap:Nat) (fv:Value) (w:World) :
  Calls Tryz.prog 149 #[.slice p 0 cap, .int .i64 0, .int .i64 0,fv] w fun e w' => e=.returned (.tuple #[])∧w'=w :=
 AnyF.insertionSortCmpFunc_none Tryz.insLs p cap fv w
end Go.Proofs
namespace Go.Proofs.YteldaicgaeooiaaGreatDoor
open Go.RowKit Go Go.Sort
instance:Inhabited Ls:=⟨zLs⟩
theorem size_insInnerT {α:Type} [Inhabited α] (lt:α→α→Bool) (a:Nat):∀ (j:Nat) (d:Array α),(Go.Sort.insInner lt a j d).size=d.size
 | 0,d => rfl
 | j + 1,d => by
   unfold Go.Sort.insInner
   split
   ·rw [size_insInnerT lt a j,Go.Sort.size_swp]
   ·rfl
theorem size_insOuterT {α:Type} [Inhabited α] (lt:α→α→Bool) (a b:Nat):∀ (n i:Nat) (d:Array α),b - i=n→(Go.Sort.insOuter lt a b i d).size=d.size
 | 0,i,d,h => by rw [Go.Sort.insOuter,if_neg (by omega)]
 | n + 1,i,d,h => by rw [Go.Sort.insOuter,if_pos (by omega),size_insOuterT lt a b n (i + 1) _ (by omega),size_insInnerT]
theorem size_insT {α:Type} [Inhabited α] (lt:α→α→Bool) (d:Array α) (a b:Nat):(Go.Sort.insertionSort lt d a b).size=d.size:=size_insOuterT lt a b _ _ d rfl
def stabLs (cf:Ls→Ls→Int) (L:List Ls):List Ls:=(Go.Sort.insertionSort (Go.Proofs.ltOf cf) L.toArray 0 L.length).toList
theorem stabLs_len (cf:Ls→Ls→Int) (L:List Ls):(stabLs cf L).length=L.length:=by
 unfold stabLs
 rw [Array.length_toList,size_insT]
 rfl
section
variable {α:Type} [Inhabited α] {E:Lay α}
theorem cmpLaysG {P:Program} {g blk off size:Nat} {w:World} {cf:α→α→Int} (h:∀ x y W,Calls P g #[.agg (E.enc x).toArray, .agg (E.enc y).toArray] W (RetD (.int .i64 (cf x y)) W)):Go.Proofs.CmpLays P g #[] E.enc E.K cf blk off size w :=
 fun m os dk _ x y => by
  rw [Array.append_empty]
  exact (h x y _).mono fun _ _ ⟨he,hb⟩ => ⟨he,hb.grow⟩
theorem OwnK.sortWorld {w w':World} {B g n c:Nat} {M:List α} (h:OwnK E w B (.slice (some ⟨g,0,none⟩) n c) M) {d':Array α} {q:Nat} {os:Array Obj}
  (hds':d'.size=M.length) (hw:w'=sortWorldK E.enc E.K w g 0 q d' os) :
  OwnK E w' B (.slice (some ⟨g,0,none⟩) n c) d'.toList∧w.grownBy w' (some g):=by
 subst hw
 obtain ⟨hn,hb,hc,hm,cur,hg,hs,ht⟩:=h.block
 have hlt:=lt_of_block hg
 have hF':=flat_all E d'
 have hfs':(flatK E.enc E.K d').size=M.length * E.K:=by rw [size_flatK,hds']
 show OwnK E (grow (putRow id (Sort.ahead w q) g 0 (flatK E.enc E.K d')) os) B _ _∧w.grownBy (grow (putRow id (Sort.ahead w q) g 0 (flatK E.enc E.K d')) os) (some g)
 generalize flatK E.enc E.K d'=F at hF' hfs' ⊢
 have hlen:d'.toList.length=M.length:=by simp [hds']
 generalize d'.toList=L at hF' hlen ⊢
 have hheap:∀ i,i < w.heap.size→(grow (putRow id (Sort.ahead w q) g 0 F) os).heap[i]?=if g=i then some (.cells (putCells id 0 F cur) E.ty (0,0)) else w.heap[i]?:=by
  intro i hi
  simp only [grow,putRow,mapBlock,Sort.ahead]
  rw [Array.getElem?_append_left (by simpa using hi),Array.getElem?_modify]
  by_cases e:g=i
  ·subst e
   rw [if_pos rfl,if_pos rfl,hg]
   rfl
  ·rw [if_neg e,if_neg e]
 have hFc:F.size≤cur.size:=by
  rw [hfs',hs]
  exact Nat.mul_le_mul_right _ (by omega)
 obtain ⟨p1,p2⟩:=putK_take F cur hFc
 refine ⟨⟨by rw [E.all_len], .inr ⟨g,c,_,by rw [hlen,hn],hb,by rw [hheap g hlt,if_pos rfl],by omega,hm,by omega,by rw [hlen, ← hfs',p2];exact hF'⟩⟩,?_⟩
 refine ⟨rfl,rfl,rfl,by simp [grow,putRow,mapBlock,Sort.ahead],fun i hi hne => ?_⟩
 rw [hheap i hi,if_neg (fun e => hne (by rw [e]))]
end
theorem insLs_any (cfT:Ls→Ls→Int) (gc:Nat) (cf:Ls→Ls→Int) (hcf:Go.Proofs.ltOf cf=Go.Proofs.ltOf cfT) (eg:∀ args w,(callFunc gc args).run Tryz.prog w=.ok (.enter gc args) w)
  (hc:∀ x y W,Calls Tryz.prog gc #[.agg (layLs.enc x).toArray, .agg (layLs.enc y).toArray] W (RetD (.int .i64 (cf x y)) W)) (B n c:Nat) (ad:Option Addr) (M:List Ls) (w:World) (h:OwnK layLs w B (.slice ad n c) M) (hs:n < 20) :
  Calls Tryz.prog 149 #[.slice ad n c, .int .i64 0, .int .i64 (n:Int), .func (.func gc) #[] #[]] w fun e w' => e=.returned (.tuple #[])∧OwnK layLs w' B (.slice ad n c) (stabLs cfT M)∧Grew w w' (.slice ad n c) (.slice ad n c):=by
 have hn:M.length=n:=by
  obtain ⟨_,_,hv,_⟩:=h.form
  injection hv with _ e _
  exact e.symm
 rcases Nat.eq_zero_or_pos n with h0 | h0
 ·subst h0
  have hM:M=[]:=List.eq_nil_of_length_eq_zero hn
  subst hM
  refine (Tryz.slices_ins_Ls_none ad c (.func (.func gc) #[] #[]) w).mono ?_
  rintro e w' ⟨rfl,rfl⟩
  have e0:stabLs cfT []=[]:=by
   unfold stabLs
   have:(Go.Sort.insertionSort (Go.Proofs.ltOf cfT) ([]:List Ls).toArray 0 0).size=0:=by
    rw [size_insT];rfl
   exact List.eq_nil_of_length_eq_zero (by simpa using this)
  exact ⟨rfl,by rw [e0];exact h,Grew.refl _ _⟩
 ·obtain ⟨g,c',hv2, -⟩:=h.one (by omega)
  injection hv2 with hv2 q1 q2
  subst hv2
  clear q1 q2
  obtain ⟨hH,hlt⟩:=h.holds
  have hp:=Tryz.slices_ins_Ls layLs.enc layLs.len layLs.one cf gc #[] g 0 c 0 n M.toArray w eg (cmpLaysG hc) hH hlt (Nat.zero_le _) (by show n≤M.length;omega) (by show M.length < _;omega)
  have hsz:M.toArray.size=n:=hn
  rw [hsz] at hp
  refine hp.mono ?_
  rintro e w' ⟨rfl,q,os,hw⟩
  rw [hcf] at hw
  obtain ⟨k1,k2⟩:=h.sortWorld (d':=Go.Sort.insertionSort (Go.Proofs.ltOf cfT) M.toArray 0 n) (by rw [size_insT];rfl) hw
  refine ⟨rfl,?_,⟨k2, .inl rfl⟩⟩
  unfold stabLs
  rw [hn]
  exact k1
theorem sortStableLs_any (cfT:Ls→Ls→Int) (gc:Nat) (cf:Ls→Ls→Int) (hcf:Go.Proofs.ltOf cf=Go.Proofs.ltOf cfT) (eg:∀ args w,(callFunc gc args).run Tryz.prog w=.ok (.enter gc args) w)
  (hc:∀ x y W,Calls Tryz.prog gc #[.agg (layLs.enc x).toArray, .agg (layLs.enc y).toArray] W (RetD (.int .i64 (cf x y)) W)) (B n c:Nat) (ad:Option Addr) (M:List Ls) (w:World) (h:OwnK layLs w B (.slice ad n c) M) (hs:n < 20) :
  Calls Tryz.prog 67 #[.slice ad n c, .func (.func gc) #[] #[]] w fun e w' => e=.returned (.tuple #[])∧OwnK layLs w' B (.slice ad n c) (stabLs cfT M)∧Grew w w' (.slice ad n c) (.slice ad n c):=by
 have HI:=Lib.hid (insLs_any cfT gc cf hcf eg hc B n c ad M w h hs)
 have hst:Calls Tryz.prog 118 #[.slice ad n c, .int .i64 (n:Int), .func (.func gc) #[] #[]] w fun e w' => e=.returned (.tuple #[])∧OwnK layLs w' B (.slice ad n c) (stabLs cfT M)∧Grew w w' (.slice ad n c) (.slice ad n c):=by
  clear eg hc hcf h
  have b1:¬ (20:Int)≤(n:Int):=by omega
  have b2:¬ (20:Int) < (n:Int):=by omega
  go_enter Tryz.func118,Tryz.ntmps118
  go_wp2_with fail
  refine wp_loop_rounds 1 ?_
  rw [rounds_succ]
  go_wp2_with fail
  refine HI.out.mono ?_
  rintro e w2 ⟨rfl,h1,h2⟩
  have H1:=Lib.hid h1
  have H2:=Lib.hid h2
  clear h1 h2
  go_wp2_with fail
  refine wp_loop_rounds 1 ?_
  rw [rounds_succ]
  go_wp2_with fail
  go_end0
  exact ⟨rfl,H1.out,H2.out⟩
 have HS:=Lib.hid hst
 clear hst HI eg hc hcf h
 go_enter Tryz.func67,Tryz.ntmps67
 go_wp2_with fail
 refine HS.out.mono ?_
 rintro e w2 ⟨rfl,h1,h2⟩
 have H1:=Lib.hid h1
 have H2:=Lib.hid h2
 clear h1 h2
 go_wp2_with fail
 go_end0
 exact ⟨rfl,H1.out,H2.out⟩
theorem sortLs_any (cfT:Ls→Ls→Int) (gc:Nat) (cf:Ls→Ls→Int) (hcf:Go.Proofs.ltOf cf=Go.Proofs.ltOf cfT) (eg:∀ args w,(callFunc gc args).run Tryz.prog w=.ok (.enter gc args) w)
  (hc:∀ x y W,Calls Tryz.prog gc #[.agg (layLs.enc x).toArray, .agg (layLs.enc y).toArray] W (RetD (.int .i64 (cf x y)) W)) (B n c:Nat) (ad:Option Addr) (M:List Ls) (w:World) (h:OwnK layLs w B (.slice ad n c) M) (hs:n≤12) :
  Calls Tryz.prog 111 #[.slice ad n c, .func (.func gc) #[] #[]] w fun e w' => e=.returned (.tuple #[])∧OwnK layLs w' B (.slice ad n c) (stabLs cfT M)∧Grew w w' (.slice ad n c) (.slice ad n c):=by
 have HI:=Lib.hid (insLs_any cfT gc cf hcf eg hc B n c ad M w h (by omega))
 have hl:=Tryz.bits_Len (n:Int) w (by omega) (by omega)
 rw [Int.toNat_natCast] at hl
 have wr:IntKind.u64.wrap (n:Int)=n:=by simp [IntKind.wrap,IntKind.bits,IntKind.signed];omega
 have Hl:=Lib.hid hl
 clear hl
 have hst:∀ lim:Int,Calls Tryz.prog 140 #[.slice ad n c, .int .i64 0, .int .i64 (n:Int), .int .i64 lim, .func (.func gc) #[] #[]] w fun e w' => e=.returned (.tuple #[])∧OwnK layLs w' B (.slice ad n c) (stabLs cfT M)∧Grew w w' (.slice ad n c) (.slice ad n c):=by
  intro lim
  clear eg hc hcf h Hl wr
  have b1:(n:Int)≤12:=by omega
  go_enter Tryz.func140,Tryz.ntmps140
  go_wp2_with fail
  refine wp_loop_rounds 1 ?_
  rw [rounds_succ]
  go_wp2_with fail
  refine HI.out.mono ?_
  rintro e w2 ⟨rfl,h1,h2⟩
  have H1:=Lib.hid h1
  have H2:=Lib.hid h2
  clear h1 h2
  go_wp2_with fail
  first | (refine bodyPost_ret (results_none rfl _ _ _) rfl ?_) | go_end0
  exact ⟨rfl,H1.out,H2.out⟩
 have HS:=Lib.hid hst
 clear hst HI eg hc hcf h
 go_enter Tryz.func111,Tryz.ntmps111
 go_wp2_with fail
 refine Hl.out.mono ?_
 rintro e w' ⟨rfl,rfl⟩
 go_wp2_with fail
 refine (HS.out _).mono ?_
 rintro e w2 ⟨rfl,h1,h2⟩
 have H1:=Lib.hid h1
 have H2:=Lib.hid h2
 clear h1 h2
 go_wp2_with fail
 go_end0
 exact ⟨rfl,H1.out,H2.out⟩
def cfKy (x y:Ls):Int:=Lib.compareBytes x.1 y.1
theorem cka_any (x y:Ls) (w:World):Calls Tryz.prog 117 #[.agg (layLs.enc x).toArray, .agg (layLs.enc y).toArray] w (RetD (.int .i64 (cfKy x y)) w):=by
 obtain ⟨k1,s1,h1,l1,n1⟩:=x
 obtain ⟨k2,s2,h2,l2,n2⟩:=y
 show Calls Tryz.prog 117 #[.agg #[.string (strL k1), .bool s1, .int .u64 (h1:Int), .int .u64 (l1:Int), .int .i64 n1], .agg #[.string (strL k2), .bool s2, .int .u64 (h2:Int), .int .u64 (l2:Int), .int .i64 n2]] w (RetD (.int .i64 (Lib.compareBytes k1 k2)) w)
 have HC:=Lib.hid fun wx => Tryz.strings_Compare (strL k1) (strL k2) wx
 rw [show (strL k1).data.toList=k1 from rfl,show (strL k2).data.toList=k2 from rfl] at HC
 generalize Lib.compareBytes k1 k2=C at *
 generalize strL k1=K1 at *
 generalize strL k2=K2 at *
 have HP:Hid (Blk ((w.alloc (.cells #[.string K1, .bool s1, .int .u64 (h1:Int), .int .u64 (l1:Int), .int .i64 n1] 67 (0,0))).alloc (.cells #[.string K2, .bool s2, .int .u64 (h2:Int), .int .u64 (l2:Int), .int .i64 n2] 67 (0,0))) w.heap.size 67 #[.string K1, .bool s1, .int .u64 (h1:Int), .int .u64 (l1:Int), .int .i64 n1]):=Lib.hid ((Blk.new w _ _).alloc _)
 have HQ:Hid (Blk ((w.alloc (.cells #[.string K1, .bool s1, .int .u64 (h1:Int), .int .u64 (l1:Int), .int .i64 n1] 67 (0,0))).alloc (.cells #[.string K2, .bool s2, .int .u64 (h2:Int), .int .u64 (l2:Int), .int .i64 n2] 67 (0,0))) (w.heap.size + 1) 67 #[.string K2, .bool s2, .int .u64 (h2:Int), .int .u64 (l2:Int), .int .i64 n2]):=Lib.hid (by
  have this:=Blk.new (w.alloc (.cells #[.string K1, .bool s1, .int .u64 (h1:Int), .int .u64 (l1:Int), .int .i64 n1] 67 (0,0))) 67 #[.string K2, .bool s2, .int .u64 (h2:Int), .int .u64 (l2:Int), .int .i64 n2]
  rw [World.size_alloc] at this
  exact this)
 have HB:Hid (BelD w ((w.alloc (.cells #[.string K1, .bool s1, .int .u64 (h1:Int), .int .u64 (l1:Int), .int .i64 n1] 67 (0,0))).alloc (.cells #[.string K2, .bool s2, .int .u64 (h2:Int), .int .u64 (l2:Int), .int .i64 n2] 67 (0,0)))):=Lib.hid (((BelD.refl _).alloc _).alloc _)
 go_enter Tryz.func117,Tryz.ntmps117
 go_upto_region 1 with fail
 generalize ((w.alloc (.cells #[.string K1, .bool s1, .int .u64 (h1:Int), .int .u64 (l1:Int), .int .i64 n1] 67 (0,0))).alloc (.cells #[.string K2, .bool s2, .int .u64 (h2:Int), .int .u64 (l2:Int), .int .i64 n2] 67 (0,0)))=w1 at *
 generalize w.heap.size=b at HP HQ ⊢
 have a0:=HP.out.cell 0
 have b0:=HQ.out.cell 0
 simp at a0 b0
 go_wp2_with fail
 refine (HC.out _).mono ?_
 rintro e w2 ⟨rfl,rfl⟩
 go_wp2_with fail
 go_ret
 exact ⟨rfl,HB.out⟩
theorem ckq_any (x y:Ls) (w:World):Calls Tryz.prog 112 #[.agg (layLs.enc x).toArray, .agg (layLs.enc y).toArray] w (RetD (.int .i64 (cfKy x y)) w):=by
 obtain ⟨k1,s1,h1,l1,n1⟩:=x
 obtain ⟨k2,s2,h2,l2,n2⟩:=y
 show Calls Tryz.prog 112 #[.agg #[.string (strL k1), .bool s1, .int .u64 (h1:Int), .int .u64 (l1:Int), .int .i64 n1], .agg #[.string (strL k2), .bool s2, .int .u64 (h2:Int), .int .u64 (l2:Int), .int .i64 n2]] w (RetD (.int .i64 (Lib.compareBytes k1 k2)) w)
 have HC:=Lib.hid fun wx => Tryz.strings_Compare (strL k1) (strL k2) wx
 rw [show (strL k1).data.toList=k1 from rfl,show (strL k2).data.toList=k2 from rfl] at HC
 generalize Lib.compareBytes k1 k2=C at *
 generalize strL k1=K1 at *
 generalize strL k2=K2 at *
 have HP:Hid (Blk ((w.alloc (.cells #[.string K1, .bool s1, .int .u64 (h1:Int), .int .u64 (l1:Int), .int .i64 n1] 67 (0,0))).alloc (.cells #[.string K2, .bool s2, .int .u64 (h2:Int), .int .u64 (l2:Int), .int .i64 n2] 67 (0,0))) w.heap.size 67 #[.string K1, .bool s1, .int .u64 (h1:Int), .int .u64 (l1:Int), .int .i64 n1]):=Lib.hid ((Blk.new w _ _).alloc _)
 have HQ:Hid (Blk ((w.alloc (.cells #[.string K1, .bool s1, .int .u64 (h1:Int), .int .u64 (l1:Int), .int .i64 n1] 67 (0,0))).alloc (.cells #[.string K2, .bool s2, .int .u64 (h2:Int), .int .u64 (l2:Int), .int .i64 n2] 67 (0,0))) (w.heap.size + 1) 67 #[.string K2, .bool s2, .int .u64 (h2:Int), .int .u64 (l2:Int), .int .i64 n2]):=Lib.hid (by
  have this:=Blk.new (w.alloc (.cells #[.string K1, .bool s1, .int .u64 (h1:Int), .int .u64 (l1:Int), .int .i64 n1] 67 (0,0))) 67 #[.string K2, .bool s2, .int .u64 (h2:Int), .int .u64 (l2:Int), .int .i64 n2]
  rw [World.size_alloc] at this
  exact this)
 have HB:Hid (BelD w ((w.alloc (.cells #[.string K1, .bool s1, .int .u64 (h1:Int), .int .u64 (l1:Int), .int .i64 n1] 67 (0,0))).alloc (.cells #[.string K2, .bool s2, .int .u64 (h2:Int), .int .u64 (l2:Int), .int .i64 n2] 67 (0,0)))):=Lib.hid (((BelD.refl _).alloc _).alloc _)
 go_enter Tryz.func112,Tryz.ntmps112
 go_upto_region 1 with fail
 generalize ((w.alloc (.cells #[.string K1, .bool s1, .int .u64 (h1:Int), .int .u64 (l1:Int), .int .i64 n1] 67 (0,0))).alloc (.cells #[.string K2, .bool s2, .int .u64 (h2:Int), .int .u64 (l2:Int), .int .i64 n2] 67 (0,0)))=w1 at *
 generalize w.heap.size=b at HP HQ ⊢
 have a0:=HP.out.cell 0
 have b0:=HQ.out.cell 0
 simp at a0 b0
 go_wp2_with fail
 refine (HC.out _).mono ?_
 rintro e w2 ⟨rfl,rfl⟩
 go_wp2_with fail
 go_ret
 exact ⟨rfl,HB.out⟩
end Go.Proofs.YteldaicgaeooiaaGreatDoor
