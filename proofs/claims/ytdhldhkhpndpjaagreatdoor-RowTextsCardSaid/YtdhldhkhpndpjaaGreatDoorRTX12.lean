/-
  Plain law: a text read line by line, by whatever reader of lines.
  A region that draws its order, by an invariant with a phase, where each operation knows that what depends on it has not run: a bound on the phase.
  Phases of a region: from none to one.
  Rows of structs whose cells are set many at once.
  The program's Loose = looseF. Condition: at most a million bytes.
  The reference's AddrLoose = looseF. Condition: at most a million bytes.
  Addresses of four numbers as text: textOf of the program, AddrText of the reference.
  Addresses of four numbers as text: AddrText of the reference.
-/
import Derived.Test.YtdhldhkhpndpjaaGreatDoorRTX1
import Derived.Test.YtdhldhkhpndpjaaGreatDoorRTX11
import Derived.Test.YtdhldhkhpndpjaaGreatDoorRTX6
import Derived.Deep.MidRow
import Derived.OwnWalk
import Derived.Test.YtdhldhkhpndpjaaGreatDoorRTX3
import Derived.Lib.ItoaLen
set_option linter.unusedVariables false
set_option maxRecDepth 100000
set_option maxHeartbeats 4000000
namespace Go.Proofs.YtdhldhkhpndpjaaGreatDoor
open Go.RowKit Go Go.Sort
def rdG {α:Type} (f:List UInt8→Option α):Nat→List (List UInt8)→List α→Sum Nat (List α)
 | _, [],acc => .inr acc
 | i, [l],acc => if l=[] then .inr acc else .inl i
 | i,l :: l2 :: ls,acc => match f l with
  | some p => rdG f (i + 1) (l2 :: ls) (acc ++ [p])
  | none => .inl i
theorem rdG_last {α:Type} (f:List UInt8→Option α) (i:Nat) (acc:List α):rdG f i [[]] acc=.inr acc:=by rw [rdG,if_pos rfl]
theorem rdG_open {α:Type} {f:List UInt8→Option α} {i:Nat} {l:List UInt8} {acc:List α} (h:l ≠ []):rdG f i [l] acc=.inl i:=by rw [rdG,if_neg h]
theorem rdG_bad {α:Type} {f:List UInt8→Option α} {i:Nat} {l:List UInt8} {ls:List (List UInt8)} {acc:List α} (h:ls ≠ []) (hp:f l=none):rdG f i (l :: ls) acc=.inl i:=by
 cases ls with
 | nil => exact absurd rfl h
 | cons a ls => rw [rdG,hp]
theorem rdG_good {α:Type} {f:List UInt8→Option α} {i:Nat} {l:List UInt8} {ls:List (List UInt8)} {acc:List α} {p:α} (h:ls ≠ []) (hp:f l=some p):rdG f i (l :: ls) acc=rdG f (i + 1) ls (acc ++ [p]):=by
 cases ls with
 | nil => exact absurd rfl h
 | cons a ls => rw [rdG,hp]
theorem rdG_step {α:Type} {f:List UInt8→Option α} {A:List (List UInt8)} {k m:Nat} {x:List UInt8} {acc:List α} (hm:A.length=m + 1) (hk:k < m) (hx:A[k]?=some x) :
  rdG f k (A.drop k) acc=match f x with
   | some p => rdG f (k + 1) (A.drop (k + 1)) (acc ++ [p])
   | none => .inl k:=by
 obtain ⟨hl,rfl⟩:=List.getElem?_eq_some_iff.1 hx
 have hne:A.drop (k + 1) ≠ []:=fun e => by
  have:=congrArg List.length e
  rw [List.length_drop] at this
  simp at this;omega
 rw [List.drop_eq_getElem_cons hl]
 cases hp:f A[k] with
 | none => exact rdG_bad hne hp
 | some p => exact rdG_good hne hp
theorem rdG_end {α:Type} {f:List UInt8→Option α} {A:List (List UInt8)} {m:Nat} {l:List UInt8} {acc:List α} (hm:A.length=m + 1) (hx:A[m]?=some l) :
  rdG f m (A.drop m) acc=if l=[] then .inr acc else .inl m:=by
 obtain ⟨hl,rfl⟩:=List.getElem?_eq_some_iff.1 hx
 have hd:A.drop (m + 1)=[]:=List.drop_eq_nil_of_le (by omega)
 rw [List.drop_eq_getElem_cons hl,hd]
 by_cases h:A[m]=[]
 ·rw [if_pos h,h];exact rdG_last _ _ _
 ·rw [if_neg h];exact rdG_open h
def rsG {α:Type} (f:List UInt8→Option α) (chk:List α→Int) (s:List UInt8):List α × Int × Int :=
 if 200000 < s.length then ([],0,2) else match rdG f 0 (spl 10 s) [] with
  | .inl i => ([],(i:Int),9)
  | .inr L => if chk L=0 then (L,0,0) else ([],0,chk L)
end Go.Proofs.YtdhldhkhpndpjaaGreatDoor
namespace Go.Proofs.YtdhldhkhpndpjaaGreatDoor.Lm
open Go Go.Proofs.YtdhldhkhpndpjaaGreatDoor
section
variable {P:Program} {ops:Array Oper} {Q:Exit→Act→World→Prop} {N total:Nat} {a0:Act}
variable {R:Nat→Value→Nat→World→Prop} {C:Nat→World→Prop} {S:Nat→World→Nat→World→Prop} {cost lim:Nat→Nat}
def msk (ops:Array Oper) (i:Nat):Array Bool:=(Array.range ops.size).map fun j => j == i || bef ops j i
theorem msk_get (ops:Array Oper) (i j:Nat) (hj:j < ops.size):(msk ops i).getD j false=(j == i || bef ops j i):=by
 simp [msk,Array.getD,hj]
def limB (ops:Array Oper) (N total:Nat) (cost lim:Nat→Nat):Bool:=(List.range N).all fun i => decide (total≤lim i + sumCost cost (msk ops i) ops.size)
theorem limB_spec {ops:Array Oper} {N total:Nat} {cost lim:Nat→Nat} (h:limB ops N total cost lim=true):∀ i,i < N→total≤lim i + sumCost cost (msk ops i) ops.size:=by
 simpa [limB] using h
theorem sumCost_disj {cost:Nat→Nat} {listed mask:Array Bool}:∀ k,(∀ j,j < k→listed.getD j false=true→mask.getD j false=false)→sumCost cost listed k + sumCost cost mask k≤sumCost cost (Array.replicate k true) k
 | 0,_ => by simp [sumCost]
 | k + 1,h => by
   have ih:=sumCost_disj (cost:=cost) (listed:=listed) (mask:=mask) k fun j hj => h j (by omega)
   have hk:=h k (by omega)
   have hfull:∀ m,m≤k→sumCost cost (Array.replicate (k + 1) true) m=sumCost cost (Array.replicate k true) m:=by
    intro m
    induction m with
    | zero => intro _;rfl
    | succ m ihm =>
      intro hm
      simp only [sumCost,ihm (by omega)]
      simp [Array.getD,show m < k by omega,show m < k + 1 by omega]
   simp only [sumCost,hfull k (Nat.le_refl _)]
   have h1:(Array.replicate (k + 1) true).getD k false=true:=by simp [Array.getD]
   simp only [h1,if_true]
   cases hl:listed.getD k false
   ·simp only [Bool.false_eq_true,if_false]
    cases hm:mask.getD k false <;> simp <;> omega
   ·simp only [hk hl,if_true,Bool.false_eq_true,if_false]
    omega
def Ob (P:Program) (ops:Array Oper) (a0:Act) (R:Nat→Value→Nat→World→Prop) (C:Nat→World→Prop) (S:Nat→World→Nat→World→Prop) (cost lim:Nat→Nat) (N:Nat) (i:Nat) (o:Oper):Prop :=
 ∀ (T:Nat→Value) (w:World) (n:Nat),C n w→n≤lim i→(∀ p,p < ops.size→bef ops i p=true→R p (T p) n w) →
  if Region.wanted o (yielded ops (setAll (ops.toList.take N) 0 T a0).tmps) then
   Op1 P o (setAll (ops.toList.take N) 0 T a0).eval w fun v w' => R i v (n + cost i) w'∧C (n + cost i) w'∧S n w (n + cost i) w'
  else R i undef (n + cost i) w∧C (n + cost i) w∧S n w (n + cost i) w
theorem region_any (hB:InvB ops N a0.tmps.size) (hS:∀ p v n w n' w',R p v n w→S n w n' w'→R p v n' w')
  (htot:sumCost cost (Array.replicate ops.size true) ops.size≤total) (hlm:∀ i,i < N→total≤lim i + sumCost cost (msk ops i) ops.size)
  (hob:∀ (i:Nat) (o:Oper),ops[i]?=some o→i < N→Ob P ops a0 R C S cost lim N i o)
  (hend:∀ T w,(∃ n,n≤total∧C n w∧∀ p,p < N→R p (T p) n w)→wpList P ops Q (ops.toList.drop N) (setAll (ops.toList.take N) 0 T a0) w) :
  ∀ (fuel:Nat) (listed:Array Bool) (a:Act) (w:World),listed.size=ops.size→fuel + cnt listed ops.size=ops.size →
   (∀ j,j < ops.size→listed.getD j false=true→∀ p,p < ops.size→bef ops j p=true→listed.getD p false=true) →
   ((∃ T,(∀ j,N≤j→listed.getD j false=false)∧Fits ops a0 listed T a∧C (sumCost cost listed ops.size) w∧∀ j,j < ops.size→listed.getD j false=true→R j (T j) (sumCost cost listed ops.size) w) ∨
    (∃ k,N≤k∧k≤ops.size∧(∀ j,j < ops.size→(listed.getD j false=true ↔ j < k))∧wpList P ops Q (ops.toList.drop k) a w)) →
   wpAny P .any ops Q fuel listed a w:=by
 -- the whole head is there: the two frames are one
 have whole:∀ (listed:Array Bool) (T:Nat→Value) (a:Act),(∀ j,N≤j→listed.getD j false=false)→(∀ j,j < N→listed.getD j false=true)→Fits ops a0 listed T a→a=setAll (ops.toList.take N) 0 T a0:=by
  intro listed T a ht hh hF
  have h1:a.defers=(setAll (ops.toList.take N) 0 T a0).defers:=by rw [setAll_defers,hF.defers]
  have h2:a.tmps=(setAll (ops.toList.take N) 0 T a0).tmps:=by
   refine Array.ext_getElem? fun t => ?_
   rcases Nat.lt_or_ge t a0.tmps.size with hts | hts
   ·rw [setAll_get T t _ 0 a0 hts]
    cases hw:lastW t (ops.toList.take N) 0 with
    | some j =>
      obtain ⟨_,o',ho',hd⟩:=lastW_some _ _ hw
      simp only [Nat.sub_zero,List.getElem?_take] at ho'
      split at ho'
      ·rename_i hjN
       exact hF.set j o' t (by simpa using ho') (hh j hjN) hd
      ·cases ho'
    | none =>
      refine hF.rest t fun j o' hj hlj hd => ?_
      have hjN:j < N:=by
       rcases Nat.lt_or_ge j N with h | h
       ·exact h
       ·rw [ht j h] at hlj;cases hlj
      exact lastW_none _ _ hw j o' (by rw [List.getElem?_take,if_pos hjN];simpa using hj) hd
   ·rw [Array.getElem?_eq_none (by rw [hF.size];exact hts),Array.getElem?_eq_none (by rw [setAll_size];exact hts)]
  cases a;cases hb:setAll (ops.toList.take N) 0 T a0;simp_all
 -- nothing ready: all is listed
 have allListed:∀ (listed:Array Bool),listed.size=ops.size→Region.ready .any ops listed=[]→∀ j,j < ops.size→listed.getD j false=true:=by
  intro listed hsz hr j
  induction j using Nat.strongRecOn with
  | _ j ih =>
    intro hj
    cases hlj:listed.getD j false with
    | true => rfl
    | false =>
      exfalso
      obtain ⟨o,ho⟩:∃ o,ops[j]?=some o:=⟨ops[j],Array.getElem?_eq_getElem hj⟩
      have:j ∈ Region.ready .any ops listed:=mem_ready.2 ⟨by simpa [Array.getD,hsz,hj] using hlj,o,ho,fun e he hb => ih e.on (hB.back j o e ho he hb) (by have:=hB.back j o e ho he hb;omega)⟩
      rw [hr] at this;cases this
 -- the end
 have fin:∀ (listed:Array Bool) (a:Act) (w:World),(∀ j,j < ops.size→listed.getD j false=true) →
   ((∃ T,(∀ j,N≤j→listed.getD j false=false)∧Fits ops a0 listed T a∧C (sumCost cost listed ops.size) w∧∀ j,j < ops.size→listed.getD j false=true→R j (T j) (sumCost cost listed ops.size) w) ∨
    (∃ k,N≤k∧k≤ops.size∧(∀ j,j < ops.size→(listed.getD j false=true ↔ j < k))∧wpList P ops Q (ops.toList.drop k) a w))→Q .normal a w:=by
  intro listed a w hall h
  rcases h with ⟨T,ht,hF,hC,hR⟩ | ⟨k,hk1,hk2,hk3,hk4⟩
  ·have hN:N=ops.size:=by
    rcases Nat.lt_or_ge N ops.size with h | h
    ·have h1:=ht N (Nat.le_refl _)
     rw [hall N h] at h1;cases h1
    ·have:=hB.le;omega
   have ha:=whole listed T a ht (fun j hj => hall j (by omega)) hF
   have:=hend T w ⟨_,Nat.le_trans (sumCost_le _) htot,hC,fun p hp => hR p (by omega) (hall p (by omega))⟩
   rw [← ha,List.drop_eq_nil_of_le (by simp;omega)] at this
   exact this
  ·have:k=ops.size:=by
    rcases Nat.lt_or_ge k ops.size with h | h
    ·have:=(hk3 k h).1 (hall k h);omega
    ·omega
   rw [List.drop_eq_nil_of_le (by simp;omega)] at hk4
   exact hk4
 intro fuel
 induction fuel with
 | zero =>
   intro listed a w hsz hf hd h
   have hall:=cnt_full ops.size (by omega:cnt listed ops.size=ops.size)
   refine ⟨?_,fin listed a w hall h⟩
   refine List.eq_nil_iff_forall_not_mem.2 fun i hi => ?_
   obtain ⟨h1,o,ho,_⟩:=mem_ready.1 hi
   have:=hall i (Array.getElem?_eq_some_iff.1 ho).1
   rw [(getD_false h1).2] at this;cases this
 | succ fuel ih =>
   intro listed a w hsz hf hd h
   refine ⟨fun hr => fin listed a w (allListed listed hsz hr) h,fun i hi => ?_⟩
   obtain ⟨h1,o,ho,hafter⟩:=mem_ready.1 hi
   have hilt:i < ops.size:=(Array.getElem?_eq_some_iff.1 ho).1
   have hset:∀ j,(listed.setIfInBounds i true).getD j false=true ↔ (j=i ∨ listed.getD j false=true):=fun j => by
    by_cases hj:i=j
    ·subst hj;simp [Array.getD,hsz,hilt]
    ·rw [getD_set_ne false hj];simp [Ne.symm hj]
   have hbef:∀ p,p < ops.size→bef ops i p=true→listed.getD p false=true:=fun p hp hb => by
    obtain ⟨e,he,hbi,hor⟩:=hB.clos i p o ho hp hb
    have h2:=hafter e he hbi
    rcases hor with rfl | hor
    ·exact h2
    ·exact hd e.on (by have:=hB.back i o e ho he hbi;omega) h2 p hp hor
   have hsz':(listed.setIfInBounds i true).size=ops.size:=by simpa using hsz
   have hf':fuel + cnt (listed.setIfInBounds i true) ops.size=ops.size:=by
    have:=sumCost_set (cost:=fun _ => 1) h1 ops.size
    simp only [cnt,hilt,if_true] at this hf ⊢
    omega
   have hd':∀ j,j < ops.size→(listed.setIfInBounds i true).getD j false=true→∀ p,p < ops.size→bef ops j p=true→(listed.setIfInBounds i true).getD p false=true:=by
    intro j hj hl p hp hb
    rcases (hset j).1 hl with rfl | hl'
    ·exact (hset p).2 (.inr (hbef p hp hb))
    ·exact (hset p).2 (.inr (hd j hj hl' p hp hb))
   rcases h with ⟨T,ht,hF,hC,hR⟩ | ⟨k,hk1,hk2,hk3,hk4⟩
   ·rcases Nat.lt_or_ge i N with hiN | hiN
    ·-- a step of the head
     have hpN:∀ p,bef ops i p=true→p < ops.size→listed.getD p false=true∧p < N:=fun p hb hp => by
      have:=hbef p hp hb
      refine ⟨this,?_⟩
      rcases Nat.lt_or_ge p N with h | h
      ·exact h
      ·rw [ht p h] at this;cases this
     have hag:=hF.agree hB ht ho hpN
     have hsum:=sumCost_set (cost:=cost) h1 ops.size
     simp only [hilt,if_true] at hsum
     have hlim:sumCost cost listed ops.size≤lim i:=by
      have h5:=sumCost_disj (cost:=cost) (listed:=listed) (mask:=msk ops i) ops.size fun j hj hl => by
       rw [msk_get ops i j hj]
       cases hji:j == i
       ·cases hbf:bef ops j i
        ·rfl
        ·have:=hd j hj hl i hilt hbf
         rw [(getD_false h1).2] at this;cases this
       ·obtain rfl:j=i:=by simpa using hji
        rw [(getD_false h1).2] at hl;cases hl
      have h6:=hlm i hiN
      omega
     have hO:=hob i o ho hiN T w _ hC hlim fun p hp hb => hR p hp (hbef p hp hb)
     have next:∀ v w',R i v (sumCost cost listed ops.size + cost i) w'∧C (sumCost cost listed ops.size + cost i) w'∧S (sumCost cost listed ops.size) w (sumCost cost listed ops.size + cost i) w'→wpAny P .any ops Q fuel (listed.setIfInBounds i true) (a.put o.dst v) w':=fun v w' ⟨q1,q2,q3⟩ =>
      ih _ _ _ hsz' hf' hd' (.inl ⟨fun j => if j=i then v else T j,fun j hj => by
        rw [getD_set_ne false (by omega)];exact ht j hj,hF.put hB ho h1 v,by rw [hsum];exact q2,fun j hj hl => by
        by_cases hji:j=i
        ·subst hji;rw [hsum];simpa using q1
        ·simp only [hji,if_false]
         rw [hsum];exact hS j _ _ _ _ _ (hR j hj (((hset j).1 hl).resolve_left hji)) q3⟩)
     unfold wpOp
     simp only [ho]
     rw [wanted_of_get (a:=a) (b:=setAll (ops.toList.take N) 0 T a0) o hag]
     split
     ·rename_i hw
      rw [if_pos hw] at hO
      refine .inl (Op1.wp (post:=fun v w' => R i v (sumCost cost listed ops.size + cost i) w'∧C (sumCost cost listed ops.size + cost i) w'∧S (sumCost cost listed ops.size) w (sumCost cost listed ops.size + cost i) w') ?_ next)
      unfold Op1 at hO ⊢
      rw [execOp_congr o (Region.noSelect_spec hB.sel i o · · ho) (eval_of_get o hag)]
      exact hO
     ·rename_i hw
      rw [if_neg hw] at hO
      exact next undef w hO
    ·-- the tail begins
     have hall:∀ j,j < i→listed.getD j false=true:=fun j hj => hbef j (by omega) (hB.tail i j hiN hilt hj)
     have hiN':i=N:=by
      rcases Nat.lt_or_ge N i with h | h
      ·have h2:=ht N (Nat.le_refl _)
       rw [hall N h] at h2;cases h2
      ·omega
     subst hiN'
     have ha:=whole listed T a ht hall hF
     have hw:=hend T w ⟨_,Nat.le_trans (sumCost_le _) htot,hC,fun p hp => hR p (by omega) (hall p hp)⟩
     rw [← ha] at hw
     have hdr:ops.toList.drop i=o :: ops.toList.drop (i + 1):=by
      rw [List.drop_eq_getElem_cons (by simpa using hilt)]
      congr 1
      have:=(Array.getElem?_eq_some_iff.1 ho).2
      simpa using this
     rw [hdr] at hw
     have hwop:wpOp P ops Q i (wpList P ops Q (ops.toList.drop (i + 1))) a w:=by unfold wpOp;simp only [ho];exact hw
     refine wpOp_mono (fun a' w' h' => ih _ _ _ hsz' hf' hd' (.inr ⟨i + 1,by omega,by omega,fun j hj => ?_,h'⟩)) hwop
     rw [hset j]
     constructor
     ·rintro (rfl | hl)
      ·omega
      ·rcases Nat.lt_or_ge j i with h | h
       ·omega
       ·rw [ht j h] at hl;cases hl
     ·intro hj'
      by_cases hji:j=i
      ·exact .inl hji
      ·exact .inr (hall j (by omega))
   ·-- a step of the tail
    have hik:i=k:=by
     have hnl:=(getD_false h1).2
     have h2:¬ i < k:=fun hlt => by rw [(hk3 i hilt).2 hlt] at hnl;cases hnl
     rcases Nat.lt_or_ge k i with h | h
     ·have h3:=hbef k (by omega) (hB.tail i k (by omega) hilt h)
      have:=(hk3 k (by omega)).1 h3;omega
     ·omega
    subst hik
    have hdr:ops.toList.drop i=o :: ops.toList.drop (i + 1):=by
     rw [List.drop_eq_getElem_cons (by simpa using hilt)]
     congr 1
     have:=(Array.getElem?_eq_some_iff.1 ho).2
     simpa using this
    rw [hdr] at hk4
    have hwop:wpOp P ops Q i (wpList P ops Q (ops.toList.drop (i + 1))) a w:=by unfold wpOp;simp only [ho];exact hk4
    refine wpOp_mono (fun a' w' h' => ih _ _ _ hsz' hf' hd' (.inr ⟨i + 1,by omega,by omega,fun j hj => ?_,h'⟩)) hwop
    rw [hset j,hk3 j hj]
    omega
def AfterAll (R:Nat→Value→Nat→World→Prop) (T:Nat→Value) (n:Nat) (w:World):List Edge→Prop
 | [] => True
 | e :: l => match Region.binds .any e with
  | true => R e.on (T e.on) n w∧AfterAll R T n w l
  | false => AfterAll R T n w l
theorem afterAll_of {R:Nat→Value→Nat→World→Prop} {T:Nat→Value} {n:Nat} {w:World}:∀ (l:List Edge),(∀ e ∈ l,Region.binds .any e=true→R e.on (T e.on) n w)→AfterAll R T n w l
 | [],_ => trivial
 | e :: l,h => by
   have ih:=afterAll_of l fun e' he' => h e' (List.mem_cons_of_mem _ he')
   unfold AfterAll
   cases hb:Region.binds .any e with
   | true => exact ⟨h e (List.mem_cons_self ..) hb,ih⟩
   | false => exact ih
def Ob' (P:Program) (A:(Nat→Value)→Act) (R:Nat→Value→Nat→World→Prop) (C:Nat→World→Prop) (S:Nat→World→Nat→World→Prop) (cost lim:Nat→Nat) (i:Nat) (o:Oper):Prop :=
 ∀ (T:Nat→Value) (w:World) (n:Nat),C n w→n≤lim i→AfterAll R T n w o.after.toList →
  match o.guard with
  | none => Op1 P o (A T).eval w fun v w' => R i v (n + cost i) w'∧C (n + cost i) w'∧S n w (n + cost i) w'
  | some (g,want) => (T g=.bool want→Op1 P o (A T).eval w fun v w' => R i v (n + cost i) w'∧C (n + cost i) w'∧S n w (n + cost i) w') ∧
    (T g ≠ .bool want→R i undef (n + cost i) w∧C (n + cost i) w∧S n w (n + cost i) w)
def ObAll (P:Program) (A:(Nat→Value)→Act) (R:Nat→Value→Nat→World→Prop) (C:Nat→World→Prop) (S:Nat→World→Nat→World→Prop) (cost lim:Nat→Nat):List Oper→Nat→Prop
 | [],_ => True
 | o :: l,k => Ob' P A R C S cost lim k o∧ObAll P A R C S cost lim l (k + 1)
theorem ObAll.get {A:(Nat→Value)→Act}:∀ (l:List Oper) (k:Nat),ObAll P A R C S cost lim l k→∀ (i:Nat) (o:Oper),l[i]?=some o→Ob' P A R C S cost lim (k + i) o
 | [],_,_,i,o,ho => by simp at ho
 | o' :: l,k,h,i,o,ho => by
   cases i with
   | zero => simp at ho;subst ho;exact h.1
   | succ i =>
     have:=ObAll.get l (k + 1) h.2 i o (by simpa using ho)
     rwa [show k + (i + 1)=k + 1 + i by omega]
theorem ob_of {A:(Nat→Value)→Act} (hB:InvB ops N a0.tmps.size) (hE:edgeB ops=true) {i:Nat} {o:Oper} (ho:ops[i]?=some o) (hi:i < N) (hA:∀ T,setAll (ops.toList.take N) 0 T a0=A T) (h:Ob' P A R C S cost lim i o):Ob P ops a0 R C S cost lim N i o:=by
 intro T w n hC hn hp
 have hlt:=(Array.getElem?_eq_some_iff.1 ho).1
 have hE':=hE
 simp only [edgeB,List.all_eq_true,List.mem_range] at hE'
 have hEi:=hE' i hlt
 simp only [ho,Bool.and_eq_true] at hEi
 obtain ⟨he1,he2⟩:=hEi
 rw [Array.all_eq_true_iff_forall_mem] at he1
 have hAft:AfterAll R T n w o.after.toList:=afterAll_of _ fun e he hb => by
  have hm:e ∈ o.after:=by simpa using he
  have h1:=he1 e hm
  simp only [hb,Bool.not_true,Bool.false_or] at h1
  exact hp e.on (by have:=hB.back i o e ho hm hb;omega) h1
 have h0:=h T w n hC hn hAft
 unfold Region.wanted
 cases hg:o.guard with
 | none =>
   simp only [hg] at h0
   rw [hA T]
   exact h0
 | some gw =>
   obtain ⟨g,want⟩:=gw
   simp only [hg] at h0 he2
   obtain ⟨hbg,hgs⟩:=hB.guard i o g want ho hg
   obtain ⟨og,hog⟩:∃ og,ops[g]?=some og:=⟨ops[g],Array.getElem?_eq_getElem hgs⟩
   simp only [hog,Option.bind_some] at he2
   obtain ⟨d,hd⟩:=Option.isSome_iff_exists.1 he2
   have hgi:g < i:=by
    have:∀ k, ∀ (i:Nat) (o:Oper),i < k→ops[i]?=some o→∀ p,p < ops.size→bef ops i p=true→p < i:=by
     intro k
     induction k with
     | zero => intro i o hk;omega
     | succ k ih =>
       intro i o hk hio p hps hb
       obtain ⟨e,he,hbi,hor⟩:=hB.clos i p o hio hps hb
       have h5:=hB.back i o e hio he hbi
       rcases hor with rfl | hor
       ·exact h5
       ·obtain ⟨o',ho'⟩:∃ o',ops[e.on]?=some o':=⟨ops[e.on]'(by have:=(Array.getElem?_eq_some_iff.1 hio).1;omega),Array.getElem?_eq_getElem _⟩
        have:=ih e.on o' (by omega) ho' p hps hor
        omega
    exact this (i + 1) i o (by omega) ho g hgs hbg
   have hts:d < a0.tmps.size:=hB.size g og d hog hd
   have hget:(setAll (ops.toList.take N) 0 T a0).tmps[d]?=some (T g):=by
    rw [setAll_get T d _ 0 a0 hts]
    cases hw:lastW d (ops.toList.take N) 0 with
    | some j =>
      obtain ⟨_,o',ho',hd'⟩:=lastW_some _ _ hw
      simp only [Nat.sub_zero,List.getElem?_take] at ho'
      split at ho'
      ·have hj:ops[j]?=some o':=by simpa using ho'
       have:=hB.uniq j g o' og d hj hog hd' hd
       simp [this]
      ·cases ho'
    | none =>
      exfalso
      exact lastW_none _ _ hw g og (by rw [List.getElem?_take,if_pos (by omega)];simpa using hog) hd
   have hy:yielded ops (setAll (ops.toList.take N) 0 T a0).tmps g=match T g with | .bool b => some b | _ => none:=by
    unfold yielded
    simp only [hog,Option.bind_some,hd,hget]
    cases T g <;> rfl
   simp only [hy]
   by_cases hT:T g=.bool want
   ·simp only [hT]
    simp only [beq_self_eq_true,if_true]
    rw [hA T]
    exact h0.1 hT
   ·have hf:((match T g with | .bool b => some b | _ => none) == some want)=false:=by
     cases hv:T g <;> simp
     intro e
     exact hT (by rw [hv,e])
    simp only [hf]
    exact h0.2 hT
end
theorem wp_region_lim {P:Program} {Q:Exit→Act→World→Prop} {id:Nat} {l:List Oper} {a0:Act} {w:World} (N total:Nat) (R:Nat→Value→Nat→World→Prop) (C:Nat→World→Prop) (S:Nat→World→Nat→World→Prop) (cost lim:Nat→Nat)
  (hm:P.follows .mixedOrders=true) (hB:(invB l.toArray N a0.tmps.size && edgeB l.toArray)=true) (htot:sumCost cost (Array.replicate l.toArray.size true) l.toArray.size≤total) (hlm:limB l.toArray N total cost lim=true)
  (hS:∀ p v n w n' w',R p v n w→S n w n' w'→R p v n' w') (hC:C 0 w.drew)
  (h:∃ A:(Nat→Value)→Act,(∀ T,setAll (l.take N) 0 T a0=A T)∧ObAll P A R C S cost lim (l.take N) 0 ∧
   ∀ T w',(∃ n,n≤total∧C n w'∧∀ p,p < N→R p (T p) n w')→wpList P l.toArray Q (l.drop N) (A T) w') :
  (Code.region id l.toArray true).wp P Q a0 w:=by
 obtain ⟨A,hA,hob,hend⟩:=h
 simp only [Bool.and_eq_true] at hB
 refine wp_region_any hm ?_
 have key:=region_any (P:=P) (Q:=Q) (ops:=l.toArray) (a0:=a0) (R:=R) (C:=C) (S:=S) (cost:=cost) (lim:=lim) (total:=total) (invB_spec hB.1) hS htot (limB_spec hlm)
  (fun i o ho hi => ob_of (invB_spec hB.1) hB.2 ho hi (fun T => by simpa using hA T) (by
   have:=ObAll.get _ _ hob i o (by rw [List.getElem?_take,if_pos hi];simpa using ho)
   simpa using this))
  (fun T w' hc => by
   have:=hend T w' hc
   rw [← hA T] at this
   simpa using this)
  l.toArray.size (Array.replicate l.toArray.size false) a0 w.drew (by simp)
 have h0:∀ j,(Array.replicate l.toArray.size false).getD j false=false:=fun j => getD_replicate_false _ _
 have hz:∀ (c:Nat→Nat) k,sumCost c (Array.replicate l.toArray.size false) k=0:=by
  intro c k
  induction k with
  | zero => rfl
  | succ k ih => simp only [sumCost,ih,h0];rfl
 have hF:Fits l.toArray a0 (Array.replicate l.toArray.size false) (fun _ => undef) a0:=by
  refine ⟨rfl,rfl,?_,fun t _ => rfl⟩
  intro j o d _ hl
  rw [h0] at hl
  cases hl
 refine key (by simp only [cnt,hz];omega) ?_ (.inl ⟨fun _ => undef,fun j _ => h0 j,hF,by rw [hz];exact hC,?_⟩)
 ·intro j _ hl
  rw [h0] at hl
  cases hl
 ·intro j _ hl
  rw [h0] at hl
  cases hl
end Go.Proofs.YtdhldhkhpndpjaaGreatDoor.Lm
namespace Go.Proofs.YtdhldhkhpndpjaaGreatDoor
open Go.RowKit Go
def hqS (n:Nat) (_:World) (n':Nat) (_:World):Prop:=n≤n'∧n'≤1
theorem Blk.set3 {w:World} {B:Nat} {t:TypeId} {x y z x' y' z':Value} (h:Blk w B t #[x,y,z]):Blk (((w.setCell ⟨B,0,none⟩ x').setCell ⟨B,1,none⟩ y').setCell ⟨B,2,none⟩ z') B t #[x',y',z'] :=
 Blk.set (Blk.set (Blk.set h 0 x') 1 y') 2 z'
theorem heap_setCells_other {g j:Nat} (hne:j ≠ g):∀ (vs:List Value) (o:Nat) (w:World),(w.setCells g o vs).heap[j]?=w.heap[j]?
 | [],_,w => rfl
 | v :: r,o,w => by
   rw [World.setCells,heap_setCells_other hne r (o + 1)]
   exact Below.heap_setCell w ⟨g,o,none⟩ v j hne
theorem grown_setCells (g:Nat):∀ (vs:List Value) (o:Nat) (w:World),w.grownBy (w.setCells g o vs) (some g)
 | [],_,w => World.grownBy.refl _ _
 | v :: r,o,w => by
   have h1:w.grownBy (w.setCell ⟨g,o,none⟩ v) (some g):=⟨rfl,rfl,rfl,by simp,fun i hi hne => Below.heap_setCell w ⟨g,o,none⟩ v i (fun e => hne (by rw [e]))⟩
   exact grown_trans h1 (grown_setCells g r (o + 1) (w.setCell ⟨g,o,none⟩ v))
section
variable {α:Type} {E:Lay α}
end
open Go.RowKit Go Go.Sort
def lsV:Option (Bool × Nat × Nat)→Value
 | some (s,h,l) => .tuple #[.agg #[.bool s, .int .u64 (h:Int), .int .u64 (l:Int)], .int .i64 0]
 | none => .tuple #[.agg #[.bool false, .int .u64 0, .int .u64 0], .int .i64 9]
theorem cut_nogap {s sep:List UInt8} (h:(Lib.cut s sep).2.2=false):(Lib.cut s sep).2.1=[]:=by
 unfold Lib.cut at h ⊢
 split
 ·rename_i h0
  rw [if_pos h0] at h
  cases h
 ·rfl
theorem cut_le (s sep:List UInt8):(Lib.cut s sep).1.length≤s.length∧(Lib.cut s sep).2.1.length≤s.length:=by
 unfold Lib.cut
 split
 ·exact ⟨by simp;omega,by simp⟩
 ·exact ⟨Nat.le_refl _,by simp⟩
def encU (L:List Nat):List Value:=L.map fun (n:Nat) => .int .u64 (n:Int)
theorem layU_all (L:List Nat):layU.all L=encU L:=by
 induction L with
 | nil => rfl
 | cons x l ih =>
   show [.int .u64 (x:Int)] ++ layU.all l=_
   rw [ih];rfl
theorem encU_one (L:List Nat):∀ v ∈ encU L,v.oneCell'=true:=fun v hv => by
 obtain ⟨x,_,rfl⟩:=List.mem_map.1 hv
 rfl
theorem OwnK.srcU {w:World} {B m c:Nat} {ad:Option Addr} {L:List Nat} (h:OwnK layU w B (.slice ad m c) L):m=L.length∧(0 < L.length→∃ a,ad=some a∧∀ (j:Nat) v,(encU L)[j]?=some v→w.cell? (a.add j)=some v):=by
 obtain ⟨ad2,c2,hv,hs, -⟩:=h.form
 injection hv with e1 e2 e3
 subst e1
 refine ⟨e2,fun hl => ?_⟩
 rw [layU_all] at hs
 obtain ⟨x,hx⟩:∃ x,(encU L)[0]?=some x:=⟨_,List.getElem?_eq_getElem (by simpa [encU] using hl)⟩
 obtain ⟨a,rfl, -, -⟩:=hs.2 0 x hx
 refine ⟨a,rfl,fun j v hj => ?_⟩
 obtain ⟨a2,e, -,hc⟩:=hs.2 j v hj
 injection e with e
 subst e
 exact hc
def llR (g8 ob k:Nat) (WH WL GQ:Nat→Nat):Nat→Value→Nat→World→Prop
 | 0,v,_,_ => v=.pointer (some ⟨ob,1,none⟩)
 | 1,v,_,_ => v=.int .u64 (WH k:Int)
 | 2,v,_,_ => v=.int .u64 ((WH k:Int) * 65536)
 | 3,v,_,_ => v=.int .i64 (k:Int)
 | 4,v,_,_ => v=.pointer (some ⟨g8,k,none⟩)
 | 5,v,_,_ => v=.int .u64 (GQ k:Int)
 | 6,v,_,_ => v=.int .u64 (WH (k + 1):Int)
 | 7,v,_,_ => v=.pointer (some ⟨ob,2,none⟩)
 | 8,v,_,_ => v=.int .u64 (WL k:Int)
 | 9,v,_,_ => v=.int .u64 ((WL k:Int) * 65536)
 | 10,v,_,_ => v=.int .i64 (k:Int)
 | 11,v,_,_ => v=.int .i64 (4 + (k:Int))
 | 12,v,_,_ => v=.pointer (some ⟨g8,4 + k,none⟩)
 | 13,v,_,_ => v=.int .u64 (GQ (4 + k):Int)
 | 14,v,_,_ => v=.int .u64 (WL (k + 1):Int)
 | 15,v,_,_ => v=.pointer (some ⟨ob,1,none⟩)
 | 16,_,n,_ => n=1
 | 17,v,_,_ => v=.pointer (some ⟨ob,2,none⟩)
 | _,_,_,_ => True
theorem llR_keep {g8 ob k:Nat} {WH WL GQ:Nat→Nat} (p:Nat) (v:Value) (n:Nat) (u:World) (m:Nat) (w:World) (h:llR g8 ob k WH WL GQ p v n u) (hb:hqS n u m w):llR g8 ob k WH WL GQ p v m w:=by
 rcases p with _ | _ | _ | _ | _ | _ | _ | _ | _ | _ | _ | _ | _ | _ | _ | _ | _ | _ | p
 all_goals first
  | exact h
  | (have h:n=1:=h
     have h1:=hb.1
     have h2:=hb.2
     show m=1
     omega)
def llC (w:World) (ob g8 bx k:Nat) (WH WL:Nat→Nat) (GA:Array Value) (n:Nat) (v:World):Prop :=
 Blk v ob 28 #[.bool true, .int .u64 (WH (k + n):Int), .int .u64 (WL k:Int)]∧Blk v g8 253 GA∧Blk v bx 28 #[.bool false, .int .u64 0, .int .u64 0]∧Below bx w v
theorem Blk.drew {w:World} {B:Nat} {t:TypeId} {cs:Array Value} (h:Blk w B t cs):Blk w.drew B t cs:=h
theorem RowKit.Below.drewR {B:Nat} {u v:World} (h:Below B u v):Below B u v.drew:=⟨h.os,h.tape,h.output,h.size,h.block⟩
theorem loose_any (s:List UInt8) (w:World) (hv:Vr w) (hs:s.length≤1000000) :
  Calls Tryz.prog 266 #[.string (strL s)] w (Ret (lsV (looseF s)) w):=by
 have HP:Hid (Blk (w.alloc (.cells #[.bool false, .int .u64 0, .int .u64 0] 28 (0,0))) w.heap.size 28 #[.bool false, .int .u64 0, .int .u64 0]):=Lib.hid (Blk.new w _ _)
 have HB:Hid (Below w.heap.size w (w.alloc (.cells #[.bool false, .int .u64 0, .int .u64 0] 28 (0,0)))):=Lib.hid (below_alloc (Below.refl _ _) _)
 have HV:=Lib.hid (hv.below (below_alloc (Below.refl _ _) (.cells #[.bool false, .int .u64 0, .int .u64 0] 28 (0,0))))
 have HCo:=Lib.hid fun wx => contains_any s 58 wx
 have HF:=Lib.hid fun wx (hv:Vr wx) => aFour_any s wx hv hs
 have HCu:=Lib.hid fun wx (hv:Vr wx) => cut_any s [58,58] wx hv hs
 have HLo:Hid (looseF s=if s.contains 58=true then sixF s else (fourF s).map fun n => (false,0,n)):=Lib.hid rfl
 have HSi:Hid (sixF s=mkA (cutC s).2.2 (grpF (cutC s).1 (!(cutC s).2.2)) (grpF (cutC s).2.1 true)):=Lib.hid rfl
 have HGa:=Lib.hid fun wx (hv:Vr wx) (l:Bool) => aGroups_any (cutC s).1 l wx hv (Nat.le_trans (cut_le s [58,58]).1 hs)
 have HGb:=Lib.hid fun wx (hv:Vr wx) => aGroups_any (cutC s).2.1 true wx hv (Nat.le_trans (cut_le s [58,58]).2 hs)
 have HAl:Hid (∀ l G,grpF (cutC s).1 l=some G→∀ g ∈ G,g < 65536):=Lib.hid fun l G h => grpF_lt (Nat.le_trans (cut_le s [58,58]).1 hs) h
 have HBl:Hid (∀ G,grpF (cutC s).2.1 true=some G→∀ g ∈ G,g < 65536):=Lib.hid fun G h => grpF_lt (Nat.le_trans (cut_le s [58,58]).2 hs) h
 have HLa:Hid (∀ l G,grpF (cutC s).1 l=some G→G.length≤1000002):=Lib.hid fun l G h => Nat.le_trans (grpF_len h) (by have:=(cut_le s [58,58]).1;show (Lib.cut s [58,58]).1.length + 2≤_;omega)
 have HLb:Hid (∀ G,grpF (cutC s).2.1 true=some G→G.length≤1000002):=Lib.hid fun G h => Nat.le_trans (grpF_len h) (by have:=(cut_le s [58,58]).2;show (Lib.cut s [58,58]).2.1.length + 2≤_;omega)
 have HNg:Hid ((cutC s).2.2=false→grpF (cutC s).2.1 true=some []):=Lib.hid fun h => by
  have:(cutC s).2.1=[]:=cut_nogap h
  rw [this];rfl
 have e58:strL [58,58]=⟨#[58,58]⟩:=rfl
 rw [e58] at HCu
 obtain ⟨RR,hRR⟩:∃ q,looseF s=q:=⟨_,rfl⟩
 rw [hRR] at HLo ⊢
 generalize sixF s=SF at *
 generalize s.contains 58=C at *
 generalize fourF s=FX at *
 have hcc:Lib.cut s [58,58]=cutC s:=rfl
 rw [hcc] at HCu
 generalize (cutC s).1=lft at *
 generalize (cutC s).2.1=rgt at *
 generalize (cutC s).2.2=gap at *
 generalize strL s=SS at *
 clear hv e58 hRR hcc
 go_enter Tryz.func266,Tryz.ntmps266
 go_upto_region 1 with fail
 generalize w.alloc (.cells #[.bool false, .int .u64 0, .int .u64 0] 28 (0,0))=w1 at *
 obtain ⟨bx,hbx⟩:∃ q,w.heap.size=q:=⟨_,rfl⟩
 have Hbx:=Lib.hid hbx
 rw [hbx] at HP HB ⊢
 clear hbx
 have HRet:Hid (∀ wx (sx:Bool) (h l:Int),Blk wx bx 28 #[.bool false, .int .u64 0, .int .u64 0]→Below bx w wx→Below bx w (((wx.setCell ⟨bx,0,none⟩ (.bool sx)).setCell ⟨bx,1,none⟩ (.int .u64 h)).setCell ⟨bx,2,none⟩ (.int .u64 l))):=Lib.hid fun wx sx h l hp hb => hb.grown (grown_setCells bx [.bool sx, .int .u64 h, .int .u64 l] 0 wx) (Nat.le_of_lt hp.lt) (fun k hk => by injection hk with hk;omega)
 go_wp2_with fail
 refine (HCo.out _).mono ?_
 rintro e w2 ⟨rfl,hb⟩
 have HP2:=Lib.hid (HP.out.below hb HP.out.lt)
 have HB2:=Lib.hid (HB.out.trans (hb.mono (Nat.le_of_lt HP.out.lt)))
 have HV2:=Lib.hid (HV.out.below hb)
 clear hb HP HB HV HCo
 cases C
 ·have hL:=HLo.out
  rw [if_neg (by decide)] at hL
  have HL:=Lib.hid hL
  have HFx:=Lib.hid (HF.out _ HV2.out)
  clear hL HLo HSi HGa HGb HAl HBl HNg HCu HF
  go_wp2_with fail
  refine HFx.out.mono ?_
  rintro e w3 ⟨rfl,hb⟩
  have HP3:=Lib.hid (HP2.out.below hb HP2.out.lt)
  have HB3:=Lib.hid (HB2.out.trans (hb.mono (Nat.le_of_lt HP2.out.lt)))
  clear hb HP2 HB2 HV2 HFx
  have q0:=HP3.out.cell 0
  have q1:=HP3.out.cell 1
  have q2:=HP3.out.cell 2
  have qf:=HP3.out.free
  simp at q0 q1 q2
  have c3:=fun (a:Bool) (b c:Int) => (HP3.out.set3 (x':=.bool a) (y':=.int .u64 b) (z':=.int .u64 c))
  cases FX with
  | none =>
    have hL:=HL.out
    subst hL
    have HBf:=Lib.hid (HRet.out w3 false 0 0 HP3.out HB3.out)
    have d0:=(c3 false 0 0).cell 0
    have d1:=(c3 false 0 0).cell 1
    have d2:=(c3 false 0 0).cell 2
    simp at d0 d1 d2
    clear c3
    go_wp2_with fail
    refine bodyPost_ret (v:=.tuple #[.agg #[.bool false, .int .u64 0, .int .u64 0], .int .i64 9]) (by simp [results,Tryz.results266,go_sem, *]) rfl ⟨rfl,by rw [Hbx.out];exact HBf.out⟩
  | some n =>
    have hL:=HL.out
    subst hL
    have HBf:=Lib.hid (HRet.out w3 false 0 n HP3.out HB3.out)
    have d0:=(c3 false 0 n).cell 0
    have d1:=(c3 false 0 n).cell 1
    have d2:=(c3 false 0 n).cell 2
    simp at d0 d1 d2
    clear c3
    go_wp2_with fail
    refine bodyPost_ret (v:=.tuple #[.agg #[.bool false, .int .u64 0, .int .u64 (n:Int)], .int .i64 0]) (by simp [results,Tryz.results266,go_sem, *]) rfl ⟨rfl,by rw [Hbx.out];exact HBf.out⟩
 ·have hL:=HLo.out
  rw [if_pos rfl] at hL
  have HL:=Lib.hid (hL.trans HSi.out)
  have HCx:=Lib.hid (HCu.out _ HV2.out)
  clear hL HLo HSi HCu HF
  go_wp2_with fail
  refine HCx.out.mono ?_
  rintro e w3 ⟨rfl,hb⟩
  have HP3:=Lib.hid (HP2.out.below hb HP2.out.lt)
  have HB3:=Lib.hid (HB2.out.trans (hb.mono (Nat.le_of_lt HP2.out.lt)))
  have HV3:=Lib.hid (HV2.out.below hb)
  clear hb HP2 HB2 HV2 HCx
  have HGx:=Lib.hid (HGa.out _ HV3.out (!gap))
  have HAl2:=Lib.hid (HAl.out (!gap))
  have HLa2:=Lib.hid (HLa.out (!gap))
  clear HGa HAl HLa
  generalize grpF lft (!gap)=A at *
  generalize grpF rgt true=B at *
  generalize strL lft=SL at *
  generalize strL rgt=SR at *
  go_wp2_with fail
  refine HGx.out.mono ?_
  rintro e w4 ⟨aa,la,ca,rfl,hO,hb⟩
  have hbb:bx≤w3.heap.size:=Nat.le_of_lt HP3.out.lt
  have HO4:=Lib.hid hO
  have HP4:=Lib.hid (HP3.out.below hb HP3.out.lt)
  have HB4:=Lib.hid (HB3.out.trans (hb.mono hbb))
  have HV4:=Lib.hid (HV3.out.below hb)
  have HGy:=Lib.hid (HGb.out _ HV4.out)
  have Hs34:=Lib.hid hb.size
  clear hb hO HP3 HB3 HV3 HGx HGb
  go_wp2_with fail
  refine HGy.out.mono ?_
  rintro e w5 ⟨ab,lb,cb,rfl,hO,hb⟩
  have hbb4:bx≤w4.heap.size:=Nat.le_of_lt HP4.out.lt
  have HA5:Hid (∀ G,A=some G→OwnK layU w5 w3.heap.size (.slice aa la ca) G):=Lib.hid fun G h => (HO4.out G h).later hb
  have HB5r:Hid (∀ G,B=some G→OwnK layU w5 w4.heap.size (.slice ab lb cb) G):=Lib.hid hO
  have HP5:=Lib.hid (HP4.out.below hb HP4.out.lt)
  have HB5:=Lib.hid (HB4.out.trans (hb.mono hbb4))
  have Hs45:=Lib.hid hb.size
  clear hb hO HO4 HP4 HB4 HV4 HGy
  cases A with
  | none =>
    have hL:=HL.out
    have hLn:RR=none:=hL
    subst hLn
    clear HL HA5 HB5r HAl2 HBl HNg
    have q0:=HP5.out.cell 0
    have q1:=HP5.out.cell 1
    have q2:=HP5.out.cell 2
    have qf:=HP5.out.free
    simp at q0 q1 q2
    have c3:=(HP5.out.set3 (x':=.bool false) (y':=.int .u64 0) (z':=.int .u64 0))
    have HBf:=Lib.hid (HRet.out w5 false 0 0 HP5.out HB5.out)
    have d0:=c3.cell 0
    have d1:=c3.cell 1
    have d2:=c3.cell 2
    simp at d0 d1 d2
    clear c3
    go_wp2_with fail
    refine bodyPost_ret (v:=.tuple #[.agg #[.bool false, .int .u64 0, .int .u64 0], .int .i64 9]) (by simp [results,Tryz.results266,go_sem, *]) rfl ⟨rfl,by rw [Hbx.out];exact HBf.out⟩
  | some a =>
    cases B with
    | none =>
      have hL:=HL.out
      have hLn:RR=none:=hL
      subst hLn
      clear HL HA5 HB5r HAl2 HBl HNg
      have q0:=HP5.out.cell 0
      have q1:=HP5.out.cell 1
      have q2:=HP5.out.cell 2
      have qf:=HP5.out.free
      simp at q0 q1 q2
      have c3:=(HP5.out.set3 (x':=.bool false) (y':=.int .u64 0) (z':=.int .u64 0))
      have HBf:=Lib.hid (HRet.out w5 false 0 0 HP5.out HB5.out)
      have d0:=c3.cell 0
      have d1:=c3.cell 1
      have d2:=c3.cell 2
      simp at d0 d1 d2
      clear c3
      go_wp2_with fail
      refine bodyPost_ret (v:=.tuple #[.agg #[.bool false, .int .u64 0, .int .u64 0], .int .i64 9]) (by simp [results,Tryz.results266,go_sem, *]) rfl ⟨rfl,by rw [Hbx.out];exact HBf.out⟩
    | some b =>
      have hL:RR=if ((gap && decide (7 < a.length + b.length)) || (!gap && !decide (a.length=8)))=true then none else some (true,wdg (gq a b) 4,wdg (fun i => gq a b (4 + i)) 4):=HL.out
      have HAr:=Lib.hid (HA5.out a rfl)
      have HBr:=Lib.hid (HB5r.out b rfl)
      have hA0:=HAr.out.srcU
      have hB0:=HBr.out.srcU
      obtain ⟨rfl,hA0⟩:=hA0
      obtain ⟨rfl,hB0⟩:=hB0
      have HA0:=Lib.hid hA0
      have HB0:=Lib.hid hB0
      have hgl:=gq_lt (HAl2.out a rfl) (HBl.out b rfl)
      have HGl:=Lib.hid hgl
      have hng:gap=false→b.length=0:=fun h => by have:=HNg.out h;injection this with this;rw [this];rfl
      have HNb:=Lib.hid hng
      have hlen1:a.length≤1000002:=HLa2.out a rfl
      have hlen2:b.length≤1000002:=HLb.out b rfl
      clear HL HA5 HB5r HAl2 HBl HNg hA0 hB0 hgl hng HLa2 HLb
      by_cases hbad:((gap && decide (7 < a.length + b.length)) || (!gap && !decide (a.length=8)))=true
      ·rw [if_pos hbad] at hL
       subst hL
       have hcase:(gap=true∧7 < a.length + b.length) ∨ (gap=false∧¬ a.length=8):=by
        cases gap
        ·right;simp at hbad;exact ⟨rfl,hbad⟩
        ·left;simp at hbad;exact ⟨rfl,hbad⟩
       clear hbad HAr HBr HA0 HB0 HGl HNb
       rcases hcase with ⟨rfl,hx⟩ | ⟨rfl,hx⟩
       ·have hx':(7:Int) < (a.length:Int) + (b.length:Int):=by omega
        have q0:=HP5.out.cell 0
        have q1:=HP5.out.cell 1
        have q2:=HP5.out.cell 2
        have qf:=HP5.out.free
        simp at q0 q1 q2
        have c3:=(HP5.out.set3 (x':=.bool false) (y':=.int .u64 0) (z':=.int .u64 0))
        have HBf:=Lib.hid (HRet.out w5 false 0 0 HP5.out HB5.out)
        have d0:=c3.cell 0
        have d1:=c3.cell 1
        have d2:=c3.cell 2
        simp at d0 d1 d2
        clear c3
        go_wp2_with fail
        refine bodyPost_ret (v:=.tuple #[.agg #[.bool false, .int .u64 0, .int .u64 0], .int .i64 9]) (by simp [results,Tryz.results266,go_sem, *]) rfl ⟨rfl,by rw [Hbx.out];exact HBf.out⟩
       ·have hx':¬ (a.length:Int)=8:=by omega
        have hxb:((a.length:Int) == 8)=false:=beq_eq_false_iff_ne.2 hx'
        have q0:=HP5.out.cell 0
        have q1:=HP5.out.cell 1
        have q2:=HP5.out.cell 2
        have qf:=HP5.out.free
        simp at q0 q1 q2
        have c3:=(HP5.out.set3 (x':=.bool false) (y':=.int .u64 0) (z':=.int .u64 0))
        have HBf:=Lib.hid (HRet.out w5 false 0 0 HP5.out HB5.out)
        have d0:=c3.cell 0
        have d1:=c3.cell 1
        have d2:=c3.cell 2
        simp at d0 d1 d2
        clear c3
        go_wp2_with fail
        refine bodyPost_ret (v:=.tuple #[.agg #[.bool false, .int .u64 0, .int .u64 0], .int .i64 9]) (by simp [results,Tryz.results266,go_sem, *]) rfl ⟨rfl,by rw [Hbx.out];exact HBf.out⟩
      ·rw [if_neg hbad] at hL
       subst hL
       have hsum:a.length + b.length≤8:=by
        cases gap
        ·have:=HNb.out rfl
         simp at hbad
         omega
        ·simp at hbad
         omega
       have hga:gap=true ∨ a.length=8:=by
        cases gap
        ·right;simp at hbad;exact hbad
        ·exact .inl rfl
       have hgs:gap=true→a.length + b.length≤7:=fun h => by
        subst h;simp at hbad;omega
       have hcond1:gap=true→¬ (7:Int) < (a.length:Int) + (b.length:Int):=fun h => by have:=hgs h;omega
       have hcond2:gap=false→(a.length:Int)=8:=fun h => by
        rcases hga with h2 | h2
        ·rw [h] at h2;cases h2
        ·omega
       clear hbad HA0 HB0 HNb
       go_upto_region 9 with fail
       go_cut [72] (fun v wx => v=.bool false∧OwnK layU wx w3.heap.size (.slice aa a.length ca) a∧OwnK layU wx w4.heap.size (.slice ab b.length cb) b∧Blk wx bx 28 #[.bool false, .int .u64 0, .int .u64 0]∧Below bx w wx)
       case first =>
        cases gap
        ·have hc2:=hcond2 rfl
         have hc3:((a.length:Int) == 8)=true:=beq_iff_eq.2 hc2
         clear hcond1 hcond2 hga hgs
         go_wp2_with fail
         go_meet
         case rel => exact ⟨by first | rfl | simp [hc3],HAr.out,HBr.out,HP5.out,HB5.out⟩
        ·have hc1:=hcond1 rfl
         clear hcond1 hcond2 hga hgs
         go_wp2_with fail
         go_meet
         case rel => exact ⟨by first | rfl | (simp;exact hc1) | simp_all,HAr.out,HBr.out,HP5.out,HB5.out⟩
       case rest =>
        obtain ⟨rfl,hA,hB,hP,hb⟩:=hcut
        have hbx5:bx < wc.heap.size:=hP.lt
        have HG8:Hid (∀ i,i < 8→(gs8 a b)[i]?=some (gq a b i)):=Lib.hid fun i hi => gs8_get (a:=a) (b:=b) hsum hi
        have HQ:Hid (Blk (wc.alloc (.cells #[.int .u64 0, .int .u64 0, .int .u64 0, .int .u64 0, .int .u64 0, .int .u64 0, .int .u64 0, .int .u64 0] 253 (0,0))) wc.heap.size 253 (encU (List.replicate 8 0)).toArray):=Lib.hid (Blk.new wc _ _)
        have HAs:=Lib.hid (hA.alloc (.cells #[.int .u64 0, .int .u64 0, .int .u64 0, .int .u64 0, .int .u64 0, .int .u64 0, .int .u64 0, .int .u64 0] 253 (0,0)))
        have HBs:=Lib.hid (hB.alloc (.cells #[.int .u64 0, .int .u64 0, .int .u64 0, .int .u64 0, .int .u64 0, .int .u64 0, .int .u64 0, .int .u64 0] 253 (0,0)))
        have HP6:=Lib.hid (hP.alloc (.cells #[.int .u64 0, .int .u64 0, .int .u64 0, .int .u64 0, .int .u64 0, .int .u64 0, .int .u64 0, .int .u64 0] 253 (0,0)))
        have HB6:=Lib.hid (hb.alloc (Nat.le_of_lt hbx5) (.cells #[.int .u64 0, .int .u64 0, .int .u64 0, .int .u64 0, .int .u64 0, .int .u64 0, .int .u64 0, .int .u64 0] 253 (0,0)))
        have hal:∀ k,(Value.slice aa a.length ca).ownBlock=some k→k < wc.heap.size:=own_lt hA
        have hbl:∀ k,(Value.slice ab b.length cb).ownBlock=some k→k < wc.heap.size:=own_lt hB
        have HAl:=Lib.hid hal
        have HBl:=Lib.hid hbl
        clear hal hbl hA hB hP hb HAr HBr HP5 HB5 Hs34 Hs45 hcond1 hcond2 hga hgs
        go_upto_region 12 with fail
        generalize wc.alloc (.cells #[.int .u64 0, .int .u64 0, .int .u64 0, .int .u64 0, .int .u64 0, .int .u64 0, .int .u64 0, .int .u64 0] 253 (0,0))=w6 at *
        generalize wc.heap.size=g8 at *
        have hAs:=HAs.out.srcU
        have hcsA:(encU a).length=a.length:=by simp [encU]
        have hcsB:(encU b).length=b.length:=by simp [encU]
        have HcsA:=Lib.hid hcsA
        have HcsB:=Lib.hid hcsB
        obtain ⟨CA,hCA⟩:∃ q,encU a=q:=⟨_,rfl⟩
        obtain ⟨CB,hCB⟩:∃ q,encU b=q:=⟨_,rfl⟩
        have HCA:=Lib.hid hCA
        have HCB:=Lib.hid hCB
        have HSA:Hid (0 < CA.length→∃ ad,aa=some ad∧∀ (j:Nat) v,CA[j]?=some v→w6.cell? (ad.add j)=some v):=Lib.hid fun h => by
         rw [← hCA] at h ⊢
         exact hAs.2 (by rw [← hcsA];exact h)
        have hone:∀ v ∈ CA,v.oneCell'=true:=by rw [← hCA];exact encU_one a
        have honeB:∀ v ∈ CB,v.oneCell'=true:=by rw [← hCB];exact encU_one b
        have Hone:=Lib.hid hone
        have HoneB:=Lib.hid honeB
        obtain ⟨C0,hC0⟩:∃ q,encU (List.replicate 8 0)=q:=⟨_,rfl⟩
        have hC0l:C0.length=8:=by rw [← hC0];rfl
        have HC0:=Lib.hid hC0
        have HC0l:=Lib.hid hC0l
        rw [hC0] at HQ
        rw [hCA] at HcsA
        rw [hCB] at HcsB
        clear hAs hcsA hcsB hCA hCB hone honeB hC0 hC0l
        go_upto_region 13 with (refine wpList_copy_splice rfl (.tmp 74) (.tmp 75) 234 234 rfl 26 Tryz.underlying234 (by kernel_rfl) _ _ _ _ _ _ rfl rfl g8 0 C0 253 HQ.out CA ?ka ?kb ?kc Hone.out g8 w6 (Below.refl _ _) (Nat.le_refl _) ?_)
        case ka => rw [HcsA.out];exact (Nat.min_eq_left (by omega)).symm
        case kb => intro h;first | exact ⟨rfl,HSA.out h⟩ | exact HSA.out h
        case kc => rw [HcsA.out,HC0l.out];omega
        intro w7 hw7 hb7
        have hg8:bx≤g8:=Nat.le_of_lt hbx5
        have HBs7:Hid (OwnK layU w7 w4.heap.size (.slice ab b.length cb) b):=Lib.hid (own_below HBs.out hb7 HBl.out)
        have hBs:=HBs7.out.srcU
        have HSB:Hid (0 < CB.length→∃ ad,ab=some ad∧∀ (j:Nat) v,CB[j]?=some v→w7.cell? (ad.add j)=some v):=Lib.hid fun h => by
         rw [← HCB.out] at h ⊢
         exact hBs.2 (by simpa [encU] using h)
        have HGS:Hid (encU (gs8 a b)=splice (splice C0 0 CA) (8 - b.length) CB):=Lib.hid (by
         rw [← HC0.out, ← HCA.out, ← HCB.out]
         unfold encU gs8
         rw [splice_map,splice_map])
        have hl1:(splice C0 0 CA).length=8:=by rw [length_splice _ _ _ (by rw [HcsA.out,HC0l.out];omega),HC0l.out]
        have Hl1:=Lib.hid hl1
        obtain ⟨C1,hC1⟩:∃ q,splice C0 0 CA=q:=⟨_,rfl⟩
        rw [hC1] at hw7 HGS Hl1
        have Hw7:=hw7
        have Hb7:=Lib.hid hb7
        clear hC1 hl1 hBs hw7 hb7 HSA Hone HCA HC0 HC0l HcsA HAs HBs HQ HBs7 HAl HBl HCB
        go_upto_region 13 with fail
        go_cut [11] (fun _ wx => Hid (wx.heap[g8]?=some (.cells (encU (gs8 a b)).toArray 253 (0,0)))∧Below g8 w6 wx)
        case first =>
         have hb8:b.length=0 ∨ b.length=1 ∨ b.length=2 ∨ b.length=3 ∨ b.length=4 ∨ b.length=5 ∨ b.length=6 ∨ b.length=7 ∨ b.length=8:=by omega
         clear hlen1 hlen2 hsum
         rcases hb8 with hl | hl | hl | hl | hl | hl | hl | hl | hl
         all_goals
          rw [hl] at HcsB HGS ⊢
          go_wp2_with (refine wpList_copy_splice rfl (.tmp 80) (.tmp 81) 234 234 rfl 26 Tryz.underlying234 (by kernel_rfl) _ _ _ _ _ _ rfl rfl g8 (8 - b.length) C1 253 Hw7.out CB ?ka ?kb ?kc HoneB.out g8 w6 Hb7.out (Nat.le_refl _) ?_)
          case ka => rw [HcsB.out];rfl
          case kb => intro h;rw [hl];first | exact ⟨rfl,HSB.out h⟩ | exact HSB.out h | (rw [HcsB.out] at h;omega)
          case kc => rw [HcsB.out,Hl1.out,hl];first | done | omega
          intro w8 hw8 hb8
          have HE8:Hid (w8.heap[g8]?=some (.cells (encU (gs8 a b)).toArray 253 (0,0))):=Lib.hid (by rw [HGS.out];first | exact hw8.out | (have:=hw8.out;rw [hl] at this;exact this))
          go_wp2_with fail
          go_meet
          case rel => exact ⟨HE8,hb8⟩
        case rest =>
         obtain ⟨hw8,hb8⟩:=hcut
         have HQ8:Hid (Blk wc g8 253 (encU (gs8 a b)).toArray):=Lib.hid hw8.out
         have HP8:=Lib.hid (HP6.out.below hb8 hbx5)
         have HB8:=Lib.hid (HB6.out.trans (hb8.mono hg8))
         have hgw:g8 < wc.heap.size:=HQ8.out.lt
         clear hw8 hb8 HP6 HB6 HSB HGS Hw7 Hb7 HcsB HoneB Hl1
         have HGg:Hid (∀ wx,Blk wx g8 253 (encU (gs8 a b)).toArray→∀ i,i < 8→wx.cell? ⟨g8,i,none⟩=some (.int .u64 (gq a b i:Int))):=Lib.hid fun wx h i hi => by
          have:=h.cell i
          rw [this,List.getElem?_toArray]
          unfold encU
          rw [List.getElem?_map,HG8.out i hi]
          rfl
         generalize (encU (gs8 a b)).toArray=GA at *
         have HO8:Hid (Blk (wc.alloc (.cells #[.bool true, .int .u64 0, .int .u64 0] 28 (0,0))) wc.heap.size 28 #[.bool true, .int .u64 ((wdg (gq a b) 0:Nat):Int), .int .u64 ((wdg (fun i => gq a b (4 + i)) 0:Nat):Int)]):=Lib.hid (Blk.new wc _ _)
         have HQ9:=Lib.hid (HQ8.out.alloc (.cells #[.bool true, .int .u64 0, .int .u64 0] 28 (0,0)))
         have HP9:=Lib.hid (HP8.out.alloc (.cells #[.bool true, .int .u64 0, .int .u64 0] 28 (0,0)))
         have hbc:bx < wc.heap.size:=HP8.out.lt
         have HB9:=Lib.hid (HB8.out.alloc (Nat.le_of_lt hbc) (.cells #[.bool true, .int .u64 0, .int .u64 0] 28 (0,0)))
         clear HQ8 HP8 HB8 HG8
         go_upto_region 15 with fail
         generalize wc.alloc (.cells #[.bool true, .int .u64 0, .int .u64 0] 28 (0,0))=w9 at *
         generalize wc.heap.size=ob at *
         have HW1:Hid (∀ k,k < 4→bits .or .u64 ((wdg (gq a b) k:Int) * 65536) (gq a b k:Int)=((wdg (gq a b) (k + 1):Nat):Int)):=Lib.hid fun k hk => wdg_or HGl.out hk
         have HW2:Hid (∀ k,k < 4→bits .or .u64 ((wdg (fun i => gq a b (4 + i)) k:Int) * 65536) (gq a b (4 + k):Int)=((wdg (fun i => gq a b (4 + i)) (k + 1):Nat):Int)):=Lib.hid fun k hk => wdg_or (g:=fun i => gq a b (4 + i)) (fun i => HGl.out (4 + i)) hk
         have HWl:Hid (∀ k,k < 4→wdg (gq a b) k < 281474976710656∧wdg (fun i => gq a b (4 + i)) k < 281474976710656):=Lib.hid fun k hk => by
          have h3:65536 ^ k≤65536 ^ 3:=Nat.pow_le_pow_right (by decide) (by omega)
          exact ⟨Nat.lt_of_lt_of_le (wdg_lt HGl.out k) (Nat.le_trans h3 (by decide)),Nat.lt_of_lt_of_le (wdg_lt (g:=fun i => gq a b (4 + i)) (fun i => HGl.out (4 + i)) k) (Nat.le_trans h3 (by decide))⟩
         obtain ⟨WH,hWH⟩:∃ q,wdg (gq a b)=q:=⟨_,rfl⟩
         obtain ⟨WL,hWL⟩:∃ q,wdg (fun i => gq a b (4 + i))=q:=⟨_,rfl⟩
         obtain ⟨GQ,hGQ⟩:∃ q,gq a b=q:=⟨_,rfl⟩
         have HWe:Hid (lsV (some (true,wdg (gq a b) 4,wdg (fun i => gq a b (4 + i)) 4))=.tuple #[.agg #[.bool true, .int .u64 (WH 4:Int), .int .u64 (WL 4:Int)], .int .i64 0]):=Lib.hid (by rw [← hWH, ← hWL];rfl)
         rw [hWH] at HO8 HW1 HWl
         rw [hWL] at HO8 HW2 HWl
         rw [hGQ] at HW1 HW2 HGg
         clear hWH hWL hGQ
         go_wp2_with fail
         go_loopw [84] (fun i wr => ∃ k:Nat,k≤4∧i=.int .i64 (k:Int)∧Hid (Blk wr ob 28 #[.bool true, .int .u64 (WH k:Int), .int .u64 (WL k:Int)])∧Hid (Blk wr g8 253 GA)∧Hid (Blk wr bx 28 #[.bool false, .int .u64 0, .int .u64 0])∧Hid (Below bx w wr)) (fun i _ => 4 - (intOf i).toNat)
         case atStart => exact ⟨0,by omega,rfl,HO8,HQ9,HP9,HB9⟩
         case round =>
          clear HO8 HQ9 HP9 HB9
          obtain ⟨k,hk,rfl,HO,HQ,HP,HB⟩:=hrel
          by_cases hlt:k < 4
          ·have hgo:g8 ≠ ob:=by have:=HQ.out.lt;omega
           have hbo:bx ≠ ob:=by omega
           go_upto_region 18 with fail
           refine Lm.wp_region_lim 18 1 (llR g8 ob k WH WL GQ) (llC w ob g8 bx k WH WL GA) hqS (fun i => if i=16 then 1 else 0) (fun i => if i=0 ∨ i=1 ∨ i=2 ∨ i=3 ∨ i=4 ∨ i=5 ∨ i=6 ∨ i=15 ∨ i=16 then 0 else 1)
            (by kernel_rfl) (by kernel_rfl) (by decide) (by kernel_rfl) llR_keep ⟨HO.out.drew,HQ.out.drew,HP.out.drew,RowKit.Below.drewR HB.out⟩ ?hX
           case' hX => (apply Exists.intro;refine ⟨fun T => ?hA,?hob,?hend⟩)
           case hA =>
            simp only [setAll,List.take_succ_cons,List.take_zero,Act.put,List.setIfInBounds_toArray,List.set_cons_succ,List.set_cons_zero,Nat.reduceAdd]
            exact rfl
           case hob =>
            go_light
            refine ⟨?_,?_,?_,?_,?_,?_,?_,?_,?_,?_,?_,?_,?_,?_,?_,?_,?_,?_,trivial⟩
            all_goals (intro TT wx n0 hC hn hp;dsimp only at hn ⊢;unfold Op1)
            ·have hn1:n0≤1:=by simp at hn;omega
             go_simp
             first | exact ⟨rfl,hC,Nat.le_refl _,by omega⟩ | exact ⟨rfl,Nat.le_refl _,by omega⟩ | exact ⟨hC,Nat.le_refl _,by omega⟩ | exact ⟨Nat.le_refl _,by omega⟩
            ·obtain ⟨g0, -⟩:=hp
             have g0:TT 0=.pointer (some ⟨ob,1,none⟩):=g0
             have hn0:n0=0:=by simpa using hn
             subst hn0
             have hn1:0≤1:=by omega
             have c1:=hC.1.cell 1
             simp at c1
             go_simp
             first | exact ⟨rfl,hC,Nat.le_refl _,by omega⟩ | exact ⟨rfl,Nat.le_refl _,by omega⟩ | exact ⟨hC,Nat.le_refl _,by omega⟩ | exact ⟨Nat.le_refl _,by omega⟩
            ·obtain ⟨g0, -⟩:=hp
             have g0:TT 1=.int .u64 (WH k:Int):=g0
             have hn1:n0≤1:=by simp at hn;omega
             have hw:=(HWl.out k hlt).1
             have hwr:IntKind.u64.wrap ((WH k:Int) * 65536)=(WH k:Int) * 65536:=by rw [IntKind.wrap_u64];omega
             go_simp
             first | exact ⟨rfl,hC,Nat.le_refl _,by omega⟩ | exact ⟨rfl,Nat.le_refl _,by omega⟩ | exact ⟨hC,Nat.le_refl _,by omega⟩ | exact ⟨Nat.le_refl _,by omega⟩
            ·have hn1:n0≤1:=by simp at hn;omega
             go_simp
             first | exact ⟨rfl,hC,Nat.le_refl _,by omega⟩ | exact ⟨rfl,Nat.le_refl _,by omega⟩ | exact ⟨hC,Nat.le_refl _,by omega⟩ | exact ⟨Nat.le_refl _,by omega⟩
            ·obtain ⟨g0, -⟩:=hp
             have g0:TT 3=.int .i64 (k:Int):=g0
             have hn1:n0≤1:=by simp at hn;omega
             have hk8:(k:Int) < 8:=by omega
             go_simp
             first | exact ⟨rfl,hC,Nat.le_refl _,by omega⟩ | exact ⟨rfl,Nat.le_refl _,by omega⟩ | exact ⟨hC,Nat.le_refl _,by omega⟩ | exact ⟨Nat.le_refl _,by omega⟩
            ·obtain ⟨g0, -⟩:=hp
             have g0:TT 4=.pointer (some ⟨g8,k,none⟩):=g0
             have hn1:n0≤1:=by simp at hn;omega
             have cg:=HGg.out wx hC.2.1 k (by omega)
             go_simp
             first | exact ⟨rfl,hC,Nat.le_refl _,by omega⟩ | exact ⟨rfl,Nat.le_refl _,by omega⟩ | exact ⟨hC,Nat.le_refl _,by omega⟩ | exact ⟨Nat.le_refl _,by omega⟩
            ·obtain ⟨g0,g1, -⟩:=hp
             have g0:TT 2=.int .u64 ((WH k:Int) * 65536):=g0
             have g1:TT 5=.int .u64 (GQ k:Int):=g1
             have hn1:n0≤1:=by simp at hn;omega
             have hw:=HW1.out k hlt
             go_simp
             first | exact ⟨rfl,hC,Nat.le_refl _,by omega⟩ | exact ⟨rfl,Nat.le_refl _,by omega⟩ | exact ⟨hC,Nat.le_refl _,by omega⟩ | exact ⟨Nat.le_refl _,by omega⟩
            ·have hn1:n0≤1:=by simp at hn;omega
             go_simp
             first | exact ⟨rfl,hC,Nat.le_refl _,by omega⟩ | exact ⟨rfl,Nat.le_refl _,by omega⟩ | exact ⟨hC,Nat.le_refl _,by omega⟩ | exact ⟨Nat.le_refl _,by omega⟩
            ·obtain ⟨g0, -⟩:=hp
             have g0:TT 7=.pointer (some ⟨ob,2,none⟩):=g0
             have hn1:n0≤1:=by simp at hn;omega
             have c2:=hC.1.cell 2
             simp at c2
             go_simp
             first | exact ⟨rfl,hC,Nat.le_refl _,by omega⟩ | exact ⟨rfl,Nat.le_refl _,by omega⟩ | exact ⟨hC,Nat.le_refl _,by omega⟩ | exact ⟨Nat.le_refl _,by omega⟩
            ·obtain ⟨g0, -⟩:=hp
             have g0:TT 8=.int .u64 (WL k:Int):=g0
             have hn1:n0≤1:=by simp at hn;omega
             have hw:=(HWl.out k hlt).2
             have hwr:IntKind.u64.wrap ((WL k:Int) * 65536)=(WL k:Int) * 65536:=by rw [IntKind.wrap_u64];omega
             go_simp
             first | exact ⟨rfl,hC,Nat.le_refl _,by omega⟩ | exact ⟨rfl,Nat.le_refl _,by omega⟩ | exact ⟨hC,Nat.le_refl _,by omega⟩ | exact ⟨Nat.le_refl _,by omega⟩
            ·have hn1:n0≤1:=by simp at hn;omega
             go_simp
             first | exact ⟨rfl,hC,Nat.le_refl _,by omega⟩ | exact ⟨rfl,Nat.le_refl _,by omega⟩ | exact ⟨hC,Nat.le_refl _,by omega⟩ | exact ⟨Nat.le_refl _,by omega⟩
            ·obtain ⟨g0, -⟩:=hp
             have g0:TT 10=.int .i64 (k:Int):=g0
             have hn1:n0≤1:=by simp at hn;omega
             have hwr:IntKind.i64.wrap (4 + (k:Int))=4 + (k:Int):=by rw [IntKind.wrap_i64];omega
             go_simp
             first | exact ⟨rfl,hC,Nat.le_refl _,by omega⟩ | exact ⟨rfl,Nat.le_refl _,by omega⟩ | exact ⟨hC,Nat.le_refl _,by omega⟩ | exact ⟨Nat.le_refl _,by omega⟩
            ·obtain ⟨g0, -⟩:=hp
             have g0:TT 11=.int .i64 (4 + (k:Int)):=g0
             have hn1:n0≤1:=by simp at hn;omega
             have h8:(0:Int)≤4 + (k:Int):=by omega
             have h9:4 + (k:Int) < 8:=by omega
             have ht:(4 + (k:Int)).toNat=4 + k:=by omega
             go_simp
             first | exact ⟨rfl,hC,Nat.le_refl _,by omega⟩ | exact ⟨rfl,Nat.le_refl _,by omega⟩ | exact ⟨hC,Nat.le_refl _,by omega⟩ | exact ⟨Nat.le_refl _,by omega⟩
            ·obtain ⟨g0, -⟩:=hp
             have g0:TT 12=.pointer (some ⟨g8,4 + k,none⟩):=g0
             have hn1:n0≤1:=by simp at hn;omega
             have cg:=HGg.out wx hC.2.1 (4 + k) (by omega)
             go_simp
             first | exact ⟨rfl,hC,Nat.le_refl _,by omega⟩ | exact ⟨rfl,Nat.le_refl _,by omega⟩ | exact ⟨hC,Nat.le_refl _,by omega⟩ | exact ⟨Nat.le_refl _,by omega⟩
            ·obtain ⟨g0,g1, -⟩:=hp
             have g0:TT 9=.int .u64 ((WL k:Int) * 65536):=g0
             have g1:TT 13=.int .u64 (GQ (4 + k):Int):=g1
             have hn1:n0≤1:=by simp at hn;omega
             have hw:=HW2.out k hlt
             go_simp
             first | exact ⟨rfl,hC,Nat.le_refl _,by omega⟩ | exact ⟨rfl,Nat.le_refl _,by omega⟩ | exact ⟨hC,Nat.le_refl _,by omega⟩ | exact ⟨Nat.le_refl _,by omega⟩
            ·have hn1:n0≤1:=by simp at hn;omega
             go_simp
             first | exact ⟨rfl,hC,Nat.le_refl _,by omega⟩ | exact ⟨rfl,Nat.le_refl _,by omega⟩ | exact ⟨hC,Nat.le_refl _,by omega⟩ | exact ⟨Nat.le_refl _,by omega⟩
            ·obtain ⟨g0,g1, -⟩:=hp
             have g0:TT 15=.pointer (some ⟨ob,1,none⟩):=g0
             have g1:TT 6=.int .u64 (WH (k + 1):Int):=g1
             have hn0:n0=0:=by simpa using hn
             subst hn0
             have c1:=hC.1.cell 1
             have cf:=hC.1.free
             simp at c1
             have HN:=Lib.hid (hC.1.set 1 (.int .u64 (WH (k + 1):Int)))
             have HN2:=Lib.hid (Blk.far hC.2.1 hgo 1 (.int .u64 (WH (k + 1):Int)))
             have HN3:=Lib.hid (Blk.far hC.2.2.1 hbo 1 (.int .u64 (WH (k + 1):Int)))
             have HN4:=Lib.hid (hC.2.2.2.grown (grown_setCells ob [.int .u64 (WH (k + 1):Int)] 1 wx) (Nat.le_of_lt hC.2.2.1.lt) (fun q hq => by injection hq with hq;omega))
             go_simp
             exact ⟨rfl,⟨HN.out,HN2.out,HN3.out,HN4.out⟩,by omega,by omega⟩
            ·have hn1:n0≤1:=by simp at hn;omega
             go_simp
             first | exact ⟨rfl,hC,Nat.le_refl _,by omega⟩ | exact ⟨rfl,Nat.le_refl _,by omega⟩ | exact ⟨hC,Nat.le_refl _,by omega⟩ | exact ⟨Nat.le_refl _,by omega⟩
           case hend =>
            intro TT w2 ⟨n0,hn0,hC,hR⟩
            have e16:n0=1:=hR 16 (by omega)
            have e17:TT 17=.pointer (some ⟨ob,2,none⟩):=hR 17 (by omega)
            have e14:TT 14=.int .u64 (WL (k + 1):Int):=hR 14 (by omega)
            subst e16
            obtain ⟨hO,hQ,hP,hb⟩:=hC
            have c2:=hO.cell 2
            have cf:=hO.free
            simp at c2
            have HN:=Lib.hid (hO.set 2 (.int .u64 (WL (k + 1):Int)))
            have HN2:=Lib.hid (Blk.far hQ hgo 2 (.int .u64 (WL (k + 1):Int)))
            have HN3:=Lib.hid (Blk.far hP hbo 2 (.int .u64 (WL (k + 1):Int)))
            have HN4:=Lib.hid (hb.grown (grown_setCells ob [.int .u64 (WL (k + 1):Int)] 2 w2) (Nat.le_of_lt hP.lt) (fun q hq => by injection hq with hq;omega))
            clear hO hQ hP hb hR HO HQ HP HB
            simp only [List.drop_succ_cons,List.drop_zero]
            go_wp2_with fail
            exact ⟨⟨k + 1,by omega,by go_num,HN,HN2,HN3,HN4⟩,by simp [intOf];omega⟩
          ·obtain rfl:k=4:=by omega
           have q0:=HP.out.cell 0
           have q1:=HP.out.cell 1
           have q2:=HP.out.cell 2
           have qf:=HP.out.free
           simp at q0 q1 q2
           have o0:=HO.out.cell 0
           have o1:=HO.out.cell 1
           have o2:=HO.out.cell 2
           simp at o0 o1 o2
           have c3:=(HP.out.set3 (x':=.bool true) (y':=.int .u64 (WH 4:Int)) (z':=.int .u64 (WL 4:Int)))
           have HBf:=Lib.hid (HRet.out wr true (WH 4:Int) (WL 4:Int) HP.out HB.out)
           have d0:=c3.cell 0
           have d1:=c3.cell 1
           have d2:=c3.cell 2
           simp at d0 d1 d2
           clear c3
           go_wp2_with fail
           refine bodyPost_ret (v:=.tuple #[.agg #[.bool true, .int .u64 (WH 4:Int), .int .u64 (WL 4:Int)], .int .i64 0]) (by simp [results,Tryz.results266,go_sem, *]) rfl ⟨by rw [HWe.out],by rw [Hbx.out];exact HBf.out⟩
theorem OwnK.getU {w:World} {B m c k:Nat} {ad:Option Addr} {L:List Nat} (h:OwnK layU w B (.slice ad m c) L) (hk:k < L.length):∃ g,ad=some ⟨g,0,none⟩∧w.cell? ⟨g,k,none⟩=some (.int .u64 ((L.getD k 0:Nat):Int)):=by
 obtain ⟨g,c2,hv, -⟩:=h.one (by omega)
 injection hv with e1 e2 e3
 subst e1
 refine ⟨g,rfl,?_⟩
 have:=h.get (i:=k) (j:=0) (List.getElem?_eq_getElem hk) rfl
 have e:k * layU.K + 0=k:=by show k * 1 + 0=k;omega
 rw [e] at this
 rw [this,List.getD_eq_getElem?_getD,List.getElem?_eq_getElem hk]
 rfl
theorem loose_same2 (s:List UInt8):looseF s=match fourF s with
  | some n => some (false,0,n)
  | none => sixF s:=by
 rw [loose_same]
 cases fourF s with
 | some n => rfl
 | none =>
   by_cases h:s=[]
   ·subst h;rfl
   ·show (if s=[] then none else sixF s)=sixF s
    rw [if_neg h]
theorem addrLoose_any (s:List UInt8) (w:World) (hv:Vr w) (hs:s.length≤1000000) :
  Calls Tryz.prog 215 #[.string (strL s)] w (Ret (lsV (looseF s)) w):=by
 have HP:Hid (Blk (w.alloc (.cells #[.bool false, .int .u64 0, .int .u64 0] 28 (0,0))) w.heap.size 28 #[.bool false, .int .u64 0, .int .u64 0]):=Lib.hid (Blk.new w _ _)
 have HB:Hid (Below w.heap.size w (w.alloc (.cells #[.bool false, .int .u64 0, .int .u64 0] 28 (0,0)))):=Lib.hid (below_alloc (Below.refl _ _) _)
 have HV:=Lib.hid (hv.below (below_alloc (Below.refl _ _) (.cells #[.bool false, .int .u64 0, .int .u64 0] 28 (0,0))))
 have HF:=Lib.hid fun wx (hv:Vr wx) => qFour_any s wx hv hs
 have HCu:=Lib.hid fun wx (hv:Vr wx) => cut_any s [58,58] wx hv hs
 have HLo:Hid (looseF s=match fourF s with | some n => some (false,0,n) | none => sixF s):=Lib.hid (loose_same2 s)
 have hse:=strL_list s
 have HNe:Hid (∀ l G,grpF (cutC s).1 l=some G→G.length=8→s ≠ []):=Lib.hid fun l G h h8 e => by
  subst e
  have:(some []:Option (List Nat))=some G:=h
  injection this with this
  subst this
  cases h8
 have HSi:Hid (sixF s=mkA (cutC s).2.2 (grpF (cutC s).1 (!(cutC s).2.2)) (grpF (cutC s).2.1 true)):=Lib.hid rfl
 have HGa:=Lib.hid fun wx (hv:Vr wx) (l:Bool) => qGroups_any (cutC s).1 l wx hv (Nat.le_trans (cut_le s [58,58]).1 hs)
 have HGb:=Lib.hid fun wx (hv:Vr wx) => qGroups_any (cutC s).2.1 true wx hv (Nat.le_trans (cut_le s [58,58]).2 hs)
 have HAl:Hid (∀ l G,grpF (cutC s).1 l=some G→∀ g ∈ G,g < 65536):=Lib.hid fun l G h => grpF_lt (Nat.le_trans (cut_le s [58,58]).1 hs) h
 have HBl:Hid (∀ G,grpF (cutC s).2.1 true=some G→∀ g ∈ G,g < 65536):=Lib.hid fun G h => grpF_lt (Nat.le_trans (cut_le s [58,58]).2 hs) h
 have HLa:Hid (∀ l G,grpF (cutC s).1 l=some G→G.length≤1000002):=Lib.hid fun l G h => Nat.le_trans (grpF_len h) (by have:=(cut_le s [58,58]).1;show (Lib.cut s [58,58]).1.length + 2≤_;omega)
 have HLb:Hid (∀ G,grpF (cutC s).2.1 true=some G→G.length≤1000002):=Lib.hid fun G h => Nat.le_trans (grpF_len h) (by have:=(cut_le s [58,58]).2;show (Lib.cut s [58,58]).2.1.length + 2≤_;omega)
 have HNg:Hid ((cutC s).2.2=false→grpF (cutC s).2.1 true=some []):=Lib.hid fun h => by
  have:(cutC s).2.1=[]:=cut_nogap h
  rw [this];rfl
 have e58:strL [58,58]=⟨#[58,58]⟩:=rfl
 rw [e58] at HCu
 obtain ⟨RR,hRR⟩:∃ q,looseF s=q:=⟨_,rfl⟩
 rw [hRR] at HLo ⊢
 generalize fourF s=FX at *
 have hcc:Lib.cut s [58,58]=cutC s:=rfl
 rw [hcc] at HCu
 generalize (cutC s).1=lft at *
 generalize (cutC s).2.1=rgt at *
 generalize (cutC s).2.2=gap at *
 obtain ⟨SS,hSS⟩:∃ q,strL s=q:=⟨_,rfl⟩
 rw [hSS] at hse HF HCu ⊢
 clear hSS
 clear hv e58 hRR hcc
 go_enter Tryz.func215,Tryz.ntmps215
 go_upto_region 1 with fail
 generalize w.alloc (.cells #[.bool false, .int .u64 0, .int .u64 0] 28 (0,0))=w1 at *
 obtain ⟨bx,hbx⟩:∃ q,w.heap.size=q:=⟨_,rfl⟩
 have Hbx:=Lib.hid hbx
 rw [hbx] at HP HB ⊢
 clear hbx
 have HRet:Hid (∀ wx (sx:Bool) (h l:Int),Blk wx bx 28 #[.bool false, .int .u64 0, .int .u64 0]→Below bx w wx→Below bx w (((wx.setCell ⟨bx,0,none⟩ (.bool sx)).setCell ⟨bx,1,none⟩ (.int .u64 h)).setCell ⟨bx,2,none⟩ (.int .u64 l))):=Lib.hid fun wx sx h l hp hb => hb.grown (grown_setCells bx [.bool sx, .int .u64 h, .int .u64 l] 0 wx) (Nat.le_of_lt hp.lt) (fun k hk => by injection hk with hk;omega)
 have HFx:=Lib.hid (HF.out _ HV.out)
 clear HF
 go_wp2_with fail
 refine HFx.out.mono ?_
 rintro e w2 ⟨rfl,hb⟩
 have HP2:=Lib.hid (HP.out.below hb HP.out.lt)
 have HB2:=Lib.hid (HB.out.trans (hb.mono (Nat.le_of_lt HP.out.lt)))
 have HV2:=Lib.hid (HV.out.below hb)
 clear hb HP HB HV HFx
 cases FX with
 | some n =>
   have hL:RR=some (false,0,n):=HLo.out
   subst hL
   clear HLo HSi HGa HGb HAl HBl HNg HCu HLa HLb HNe
   have q0:=HP2.out.cell 0
   have q1:=HP2.out.cell 1
   have q2:=HP2.out.cell 2
   have qf:=HP2.out.free
   simp at q0 q1 q2
   have c3:=(HP2.out.set3 (x':=.bool false) (y':=.int .u64 0) (z':=.int .u64 (n:Int)))
   have HBf:=Lib.hid (HRet.out w2 false 0 n HP2.out HB2.out)
   have d0:=c3.cell 0
   have d1:=c3.cell 1
   have d2:=c3.cell 2
   simp at d0 d1 d2
   clear c3
   go_wp2_with fail
   refine bodyPost_ret (v:=.tuple #[.agg #[.bool false, .int .u64 0, .int .u64 (n:Int)], .int .i64 0]) (by simp [results,Tryz.results215,go_sem, *]) rfl ⟨rfl,by rw [Hbx.out];exact HBf.out⟩
 | none =>
   have hL:RR=sixF s:=HLo.out
   have HL:=Lib.hid (hL.trans HSi.out)
   have HCx:=Lib.hid (HCu.out _ HV2.out)
   clear hL HLo HSi HCu
   go_wp2_with fail
   refine HCx.out.mono ?_
   rintro e w3 ⟨rfl,hb⟩
   have HP3:=Lib.hid (HP2.out.below hb HP2.out.lt)
   have HB3:=Lib.hid (HB2.out.trans (hb.mono (Nat.le_of_lt HP2.out.lt)))
   have HV3:=Lib.hid (HV2.out.below hb)
   clear hb HP2 HB2 HV2 HCx
   have HGx:=Lib.hid (HGa.out _ HV3.out (!gap))
   have HAl2:=Lib.hid (HAl.out (!gap))
   have HLa2:=Lib.hid (HLa.out (!gap))
   have HNe2:=Lib.hid (HNe.out (!gap))
   clear HGa HAl HLa HNe
   generalize grpF lft (!gap)=A at *
   generalize grpF rgt true=B at *
   generalize strL lft=SL at *
   generalize strL rgt=SR at *
   go_wp2_with fail
   refine HGx.out.mono ?_
   rintro e w4 ⟨aa,la,ca,rfl,hO,hb⟩
   have hbb:bx≤w3.heap.size:=Nat.le_of_lt HP3.out.lt
   have HO4:=Lib.hid hO
   have HP4:=Lib.hid (HP3.out.below hb HP3.out.lt)
   have HB4:=Lib.hid (HB3.out.trans (hb.mono hbb))
   have HV4:=Lib.hid (HV3.out.below hb)
   have HGy:=Lib.hid (HGb.out _ HV4.out)
   have Hs34:=Lib.hid hb.size
   clear hb hO HP3 HB3 HV3 HGx HGb
   go_wp2_with fail
   refine HGy.out.mono ?_
   rintro e w5 ⟨ab,lb,cb,rfl,hO,hb⟩
   have hbb4:bx≤w4.heap.size:=Nat.le_of_lt HP4.out.lt
   have HA5:Hid (∀ G,A=some G→OwnK layU w5 w3.heap.size (.slice aa la ca) G):=Lib.hid fun G h => (HO4.out G h).later hb
   have HB5r:Hid (∀ G,B=some G→OwnK layU w5 w4.heap.size (.slice ab lb cb) G):=Lib.hid hO
   have HP5:=Lib.hid (HP4.out.below hb HP4.out.lt)
   have HB5:=Lib.hid (HB4.out.trans (hb.mono hbb4))
   have Hs45:=Lib.hid hb.size
   clear hb hO HO4 HP4 HB4 HV4 HGy
   cases A with
   | none =>
     have hL:=HL.out
     have hLn:RR=none:=hL
     subst hLn
     clear HL HA5 HB5r HAl2 HBl HNg HNe2
     have q0:=HP5.out.cell 0
     have q1:=HP5.out.cell 1
     have q2:=HP5.out.cell 2
     have qf:=HP5.out.free
     simp at q0 q1 q2
     have c3:=(HP5.out.set3 (x':=.bool false) (y':=.int .u64 0) (z':=.int .u64 0))
     have HBf:=Lib.hid (HRet.out w5 false 0 0 HP5.out HB5.out)
     have d0:=c3.cell 0
     have d1:=c3.cell 1
     have d2:=c3.cell 2
     simp at d0 d1 d2
     clear c3
     go_wp2_with fail
     refine bodyPost_ret (v:=.tuple #[.agg #[.bool false, .int .u64 0, .int .u64 0], .int .i64 9]) (by simp [results,Tryz.results215,go_sem, *]) rfl ⟨rfl,by rw [Hbx.out];exact HBf.out⟩
   | some a =>
     cases B with
     | none =>
       have hL:=HL.out
       have hLn:RR=none:=hL
       subst hLn
       clear HL HA5 HB5r HAl2 HBl HNg HNe2
       have q0:=HP5.out.cell 0
       have q1:=HP5.out.cell 1
       have q2:=HP5.out.cell 2
       have qf:=HP5.out.free
       simp at q0 q1 q2
       have c3:=(HP5.out.set3 (x':=.bool false) (y':=.int .u64 0) (z':=.int .u64 0))
       have HBf:=Lib.hid (HRet.out w5 false 0 0 HP5.out HB5.out)
       have d0:=c3.cell 0
       have d1:=c3.cell 1
       have d2:=c3.cell 2
       simp at d0 d1 d2
       clear c3
       go_wp2_with fail
       refine bodyPost_ret (v:=.tuple #[.agg #[.bool false, .int .u64 0, .int .u64 0], .int .i64 9]) (by simp [results,Tryz.results215,go_sem, *]) rfl ⟨rfl,by rw [Hbx.out];exact HBf.out⟩
     | some b =>
       have hL:RR=if ((gap && decide (7 < a.length + b.length)) || (!gap && !decide (a.length=8)))=true then none else some (true,wdg (gq a b) 4,wdg (fun i => gq a b (4 + i)) 4):=HL.out
       have HAr:=Lib.hid (HA5.out a rfl)
       have HBr:=Lib.hid (HB5r.out b rfl)
       have hA0:=HAr.out.srcU
       have hB0:=HBr.out.srcU
       obtain ⟨rfl,hA0⟩:=hA0
       obtain ⟨rfl,hB0⟩:=hB0
       have HA0:=Lib.hid hA0
       have HB0:=Lib.hid hB0
       have hgl:=gq_lt (HAl2.out a rfl) (HBl.out b rfl)
       have HGl:=Lib.hid hgl
       have hng:gap=false→b.length=0:=fun h => by have:=HNg.out h;injection this with this;rw [this];rfl
       have HNb:=Lib.hid hng
       have hlen1:a.length≤1000002:=HLa2.out a rfl
       have hlen2:b.length≤1000002:=HLb.out b rfl
       clear HL HA5 HB5r HAl2 HBl HNg hA0 hB0 hgl hng HLa2 HLb
       by_cases hbad:((gap && decide (7 < a.length + b.length)) || (!gap && !decide (a.length=8)))=true
       ·rw [if_pos hbad] at hL
        subst hL
        have hcase:(gap=true∧7 < a.length + b.length) ∨ (gap=false∧¬ a.length=8):=by
         cases gap
         ·right;simp at hbad;exact ⟨rfl,hbad⟩
         ·left;simp at hbad;exact ⟨rfl,hbad⟩
        clear hbad HAr HBr HA0 HB0 HGl HNb
        rcases hcase with ⟨rfl,hx⟩ | ⟨rfl,hx⟩
        ·have hx':(7:Int) < (a.length:Int) + (b.length:Int):=by omega
         have q0:=HP5.out.cell 0
         have q1:=HP5.out.cell 1
         have q2:=HP5.out.cell 2
         have qf:=HP5.out.free
         simp at q0 q1 q2
         have c3:=(HP5.out.set3 (x':=.bool false) (y':=.int .u64 0) (z':=.int .u64 0))
         have HBf:=Lib.hid (HRet.out w5 false 0 0 HP5.out HB5.out)
         have d0:=c3.cell 0
         have d1:=c3.cell 1
         have d2:=c3.cell 2
         simp at d0 d1 d2
         clear c3
         go_wp2_with fail
         refine bodyPost_ret (v:=.tuple #[.agg #[.bool false, .int .u64 0, .int .u64 0], .int .i64 9]) (by simp [results,Tryz.results215,go_sem, *]) rfl ⟨rfl,by rw [Hbx.out];exact HBf.out⟩
        ·have hx':¬ (a.length:Int)=8:=by omega
         have hxb:((a.length:Int) == 8)=false:=beq_eq_false_iff_ne.2 hx'
         have q0:=HP5.out.cell 0
         have q1:=HP5.out.cell 1
         have q2:=HP5.out.cell 2
         have qf:=HP5.out.free
         simp at q0 q1 q2
         have c3:=(HP5.out.set3 (x':=.bool false) (y':=.int .u64 0) (z':=.int .u64 0))
         have HBf:=Lib.hid (HRet.out w5 false 0 0 HP5.out HB5.out)
         have d0:=c3.cell 0
         have d1:=c3.cell 1
         have d2:=c3.cell 2
         simp at d0 d1 d2
         clear c3
         go_wp2_with fail
         refine bodyPost_ret (v:=.tuple #[.agg #[.bool false, .int .u64 0, .int .u64 0], .int .i64 9]) (by simp [results,Tryz.results215,go_sem, *]) rfl ⟨rfl,by rw [Hbx.out];exact HBf.out⟩
       ·rw [if_neg hbad] at hL
        subst hL
        have hsum:a.length + b.length≤8:=by
         cases gap
         ·have:=HNb.out rfl
          simp at hbad
          omega
         ·simp at hbad
          omega
        have hga:gap=true ∨ a.length=8:=by
         cases gap
         ·right;simp at hbad;exact hbad
         ·exact .inl rfl
        have hgs:gap=true→a.length + b.length≤7:=fun h => by
         subst h;simp at hbad;omega
        have hcond1:gap=true→¬ (7:Int) < (a.length:Int) + (b.length:Int):=fun h => by have:=hgs h;omega
        have hcond2:gap=false→(a.length:Int)=8:=fun h => by
         rcases hga with h2 | h2
         ·rw [h] at h2;cases h2
         ·omega
        clear hbad HA0 HB0
        go_upto_region 7 with fail
        go_cut [72] (fun v wx => v=.bool false∧OwnK layU wx w3.heap.size (.slice aa a.length ca) a∧OwnK layU wx w4.heap.size (.slice ab b.length cb) b∧Blk wx bx 28 #[.bool false, .int .u64 0, .int .u64 0]∧Below bx w wx)
        case first =>
         cases gap
         ·have hc2:=hcond2 rfl
          have hsn:¬ s=[]:=HNe2.out a rfl (by omega)
          have hsi:s.isEmpty=false:=by cases s with
           | nil => exact absurd rfl hsn
           | cons _ _ => rfl
          have hc3:((a.length:Int) == 8)=true:=beq_iff_eq.2 hc2
          clear hcond1 hcond2 hga hgs
          go_wp2_with fail
          go_meet
          case rel => exact ⟨by first | rfl | simp [hc3],HAr.out,HBr.out,HP5.out,HB5.out⟩
         ·have hc1:=hcond1 rfl
          clear hcond1 hcond2 hga hgs
          go_wp2_with fail
          go_meet
          case rel => exact ⟨by first | rfl | (simp;exact hc1) | simp_all,HAr.out,HBr.out,HP5.out,HB5.out⟩
        case rest =>
         obtain ⟨rfl,hA,hB,hP,hb⟩:=hcut
         have hbx5:bx < wc.heap.size:=hP.lt
         have HO8:Hid (Blk (wc.alloc (.cells #[.bool true, .int .u64 0, .int .u64 0] 28 (0,0))) wc.heap.size 28 #[.bool true, .int .u64 ((wdg (gq a b) 0:Nat):Int), .int .u64 ((wdg (fun i => gq a b (4 + i)) 0:Nat):Int)]):=Lib.hid (Blk.new wc _ _)
         have HAs:=Lib.hid (hA.alloc (.cells #[.bool true, .int .u64 0, .int .u64 0] 28 (0,0)))
         have HBs:=Lib.hid (hB.alloc (.cells #[.bool true, .int .u64 0, .int .u64 0] 28 (0,0)))
         have HP9:=Lib.hid (hP.alloc (.cells #[.bool true, .int .u64 0, .int .u64 0] 28 (0,0)))
         have HB9:=Lib.hid (hb.alloc (Nat.le_of_lt hbx5) (.cells #[.bool true, .int .u64 0, .int .u64 0] 28 (0,0)))
         have hal:∀ k,(Value.slice aa a.length ca).ownBlock=some k→k < wc.heap.size:=own_lt hA
         have hbl:∀ k,(Value.slice ab b.length cb).ownBlock=some k→k < wc.heap.size:=own_lt hB
         have HAl:=Lib.hid hal
         have HBl:=Lib.hid hbl
         have Hga:=Lib.hid hga
         have Hgs:=Lib.hid hgs
         clear hal hbl hA hB hP hb HAr HBr HP5 HB5 Hs34 Hs45 hcond1 hcond2 hga hgs
         go_upto_region 10 with fail
         generalize wc.alloc (.cells #[.bool true, .int .u64 0, .int .u64 0] 28 (0,0))=w9 at *
         generalize wc.heap.size=ob at *
         have HW1:Hid (∀ k,k < 4→bits .or .u64 ((wdg (gq a b) k:Int) * 65536) (gq a b k:Int)=((wdg (gq a b) (k + 1):Nat):Int)):=Lib.hid fun k hk => wdg_or HGl.out hk
         have HW2:Hid (∀ k,k < 4→bits .or .u64 ((wdg (fun i => gq a b (4 + i)) k:Int) * 65536) (gq a b (4 + k):Int)=((wdg (fun i => gq a b (4 + i)) (k + 1):Nat):Int)):=Lib.hid fun k hk => wdg_or (g:=fun i => gq a b (4 + i)) (fun i => HGl.out (4 + i)) hk
         have HWl:Hid (∀ k,k < 4→wdg (gq a b) k < 281474976710656∧wdg (fun i => gq a b (4 + i)) k < 281474976710656):=Lib.hid fun k hk => by
          have h3:65536 ^ k≤65536 ^ 3:=Nat.pow_le_pow_right (by decide) (by omega)
          exact ⟨Nat.lt_of_lt_of_le (wdg_lt HGl.out k) (Nat.le_trans h3 (by decide)),Nat.lt_of_lt_of_le (wdg_lt (g:=fun i => gq a b (4 + i)) (fun i => HGl.out (4 + i)) k) (Nat.le_trans h3 (by decide))⟩
         have HGq:Hid (∀ i,gq a b i=if 8 - b.length≤i then b.getD (i - (8 - b.length)) 0 else a.getD i 0):=Lib.hid fun i => rfl
         obtain ⟨WH,hWH⟩:∃ q,wdg (gq a b)=q:=⟨_,rfl⟩
         obtain ⟨WL,hWL⟩:∃ q,wdg (fun i => gq a b (4 + i))=q:=⟨_,rfl⟩
         obtain ⟨GQ,hGQ⟩:∃ q,gq a b=q:=⟨_,rfl⟩
         have HWe:Hid (lsV (some (true,wdg (gq a b) 4,wdg (fun i => gq a b (4 + i)) 4))=.tuple #[.agg #[.bool true, .int .u64 (WH 4:Int), .int .u64 (WL 4:Int)], .int .i64 0]):=Lib.hid (by rw [← hWH, ← hWL];rfl)
         rw [hWH] at HO8 HW1 HWl
         rw [hWL] at HO8 HW2 HWl
         rw [hGQ] at HW1 HW2 HGq HGl
         clear hWH hWL hGQ
         go_wp2_with fail
         go_loopw [75] (fun i wr => ∃ k:Nat,k≤8∧i=.int .i64 (k:Int)∧Hid (Blk wr ob 28 #[.bool true, .int .u64 (WH (min k 4):Int), .int .u64 (WL (k - 4):Int)])∧Hid (Blk wr bx 28 #[.bool false, .int .u64 0, .int .u64 0])∧Hid (Below bx w wr)∧Hid (Below ob w9 wr)) (fun i _ => 8 - (intOf i).toNat)
         case atStart => exact ⟨0,by omega,rfl,HO8,HP9,HB9,Lib.hid (Below.refl _ _)⟩
         case round =>
          clear HO8 HP9 HB9
          obtain ⟨k,hk,rfl,HO,HP,HB,HB2⟩:=hrel
          by_cases hlt:k < 8
          ·have HAw:Hid (OwnK layU wr w3.heap.size (.slice aa a.length ca) a):=Lib.hid (own_below HAs.out HB2.out HAl.out)
           have HBw:Hid (OwnK layU wr w4.heap.size (.slice ab b.length cb) b):=Lib.hid (own_below HBs.out HB2.out HBl.out)
           have hbo:bx ≠ ob:=by omega
           have hgk:=HGq.out k
           by_cases hb8:8 - b.length≤k
           ·rw [if_pos hb8] at hgk
            have hlb:1≤b.length:=by omega
            have hgp:gap=true:=by
             cases gap
             ·have:=HNb.out rfl
              omega
             ·rfl
            have hg7:=Hgs.out hgp
            obtain ⟨j,hj⟩:∃ j,j=k - (8 - b.length):=⟨_,rfl⟩
            have hjb:j < b.length:=by omega
            obtain ⟨gb,hab,hcb⟩:=HBw.out.getU hjb
            rw [← hj] at hgk
            rw [← hgk] at hcb
            subst hab
            subst hgp
            have hjk:(k:Int) - (8 - (b.length:Int))=(j:Int):=by omega
            have hw1:IntKind.i64.wrap (8 - (b.length:Int))=8 - (b.length:Int):=by rw [IntKind.wrap_i64];omega
            have hw2:IntKind.i64.wrap (j:Int)=(j:Int):=by rw [IntKind.wrap_i64];omega
            have hka:¬ (k:Int) < (a.length:Int):=by omega
            have hj0:(0:Int)≤(j:Int):=by omega
            have hj1:(j:Int) < (b.length:Int):=by omega
            clear hgk hj
            by_cases h4:k < 4
            ·have hw:=(HWl.out k h4).1
             have hwr:IntKind.u64.wrap ((WH k:Int) * 65536)=(WH k:Int) * 65536:=by rw [IntKind.wrap_u64];omega
             have hor:=HW1.out k h4
             have hk4:(k:Int) < 4:=by omega
             have hmin:min k 4=k:=by omega
             have hsub:k - 4=0:=by omega
             rw [hmin,hsub] at HO
             have o1:=HO.out.cell 1
             have of:=HO.out.free
             simp at o1
             have HE1:Hid (Blk (wr.setCell ⟨ob,1,none⟩ (.int .u64 (WH (k + 1):Int))) ob 28 #[.bool true, .int .u64 (WH (min (k + 1) 4):Int), .int .u64 (WL (k + 1 - 4):Int)]):=Lib.hid (by
              rw [show min (k + 1) 4=k + 1 by omega,show k + 1 - 4=0 by omega]
              exact HO.out.set 1 _)
             have HE2:=Lib.hid (Blk.far HP.out hbo 1 (.int .u64 (WH (k + 1):Int)))
             have HE3:=Lib.hid (HB.out.grown (grown_setCells ob [.int .u64 (WH (k + 1):Int)] 1 wr) (Nat.le_of_lt HP.out.lt) (fun q hq => by injection hq with hq;omega))
             have HE4:=Lib.hid (HB2.out.grown (grown_setCells ob [.int .u64 (WH (k + 1):Int)] 1 wr) (Nat.le_of_lt HO.out.lt) (fun q hq => by injection hq with hq;omega))
             clear HO HP HB HB2 HAw HBw hmin hsub
             go_wp2_with fail
             exact ⟨⟨k + 1,by omega,by go_num,HE1,HE2,HE3,HE4⟩,by simp [intOf];omega⟩
            ·obtain ⟨q,hq⟩:∃ q,k=4 + q:=⟨k - 4,by omega⟩
             have hq4:q < 4:=by omega
             have hw:=(HWl.out q hq4).2
             have hwr:IntKind.u64.wrap ((WL q:Int) * 65536)=(WL q:Int) * 65536:=by rw [IntKind.wrap_u64];omega
             have hor:=HW2.out q hq4
             rw [← hq] at hor
             have hk4:¬ (k:Int) < 4:=by omega
             have hmin:min k 4=4:=by omega
             have hsub:k - 4=q:=by omega
             rw [hmin,hsub] at HO
             have o2:=HO.out.cell 2
             have of:=HO.out.free
             simp at o2
             have HE1:Hid (Blk (wr.setCell ⟨ob,2,none⟩ (.int .u64 (WL (q + 1):Int))) ob 28 #[.bool true, .int .u64 (WH (min (k + 1) 4):Int), .int .u64 (WL (k + 1 - 4):Int)]):=Lib.hid (by
              rw [show min (k + 1) 4=4 by omega,show k + 1 - 4=q + 1 by omega]
              exact HO.out.set 2 _)
             have HE2:=Lib.hid (Blk.far HP.out hbo 2 (.int .u64 (WL (q + 1):Int)))
             have HE3:=Lib.hid (HB.out.grown (grown_setCells ob [.int .u64 (WL (q + 1):Int)] 2 wr) (Nat.le_of_lt HP.out.lt) (fun q hq => by injection hq with hq;omega))
             have HE4:=Lib.hid (HB2.out.grown (grown_setCells ob [.int .u64 (WL (q + 1):Int)] 2 wr) (Nat.le_of_lt HO.out.lt) (fun q hq => by injection hq with hq;omega))
             clear HO HP HB HB2 HAw HBw hmin hsub hq
             go_wp2_with fail
             exact ⟨⟨k + 1,by omega,by go_num,HE1,HE2,HE3,HE4⟩,by simp [intOf];omega⟩
           ·rw [if_neg hb8] at hgk
            have hjk:(k:Int) - (8 - (b.length:Int)) < 0:=by omega
            have hw1:IntKind.i64.wrap (8 - (b.length:Int))=8 - (b.length:Int):=by rw [IntKind.wrap_i64];omega
            have hw2:IntKind.i64.wrap ((k:Int) - (8 - (b.length:Int)))=(k:Int) - (8 - (b.length:Int)):=by rw [IntKind.wrap_i64];omega
            have hj0:¬ (8 - (b.length:Int))≤(k:Int):=by omega
            by_cases hka0:k < a.length
            ·have hka:(k:Int) < (a.length:Int):=by omega
             obtain ⟨ga,haa,hca⟩:=HAw.out.getU hka0
             rw [← hgk] at hca
             subst haa
             clear hgk
             by_cases h4:k < 4
             ·have hw:=(HWl.out k h4).1
              have hwr:IntKind.u64.wrap ((WH k:Int) * 65536)=(WH k:Int) * 65536:=by rw [IntKind.wrap_u64];omega
              have hor:=HW1.out k h4
              have hk4:(k:Int) < 4:=by omega
              have hmin:min k 4=k:=by omega
              have hsub:k - 4=0:=by omega
              rw [hmin,hsub] at HO
              have o1:=HO.out.cell 1
              have of:=HO.out.free
              simp at o1
              have HE1:Hid (Blk (wr.setCell ⟨ob,1,none⟩ (.int .u64 (WH (k + 1):Int))) ob 28 #[.bool true, .int .u64 (WH (min (k + 1) 4):Int), .int .u64 (WL (k + 1 - 4):Int)]):=Lib.hid (by
               rw [show min (k + 1) 4=k + 1 by omega,show k + 1 - 4=0 by omega]
               exact HO.out.set 1 _)
              have HE2:=Lib.hid (Blk.far HP.out hbo 1 (.int .u64 (WH (k + 1):Int)))
              have HE3:=Lib.hid (HB.out.grown (grown_setCells ob [.int .u64 (WH (k + 1):Int)] 1 wr) (Nat.le_of_lt HP.out.lt) (fun q hq => by injection hq with hq;omega))
              have HE4:=Lib.hid (HB2.out.grown (grown_setCells ob [.int .u64 (WH (k + 1):Int)] 1 wr) (Nat.le_of_lt HO.out.lt) (fun q hq => by injection hq with hq;omega))
              clear HO HP HB HB2 HAw HBw hmin hsub
              go_wp2_with fail
              exact ⟨⟨k + 1,by omega,by go_num,HE1,HE2,HE3,HE4⟩,by simp [intOf];omega⟩
             ·obtain ⟨q,hq⟩:∃ q,k=4 + q:=⟨k - 4,by omega⟩
              have hq4:q < 4:=by omega
              have hw:=(HWl.out q hq4).2
              have hwr:IntKind.u64.wrap ((WL q:Int) * 65536)=(WL q:Int) * 65536:=by rw [IntKind.wrap_u64];omega
              have hor:=HW2.out q hq4
              rw [← hq] at hor
              have hk4:¬ (k:Int) < 4:=by omega
              have hmin:min k 4=4:=by omega
              have hsub:k - 4=q:=by omega
              rw [hmin,hsub] at HO
              have o2:=HO.out.cell 2
              have of:=HO.out.free
              simp at o2
              have HE1:Hid (Blk (wr.setCell ⟨ob,2,none⟩ (.int .u64 (WL (q + 1):Int))) ob 28 #[.bool true, .int .u64 (WH (min (k + 1) 4):Int), .int .u64 (WL (k + 1 - 4):Int)]):=Lib.hid (by
               rw [show min (k + 1) 4=4 by omega,show k + 1 - 4=q + 1 by omega]
               exact HO.out.set 2 _)
              have HE2:=Lib.hid (Blk.far HP.out hbo 2 (.int .u64 (WL (q + 1):Int)))
              have HE3:=Lib.hid (HB.out.grown (grown_setCells ob [.int .u64 (WL (q + 1):Int)] 2 wr) (Nat.le_of_lt HP.out.lt) (fun q hq => by injection hq with hq;omega))
              have HE4:=Lib.hid (HB2.out.grown (grown_setCells ob [.int .u64 (WL (q + 1):Int)] 2 wr) (Nat.le_of_lt HO.out.lt) (fun q hq => by injection hq with hq;omega))
              clear HO HP HB HB2 HAw HBw hmin hsub hq
              go_wp2_with fail
              exact ⟨⟨k + 1,by omega,by go_num,HE1,HE2,HE3,HE4⟩,by simp [intOf];omega⟩
            ·have hka:¬ (k:Int) < (a.length:Int):=by omega
             have hg0:GQ k=0:=by rw [hgk,List.getD_eq_getElem?_getD,List.getElem?_eq_none (by omega)];rfl
             rw [hg0] at hgk
             clear hgk
             by_cases h4:k < 4
             ·have hw:=(HWl.out k h4).1
              have hwr:IntKind.u64.wrap ((WH k:Int) * 65536)=(WH k:Int) * 65536:=by rw [IntKind.wrap_u64];omega
              have hor:=HW1.out k h4
              rw [hg0,show ((0:Nat):Int)=0 from rfl] at hor
              have hk4:(k:Int) < 4:=by omega
              have hmin:min k 4=k:=by omega
              have hsub:k - 4=0:=by omega
              rw [hmin,hsub] at HO
              have o1:=HO.out.cell 1
              have of:=HO.out.free
              simp at o1
              have HE1:Hid (Blk (wr.setCell ⟨ob,1,none⟩ (.int .u64 (WH (k + 1):Int))) ob 28 #[.bool true, .int .u64 (WH (min (k + 1) 4):Int), .int .u64 (WL (k + 1 - 4):Int)]):=Lib.hid (by
               rw [show min (k + 1) 4=k + 1 by omega,show k + 1 - 4=0 by omega]
               exact HO.out.set 1 _)
              have HE2:=Lib.hid (Blk.far HP.out hbo 1 (.int .u64 (WH (k + 1):Int)))
              have HE3:=Lib.hid (HB.out.grown (grown_setCells ob [.int .u64 (WH (k + 1):Int)] 1 wr) (Nat.le_of_lt HP.out.lt) (fun q hq => by injection hq with hq;omega))
              have HE4:=Lib.hid (HB2.out.grown (grown_setCells ob [.int .u64 (WH (k + 1):Int)] 1 wr) (Nat.le_of_lt HO.out.lt) (fun q hq => by injection hq with hq;omega))
              clear HO HP HB HB2 HAw HBw hmin hsub
              go_wp2_with fail
              exact ⟨⟨k + 1,by omega,by go_num,HE1,HE2,HE3,HE4⟩,by simp [intOf];omega⟩
             ·obtain ⟨q,hq⟩:∃ q,k=4 + q:=⟨k - 4,by omega⟩
              have hq4:q < 4:=by omega
              have hw:=(HWl.out q hq4).2
              have hwr:IntKind.u64.wrap ((WL q:Int) * 65536)=(WL q:Int) * 65536:=by rw [IntKind.wrap_u64];omega
              have hor:=HW2.out q hq4
              rw [← hq,hg0,show ((0:Nat):Int)=0 from rfl] at hor
              have hk4:¬ (k:Int) < 4:=by omega
              have hmin:min k 4=4:=by omega
              have hsub:k - 4=q:=by omega
              rw [hmin,hsub] at HO
              have o2:=HO.out.cell 2
              have of:=HO.out.free
              simp at o2
              have HE1:Hid (Blk (wr.setCell ⟨ob,2,none⟩ (.int .u64 (WL (q + 1):Int))) ob 28 #[.bool true, .int .u64 (WH (min (k + 1) 4):Int), .int .u64 (WL (k + 1 - 4):Int)]):=Lib.hid (by
               rw [show min (k + 1) 4=4 by omega,show k + 1 - 4=q + 1 by omega]
               exact HO.out.set 2 _)
              have HE2:=Lib.hid (Blk.far HP.out hbo 2 (.int .u64 (WL (q + 1):Int)))
              have HE3:=Lib.hid (HB.out.grown (grown_setCells ob [.int .u64 (WL (q + 1):Int)] 2 wr) (Nat.le_of_lt HP.out.lt) (fun q hq => by injection hq with hq;omega))
              have HE4:=Lib.hid (HB2.out.grown (grown_setCells ob [.int .u64 (WL (q + 1):Int)] 2 wr) (Nat.le_of_lt HO.out.lt) (fun q hq => by injection hq with hq;omega))
              clear HO HP HB HB2 HAw HBw hmin hsub hq
              go_wp2_with fail
              exact ⟨⟨k + 1,by omega,by go_num,HE1,HE2,HE3,HE4⟩,by simp [intOf];omega⟩
          ·obtain rfl:k=8:=by omega
           have q0:=HP.out.cell 0
           have q1:=HP.out.cell 1
           have q2:=HP.out.cell 2
           have qf:=HP.out.free
           simp at q0 q1 q2
           have o0:=HO.out.cell 0
           have o1:=HO.out.cell 1
           have o2:=HO.out.cell 2
           simp at o0 o1 o2
           have c3:=(HP.out.set3 (x':=.bool true) (y':=.int .u64 (WH 4:Int)) (z':=.int .u64 (WL 4:Int)))
           have HBf:=Lib.hid (HRet.out wr true (WH 4:Int) (WL 4:Int) HP.out HB.out)
           have d0:=c3.cell 0
           have d1:=c3.cell 1
           have d2:=c3.cell 2
           simp at d0 d1 d2
           clear c3
           go_wp2_with fail
           refine bodyPost_ret (v:=.tuple #[.agg #[.bool true, .int .u64 (WH 4:Int), .int .u64 (WL 4:Int)], .int .i64 0]) (by simp [results,Tryz.results215,go_sem, *]) rfl ⟨by rw [HWe.out],by rw [Hbx.out];exact HBf.out⟩
def decB (n:Nat):ByteArray:=⟨(Lib.decDigits n).toArray⟩
def joinS (L:List ByteArray) (sep:ByteArray):ByteArray:=⟨(Lib.join (L.map (·.data.toList)) sep.data.toList).toArray⟩
theorem interc_len (sep:List UInt8) (K:Nat):∀ Ls:List (List UInt8),(∀ x ∈ Ls,x.length≤K)→(Lib.join Ls sep).length≤Ls.length * (K + sep.length)
 | [],_ => by simp [Lib.join_nil]
 | [x],h => by
   rw [Lib.join_one]
   have:=h x (by simp)
   simp
   omega
 | x :: y :: l,h => by
   have h1:=interc_len sep K (y :: l) fun z hz => h z (by simp at hz ⊢;right;exact hz)
   have h2:=h x (by simp)
   have h3:Lib.join (x :: y :: l) sep=x ++ sep ++ Lib.join (y :: l) sep:=by simp [Lib.join,List.intercalate,List.intersperse]
   rw [h3]
   simp only [List.length_append,List.length_cons,Nat.add_mul,Nat.one_mul] at h1 ⊢
   omega
def Short (L:List ByteArray):Prop:=L.length≤8∧∀ x ∈ L,x.data.toList.length≤30
theorem decB_short (n:Nat) (h:n < 18446744073709551616):(decB n).data.toList.length≤30:=by
 have:=Lib.nDigits_le20 n h
 rw [← Lib.decDigits_length] at this
 simp [decB]
 omega
theorem joinAt_any (g o c:Nat) (L:List ByteArray) (b:UInt8) (w:World) (hs:Short L) (hg:g < w.heap.size) (hc:L.length≤c) (hcells:∀ (j:Nat) x,L[j]?=some x→w.cell? ⟨g,o + j,none⟩=some (.string x)) :
  Calls Tryz.prog 132 #[.slice (some ⟨g,o,none⟩) L.length c, .string ⟨#[b]⟩] w (Ret (.string (joinS L ⟨#[b]⟩)) w):=by
 have hl:=interc_len ((⟨#[b]⟩:ByteArray).data.toList) 30 (L.map (·.data.toList)) (fun x hx => by
  obtain ⟨y,hy,rfl⟩:=List.mem_map.1 hx
  exact hs.2 y hy)
 rw [List.length_map] at hl
 have h1:=hs.1
 have hsep:((⟨#[b]⟩:ByteArray).data.toList).length=1:=rfl
 rw [hsep] at hl
 exact (Tryz.strings_Join g o c L ⟨#[b]⟩ w hcells hg (by omega) hc (by omega)).mono fun e w' h => h
theorem and255 (n:Nat):Go.bits .and .u64 (n:Int) 255=((n % 256:Nat):Int):=by
 have h127:(BitVec.ofInt 64 255).toNat=2 ^ 8 - 1:=by decide
 have key:(BitVec.ofInt 64 (n:Int) &&& BitVec.ofInt 64 255).toNat=n % 256:=by
  rw [BitVec.toNat_and,BitVec.toNat_ofInt,h127,Nat.and_two_pow_sub_one_eq_mod]
  omega
 show IntKind.u64.wrap ((BitVec.ofInt 64 (n:Int) &&& BitVec.ofInt 64 255).toNat:Int)=_
 rw [key,IntKind.wrap_u64]
 omega
theorem and255i (n:Nat):Go.bits .and .i64 (n:Int) 255=((n % 256:Nat):Int):=by
 have h127:(BitVec.ofInt 64 255).toNat=2 ^ 8 - 1:=by decide
 have key:(BitVec.ofInt 64 (n:Int) &&& BitVec.ofInt 64 255).toNat=n % 256:=by
  rw [BitVec.toNat_and,BitVec.toNat_ofInt,h127,Nat.and_two_pow_sub_one_eq_mod]
  omega
 show IntKind.i64.wrap ((BitVec.ofInt 64 (n:Int) &&& BitVec.ofInt 64 255).toNat:Int)=_
 rw [key,IntKind.wrap_i64]
 omega
def fourL (lo:Nat):List ByteArray:=[decB (lo / 16777216 % 256),decB (lo / 65536 % 256),decB (lo / 256 % 256),decB (lo % 256)]
theorem fourL_short (lo:Nat):Short (fourL lo):=by
 refine ⟨by simp [fourL],fun x hx => ?_⟩
 simp [fourL] at hx
 rcases hx with rfl | rfl | rfl | rfl <;> exact decB_short _ (by omega)
theorem textFour_any (hi lo:Nat) (w:World) (hlo:lo < 4294967296) (ht:Tabs w):Calls Tryz.prog 172 #[.agg #[.bool false, .int .u64 (hi:Int), .int .u64 (lo:Int)]] w (Ret (.string (joinS (fourL lo) ⟨#[46]⟩)) w):=by
 obtain ⟨n0,hn0⟩:∃ n,(lo / 16777216 % 256)=n:=⟨_,rfl⟩
 have c0:n0 < 1000:=by omega
 obtain ⟨n1,hn1⟩:∃ n,(lo / 65536 % 256)=n:=⟨_,rfl⟩
 have c1:n1 < 1000:=by omega
 obtain ⟨n2,hn2⟩:∃ n,(lo / 256 % 256)=n:=⟨_,rfl⟩
 have c2:n2 < 1000:=by omega
 obtain ⟨n3,hn3⟩:∃ n,(lo % 256)=n:=⟨_,rfl⟩
 have c3:n3 < 1000:=by omega
 have b0:Go.bits .and .u64 ((lo:Int) / 16777216) 255=(n0:Int):=by rw [show (lo:Int) / 16777216=((lo / 16777216:Nat):Int) by omega,and255,hn0]
 have b1:Go.bits .and .u64 ((lo:Int) / 65536) 255=(n1:Int):=by rw [show (lo:Int) / 65536=((lo / 65536:Nat):Int) by omega,and255,hn1]
 have b2:Go.bits .and .u64 ((lo:Int) / 256) 255=(n2:Int):=by rw [show (lo:Int) / 256=((lo / 256:Nat):Int) by omega,and255,hn2]
 have b3:Go.bits .and .u64 (lo:Int) 255=(n3:Int):=by rw [and255,hn3]
 have hL:fourL lo=[decB n0,decB n1,decB n2,decB n3]:=by unfold fourL;rw [hn0,hn1,hn2,hn3]
 have hLs:=fourL_short lo
 rw [hL] at hLs ⊢
 clear hL hn0 hn1 hn2 hn3
 have H0:=Lib.hid fun wx (ht:Tabs wx) => fmtU10_any n0 (by omega) wx ht.1
 rw [show (⟨(Lib.decDigits n0).toArray⟩:ByteArray)=decB n0 from rfl] at H0
 generalize decB n0=d0 at *
 have H1:=Lib.hid fun wx (ht:Tabs wx) => fmtU10_any n1 (by omega) wx ht.1
 rw [show (⟨(Lib.decDigits n1).toArray⟩:ByteArray)=decB n1 from rfl] at H1
 generalize decB n1=d1 at *
 have H2:=Lib.hid fun wx (ht:Tabs wx) => fmtU10_any n2 (by omega) wx ht.1
 rw [show (⟨(Lib.decDigits n2).toArray⟩:ByteArray)=decB n2 from rfl] at H2
 generalize decB n2=d2 at *
 have H3:=Lib.hid fun wx (ht:Tabs wx) => fmtU10_any n3 (by omega) wx ht.1
 rw [show (⟨(Lib.decDigits n3).toArray⟩:ByteArray)=decB n3 from rfl] at H3
 generalize decB n3=d3 at *
 have HJ:=Lib.hid fun g c wx h1 h2 h3 => joinAt_any g 0 c ([d0,d1,d2,d3]:List ByteArray) 46 wx hLs h1 h2 h3
 clear hLs
 generalize joinS ([d0,d1,d2,d3]:List ByteArray) ⟨#[46]⟩=J at *
 have HP:Hid (Blk (w.alloc (.cells #[.bool false, .int .u64 (hi:Int), .int .u64 (lo:Int)] 28 (0,0))) w.heap.size 28 #[.bool false, .int .u64 (hi:Int), .int .u64 (lo:Int)]):=Lib.hid (Blk.new w _ _)
 have HB:Hid (Below w.heap.size w (w.alloc (.cells #[.bool false, .int .u64 (hi:Int), .int .u64 (lo:Int)] 28 (0,0)))):=Lib.hid (below_alloc (Below.refl _ _) _)
 have HT:=Lib.hid (ht.below HB.out)
 clear ht
 go_enter Tryz.func172,Tryz.ntmps172
 go_upto_region 1 with fail
 generalize w.alloc (.cells #[.bool false, .int .u64 (hi:Int), .int .u64 (lo:Int)] 28 (0,0))=w0 at *
 have p0:=HP.out.cell 0
 simp at p0
 go_wp2
 go_loopw [3,4,14] (fun v iv i wr => ∃ k:Nat,k≤4∧i=.int .i64 k∧Hid (OwnS wr w0.heap.size v (([d0,d1,d2,d3]:List ByteArray).take k))∧Hid (Below w0.heap.size w0 wr)) (fun _ _ i _ => 4 - (intOf i).toNat)
 case atStart => exact ⟨0,Nat.zero_le _,rfl,Lib.hid (OwnS.nil _ _),Lib.hid (Below.refl _ _)⟩
 case round =>
  clear p0
  obtain ⟨k,hk,rfl,HO,HBr⟩:=hrel
  have p2:=(HP.out.below HBr.out HP.out.lt).cell 2
  simp at p2
  by_cases hlt:k < 4
  ·have hk4:k=0 ∨ k=1 ∨ k=2 ∨ k=3:=by omega
   have HTr:=Lib.hid (HT.out.below HBr.out)
   rcases hk4 with rfl | rfl | rfl | rfl
   ·go_wp2_with fail
    refine (H0.out _ HTr.out).mono ?_
    rintro e w' ⟨rfl,hb⟩
    have HO1:=Lib.hid (HO.out.later hb)
    have HBr1:=Lib.hid (HBr.out.trans (hb.mono HBr.out.size))
    clear hb HO HBr HTr p2
    go_wp2_with (at_builtin;refine wpList_app strE rfl (.tmp 17) (.tmp 26) rfl rfl (World.ownsRow.alloc HO1.out _) rfl (src_one_new _ _ _) ?c1 ?c2 ?c3 ?c4 ?_)
    case c1 => first | rfl | (intro u hu;simp at hu;subst hu;rfl)
    case c2 => unfold maxLen;simp
    case c3 => simp
    case c4 => have:=HBr1.out.size;simp;omega
    intro v' w2 hO hG
    have HO':=Lib.hid (OwnS.snoc hO)
    have HB':Hid (Below w0.heap.size w0 w2):=Lib.hid ((Below.alloc HBr1.out HBr1.out.size _).trans (hG.below (by have:=HBr1.out.size;simp;omega) (own_base HO1.out)))
    clear hO hG
    go_wp2
    exact ⟨⟨1,by decide,rfl,HO',HB'⟩,by simp [intOf]⟩
   ·go_wp2_with fail
    refine (H1.out _ HTr.out).mono ?_
    rintro e w' ⟨rfl,hb⟩
    have HO1:=Lib.hid (HO.out.later hb)
    have HBr1:=Lib.hid (HBr.out.trans (hb.mono HBr.out.size))
    clear hb HO HBr HTr p2
    go_wp2_with (at_builtin;refine wpList_app strE rfl (.tmp 17) (.tmp 26) rfl rfl (World.ownsRow.alloc HO1.out _) rfl (src_one_new _ _ _) ?c1 ?c2 ?c3 ?c4 ?_)
    case c1 => first | rfl | (intro u hu;simp at hu;subst hu;rfl)
    case c2 => unfold maxLen;simp
    case c3 => simp
    case c4 => have:=HBr1.out.size;simp;omega
    intro v' w2 hO hG
    have HO':=Lib.hid (OwnS.snoc hO)
    have HB':Hid (Below w0.heap.size w0 w2):=Lib.hid ((Below.alloc HBr1.out HBr1.out.size _).trans (hG.below (by have:=HBr1.out.size;simp;omega) (own_base HO1.out)))
    clear hO hG
    go_wp2
    exact ⟨⟨2,by decide,rfl,HO',HB'⟩,by simp [intOf]⟩
   ·go_wp2_with fail
    refine (H2.out _ HTr.out).mono ?_
    rintro e w' ⟨rfl,hb⟩
    have HO1:=Lib.hid (HO.out.later hb)
    have HBr1:=Lib.hid (HBr.out.trans (hb.mono HBr.out.size))
    clear hb HO HBr HTr p2
    go_wp2_with (at_builtin;refine wpList_app strE rfl (.tmp 17) (.tmp 26) rfl rfl (World.ownsRow.alloc HO1.out _) rfl (src_one_new _ _ _) ?c1 ?c2 ?c3 ?c4 ?_)
    case c1 => first | rfl | (intro u hu;simp at hu;subst hu;rfl)
    case c2 => unfold maxLen;simp
    case c3 => simp
    case c4 => have:=HBr1.out.size;simp;omega
    intro v' w2 hO hG
    have HO':=Lib.hid (OwnS.snoc hO)
    have HB':Hid (Below w0.heap.size w0 w2):=Lib.hid ((Below.alloc HBr1.out HBr1.out.size _).trans (hG.below (by have:=HBr1.out.size;simp;omega) (own_base HO1.out)))
    clear hO hG
    go_wp2
    exact ⟨⟨3,by decide,rfl,HO',HB'⟩,by simp [intOf]⟩
   ·go_wp2_with fail
    refine (H3.out _ HTr.out).mono ?_
    rintro e w' ⟨rfl,hb⟩
    have HO1:=Lib.hid (HO.out.later hb)
    have HBr1:=Lib.hid (HBr.out.trans (hb.mono HBr.out.size))
    clear hb HO HBr HTr p2
    go_wp2_with (at_builtin;refine wpList_app strE rfl (.tmp 17) (.tmp 26) rfl rfl (World.ownsRow.alloc HO1.out _) rfl (src_one_new _ _ _) ?c1 ?c2 ?c3 ?c4 ?_)
    case c1 => first | rfl | (intro u hu;simp at hu;subst hu;rfl)
    case c2 => unfold maxLen;simp
    case c3 => simp
    case c4 => have:=HBr1.out.size;simp;omega
    intro v' w2 hO hG
    have HO':=Lib.hid (OwnS.snoc hO)
    have HB':Hid (Below w0.heap.size w0 w2):=Lib.hid ((Below.alloc HBr1.out HBr1.out.size _).trans (hG.below (by have:=HBr1.out.size;simp;omega) (own_base HO1.out)))
    clear hO hG
    go_wp2
    exact ⟨⟨4,by decide,rfl,HO',HB'⟩,by simp [intOf]⟩
  ·obtain rfl:k=4:=by omega
   obtain ⟨g,c,hv,_,hg,hc,_,hcell⟩:=HO.out.one (by simp)
   have hv':u3=.slice (some ⟨g,0,none⟩) 4 c:=hv
   have hc':4≤c:=hc
   have HJ2:=Lib.hid (HJ.out g c wr hg hc' (fun j x hx => by rw [Nat.zero_add];exact hcell j x hx))
   clear hv hc hcell p2 HJ
   subst hv'
   go_wp2_with fail
   refine HJ2.out.mono ?_
   rintro e w' ⟨rfl,hb⟩
   go_wp2_with fail
   go_ret
   exact ⟨rfl,HB.out.trans ((HBr.out.trans (hb.mono HBr.out.size)).mono HB.out.size)⟩
theorem addrTextFour_any (hi lo:Nat) (w:World) (hhi:hi < 18446744073709551616) (hlo:lo < 18446744073709551616) (ht:Tabs w):Calls Tryz.prog 134 #[.agg #[.bool false, .int .u64 (hi:Int), .int .u64 (lo:Int)]] w (Ret (.string (joinS (fourL lo) ⟨#[46]⟩)) w):=by
 obtain ⟨n0,hn0⟩:∃ n,(lo / 16777216 % 256)=n:=⟨_,rfl⟩
 have c0:n0 < 1000:=by omega
 obtain ⟨n1,hn1⟩:∃ n,(lo / 65536 % 256)=n:=⟨_,rfl⟩
 have c1:n1 < 1000:=by omega
 obtain ⟨n2,hn2⟩:∃ n,(lo / 256 % 256)=n:=⟨_,rfl⟩
 have c2:n2 < 1000:=by omega
 obtain ⟨n3,hn3⟩:∃ n,(lo % 256)=n:=⟨_,rfl⟩
 have c3:n3 < 1000:=by omega
 have y1e:dg hi lo 1=lo / 65536 % 65536:=rfl
 have y0e:dg hi lo 0=lo % 65536:=rfl
 have q1:=wv_get false (dg hi lo) 1 (by decide)
 have q0:=wv_get false (dg hi lo) 0 (by decide)
 obtain ⟨y1,hy1⟩:∃ y,dg hi lo 1=y:=⟨_,rfl⟩
 obtain ⟨y0,hy0⟩:∃ y,dg hi lo 0=y:=⟨_,rfl⟩
 rw [hy1] at y1e q1
 rw [hy0] at y0e q0
 have b0:(y1:Int) / 256=(n0:Int):=by omega
 have b1:Go.bits .and .i64 (y1:Int) 255=(n1:Int):=by rw [and255i];omega
 have b2:(y0:Int) / 256=(n2:Int):=by omega
 have b3:Go.bits .and .i64 (y0:Int) 255=(n3:Int):=by rw [and255i];omega
 have HOf:=Lib.hid fun wx => of_any false hi lo wx hhi (by omega)
 rw [wCells_wv] at HOf
 unfold vA at HOf
 have hyb1:y1 < 65536:=by omega
 have hyb0:y0 < 65536:=by omega
 have hL:fourL lo=[decB n0,decB n1,decB n2,decB n3]:=by unfold fourL;rw [hn0,hn1,hn2,hn3]
 have hLs:=fourL_short lo
 rw [hL] at hLs ⊢
 clear hL hn0 hn1 hn2 hn3 y1e y0e hy1 hy0
 have H0:=Lib.hid fun wx (ht:Tabs wx) => itoa_any n0 c0 wx ht.1
 rw [show (⟨(Lib.decDigits n0).toArray⟩:ByteArray)=decB n0 from rfl] at H0
 generalize decB n0=d0 at *
 have H1:=Lib.hid fun wx (ht:Tabs wx) => itoa_any n1 c1 wx ht.1
 rw [show (⟨(Lib.decDigits n1).toArray⟩:ByteArray)=decB n1 from rfl] at H1
 generalize decB n1=d1 at *
 have H2:=Lib.hid fun wx (ht:Tabs wx) => itoa_any n2 c2 wx ht.1
 rw [show (⟨(Lib.decDigits n2).toArray⟩:ByteArray)=decB n2 from rfl] at H2
 generalize decB n2=d2 at *
 have H3:=Lib.hid fun wx (ht:Tabs wx) => itoa_any n3 c3 wx ht.1
 rw [show (⟨(Lib.decDigits n3).toArray⟩:ByteArray)=decB n3 from rfl] at H3
 generalize decB n3=d3 at *
 have HJ:=Lib.hid fun g c wx h1 h2 h3 => joinAt_any g 0 c ([d0,d1,d2,d3]:List ByteArray) 46 wx hLs h1 h2 h3
 clear hLs
 generalize joinS ([d0,d1,d2,d3]:List ByteArray) ⟨#[46]⟩=J at *
 have Q1:=Lib.hid q1
 have Q0:=Lib.hid q0
 clear q1 q0
 have HP:Hid (Blk (w.alloc (.cells #[.bool false, .int .u64 (hi:Int), .int .u64 (lo:Int)] 28 (0,0))) w.heap.size 28 #[.bool false, .int .u64 (hi:Int), .int .u64 (lo:Int)]):=Lib.hid (Blk.new w _ _)
 have HB:Hid (Below w.heap.size w (w.alloc (.cells #[.bool false, .int .u64 (hi:Int), .int .u64 (lo:Int)] 28 (0,0)))):=Lib.hid (below_alloc (Below.refl _ _) _)
 have HT:=Lib.hid (ht.below HB.out)
 clear ht
 go_enter Tryz.func134,Tryz.ntmps134
 go_upto_region 1 with fail
 generalize w.alloc (.cells #[.bool false, .int .u64 (hi:Int), .int .u64 (lo:Int)] 28 (0,0))=w0 at *
 have p0:=HP.out.cell 0
 have p1:=HP.out.cell 1
 have p2:=HP.out.cell 2
 simp at p0 p1 p2
 go_wp2_with fail
 refine (HOf.out _).mono ?_
 rintro e w1 ⟨rfl,hb⟩
 have hw1:w.heap.size≤w1.heap.size:=Nat.le_trans HB.out.size hb.size
 have HB1:Hid (Below w.heap.size w (w1.alloc (.cells #[.int .i64 0, .int .i64 0, .int .i64 0, .int .i64 0, .int .i64 0, .int .i64 0, .int .i64 0, .int .i64 0, .int .i64 0] 121 (0,0)))):=Lib.hid (below_alloc (HB.out.trans (hb.mono HB.out.size)) _)
 have HB2:=Lib.hid (belowRow HB1.out hw1 (wv false (dg hi lo)))
 have HT2:=Lib.hid ((HT.out.below hb).below (belowRow (below_alloc (Below.refl _ _) (.cells #[.int .i64 0, .int .i64 0, .int .i64 0, .int .i64 0, .int .i64 0, .int .i64 0, .int .i64 0, .int .i64 0, .int .i64 0] 121 (0,0))) (Nat.le_refl _) (wv false (dg hi lo))))
 have HZ:Hid (Blk (w1.alloc (.cells #[.int .i64 0, .int .i64 0, .int .i64 0, .int .i64 0, .int .i64 0, .int .i64 0, .int .i64 0, .int .i64 0, .int .i64 0] 121 (0,0))) w1.heap.size 121 #[.int .i64 0, .int .i64 0, .int .i64 0, .int .i64 0, .int .i64 0, .int .i64 0, .int .i64 0, .int .i64 0, .int .i64 0]):=Lib.hid (Blk.new w1 _ _)
 have HW2:Hid (Blk ((w1.alloc (.cells #[.int .i64 0, .int .i64 0, .int .i64 0, .int .i64 0, .int .i64 0, .int .i64 0, .int .i64 0, .int .i64 0, .int .i64 0] 121 (0,0))).setRow w1.heap.size (wv false (dg hi lo))) w1.heap.size 121 (wv false (dg hi lo))):=Lib.hid (HZ.out.row _)
 clear hb HB HT HP p0 p1 p2 HOf HB1
 go_upto_region 3 with (refine wpList_store_row rfl 121 (.tmp 3) (.tmp 16) rfl w1.heap.size (wv false (dg hi lo)) rfl rfl 121 #[.int .i64 0, .int .i64 0, .int .i64 0, .int .i64 0, .int .i64 0, .int .i64 0, .int .i64 0, .int .i64 0, .int .i64 0] HZ.out (by kernel_rfl) rfl (wv_one _ _) ?_)
 clear HZ
 generalize (w1.alloc (.cells #[.int .i64 0, .int .i64 0, .int .i64 0, .int .i64 0, .int .i64 0, .int .i64 0, .int .i64 0, .int .i64 0, .int .i64 0] 121 (0,0))).setRow w1.heap.size (wv false (dg hi lo))=w2 at *
 generalize w1.heap.size=V at *
 have c1:=HW2.out.cell 1
 have c0:=HW2.out.cell 0
 rw [Q1.out] at c1
 rw [Q0.out] at c0
 go_wp2_with fail
 have HR:Hid (Blk (w2.alloc (.cells #[.int .i64 (n0:Int), .int .i64 (n1:Int), .int .i64 (n2:Int), .int .i64 (n3:Int)] 3 (0,0))) w2.heap.size 3 #[.int .i64 (n0:Int), .int .i64 (n1:Int), .int .i64 (n2:Int), .int .i64 (n3:Int)]):=Lib.hid (Blk.new w2 _ _)
 have HB3:=Lib.hid (below_alloc HB2.out (.cells #[.int .i64 (n0:Int), .int .i64 (n1:Int), .int .i64 (n2:Int), .int .i64 (n3:Int)] 3 (0,0)))
 have HT3:=Lib.hid (HT2.out.below (below_alloc (Below.refl _ _) (.cells #[.int .i64 (n0:Int), .int .i64 (n1:Int), .int .i64 (n2:Int), .int .i64 (n3:Int)] 3 (0,0))))
 clear c1 c0 HB2 HT2 HW2 Q1 Q0
 generalize w2.alloc (.cells #[.int .i64 (n0:Int), .int .i64 (n1:Int), .int .i64 (n2:Int), .int .i64 (n3:Int)] 3 (0,0))=w3 at *
 generalize w2.heap.size=R at *
 go_loopw [4,6,31] (fun v iv i wr => ∃ k:Nat,k≤4∧i=.int .i64 k∧Hid (OwnS wr w3.heap.size v (([d0,d1,d2,d3]:List ByteArray).take k))∧Hid (Below w3.heap.size w3 wr)) (fun _ _ i _ => 4 - (intOf i).toNat)
 case atStart => exact ⟨0,Nat.zero_le _,rfl,Lib.hid (OwnS.nil _ _),Lib.hid (Below.refl _ _)⟩
 case round =>
  obtain ⟨k,hk,rfl,HO,HBr⟩:=hrel
  by_cases hlt:k < 4
  ·have hk4:k=0 ∨ k=1 ∨ k=2 ∨ k=3:=by omega
   have HTr:=Lib.hid (HT3.out.below HBr.out)
   have HRr:=Lib.hid (HR.out.below HBr.out HR.out.lt)
   rcases hk4 with rfl | rfl | rfl | rfl
   ·have p:=HRr.out.cell 0
    simp at p
    go_wp2_with fail
    refine (H0.out _ HTr.out).mono ?_
    rintro e w' ⟨rfl,hb⟩
    have HO1:=Lib.hid (HO.out.later hb)
    have HBr1:=Lib.hid (HBr.out.trans (hb.mono HBr.out.size))
    clear hb HO HBr HTr HRr p
    go_wp2_with (at_builtin;refine wpList_app strE rfl (.tmp 35) (.tmp 38) rfl rfl (World.ownsRow.alloc HO1.out _) rfl (src_one_new _ _ _) ?c1 ?c2 ?c3 ?c4 ?_)
    case c1 => first | rfl | (intro u hu;simp at hu;subst hu;rfl)
    case c2 => unfold maxLen;simp
    case c3 => simp
    case c4 => have:=HBr1.out.size;simp;omega
    intro v' w4 hO hG
    have HO':=Lib.hid (OwnS.snoc hO)
    have HB':Hid (Below w3.heap.size w3 w4):=Lib.hid ((Below.alloc HBr1.out HBr1.out.size _).trans (hG.below (by have:=HBr1.out.size;simp;omega) (own_base HO1.out)))
    clear hO hG
    go_wp2
    exact ⟨⟨1,by decide,rfl,HO',HB'⟩,by simp [intOf]⟩
   ·have p:=HRr.out.cell 1
    simp at p
    go_wp2_with fail
    refine (H1.out _ HTr.out).mono ?_
    rintro e w' ⟨rfl,hb⟩
    have HO1:=Lib.hid (HO.out.later hb)
    have HBr1:=Lib.hid (HBr.out.trans (hb.mono HBr.out.size))
    clear hb HO HBr HTr HRr p
    go_wp2_with (at_builtin;refine wpList_app strE rfl (.tmp 35) (.tmp 38) rfl rfl (World.ownsRow.alloc HO1.out _) rfl (src_one_new _ _ _) ?c1 ?c2 ?c3 ?c4 ?_)
    case c1 => first | rfl | (intro u hu;simp at hu;subst hu;rfl)
    case c2 => unfold maxLen;simp
    case c3 => simp
    case c4 => have:=HBr1.out.size;simp;omega
    intro v' w4 hO hG
    have HO':=Lib.hid (OwnS.snoc hO)
    have HB':Hid (Below w3.heap.size w3 w4):=Lib.hid ((Below.alloc HBr1.out HBr1.out.size _).trans (hG.below (by have:=HBr1.out.size;simp;omega) (own_base HO1.out)))
    clear hO hG
    go_wp2
    exact ⟨⟨2,by decide,rfl,HO',HB'⟩,by simp [intOf]⟩
   ·have p:=HRr.out.cell 2
    simp at p
    go_wp2_with fail
    refine (H2.out _ HTr.out).mono ?_
    rintro e w' ⟨rfl,hb⟩
    have HO1:=Lib.hid (HO.out.later hb)
    have HBr1:=Lib.hid (HBr.out.trans (hb.mono HBr.out.size))
    clear hb HO HBr HTr HRr p
    go_wp2_with (at_builtin;refine wpList_app strE rfl (.tmp 35) (.tmp 38) rfl rfl (World.ownsRow.alloc HO1.out _) rfl (src_one_new _ _ _) ?c1 ?c2 ?c3 ?c4 ?_)
    case c1 => first | rfl | (intro u hu;simp at hu;subst hu;rfl)
    case c2 => unfold maxLen;simp
    case c3 => simp
    case c4 => have:=HBr1.out.size;simp;omega
    intro v' w4 hO hG
    have HO':=Lib.hid (OwnS.snoc hO)
    have HB':Hid (Below w3.heap.size w3 w4):=Lib.hid ((Below.alloc HBr1.out HBr1.out.size _).trans (hG.below (by have:=HBr1.out.size;simp;omega) (own_base HO1.out)))
    clear hO hG
    go_wp2
    exact ⟨⟨3,by decide,rfl,HO',HB'⟩,by simp [intOf]⟩
   ·have p:=HRr.out.cell 3
    simp at p
    go_wp2_with fail
    refine (H3.out _ HTr.out).mono ?_
    rintro e w' ⟨rfl,hb⟩
    have HO1:=Lib.hid (HO.out.later hb)
    have HBr1:=Lib.hid (HBr.out.trans (hb.mono HBr.out.size))
    clear hb HO HBr HTr HRr p
    go_wp2_with (at_builtin;refine wpList_app strE rfl (.tmp 35) (.tmp 38) rfl rfl (World.ownsRow.alloc HO1.out _) rfl (src_one_new _ _ _) ?c1 ?c2 ?c3 ?c4 ?_)
    case c1 => first | rfl | (intro u hu;simp at hu;subst hu;rfl)
    case c2 => unfold maxLen;simp
    case c3 => simp
    case c4 => have:=HBr1.out.size;simp;omega
    intro v' w4 hO hG
    have HO':=Lib.hid (OwnS.snoc hO)
    have HB':Hid (Below w3.heap.size w3 w4):=Lib.hid ((Below.alloc HBr1.out HBr1.out.size _).trans (hG.below (by have:=HBr1.out.size;simp;omega) (own_base HO1.out)))
    clear hO hG
    go_wp2
    exact ⟨⟨4,by decide,rfl,HO',HB'⟩,by simp [intOf]⟩
  ·obtain rfl:k=4:=by omega
   obtain ⟨g,c,hv,_,hg,hc,_,hcell⟩:=HO.out.one (by simp)
   have hv':u4=.slice (some ⟨g,0,none⟩) 4 c:=hv
   have hc':4≤c:=hc
   have HJ2:=Lib.hid (HJ.out g c wr hg hc' (fun j x hx => by rw [Nat.zero_add];exact hcell j x hx))
   clear hv hc hcell HJ
   subst hv'
   go_wp2_with fail
   refine HJ2.out.mono ?_
   rintro e w' ⟨rfl,hb⟩
   go_wp2_with fail
   go_ret
   exact ⟨rfl,HB3.out.trans ((HBr.out.trans (hb.mono HBr.out.size)).mono HB3.out.size)⟩
end Go.Proofs.YtdhldhkhpndpjaaGreatDoor
