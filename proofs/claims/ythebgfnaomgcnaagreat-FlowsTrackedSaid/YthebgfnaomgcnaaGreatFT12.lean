/-
  Moments and packets that are refused: timeFault of the program, fault of the reference.
  Rows of structs whose cells are set many at once.
  Functions of package slices at a row of structs.
  The program's see.
  Functions of package slices at a row of structs.
  A flow is tracked from now on: the program's track, the reference's begin.
  Sets as spans of numbers: the spans of their prefixes, gaps, what two have in common, and how many prefixes these need.
  The reference's HasOf: whether an address is in one of some prefixes.
-/
import Derived.Test.YthebgfnaomgcnaaGreatFT9
import Derived.Test.YthebgfnaomgcnaaGreatFT10
import Derived.Test.YthebgfnaomgcnaaGreatFT11
import Derived.Test.YthebgfnaomgcnaaGreatFT5
import Derived.Deep.MidRow
import Derived.Test.YthebgfnaomgcnaaGreatFT8
import Derived.WalkSpells
import Derived.Test.YthebgfnaomgcnaaGreatFT4
set_option linter.unusedVariables false
set_option maxRecDepth 100000
set_option maxHeartbeats 8000000
namespace Go.Proofs.YthebgfnaomgcnaaGreat
open Go.RowKit Go
theorem Blk.keepT {S : List TypeId} {w w' : World} {B : Nat} {t : TypeId} {cs : Array Value} (h : Blk w B t cs) (k : KeepT S w w') (hS : t ∉ S) : Blk w' B t cs:=by
 rcases k.2 B h.lt with e | ⟨cur,t2,p,e,ht⟩
 ·exact e.trans h
 ·unfold Blk at h
  rw [h] at e
  injection e with e
  injection e with _ e _
  exact absurd (e ▸ ht) hS
theorem isMoment_any (at_ : Int) (w : World) : Calls Tryz.prog 83 #[.int .i64 at_] w (Ret (.bool (decide (0 ≤ at_) && decide (at_ < 345686400))) w):=by
 by_cases h1 : 0 ≤ at_
 ·have h1' : at_ ≥ 0:=h1
  by_cases h2 : at_ < 345686400
  ·rw [decide_eq_true h1,decide_eq_true h2]
   go_enter Tryz.func83,Tryz.ntmps83
   go_wp2_with fail
   go_ret
   exact ⟨rfl,Below.refl _ _⟩
  ·rw [decide_eq_true h1,decide_eq_false h2]
   go_enter Tryz.func83,Tryz.ntmps83
   go_wp2_with fail
   go_ret
   exact ⟨rfl,Below.refl _ _⟩
 ·have h1' : ¬ at_ ≥ 0:=h1
  rw [decide_eq_false h1,Bool.false_and]
  go_enter Tryz.func83,Tryz.ntmps83
  go_wp2_with fail
  go_ret
  exact ⟨rfl,Below.refl _ _⟩
theorem moment_any (at_ : Int) (w : World) : Calls Tryz.prog 60 #[.int .i64 at_] w (Ret (.bool (decide (0 ≤ at_) && decide (at_ < 345686400))) w):=by
 have HI:=Lib.hid (in_any at_ 0 345686399 w)
 have e : inB at_ 0 345686399 = (decide (0 ≤ at_) && decide (at_ < 345686400)):=by
  unfold inB
  rw [Bool.eq_iff_iff]
  simp
  omega
 rw [e] at HI
 clear e
 generalize (decide (0 ≤ at_) && decide (at_ < 345686400)) = R at *
 go_enter Tryz.func60,Tryz.ntmps60
 go_wp2_with fail
 refine HI.out.mono ?_
 rintro e w2 ⟨rfl,rfl⟩
 go_wp2_with fail
 go_ret
 exact ⟨rfl,Below.refl _ _⟩
theorem timeFault_any (T : Nat) (rs : Value) (tv : TV) (most last : Int) (lst : Value) (at_ : Int) (w : World) (h : Blk w T 80 (trC rs tv most last lst)) :
  Calls Tryz.prog 44 #[.pointer (some ⟨T,0,none⟩), .int .i64 at_] w (Ret (.int .i64 (momF at_ last)) w):=by
 have HI:=Lib.hid (isMoment_any at_ w)
 obtain ⟨R,hR⟩ : ∃ R,(decide (0 ≤ at_) && decide (at_ < 345686400)) = R:=⟨_,rfl⟩
 have H1 : Hid (R = false → momF at_ last = 1):=Lib.hid fun e => by
  unfold momF
  rw [if_pos (by rw [e] at hR;simp at hR;omega)]
 have H2 : Hid (R = true → momF at_ last = if at_ < last then 7 else 0):=Lib.hid fun e => by
  unfold momF
  rw [if_neg (by rw [e] at hR;simp at hR;omega)]
 rw [hR] at HI
 clear hR
 generalize momF at_ last = MF at *
 have HT:=Lib.hid h
 clear h
 go_enter Tryz.func44,Tryz.ntmps44
 go_wp2_with fail
 refine HI.out.mono ?_
 rintro e w2 ⟨rfl,hb⟩
 have t6:=(HT.out.below hb HT.out.lt).cell 6
 simp [trC] at t6
 have HB:=Lib.hid hb
 clear hb HT HI
 cases R
 ·obtain rfl:=H1.out rfl
  clear H1 H2
  go_wp2_with fail
  go_ret
  exact ⟨rfl,HB.out⟩
 ·have e:=H2.out rfl
  by_cases hl : at_ < last
  ·rw [if_pos hl] at e
   subst e
   clear H1 H2
   go_wp2_with fail
   go_ret
   exact ⟨rfl,HB.out⟩
  ·rw [if_neg hl] at e
   subst e
   clear H1 H2
   go_wp2_with fail
   go_ret
   exact ⟨rfl,HB.out⟩
theorem qfault_any (T : Nat) (rs : Value) (tv : TV) (most last : Int) (lst : Value) (x : PV) (pa : Option Addr) (n pc : Nat) (at_ : Int) (w : World) (h : Blk w T 44 (tcC rs tv most last lst)) (hx : x.ok) (hp : x.pay = .slice pa n pc) :
  Calls Tryz.prog 49 #[.pointer (some ⟨T,0,none⟩), .agg x.cells, .int .i64 at_] w (Ret (.int .i64 (if pktFault x n ≠ 0 then pktFault x n else momF at_ last)) w):=by
 have HP:=Lib.hid fun wx => packetFault_any x pa n pc wx hx hp
 have HI:=Lib.hid fun wx => moment_any at_ wx
 obtain ⟨R,hR⟩ : ∃ R,(decide (0 ≤ at_) && decide (at_ < 345686400)) = R:=⟨_,rfl⟩
 have H1 : Hid (R = false → momF at_ last = 1):=Lib.hid fun e => by
  unfold momF
  rw [if_pos (by rw [e] at hR;simp at hR;omega)]
 have H2 : Hid (R = true → momF at_ last = if at_ < last then 7 else 0):=Lib.hid fun e => by
  unfold momF
  rw [if_neg (by rw [e] at hR;simp at hR;omega)]
 rw [hR] at HI
 clear hR
 generalize momF at_ last = MF at *
 generalize pktFault x n = PF at *
 obtain ⟨E,hE⟩ : ∃ E,(if PF ≠ 0 then PF else MF) = E:=⟨_,rfl⟩
 have HE1 : Hid (PF ≠ 0 → E = PF):=Lib.hid fun h => by rw [← hE,if_pos h]
 have HE2 : Hid (PF = 0 → E = MF):=Lib.hid fun h => by rw [← hE,if_neg (by simp [h])]
 rw [hE]
 clear hE
 have HX : Hid (Blk (w.alloc (.cells x.cells 52 (0,0))) w.heap.size 52 x.cells):=Lib.hid (Blk.new w _ _)
 have HT:=Lib.hid (h.alloc (.cells x.cells 52 (0,0)))
 have HB : Hid (Below w.heap.size w (w.alloc (.cells x.cells 52 (0,0)))):=Lib.hid (below_alloc (Below.refl _ _) _)
 have hs : x.cells.size = 19:=rfl
 have hsz : (Tryz.prog.info? 52).map (·.size) = some 19:=by kernel_rfl
 have hun : Tryz.prog.underlying 52 = some (.struct (Tryz.prog.fieldsOf 52)):=by kernel_rfl
 clear h hx hp
 generalize x.cells = X at *
 go_enter Tryz.func49,Tryz.ntmps49
 go_upto_region 1 with fail
 generalize w.alloc (.cells X 52 (0,0)) = w1 at *
 generalize hbx : w.heap.size = bx at HX ⊢
 clear hbx
 have HR : Hid (w1.rangeAt bx 0 X.toList):=Lib.hid (Blk.range HX.out)
 go_wp2_with (refine wpList_loadn rfl 52 _ rfl bx 0 rfl _ _ HR.out hun rfl 19 hsz hs ?_)
 refine (HP.out _).mono ?_
 rintro e w2 ⟨rfl,hb⟩
 have HB2:=Lib.hid (HB.out.trans (hb.mono HB.out.size))
 have HT2:=Lib.hid (HT.out.below hb HT.out.lt)
 clear hb HB HT HX HR HP hs hsz hun
 by_cases hF : PF = 0
 ·have hEM:=HE2.out hF
  subst hEM
  subst hF
  clear HE1 HE2
  go_wp2_with fail
  refine (HI.out _).mono ?_
  rintro e w3 ⟨rfl,hb⟩
  have HB3:=Lib.hid (HB2.out.trans (hb.mono HB2.out.size))
  have t7:=(HT2.out.below hb HT2.out.lt).cell 7
  simp [tcC] at t7
  clear hb HI HB2 HT2
  cases R
  ·obtain rfl:=H1.out rfl
   clear H1 H2
   go_wp2_with fail
   go_ret
   exact ⟨rfl,HB3.out⟩
  ·have e:=H2.out rfl
   by_cases hl : at_ < last
   ·rw [if_pos hl] at e
    subst e
    clear H1 H2
    go_wp2_with fail
    go_ret
    exact ⟨rfl,HB3.out⟩
   ·rw [if_neg hl] at e
    subst e
    clear H1 H2
    go_wp2_with fail
    go_ret
    exact ⟨rfl,HB3.out⟩
 ·have hEM:=HE1.out hF
  subst hEM
  have hF2 : (E != 0) = true:=by simpa using hF
  clear hF HE1 HE2 H1 H2 HI
  go_wp2_with fail
  go_ret
  exact ⟨rfl,HB2.out⟩
theorem heap_setCells_same {g : Nat} {t : TypeId} : ∀ (vs : List Value) (o : Nat) (w : World) (cur : Array Value),w.heap[g]? = some (.cells cur t (0,0)) → ∃ cur',(w.setCells g o vs).heap[g]? = some (.cells cur' t (0,0)) ∧ cur'.size = cur.size
 | [],_,w,cur,h => ⟨cur,h,rfl⟩
 | v :: r,o,w,cur,h => by
   obtain ⟨cur',h1,h2⟩:=heap_setCells_same r (o + 1) (w.setCell ⟨g,o,none⟩ v) (cur.setIfInBounds o v) (heap_setCell_same w g o cur t v h)
   exact ⟨cur',h1,by rw [h2];simp⟩
theorem heap_setCells_other {g j : Nat} (hne : j ≠ g) : ∀ (vs : List Value) (o : Nat) (w : World),(w.setCells g o vs).heap[j]? = w.heap[j]?
 | [],_,w => rfl
 | v :: r,o,w => by
   rw [World.setCells,heap_setCells_other hne r (o + 1)]
   exact Below.heap_setCell w ⟨g,o,none⟩ v j hne
theorem grown_setCells (g : Nat) : ∀ (vs : List Value) (o : Nat) (w : World),w.grownBy (w.setCells g o vs) (some g)
 | [],_,w => World.grownBy.refl _ _
 | v :: r,o,w => by
   have h1 : w.grownBy (w.setCell ⟨g,o,none⟩ v) (some g):=⟨rfl,rfl,rfl,by simp,fun i hi hne => Below.heap_setCell w ⟨g,o,none⟩ v i (fun e => hne (by rw [e]))⟩
   exact grown_trans h1 (grown_setCells g r (o + 1) (w.setCell ⟨g,o,none⟩ v))
section
variable {α : Type} {E : Lay α}
theorem OwnK.of_cells {w : World} {B g n c : Nat} {cur : Array Value} {L : List α} (hl : L.length = n) (hB : B ≤ g) (hnc : n ≤ c) (hc : c ≤ maxLen) (hh : w.heap[g]? = some (.cells cur E.ty (0,0))) (hs : cur.size = c * E.K)
  (hcell : ∀ (k : Nat) (x : α),L[k]? = some x → ∀ (j : Nat) (v : Value),(E.enc x)[j]? = some v → w.cell? ⟨g,k * E.K + j,none⟩ = some v) : OwnK E w B (.slice (some ⟨g,0,none⟩) n c) L:=by
 subst hl
 refine ⟨E.all_len L, .inr ⟨g,c,cur,rfl,hB,hh,hnc,hc,hs,?_⟩⟩
 apply List.ext_getElem?
 intro t
 have hle : L.length * E.K ≤ c * E.K:=Nat.mul_le_mul_right _ hnc
 rcases Nat.lt_or_ge t (L.length * E.K) with h | h
 ·obtain ⟨x,hx,he⟩:=E.all_cut L t h
  rw [List.getElem?_take,if_pos h,he]
  have hj : t % E.K < (E.enc x).length:=by rw [E.len];exact Nat.mod_lt _ E.pos
  have:=hcell (t / E.K) x hx (t % E.K) _ (List.getElem?_eq_getElem hj)
  rw [show t / E.K * E.K + t % E.K = t by rw [Nat.mul_comm];exact Nat.div_add_mod t E.K,cell_of_row w g _ _ _ _ hh] at this
  rw [List.getElem?_eq_getElem hj, ← this]
  simp
 ·rw [List.getElem?_eq_none (by rw [List.length_take];simp;omega),List.getElem?_eq_none (by rw [E.all_len];exact h)]
theorem OwnK.cellsAt {w : World} {B g n c : Nat} {L : List α} (h : OwnK E w B (.slice (some ⟨g,0,none⟩) n c) L) {k : Nat} {x : α} (hx : L[k]? = some x) : w.rangeAt g (k * E.K) (E.enc x):=fun j v hv => h.get hx hv
theorem OwnK.there {w : World} {B g n c : Nat} {L : List α} (h : OwnK E w B (.slice (some ⟨g,0,none⟩) n c) L) {o m : Nat} (hm : o + m ≤ n * E.K) : w.there g o m:=fun j hj => by
 obtain ⟨hn,_,hc,_,cur,hg,hs,_⟩:=h.block
 refine ⟨?_,h.frozen _⟩
 rw [cell_of_row w g _ _ _ _ hg,Array.getElem?_eq_getElem (by have:=Nat.mul_le_mul_right E.K hc;omega)]
 rfl
theorem mul_apart {i k K : Nat} (h : i ≠ k) : k * K + K ≤ i * K ∨ i * K + K ≤ k * K:=by
 rcases Nat.lt_or_ge i k with h1 | h1
 ·right;have:=Nat.mul_le_mul_right K (show i + 1 ≤ k by omega);rw [Nat.add_mul] at this;omega
 ·left;have:=Nat.mul_le_mul_right K (show k + 1 ≤ i by omega);rw [Nat.add_mul] at this;omega
theorem OwnK.setRow {w : World} {B g n c : Nat} {L : List α} (h : OwnK E w B (.slice (some ⟨g,0,none⟩) n c) L) {i : Nat} (hi : i < n) (y : α) : OwnK E (w.setCells g (i * E.K) (E.enc y)) B (.slice (some ⟨g,0,none⟩) n c) (L.set i y):=by
 have hth:=h.there (o:=i * E.K) (m:=E.K) (by have:=Nat.mul_le_mul_right E.K (show i + 1 ≤ n by omega);rw [Nat.add_mul] at this;omega)
 obtain ⟨hn,hB,hc,hm,cur,hg,hs,ht⟩:=h.block
 obtain ⟨cur',h1,h2⟩:=heap_setCells_same (E.enc y) (i * E.K) w cur hg
 refine OwnK.of_cells (by rw [List.length_set];exact hn.symm) hB hc hm h1 (by rw [h2,hs]) fun k x hx j v hv => ?_
 by_cases e : k = i
 ·subst e
  rw [List.getElem?_set_self (by rw [← hn];exact hi)] at hx
  injection hx with hx
  subst hx
  exact World.rangeAt_setCells_same w g (k * E.K) (E.enc y) (by rw [E.len];exact hth) j v hv
 ·rw [List.getElem?_set_ne (fun h => e h.symm)] at hx
  exact World.rangeAt_setCells_apart (h.cellsAt hx) g (i * E.K) (E.enc y) (.inr (by rw [E.len,E.len];exact mul_apart (fun h => e h.symm))) j v hv
theorem OwnK.cut {w : World} {B g n c : Nat} {L : List α} (h : OwnK E w B (.slice (some ⟨g,0,none⟩) n c) L) {i : Nat} (hi : i ≤ n) (vs : List Value) : OwnK E (w.setCells g (i * E.K) vs) B (.slice (some ⟨g,0,none⟩) i c) (L.take i):=by
 obtain ⟨hn,hB,hc,hm,cur,hg,hs,ht⟩:=h.block
 obtain ⟨cur',h1,h2⟩:=heap_setCells_same vs (i * E.K) w cur hg
 refine OwnK.of_cells (by rw [List.length_take];omega) hB (by omega) hm h1 (by rw [h2,hs]) fun k x hx j v hv => ?_
 have hk : k < i:=by
  have:=(List.getElem?_eq_some_iff.1 hx).1
  rw [List.length_take] at this;omega
 rw [List.getElem?_take,if_pos hk] at hx
 refine World.rangeAt_setCells_apart (h.cellsAt hx) g (i * E.K) vs (.inr (.inl ?_)) j v hv
 rw [E.len]
 have:=Nat.mul_le_mul_right E.K (show k + 1 ≤ i by omega)
 rw [Nat.add_mul] at this;omega
theorem OwnK.take {w : World} {B g n c : Nat} {L : List α} (h : OwnK E w B (.slice (some ⟨g,0,none⟩) n c) L) {i : Nat} (hi : i ≤ n) : OwnK E w B (.slice (some ⟨g,0,none⟩) i c) (L.take i):=h.cut hi []
end
theorem zeroCells_len (zs : Array Value) (n : Nat) : (Builtin.zeroCells zs n).toList.length = n * zs.size:=by simp [Builtin.zeroCells]
theorem run_clear_rows {P : Program} (w : World) (t e ty : TypeId) (z : Value) (ht : P.underlying t = some (.slice e)) (hv : ∀ w,(zeroValue e).run P w = .ok z w) (h1 : ∀ v ∈ z.cells,v.oneCell' = true) (b o n c : Nat) (hn : 0 < n) (hth : w.there b o (n * z.cells.size)) (hz : 0 < z.cells.size) :
  (Builtin.clear_ #[t] ty #[.slice (some ⟨b,o,none⟩) n c]).run P w = .ok (.tuple #[]) (w.setCells b o (Builtin.zeroCells z.cells n).toList):=by
 have hst:=run_storeCells_cells (P:=P) b o (Builtin.zeroCells z.cells n).toList 0 w (fun j hj => by rw [zeroCells_len] at hj;simpa using (hth j hj).1) (fun j hj => by rw [zeroCells_len] at hj;simpa using (hth j hj).2) (fun v hv => by
  simp [Builtin.zeroCells] at hv
  obtain ⟨i,hi,rfl⟩:=hv
  have : i % z.cells.size < z.cells.size:=Nat.mod_lt _ hz
  rw [getElem!_pos z.cells (i % z.cells.size) this]
  exact h1 _ (Array.getElem_mem _))
 simp only [Nat.add_zero] at hst
 obtain ⟨m,rfl⟩ : ∃ m,n = m + 1:=⟨n - 1,by omega⟩
 simp [Builtin.clear_,run_underlying ht,hv,hst]
theorem run_append_fit {P : Program} {α : Type} {E : Lay α} {t : TypeId} {bytes : Nat} (I : EI P t E.ty E.K bytes) {w : World} {B g n c : Nat} {L M : List α} (h : OwnK E w B (.slice (some ⟨g,0,none⟩) n c) L) (ty : TypeId) (a : Option Addr) (m c2 : Nat)
  (hsrc : Src w a m E.K (E.all M)) (hm : M.length = m) (hroom : n + m ≤ c) :
  ∃ w',(Builtin.append_ #[t,t] ty #[.slice (some ⟨g,0,none⟩) n c, .slice a m c2]).run P w = .ok (.slice (some ⟨g,0,none⟩) (n + m) c) w' ∧ OwnK E w' B (.slice (some ⟨g,0,none⟩) (n + m) c) (L ++ M) ∧ w.grownBy w' (some g):=by
 obtain ⟨ht,⟨i,z,hi,hz,hsi,hb,hzs⟩,hsz⟩:=I
 obtain ⟨hn,hB,hnc,hcm,cur,hg,hs,htk⟩:=h.block
 cases a with
 | some a =>
   have hl:=hsrc.1
   have hnews : ∀ j u,(E.all M)[j]? = some u → w.cell? (a.add j) = some u:=fun j u hu => by
    obtain ⟨a',e,_,hc⟩:=hsrc.2 j u hu
    injection e with e;subst e;exact hc
   have hfit : n * i.size + (E.all M).length ≤ cur.size:=by rw [hl,hs,hsi, ← Nat.add_mul];exact Nat.mul_le_mul_right _ hroom
   have hr:=run_append_room (P:=P) w t ty E.ty i ht hi g n c cur hg a m c2 (E.all M) (by rw [hsi];exact hl) hnews (E.all_one M) hroom hfit
   refine ⟨_,hr,?_,⟨rfl,rfl,rfl,by simp,fun k _ hk => setRow_other w g k _ (fun e => hk (by rw [e]))⟩⟩
   unfold OwnK
   rw [List.length_append,E.all_append, ← hn,hm]
   refine ⟨by rw [List.length_append,E.all_len,E.all_len, ← hn,hm,Nat.add_mul], .inr ⟨g,c,_,rfl,hB,setRow_heap w g cur _ E.ty _ hg,hroom,hcm,?_,?_⟩⟩
   ·simp only [List.size_toArray,List.length_append,List.length_take,List.length_drop,Array.length_toList]
    rw [hsi] at hfit ⊢
    omega
   ·rw [hsi,hn,htk]
    rw [show L.length + m = L.length + M.length by rw [hm],Nat.add_mul, ← E.all_len, ← E.all_len, ← List.length_append]
    exact List.take_left
 | none =>
   have hM : M = []:=by
    cases M with
    | nil => rfl
    | cons x l =>
      have hp:=E.pos
      have : ((E.all (x :: l))[0]?).isSome = true:=by rw [List.getElem?_eq_getElem (by rw [E.all_len];simp;omega)];rfl
      obtain ⟨u,hu⟩:=Option.isSome_iff_exists.1 this
      obtain ⟨a,e,_⟩:=hsrc.2 0 u hu
      cases e
   subst hM
   have hm0 : m = 0:=by simpa using hm.symm
   subst hm0
   refine ⟨w,?_,by simpa using h,World.grownBy.refl _ _⟩
   simp [Builtin.append_,run_underlying ht,sizeOf,typeInfo,hi,Builtin.lenOf,Builtin.firstCells,hnc,storeCells]
theorem wpList_app_fit {P : Program} {α : Type} {E : Lay α} {t : TypeId} {bytes : Nat} (I : EI P t E.ty E.K bytes) {w : World} {ops : Array Oper} {rest : List Oper} {o : Oper} {a : Act} {Q : Exit → Act → World → Prop} (hgd : o.guard = none) (s x : Operand)
  (ho : o.op = .call { callee:=.builtin .append,args:=#[s,x],argTypes:=#[t,t] })
  {B g n c : Nat} {L M : List α} (hs : a.eval s = .slice (some ⟨g,0,none⟩) n c) (h : OwnK E w B (.slice (some ⟨g,0,none⟩) n c) L)
  {ad : Option Addr} {m c2 : Nat} (hx : a.eval x = .slice ad m c2) (hsrc : Src w ad m E.K (E.all M)) (hm : M.length = m) (hroom : n + m ≤ c)
  (hk : ∀ w',OwnK E w' B (.slice (some ⟨g,0,none⟩) (n + m) c) (L ++ M) → w.grownBy w' (some g) → wpList P ops Q rest (a.put o.dst (.slice (some ⟨g,0,none⟩) (n + m) c)) w') :
  wpList P ops Q (o :: rest) a w:=by
 refine wpList_plain hgd fun K hK => ?_
 obtain ⟨w',hr,h2,h3⟩:=run_append_fit I h o.type ad m c2 hsrc hm hroom
 unfold Oper.wp execOp
 simp only [ho,resolve,invoke,builtin,Sem.run_bind,Sem.run_pure,Result.andThen_ok,List.map_toArray,List.map_cons,List.map_nil,hs,hx,hr]
 exact hK _ _ (hk w' h2 h3)
theorem Op1.loadn {P : Program} {o : Oper} {ρ : Operand → Value} {w : World} {post : Value → World → Prop} (ty : TypeId) (x : Operand) (ho : o.op = .load ty x) (b off : Nat) (hx : ρ x = .pointer (some ⟨b,off,none⟩)) (cs : List Value) (d : TypeDesc) (hc : w.rangeAt b off cs)
  (hu : P.underlying ty = some d) (hd : d.isRow = true) (m : Nat) (hi : (P.info? ty).map (·.size) = some m) (hm : cs.length = m) (h : post (.agg cs.toArray) w) : Op1 P o ρ w post:=by
 subst hm
 have:=run_loadAt_mid (P:=P) w b off ty cs d hc hu hd hi
 unfold Op1 execOp
 simp only [ho,hx,Sem.run_bind,this,Result.andThen_ok,Sem.run_pure]
 exact h
theorem indexTk_any (g : Nat) (cb : Array Value) (p : TK → Bool) (ad : Option Addr) (n c : Nat) (L : List TK) (w : World) (h : RdK layTk w ad L) (hn : L.length = n) (hs : n ≤ 1000000)
  (eg : ∀ args w,(callFunc g args).run Tryz.prog w = .ok (.enter g args) w) (hc : ∀ x ∈ L, ∀ wx,Below w.heap.size w wx → Calls Tryz.prog g (#[.agg (layTk.enc x).toArray] ++ cb) wx (Ret (.bool (p x)) wx)) :
  Calls Tryz.prog 85 #[.slice ad n c, .func (.func g) #[] cb] w fun e w' => ∃ k : Int,e = .returned (.int .i64 k) ∧ ((k = -1 ∧ ∀ x ∈ L,p x = false) ∨ ∃ (i : Nat) (x : TK),k = (i : Int) ∧ L[i]? = some x ∧ p x = true ∧ ∀ (j : Nat) (y : TK),j < i → L[j]? = some y → p y = false) ∧ Below w.heap.size w w':=by
 have H0:=Lib.hid h
 have Hn:=Lib.hid hn
 have HC:=Lib.hid hc
 clear h hn hc
 go_enter Tryz.func85,Tryz.ntmps85
 go_wp2_with fail
 go_loopw [5,8] (fun s5 i wr => ∃ k : Nat,k ≤ n ∧ i = .int .i64 (k : Int) ∧ Hid (∀ (j : Nat) (y : TK),j < k → L[j]? = some y → p y = false) ∧ Hid (Below w.heap.size w wr)) (fun _ i _ => n - (intOf i).toNat)
 case atStart => exact ⟨0,Nat.zero_le _,rfl,Lib.hid fun j y hj => absurd hj (Nat.not_lt_zero _),Lib.hid (Below.refl _ _)⟩
 case round =>
  obtain ⟨k,hk,rfl,HN,HB⟩:=hrel
  by_cases hlt : k < n
  ·have hS : k < L.length:=by rw [Hn.out];exact hlt
   obtain ⟨x,hx⟩ : ∃ x,L[k]? = some x:=⟨_,List.getElem?_eq_getElem hS⟩
   obtain ⟨gb,o,had,hg,hcell⟩:=(H0.out.below HB.out) k x hx
   have HR : Hid (wr.rangeAt gb (o + k * 12) (layTk.enc x)):=Lib.hid fun j v hv => by
    have:=hcell j v hv
    rwa [← Nat.add_assoc] at this
   have HCx:=Lib.hid (HC.out x (List.mem_of_getElem? hx) wr HB.out)
   have Hx:=Lib.hid hx
   subst had
   clear hx hS hg hcell
   go_wp2_with (refine wpList_loadn rfl 65 (.tmp 14) rfl gb (o + k * 12) rfl (layTk.enc x) _ HR.out under_tk rfl 12 size_tk (layTk.len x) ?_)
   refine HCx.out.mono ?_
   rintro e w3 ⟨rfl,hb⟩
   have HB3:=Lib.hid (HB.out.trans (hb.mono HB.out.size))
   clear hb HCx HR
   cases hR : p x
   ·have HN2 : Hid (∀ (j : Nat) (y : TK),j < k + 1 → L[j]? = some y → p y = false):=Lib.hid fun j y hj hy => by
     rcases Nat.lt_or_ge j k with h1 | h1
     ·exact HN.out j y h1 hy
     ·obtain rfl : j = k:=by omega
      rw [Hx.out] at hy
      exact (Option.some.inj hy) ▸ hR
    clear hR
    go_wp2_with fail
    exact ⟨⟨k + 1,by omega,by go_num,HN2,HB3⟩,by simp [intOf];omega⟩
   ·have HP:=Lib.hid hR
    clear hR
    go_wp2_with fail
    go_ret
    exact ⟨(k : Int),rfl, .inr ⟨k,x,rfl,Hx.out,HP.out,HN.out⟩,HB3.out⟩
  ·obtain rfl : k = n:=by omega
   go_wp2_with fail
   go_ret
   refine ⟨-1,rfl, .inl ⟨rfl,fun x hx => ?_⟩,HB.out⟩
   obtain ⟨j,hj,rfl⟩:=List.getElem_of_mem hx
   exact HN.out j _ (by rw [← Hn.out];exact hj) (List.getElem?_eq_getElem hj)
theorem filt_take {α : Type} (q : α → Bool) (L : List α) (j : Nat) (x : α) (hx : L[j]? = some x) : (L.take (j + 1)).filter q = (L.take j).filter q ++ (if q x = true then [x] else []):=by
 obtain ⟨hj,rfl⟩:=List.getElem?_eq_some_iff.1 hx
 rw [List.take_succ_eq_append_getElem hj,List.filter_append]
 congr 1
 by_cases h : q L[j] = true
 ·rw [if_pos h];simp [h]
 ·rw [if_neg h];simp [h]
theorem deleteFuncTk_any (g0 : Nat) (cb : Array Value) (p : TK → Bool) (B : Nat) (ad : Option Addr) (n c : Nat) (L : List TK) (w : World) (h : OwnK layTk w B (.slice ad n c) L) (hs : n ≤ 1000000) (hB : B ≤ w.heap.size)
  (eg : ∀ args w,(callFunc g0 args).run Tryz.prog w = .ok (.enter g0 args) w) (hc : ∀ x ∈ L, ∀ wx,KeepT [65] w wx → Calls Tryz.prog g0 (#[.agg (layTk.enc x).toArray] ++ cb) wx (Ret (.bool (p x)) wx)) :
  Calls Tryz.prog 54 #[.slice ad n c, .func (.func g0) #[] cb] w fun e w' => ∃ v,e = .returned v ∧ OwnK layTk w' B v (L.filter fun x => !p x) ∧ Grew w w' (.slice ad n c) v:=by
 have hn : L.length = n:=by
  obtain ⟨_,_,hv,_⟩:=h.form
  injection hv with _ e _
  exact e.symm
 have HI:=Lib.hid (indexTk_any g0 cb p ad n c L w h.rd hn hs eg fun x hx wx hb => hc x hx wx (KeepT.of_below hb))
 have HC:=Lib.hid hc
 have HO:=Lib.hid h
 have Hn:=Lib.hid hn
 clear h hn hc
 go_enter Tryz.func54,Tryz.ntmps54
 go_wp2_with fail
 refine HI.out.mono ?_
 rintro e w1 ⟨k,rfl,hk,hb⟩
 have HB1:=Lib.hid hb
 clear hb HI
 rcases hk with ⟨rfl,hk⟩ | ⟨i0,x0,rfl,hi0,hx0,hj0⟩
 ·have HF : Hid (L.filter (fun x => !p x) = L):=Lib.hid (List.filter_eq_self.2 fun x hx => by simp [hk x hx])
  clear hk
  go_wp2_with fail
  go_ret
  exact ⟨_,rfl,by rw [HF.out];exact HO.out.later HB1.out,⟨⟨HB1.out.os,HB1.out.tape,HB1.out.output,HB1.out.size,fun j hj _ => HB1.out.block j hj⟩, .inl rfl⟩⟩
 ·have hi0n : i0 < n:=by rw [← Hn.out];exact (List.getElem?_eq_some_iff.1 hi0).1
  obtain ⟨g,c',hv,hBg, -⟩:=HO.out.one (by rw [Hn.out];omega)
  injection hv with hv q1 q2
  subst hv
  clear q1 q2
  have HO1 : Hid (OwnK layTk w1 B (.slice (some ⟨g,0,none⟩) n c) L):=Lib.hid (HO.out.later HB1.out)
  have hgw : g < w.heap.size:=own_lt HO.out g rfl
  have hnc : n ≤ c:=HO.out.block.2.2.1
  have HG1 : Hid (Grew w w1 (.slice (some ⟨g,0,none⟩) n c) (.slice (some ⟨g,0,none⟩) n c)):=Lib.hid ⟨⟨HB1.out.os,HB1.out.tape,HB1.out.output,HB1.out.size,fun j hj _ => HB1.out.block j hj⟩, .inl rfl⟩
  have HD1 : Hid (∃ D : List TK,OwnK layTk w1 B (.slice (some ⟨g,0,none⟩) n c) D ∧ D.take i0 = (L.take (i0 + 1)).filter (fun x => !p x) ∧ ∀ t,i0 + 1 ≤ t → D[t]? = L[t]?):=Lib.hid ⟨L,HO1.out,by
   rw [filt_take _ L i0 x0 hi0,if_neg (by simp [hx0]),List.append_nil]
   refine (List.filter_eq_self.2 fun x hx => ?_).symm
   obtain ⟨j,hj,rfl⟩:=List.getElem_of_mem hx
   rw [List.length_take] at hj
   rw [List.getElem_take]
   simp [hj0 j L[j] (by omega) (List.getElem?_eq_getElem (by omega))],fun t _ => rfl⟩
  clear hi0 hx0 hj0 HO1
  have e1 : ((i0 : Int) == -1) = false:=beq_eq_false_iff_ne.2 (by omega)
  go_wp2_with fail
  go_loopw [5,6,7] (fun iv jv bx wr => ∃ (i j : Nat),i < j ∧ j ≤ n ∧ iv = .int .i64 (i : Int) ∧ jv = .int .i64 (j : Int) ∧ Hid (∃ D : List TK,OwnK layTk wr B (.slice (some ⟨g,0,none⟩) n c) D ∧ D.take i = (L.take j).filter (fun x => !p x) ∧ ∀ t,j ≤ t → D[t]? = L[t]?) ∧ Hid (Grew w wr (.slice (some ⟨g,0,none⟩) n c) (.slice (some ⟨g,0,none⟩) n c))) (fun _ jv _ _ => n - (intOf jv).toNat)
  case atStart => exact ⟨i0,i0 + 1,by omega,by omega,rfl,by first | rfl | go_num,HD1,HG1⟩
  case round =>
   obtain ⟨i,j,hij,hjn,rfl,rfl,HD,HG⟩:=hrel
   obtain ⟨D,hD,hDi,hDj⟩:=HD.out
   have HDo:=Lib.hid hD
   have HDi:=Lib.hid hDi
   have HDj:=Lib.hid hDj
   clear hD hDi hDj HD
   by_cases hlt : j < n
   ·have hjL : j < L.length:=by rw [Hn.out];exact hlt
    obtain ⟨x,hx⟩ : ∃ x,L[j]? = some x:=⟨_,List.getElem?_eq_getElem hjL⟩
    have hDx : D[j]? = some x:=by rw [HDj.out j (Nat.le_refl _)];exact hx
    have HR : Hid (wr.rangeAt g (j * 12) (layTk.enc x)):=Lib.hid (HDo.out.cellsAt hDx)
    have HCx:=Lib.hid fun wx (hk : KeepT [65] wr wx) => HC.out x (List.mem_of_getElem? hx) wx ((KeepT.of_grew (E:=layTk) HO.out HG.out (by simp [layTk])).trans hk)
    have HX1 : Hid ((layTk.enc x).toArray.size = 12):=Lib.hid (by simp [layTk.len];rfl)
    have HX2 : Hid ((layTk.enc x).toArray.all (·.oneCell') = true):=Lib.hid (all_oneCell_toArray (layTk.one x))
    have Hx:=Lib.hid hx
    have HXe : Hid (∀ wx,OwnK layTk wx B (.slice (some ⟨g,0,none⟩) n c) D → OwnK layTk (wx.setCells g (i * 12) (layTk.enc x)) B (.slice (some ⟨g,0,none⟩) n c) (D.set i x)):=Lib.hid fun wx h => h.setRow (by omega) x
    have hDl : D.length = n:=HDo.out.block.1.symm
    have HDl:=Lib.hid hDl
    obtain ⟨X,hX⟩ : ∃ X,layTk.enc x = X:=⟨_,rfl⟩
    rw [hX] at HR HCx HX1 HX2 HXe
    clear hX hjL hx hDx hDl
    have HP : Hid (Blk (wr.alloc (.cells X.toArray 65 (0,0))) wr.heap.size 65 X.toArray):=Lib.hid (Blk.new wr _ _)
    have HKa : Hid (KeepT [65] wr (wr.alloc (.cells X.toArray 65 (0,0)))):=Lib.hid ((KeepT.refl _ _).alloc _)
    have HDa:=Lib.hid (HDo.out.alloc (.cells X.toArray 65 (0,0)))
    have HGa:=Lib.hid (HG.out.alloc (.cells X.toArray 65 (0,0)))
    have hgr : g < wr.heap.size:=own_lt HDo.out g rfl
    go_upto_region 8 with (first | (refine wpList_loadn rfl 65 _ rfl g (j * 12) rfl _ _ HR.out under_tk rfl 12 size_tk (by simpa using HX1.out) ?_;go_simp) | (refine wpList_var X.toArray 65 Tryz.zeroValue65 rfl rfl rfl _ _ rfl _ rfl ?_ ?_ 12 size_tk HX1.out ?_ HX2.out ?_;all_goals (try rfl);try go_simp))
    generalize wr.alloc (.cells X.toArray 65 (0,0)) = w3 at *
    generalize wr.heap.size = bx at *
    have HRb : Hid (w3.rangeAt bx 0 X):=Lib.hid HP.out.range
    go_wp2_with (refine wpList_loadn rfl 65 _ rfl bx 0 rfl _ _ HRb.out under_tk rfl 12 size_tk (by simpa using HX1.out) ?_)
    refine (HCx.out _ HKa.out).mono ?_
    rintro e w4 ⟨rfl,hb⟩
    have HD4:=Lib.hid (HDa.out.later hb)
    have HG4 : Hid (Grew w w4 (.slice (some ⟨g,0,none⟩) n c) (.slice (some ⟨g,0,none⟩) n c)):=Lib.hid (HGa.out.trans ⟨⟨hb.os,hb.tape,hb.output,hb.size,fun j hj _ => hb.block j hj⟩, .inl rfl⟩)
    have HP4:=Lib.hid (HP.out.below hb HP.out.lt)
    clear hb HR HRb HCx HKa HDa HGa HP HDo HG
    cases hp : p x
    ·have HQ : Hid ((L.take (j + 1)).filter (fun x => !p x) = (L.take j).filter (fun x => !p x) ++ [x]):=Lib.hid (by rw [filt_take _ L j x Hx.out,if_pos (by simp [hp])])
     clear hp
     have HRb : Hid (w4.rangeAt bx 0 X):=Lib.hid HP4.out.range
     have HTH : Hid (w4.there g (i * 12) X.toArray.size):=Lib.hid (by rw [HX1.out];exact HD4.out.there (by show i * 12 + 12 ≤ n * 12;omega))
     have HI4 : Hid ((Tryz.prog.info? 65).map (·.size) = some X.toArray.size):=Lib.hid (by rw [HX1.out];exact size_tk)
     have HD5:=Lib.hid (HXe.out w4 HD4.out)
     have HG5 : Hid (Grew w (w4.setCells g (i * 12) X) (.slice (some ⟨g,0,none⟩) n c) (.slice (some ⟨g,0,none⟩) n c)):=Lib.hid (HG4.out.trans ⟨grown_setCells g X (i * 12) w4, .inl rfl⟩)
     have HDn : Hid (∃ D : List TK,OwnK layTk (w4.setCells g (i * 12) X) B (.slice (some ⟨g,0,none⟩) n c) D ∧ D.take (i + 1) = (L.take (j + 1)).filter (fun x => !p x) ∧ ∀ t,j + 1 ≤ t → D[t]? = L[t]?):=Lib.hid ⟨D.set i x,HD5.out,by
      have hi : i < D.length:=by rw [HDl.out];omega
      rw [HQ.out, ← HDi.out,List.take_succ_eq_append_getElem (by simpa using hi),List.getElem_set_self,List.take_set_of_le (Nat.le_refl _)],fun t ht => by
      rw [List.getElem?_set_ne (by omega)]
      exact HDj.out t (by omega)⟩
     clear HDi HDj HD5 HQ HD4 HG4
     go_upto_region 10 with (first | (refine wpList_loadn rfl 65 _ rfl bx 0 rfl _ _ HRb.out under_tk rfl 12 size_tk (by simpa using HX1.out) ?_) | (refine wpList_store_mid rfl 65 _ _ rfl g (i * 12) X.toArray rfl rfl HTH.out HI4.out HX2.out ?_;show wpList _ _ _ _ _ (w4.setCells g (i * 12) X)))
     generalize w4.setCells g (i * 12) X = w5 at *
     clear HRb HTH HI4 HXe HX1 HX2 HP4
     go_wp2
     exact ⟨⟨i + 1,j + 1,by omega,by omega,by go_num,by go_num,HDn,HG5⟩,by simp [intOf];omega⟩
    ·have HQ : Hid ((L.take (j + 1)).filter (fun x => !p x) = (L.take j).filter (fun x => !p x)):=Lib.hid (by rw [filt_take _ L j x Hx.out,if_neg (by simp [hp]),List.append_nil])
     clear hp
     have HDn : Hid (∃ D : List TK,OwnK layTk w4 B (.slice (some ⟨g,0,none⟩) n c) D ∧ D.take i = (L.take (j + 1)).filter (fun x => !p x) ∧ ∀ t,j + 1 ≤ t → D[t]? = L[t]?):=Lib.hid ⟨D,HD4.out,by rw [HQ.out];exact HDi.out,fun t ht => HDj.out t (by omega)⟩
     clear HDi HDj HQ HD4 HXe HX1 HX2 HP4
     go_wp2
     exact ⟨⟨i,j + 1,by omega,by omega,rfl,by go_num,HDn,HG4⟩,by simp [intOf];omega⟩
   ·obtain rfl : j = n:=by omega
    have HT : Hid (D.take i = L.filter (fun x => !p x)):=Lib.hid (by rw [HDi.out,List.take_of_length_le (by rw [Hn.out];exact Nat.le_refl _)])
    have hgr : g < wr.heap.size:=own_lt HDo.out g rfl
    have hci : ¬ c = i:=by omega
    obtain ⟨zv,hz1,hz2,hz3⟩:=zval_tk
    have HCL : ∀ ty c',(Builtin.clear_ #[42] ty #[.slice (some ⟨g,i * 12,none⟩) (j - i) c']).run Tryz.prog wr = .ok (.tuple #[]) (wr.setCells g (i * 12) (Builtin.zeroCells zv.cells (j - i)).toList):=fun ty c' => by
     refine run_clear_rows wr 42 65 ty zv Tryz.underlying42 hz2 ?_ g (i * 12) (j - i) c' (by omega) ?_ (by rw [hz1];decide)
     ·exact hz3
     ·rw [hz1]
      exact HDo.out.there (by show i * 12 + (j - i) * 12 ≤ j * 12;rw [← Nat.add_mul];exact Nat.mul_le_mul_right _ (by omega))
    have HOW:=Lib.hid (HDo.out.cut (i:=i) (by omega) (Builtin.zeroCells zv.cells (j - i)).toList)
    have HGW : Hid (Grew w (wr.setCells g (i * 12) (Builtin.zeroCells zv.cells (j - i)).toList) (.slice (some ⟨g,0,none⟩) j c) (.slice (some ⟨g,0,none⟩) i c)):=Lib.hid (HG.out.trans ⟨grown_setCells g _ (i * 12) wr, .inl rfl⟩)
    rw [HT.out] at HOW
    clear HDi HDj HG HDo hz1 hz2 hz3
    generalize (Builtin.zeroCells zv.cells (j - i)).toList = ZS at *
    go_wp2_with fail
    go_ret
    exact ⟨_,rfl,HOW.out,HGW.out⟩
structure Chg (T : Nat) (v v' : Value) (w w' : World) : Prop where
 os : w'.os = w.os
 tape : w'.tape = w.tape
 output : w'.output = w.output
 size : w.heap.size ≤ w'.heap.size
 block : ∀ i,i < w.heap.size → i ≠ T → some i ≠ v.ownBlock → w'.heap[i]? = w.heap[i]?
 o : v'.ownBlock = v.ownBlock ∨ ∃ k,v'.ownBlock = some k ∧ w.heap.size ≤ k
theorem Chg.trans {T : Nat} {u v x : Value} {a b c : World} (h : Chg T u v a b) (k : Chg T v x b c) : Chg T u x a c:=by
 refine ⟨k.os.trans h.os,k.tape.trans h.tape,k.output.trans h.output,Nat.le_trans h.size k.size,fun i hi h1 h2 => ?_,?_⟩
 ·refine (k.block i (Nat.lt_of_lt_of_le hi h.size) h1 ?_).trans (h.block i hi h1 h2)
  rcases h.o with e | ⟨j,e,hj⟩
  ·rw [e];exact h2
  ·rw [e];intro e2;injection e2 with e2;omega
 ·rcases k.o with e | ⟨j,e,hj⟩
  ·rcases h.o with e2 | ⟨j,e2,hj⟩
   ·exact .inl (e.trans e2)
   ·exact .inr ⟨j,e.trans e2,hj⟩
  ·exact .inr ⟨j,e,Nat.le_trans h.size hj⟩
theorem Chg.of_below {T : Nat} {v : Value} {w w' : World} (h : Below w.heap.size w w') : Chg T v v w w':=⟨h.os,h.tape,h.output,h.size,fun i hi _ _ => h.block i hi, .inl rfl⟩
theorem Chg.of_grew {T : Nat} {v v' : Value} {w w' : World} (h : Grew w w' v v') : Chg T v v' w w':=⟨h.g.os,h.g.tape,h.g.output,h.g.size,fun i hi _ h2 => h.g.block i hi h2,h.o⟩
theorem Chg.of_set {T i : Nat} {v x : Value} {w : World} : Chg T v v w (w.setCell ⟨T,i,none⟩ x):=⟨rfl,rfl,rfl,by simp,fun j hj h1 _ => Below.heap_setCell _ _ _ _ h1, .inl rfl⟩
theorem Chg.of_row {T g i n c : Nat} {x : Value} {w : World} : Chg T (.slice (some ⟨g,0,none⟩) n c) (.slice (some ⟨g,0,none⟩) n c) w (w.setCell ⟨g,i,none⟩ x):=⟨rfl,rfl,rfl,by simp,fun j hj _ h2 => Below.heap_setCell _ _ _ _ (fun e => h2 (by rw [e];rfl)), .inl rfl⟩
def seR (T p3 : Nat) (pt : Value) (lst : Value) (B : Nat) (g : Nat) (cb : Array Value) (L1 : List TK) (w0 : World) : Nat → Value → Nat → World → Prop
 | 0,v,_,_ => v = .pointer (some ⟨T,0,none⟩)
 | 1,v,_,_ => v = .pointer (some ⟨T,0,none⟩)
 | 2,v,_,_ => v = .pointer (some ⟨T,0,none⟩)
 | 3,v,_,_ => v = pt
 | 4,v,_,_ => v = lst
 | 5,v,_,_ => v = .func (.func g) #[] cb
 | _,v,n,w => n = 1 ∧ OwnK layTk w B v L1 ∧ Grew w0 w lst v
def seC (w0 : World) (n : Nat) (w : World) : Prop:=KeepT [65] w0 w ∧ (n = 0 → Below w0.heap.size w0 w)
def seS (n : Nat) (w : World) (n' : Nat) (w' : World) : Prop:=(w' = w ∧ n' = n) ∨ n = 0
theorem seR_keep {T p3 : Nat} {pt lst : Value} {B g : Nat} {cb : Array Value} {L1 : List TK} {w0 : World} (p : Nat) (v : Value) (n : Nat) (u : World) (m : Nat) (w : World) (h : seR T p3 pt lst B g cb L1 w0 p v n u) (hb : seS n u m w) : seR T p3 pt lst B g cb L1 w0 p v m w:=by
 rcases p with _ | _ | _ | _ | _ | _ | p
 all_goals first
  | exact h
  | (rcases hb with ⟨rfl,rfl⟩ | h0
     ·exact h
     ·exact absurd (h0.symm.trans h.1) (by decide))
theorem lives_ok {tv : TV} {at_ : Int} {L : List TK} (h : TkOk L) : TkOk (liveM tv at_ L):=fun x hx => h x (List.mem_filter.1 hx).1
theorem FV.one (f : FV) : f.cells.all (·.oneCell') = true:=all_oneCell_toArray (cs:=[.int .i64 f.p, .bool f.s1, .int .u64 f.h1, .int .u64 f.l1, .bool f.s2, .int .u64 f.h2, .int .u64 f.l2, .int .i64 f.fp, .int .i64 f.tp]) (fun v hv => by
 simp at hv
 rcases hv with rfl | rfl | rfl | rfl | rfl | rfl | rfl | rfl | rfl <;> rfl)
theorem KeepT.of_rowset {α : Type} {E : Lay α} {w : World} {B g n c : Nat} {L : List α} (h : OwnK E w B (.slice (some ⟨g,0,none⟩) n c) L) (i : Nat) (x : Value) : KeepT [E.ty] w (w.setCell ⟨g,i,none⟩ x):=by
 obtain ⟨_,_,_,_,cur,hg,_⟩:=h.block
 exact KeepT.of_set (cs:=cur) hg (by simp)
theorem modify_set {α : Type} {L : List α} {i : Nat} {y : α} (f : α → α) (h : L[i]? = some y) : L.modify i f = L.set i (f y):=by
 apply List.ext_getElem?
 intro j
 rw [List.getElem?_modify]
 by_cases e : i = j
 ·subst e
  rw [List.getElem?_set_self (List.getElem?_eq_some_iff.1 h).1,h]
  simp
 ·rw [List.getElem?_set_ne e]
  simp [e]
theorem tsee_any (T B : Nat) (rs : Value) (tv : TV) (most last : Int) (lst : Value) (L : List TK) (x : PV) (at_ : Int) (w : World) (hT : Blk w T 80 (trC rs tv most last lst)) (hL : OwnK layTk w B lst L) (hB : B ≤ w.heap.size) (hok : TkOk L) (hs : L.length ≤ 1000) (ha : 0 ≤ at_ ∧ at_ < 345686400) :
  Calls Tryz.prog 45 #[.pointer (some ⟨T,0,none⟩), .agg x.cells, .int .i64 at_] w fun e w' => ∃ lst',e = .returned (.bool (seeM tv x.flow (x.fin || x.rst) at_ L).1) ∧ Blk w' T 80 (trC rs tv most at_ lst') ∧ OwnK layTk w' B lst' (seeM tv x.flow (x.fin || x.rst) at_ L).2 ∧ Chg T lst lst' w w':=by
 obtain ⟨SM,hSM⟩ : ∃ SM,seeM tv x.flow (x.fin || x.rst) at_ L = SM:=⟨_,rfl⟩
 have HS : Hid (SM = match firstI (isF x.flow) (liveM tv at_ L) with | none => (false,liveM tv at_ L) | some i => (true,(liveM tv at_ L).modify i (seenM x.flow at_ (x.fin || x.rst)))):=Lib.hid hSM.symm
 rw [hSM]
 clear hSM
 obtain ⟨w0,hw0⟩ : ∃ w0,((w.alloc (.cells #[.pointer (some ⟨T,0,none⟩)] 32 (0,0))).alloc (.cells x.cells 52 (0,0))).alloc (.cells #[.int .i64 at_] 3 (0,0)) = w0:=⟨_,rfl⟩
 have hb0 : Below w.heap.size w w0:=by rw [← hw0];exact below_alloc (below_alloc (below_alloc (Below.refl _ _) _) _) _
 have K1 : Hid (Blk w0 w.heap.size 32 #[.pointer (some ⟨T,0,none⟩)]):=Lib.hid (by rw [← hw0];exact ((Blk.new w _ _).alloc _).alloc _)
 have K2 : Hid (Blk w0 (w.heap.size + 1) 52 x.cells):=Lib.hid (by
  rw [← hw0]
  have this:=Blk.new (w.alloc (.cells #[.pointer (some ⟨T,0,none⟩)] 32 (0,0))) 52 x.cells
  rw [World.size_alloc] at this
  exact this.alloc _)
 have K3 : Hid (Blk w0 (w.heap.size + 1 + 1) 3 #[.int .i64 at_]):=Lib.hid (by
  rw [← hw0]
  have this:=Blk.new ((w.alloc (.cells #[.pointer (some ⟨T,0,none⟩)] 32 (0,0))).alloc (.cells x.cells 52 (0,0))) 3 #[.int .i64 at_]
  rw [World.size_alloc,World.size_alloc] at this
  exact this)
 have HT0:=Lib.hid (hT.below hb0 hT.lt)
 have HL0:=Lib.hid (hL.later hb0)
 have HC0 : Hid (Chg T lst lst w w0):=Lib.hid (Chg.of_below hb0)
 have hTw:=hT.lt
 have hsz0:=hb0.size
 have HOK:=Lib.hid hok
 have HB0 : Hid (B ≤ w0.heap.size):=Lib.hid (Nat.le_trans hB hsz0)
 obtain ⟨ad,c,hlst, -⟩:=hL.form
 clear hT hL hok hb0
 have hXs : x.cells.size = 19:=rfl
 have hXz : (Tryz.prog.info? 52).map (·.size) = some 19:=by kernel_rfl
 have hXu : Tryz.prog.underlying 52 = some (.struct (Tryz.prog.fieldsOf 52)):=by kernel_rfl
 go_enter Tryz.func45,Tryz.ntmps45
 go_upto_region 1 with fail
 clear hw0
 generalize w.heap.size = p1 at *
 have k1:=K1.out.cell 0
 have k3:=K3.out.cell 0
 have t6:=HT0.out.cell 6
 have tf:=HT0.out.free
 simp [trC] at k1 k3 t6
 go_upto_region 2 with fail
 have HT1 : Hid (Blk (w0.setCell ⟨T,6,none⟩ (.int .i64 at_)) T 80 (trC rs tv most at_ lst)):=Lib.hid (HT0.out.set 6 _)
 have HL1 : Hid (OwnK layTk (w0.setCell ⟨T,6,none⟩ (.int .i64 at_)) B lst L):=Lib.hid (HL0.out.keepT (KeepT.of_set (S:=[80]) HT0.out (by simp)) (by decide))
 have HC1 : Hid (Chg T lst lst w (w0.setCell ⟨T,6,none⟩ (.int .i64 at_))):=Lib.hid (HC0.out.trans Chg.of_set)
 have K11:=Lib.hid (K1.out.far (show p1 ≠ T by omega) 6 (.int .i64 at_))
 have K21:=Lib.hid (K2.out.far (show p1 + 1 ≠ T by omega) 6 (.int .i64 at_))
 have K31:=Lib.hid (K3.out.far (show p1 + 1 + 1 ≠ T by omega) 6 (.int .i64 at_))
 have HB1 : Hid (B ≤ (w0.setCell ⟨T,6,none⟩ (.int .i64 at_)).heap.size):=Lib.hid (by simpa using HB0.out)
 have hs1 : p1 ≤ (w0.setCell ⟨T,6,none⟩ (.int .i64 at_)).heap.size:=by simpa using hsz0
 generalize (w0.setCell ⟨T,6,none⟩ (.int .i64 at_)) = w1 at *
 clear HT0 HL0 HC0 K1 K2 K3 HB0 k1 k3 t6 tf hsz0
 have egs : ∀ args w,(callFunc 84 args).run Tryz.prog w = .ok (.enter 84 args) w:=Go.Proofs.enters_of Tryz.func84 (by kernel_rfl) rfl
 have HDF : Hid (∀ wx,Below w1.heap.size w1 wx → Calls Tryz.prog 54 #[lst, .func (.func 84) #[] #[.pointer (some ⟨p1,0,none⟩), .pointer (some ⟨p1 + 1 + 1,0,none⟩)]] wx fun e w' => ∃ v,e = .returned v ∧ OwnK layTk w' B v (liveM tv at_ L) ∧ Grew wx w' lst v):=Lib.hid fun wx hb => by
  have hLx:=HL1.out.later hb
  rw [hlst] at hLx ⊢
  refine deleteFuncTk_any 84 #[.pointer (some ⟨p1,0,none⟩), .pointer (some ⟨p1 + 1 + 1,0,none⟩)] (fun x => endB tv x at_) B ad L.length c L wx hLx (by omega) (Nat.le_trans HB1.out hb.size) egs ?_
  intro y hy wz hk
  have hkz : KeepT [65] w1 wz:=(KeepT.of_below hb).trans hk
  exact tsee1_any T p1 (p1 + 1 + 1) rs most at_ lst tv y at_ wz (HT1.out.keepT hkz (by decide)) (K11.out.keepT hkz (by decide)) (K31.out.keepT hkz (by decide)) (HOK.out y hy) ha
 have HL1o:=Lib.hid HL1.out
 refine Lm.wp_region_lim 7 1 (seR T (p1 + 1 + 1) (.pointer (some ⟨T,7,none⟩)) lst B 84 #[.pointer (some ⟨p1,0,none⟩), .pointer (some ⟨p1 + 1 + 1,0,none⟩)] (liveM tv at_ L) w1) (seC w1) seS (fun i => if i = 6 then 1 else 0) (fun i => if i = 0 then 1 else 0)
  (by kernel_rfl) (by kernel_rfl) (by decide) (by kernel_rfl) seR_keep ⟨KeepT.of_below (below_drew (Below.refl _ _)),fun _ => below_drew (Below.refl _ _)⟩ ?hX
 case' hX => (apply Exists.intro;refine ⟨fun T => ?hA,?hob,?hend⟩)
 case hA =>
  simp only [setAll,List.take_succ_cons,List.take_zero,Act.put,List.setIfInBounds_toArray,List.set_cons_succ,List.set_cons_zero,Nat.reduceAdd]
  exact rfl
 case hob =>
  go_light
  refine ⟨?_,?_,?_,?_,?_,?_,?_,trivial⟩
  all_goals (intro TT wx n0 hC hn hp;dsimp only at hn ⊢;unfold Op1)
  ·have e0:=(K11.out.keepT hC.1 (by decide)).cell 0
   simp at e0
   go_simp
   first | exact ⟨rfl,hC, .inl ⟨rfl,rfl⟩⟩ | exact ⟨rfl, .inl ⟨rfl,rfl⟩⟩ | exact .inl ⟨rfl,rfl⟩
  ·have e0:=(K11.out.keepT hC.1 (by decide)).cell 0
   simp at e0
   go_simp
   first | exact ⟨rfl,hC, .inl ⟨rfl,rfl⟩⟩ | exact ⟨rfl, .inl ⟨rfl,rfl⟩⟩ | exact .inl ⟨rfl,rfl⟩
  ·obtain ⟨h0, -⟩:=hp
   have h0 : TT 1 = .pointer (some ⟨T,0,none⟩):=h0
   go_simp
   first | exact ⟨rfl,hC, .inl ⟨rfl,rfl⟩⟩ | exact ⟨rfl, .inl ⟨rfl,rfl⟩⟩ | exact .inl ⟨rfl,rfl⟩
  ·obtain ⟨h0, -⟩:=hp
   have h0 : TT 2 = .pointer (some ⟨T,0,none⟩):=h0
   go_simp
   first | exact ⟨rfl,hC, .inl ⟨rfl,rfl⟩⟩ | exact ⟨rfl, .inl ⟨rfl,rfl⟩⟩ | exact .inl ⟨rfl,rfl⟩
  ·obtain ⟨h0, -⟩:=hp
   have h0 : TT 3 = .pointer (some ⟨T,7,none⟩):=h0
   have e0:=(HT1.out.keepT hC.1 (by decide)).cell 7
   simp [trC] at e0
   clear hlst
   go_simp
   first | exact ⟨rfl,hC, .inl ⟨rfl,rfl⟩⟩ | exact ⟨rfl, .inl ⟨rfl,rfl⟩⟩ | exact .inl ⟨rfl,rfl⟩
  ·go_simp
   first | exact ⟨rfl,hC, .inl ⟨rfl,rfl⟩⟩ | exact ⟨rfl, .inl ⟨rfl,rfl⟩⟩ | exact .inl ⟨rfl,rfl⟩
  ·obtain ⟨h0,h1, -⟩:=hp
   have h0 : TT 4 = lst:=h0
   have h1 : TT 5 = .func (.func 84) #[] #[.pointer (some ⟨p1,0,none⟩), .pointer (some ⟨p1 + 1 + 1,0,none⟩)]:=h1
   have hn0 : n0 = 0:=by simpa using hn
   subst hn0
   have hbx:=hC.2 rfl
   clear hlst
   go_simp
   refine (HDF.out wx hbx).mono ?_
   rintro e w5 ⟨v,rfl,hO,hG⟩
   have hG1 : Grew w1 w5 lst v:=(⟨⟨hbx.os,hbx.tape,hbx.output,hbx.size,fun j hj _ => hbx.block j hj⟩, .inl rfl⟩ : Grew w1 wx lst lst).trans hG
   exact ⟨_,rfl,⟨rfl,hO,hG1⟩,⟨KeepT.of_grew (E:=layTk) HL1o.out hG1 (by simp [layTk]),fun h => absurd h (by decide)⟩, .inr rfl⟩
 case hend =>
  intro TT w2 ⟨n0,hn0,hC,hR⟩
  have hT0 : TT 0 = .pointer (some ⟨T,0,none⟩):=hR 0 (by omega)
  obtain ⟨hn1,hO,hG⟩:=hR 6 (by omega)
  obtain ⟨lv,hlv⟩ : ∃ lv,TT 6 = lv:=⟨_,rfl⟩
  have hO : OwnK layTk w2 B (TT 6) (liveM tv at_ L):=hO
  have hG : Grew w1 w2 lst (TT 6):=hG
  rw [hlv] at hO hG
  have HO2:=Lib.hid hO
  have HT2:=Lib.hid (HT1.out.keepT hC.1 (by decide))
  have K12:=Lib.hid (K11.out.keepT hC.1 (by decide))
  have K22:=Lib.hid (K21.out.keepT hC.1 (by decide))
  have K32:=Lib.hid (K31.out.keepT hC.1 (by decide))
  have HC2 : Hid (Chg T lst lv w w2):=Lib.hid (HC1.out.trans (Chg.of_grew hG))
  have HB2 : Hid (B ≤ w2.heap.size):=Lib.hid (Nat.le_trans HB1.out hC.1.1)
  have hs2 : p1 ≤ w2.heap.size:=Nat.le_trans hs1 hC.1.1
  have HLv : Hid ((liveM tv at_ L).length ≤ 1000):=Lib.hid (Nat.le_trans (List.length_filter_le _ _) hs)
  have HOKv : Hid (TkOk (liveM tv at_ L)):=Lib.hid (lives_ok HOK.out)
  obtain ⟨a2,c2,hlv2, -⟩:=hO.form
  clear hR hn1 hO hG hC HDF HL1 HL1o HT1 K11 K21 K31 HC1 HB1 hlst egs HOK
  rw [hlv2] at HO2 HC2 hlv
  clear hlv2 lv
  generalize liveM tv at_ L = LV at *
  obtain ⟨n2,hn2⟩ : ∃ n,LV.length = n:=⟨_,rfl⟩
  have HN2:=Lib.hid hn2
  rw [hn2] at HO2 HC2 hlv HLv
  clear hn2
  have t7:=HT2.out.cell 7
  have tf:=HT2.out.free
  simp [trC] at t7
  simp only [List.drop_succ_cons,List.drop_zero]
  have hT6 : TT 6 = .slice a2 n2 c2:=hlv
  clear hlv
  go_upto_region 3 with fail
  have HT3 : Hid (Blk (w2.setCell ⟨T,7,none⟩ (.slice a2 n2 c2)) T 80 (trC rs tv most at_ (.slice a2 n2 c2))):=Lib.hid (HT2.out.set 7 _)
  have HO3:=Lib.hid (HO2.out.keepT (KeepT.of_set (S:=[80]) (i:=7) (v:=.slice a2 n2 c2) HT2.out (by simp)) (by decide))
  have HC3 : Hid (Chg T lst (.slice a2 n2 c2) w (w2.setCell ⟨T,7,none⟩ (.slice a2 n2 c2))):=Lib.hid (HC2.out.trans Chg.of_set)
  have K13:=Lib.hid (K12.out.far (show p1 ≠ T by omega) 7 (.slice a2 n2 c2))
  have K23:=Lib.hid (K22.out.far (show p1 + 1 ≠ T by omega) 7 (.slice a2 n2 c2))
  have K33:=Lib.hid (K32.out.far (show p1 + 1 + 1 ≠ T by omega) 7 (.slice a2 n2 c2))
  have hs3 : p1 ≤ (w2.setCell ⟨T,7,none⟩ (.slice a2 n2 c2)).heap.size:=by simpa using hs2
  generalize (w2.setCell ⟨T,7,none⟩ (.slice a2 n2 c2)) = w3 at *
  clear HT2 HO2 HC2 K12 K22 K32 HB2 t7 tf hT0 hT6 hs2 hs1
  have HR : Hid (w3.rangeAt (p1 + 1) 0 x.cells.toList):=Lib.hid (Blk.range K23.out)
  have HFl:=Lib.hid fun wx => flowOf_any x wx
  have hFc : x.flow.cells.size = 9:=rfl
  obtain ⟨f,hf⟩ : ∃ f,x.flow = f:=⟨_,rfl⟩
  rw [hf] at HFl HS hFc
  obtain ⟨dn,hdn⟩ : ∃ dn,(x.fin || x.rst) = dn:=⟨_,rfl⟩
  have HDn:=Lib.hid hdn
  rw [hdn] at HS
  have q11:=K23.out.cell 11
  have q12:=K23.out.cell 12
  have hq : x.cells[11]? = some (.bool x.fin):=rfl
  have hq2 : x.cells[12]? = some (.bool x.rst):=rfl
  rw [hq] at q11
  rw [hq2] at q12
  have HQ:=Lib.hid (And.intro q11 q12)
  have HX11:=Lib.hid hq
  have HX12:=Lib.hid hq2
  clear hf hdn q11 q12 hq hq2
  generalize x.fin = xf at *
  generalize x.rst = xr at *
  generalize x.cells = X at *
  go_wp2_with (refine wpList_loadn rfl 52 _ rfl (p1 + 1) 0 rfl _ _ HR.out hXu rfl 19 hXz hXs ?_)
  refine (HFl.out _).mono ?_
  rintro e w4 ⟨rfl,hb⟩
  have HT4:=Lib.hid (HT3.out.below hb HT3.out.lt)
  have HO4:=Lib.hid (HO3.out.later hb)
  have HC4 : Hid (Chg T lst (.slice a2 n2 c2) w w4):=Lib.hid (HC3.out.trans (Chg.of_below hb))
  have K14:=Lib.hid (K13.out.below hb K13.out.lt)
  have K24:=Lib.hid (K23.out.below hb K23.out.lt)
  have K34:=Lib.hid (K33.out.below hb K33.out.lt)
  have hs4 : p1 ≤ w4.heap.size:=Nat.le_trans hs3 hb.size
  have hTl4 : T < w4.heap.size:=HT4.out.lt
  have HQ4 : Hid (w4.cell? ⟨p1 + 1,11,none⟩ = some (.bool xf) ∧ w4.cell? ⟨p1 + 1,12,none⟩ = some (.bool xr)):=Lib.hid ⟨(hb.cell (p:=⟨p1 + 1,11,none⟩) K23.out.lt).trans HQ.out.1,(hb.cell (p:=⟨p1 + 1,12,none⟩) K23.out.lt).trans HQ.out.2⟩
  clear hb HT3 HO3 HC3 K13 K23 K33 HQ HR HFl hs3
  have hFo : f.cells.all (·.oneCell') = true:=f.one
  have HFE:=Lib.hid (rfl : f.cells = f.cells)
  have hFz : (Tryz.prog.info? 63).map (·.size) = some 9:=by kernel_rfl
  obtain ⟨FC,hFC⟩ : ∃ FC,f.cells = FC:=⟨_,rfl⟩
  have HFC:=Lib.hid hFC
  rw [hFC] at hFo hFc
  rw [hFC]
  clear HFE hFC
  have HF5 : Hid (Blk (w4.alloc (.cells FC 63 (0,0))) w4.heap.size 63 FC):=Lib.hid (Blk.new w4 _ _)
  have hb5 : Below w4.heap.size w4 (w4.alloc (.cells FC 63 (0,0))):=below_alloc (Below.refl _ _) _
  have HT5:=Lib.hid (HT4.out.below hb5 HT4.out.lt)
  have HO5:=Lib.hid (HO4.out.later hb5)
  have HC5 : Hid (Chg T lst (.slice a2 n2 c2) w (w4.alloc (.cells FC 63 (0,0)))):=Lib.hid (HC4.out.trans (Chg.of_below hb5))
  have K15:=Lib.hid (K14.out.below hb5 K14.out.lt)
  have K25:=Lib.hid (K24.out.below hb5 K24.out.lt)
  have K35:=Lib.hid (K34.out.below hb5 K34.out.lt)
  have HQ5 : Hid ((w4.alloc (.cells FC 63 (0,0))).cell? ⟨p1 + 1,11,none⟩ = some (.bool xf) ∧ (w4.alloc (.cells FC 63 (0,0))).cell? ⟨p1 + 1,12,none⟩ = some (.bool xr)):=Lib.hid ⟨(hb5.cell (p:=⟨p1 + 1,11,none⟩) K24.out.lt).trans HQ4.out.1,(hb5.cell (p:=⟨p1 + 1,12,none⟩) K24.out.lt).trans HQ4.out.2⟩
  clear hb5 HT4 HO4 HC4 K14 K24 K34 HQ4
  go_upto_region 4 with (refine wpList_var FC 63 Tryz.zeroValue63 rfl rfl rfl _ _ rfl _ rfl ?_ ?_ 9 hFz hFc ?_ hFo ?_;all_goals (try rfl);try go_simp)
  generalize (w4.alloc (.cells FC 63 (0,0))) = w5 at *
  generalize w4.heap.size = F at *
  have k1:=K15.out.cell 0
  have t7:=HT5.out.cell 7
  simp [trC] at k1 t7
  have eg2 : ∀ args w,(callFunc 86 args).run Tryz.prog w = .ok (.enter 86 args) w:=Go.Proofs.enters_of Tryz.func86 (by kernel_rfl) rfl
  have HIx:=Lib.hid (indexTk_any 86 #[.pointer (some ⟨F,0,none⟩)] (isF f) a2 n2 c2 LV w5 HO5.out.rd HN2.out (by have:=HLv.out;omega) eg2 (fun y hy wx hb => tsee2_any y f F wx (by rw [HFC.out];exact HF5.out.below hb HF5.out.lt)))
  clear eg2
  go_wp2_with fail
  refine HIx.out.mono ?_
  rintro e w6 ⟨k,rfl,hk,hb⟩
  have HT6:=Lib.hid (HT5.out.below hb HT5.out.lt)
  have HO6:=Lib.hid (HO5.out.later hb)
  have HC6 : Hid (Chg T lst (.slice a2 n2 c2) w w6):=Lib.hid (HC5.out.trans (Chg.of_below hb))
  have K16:=Lib.hid (K15.out.below hb K15.out.lt)
  have K36:=Lib.hid (K35.out.below hb K35.out.lt)
  have K26:=Lib.hid (K25.out.below hb K25.out.lt)
  have HF6:=Lib.hid (HF5.out.below hb HF5.out.lt)
  have HQ6 : Hid (w6.cell? ⟨p1 + 1,11,none⟩ = some (.bool xf) ∧ w6.cell? ⟨p1 + 1,12,none⟩ = some (.bool xr)):=Lib.hid ⟨(hb.cell (p:=⟨p1 + 1,11,none⟩) K25.out.lt).trans HQ5.out.1,(hb.cell (p:=⟨p1 + 1,12,none⟩) K25.out.lt).trans HQ5.out.2⟩
  clear hb HIx HT5 HO5 HC5 K15 K25 K35 HF5 HQ5 k1 t7
  rcases hk with ⟨rfl,hk⟩ | ⟨i,y,rfl,hi,hy,hj⟩
  ·have hSM : SM = (false,LV):=by rw [HS.out,firstI_none hk]
   subst hSM
   clear hk HS
   go_wp2_with fail
   go_ret
   first | exact ⟨_,rfl,HT6.out,HO6.out,HC6.out⟩ | exact ⟨rfl,_,HT6.out,HO6.out,HC6.out⟩
  ·have hSM : SM = (true,LV.modify i (seenM f at_ dn)):=by rw [HS.out,firstI_some hi hy hj]
   subst hSM
   clear HS hj hy
   have hin : i < n2:=by rw [← HN2.out];exact (List.getElem?_eq_some_iff.1 hi).1
   obtain ⟨g,c',hv,hBg, -⟩:=HO6.out.one (by rw [HN2.out];omega)
   injection hv with hv q1 q2
   subst hv
   clear q1 q2
   have Hi:=Lib.hid hi
   have HG16 : Hid (¬ g = p1 + 1):=Lib.hid fun e => by
    obtain ⟨_,_,_,_,cur,hg,_⟩:=HO6.out.block
    have h2:=K26.out
    unfold Blk at h2
    rw [e] at hg
    rw [hg] at h2
    injection h2 with h2
    injection h2 with _ h2 _
    exact absurd h2 (by decide)
   have hgl : g < w6.heap.size:=own_lt HO6.out g rfl
   have k1:=K16.out.cell 0
   have k3:=K36.out.cell 0
   have t7:=HT6.out.cell 7
   simp [trC] at k1 k3 t7
   have gf:=HO6.out.frozen
   have g9 : w6.cell? ⟨g,i * 12 + 9,none⟩ = some (.int .i64 y.last):=HO6.out.get (j:=9) hi rfl
   clear hi
   go_upto_region 9 with fail
   have HO7 : Hid (OwnK layTk (w6.setCell ⟨g,i * 12 + 9,none⟩ (.int .i64 at_)) B (.slice (some ⟨g,0,none⟩) n2 c2) (LV.set i ⟨y.f,at_,y.ans,y.done⟩)):=Lib.hid (HO6.out.setTo (j:=9) Hi.out (by decide) rfl)
   have hk7 : KeepT [65] w6 (w6.setCell ⟨g,i * 12 + 9,none⟩ (.int .i64 at_)):=KeepT.of_rowset HO6.out _ _
   have HT7:=Lib.hid (HT6.out.keepT hk7 (by decide))
   have HF7:=Lib.hid (HF6.out.keepT hk7 (by decide))
   have HC7 : Hid (Chg T lst (.slice (some ⟨g,0,none⟩) n2 c2) w (w6.setCell ⟨g,i * 12 + 9,none⟩ (.int .i64 at_))):=Lib.hid (HC6.out.trans Chg.of_row)
   have HK7:=Lib.hid (K26.out.keepT hk7 (by decide))
   have HQ7:=Lib.hid trivial
   have Hi7 : Hid ((LV.set i ⟨y.f,at_,y.ans,y.done⟩)[i]? = some ⟨y.f,at_,y.ans,y.done⟩):=Lib.hid (List.getElem?_set_self (by rw [HN2.out];exact hin))
   generalize (w6.setCell ⟨g,i * 12 + 9,none⟩ (.int .i64 at_)) = w7 at *
   clear HO6 HT6 HF6 HC6 HQ6 hk7 K26 k1 k3 t7 gf g9 K16 K36
   have HR1 : Hid (∀ w',(∃ n : Later w7,w' = n.1) → w'.rangeAt g (i * 12) y.f.cells.toList):=Lib.hid fun w' ⟨n,e⟩ => by
    subst e
    exact range_below (range_left (B:=[.int .i64 at_, .bool y.ans, .bool y.done]) (HO7.out.cellsAt (x:=⟨y.f,at_,y.ans,y.done⟩) Hi7.out)) n.2 (own_lt HO7.out g rfl)
   have HR2 : Hid (∀ w',(∃ n : Later w7,w' = n.1) → w'.rangeAt F 0 FC.toList):=Lib.hid fun w' ⟨n,e⟩ => by
    subst e
    exact range_below (Blk.range HF7.out) n.2 HF7.out.lt
   have hE:=fun wz => neq_flow y.f f wz
   have hG:=fun a b wz => eqGuard_flow .neq a b y.f f wz (.inr rfl)
   rw [HFC.out] at hE hG
   have hYs : y.f.cells.size = 9:=rfl
   have g10 : w7.cell? ⟨g,i * 12 + 10,none⟩ = some (.bool y.ans):=HO7.out.get (j:=10) (x:=⟨y.f,at_,y.ans,y.done⟩) Hi7.out rfl
   have m10:=Later.cell_of g10
   have hun : Tryz.prog.underlying 63 = some (.struct (Tryz.prog.fieldsOf 63)):=by kernel_rfl
   obtain ⟨NA,hNA⟩ : ∃ NA,(y.ans || !y.f.eqB f) = NA:=⟨_,rfl⟩
   have HNA:=Lib.hid hNA
   clear hNA
   generalize y.f.cells = YC at *
   obtain ⟨EB,hEB⟩ : ∃ EB,y.f.eqB f = EB:=⟨_,rfl⟩
   have HEB:=Lib.hid hEB
   rw [hEB] at hE
   clear hEB
   obtain ⟨ya,hya⟩ : ∃ ya,y.ans = ya:=⟨_,rfl⟩
   have HYA:=Lib.hid hya
   rw [hya] at g10 m10
   clear hya
   have hw8 : ∀ w8,Below w7.heap.size w7 w8 → w8.cell? ⟨g,i * 12 + 10,none⟩ = some (.bool ya):=fun w8 hb => (hb.cell (p:=⟨g,i * 12 + 10,none⟩) (own_lt HO7.out g rfl)).trans g10
   have HW8:=Lib.hid hw8
   clear hw8
   refine wp_region_later_tail 13 (by kernel_rfl) (by kernel_rfl) ?_
   simp only [List.take_succ_cons,List.take_zero,List.drop_succ_cons,List.drop_zero]
   cases ya
   all_goals
    repeat (first | go_big_quiet_step (fail) | (refine wpQuiet_loadn rfl 63 _ rfl _ rfl g (i * 12) rfl YC HR1.out _ hun rfl 9 hFz hYs ?_;go_simp) | (refine wpQuiet_loadn rfl 63 _ rfl _ rfl F 0 rfl FC HR2.out _ hun rfl 9 hFz hFc ?_;go_simp))
    refine wpQuiet_nil ?_
   ·first
     | (rintro w8 ⟨m8,hm8⟩
        have hb : Below w7.heap.size w7 w8:=by rw [hm8];exact m8.2
        clear hm8 m8)
     | (rintro ⟨w8,hb⟩
        simp only)
    obtain ⟨na,hna⟩ : ∃ na : Bool,(!EB) = na:=⟨_,rfl⟩
    have HNa : Hid ((y.ans || !y.f.eqB f) = na):=Lib.hid (by rw [HYA.out,HEB.out, ← hna];rfl)
    rw [hna]
    clear hna
    have HO8:=Lib.hid (HO7.out.later hb)
    have HT8:=Lib.hid (HT7.out.below hb HT7.out.lt)
    have HC8 : Hid (Chg T lst (.slice (some ⟨g,0,none⟩) n2 c2) w w8):=Lib.hid (HC7.out.trans (Chg.of_below hb))
    have HK8:=Lib.hid (HK7.out.below hb HK7.out.lt)
    have g10:=HW8.out w8 hb
    have gf:=HO8.out.frozen
    clear hb HO7 HT7 HC7 HQ7 HR1 HR2 hE hG m10 HW8 HYA HEB HF7
    go_upto_region 10 with fail
    have Hi8 : Hid ((LV.set i ⟨y.f,at_,y.ans,y.done⟩)[i]? = some ⟨y.f,at_,y.ans,y.done⟩):=Hi7
    have HO9 : Hid (OwnK layTk (w8.setCell ⟨g,i * 12 + 10,none⟩ (.bool na)) B (.slice (some ⟨g,0,none⟩) n2 c2) (LV.set i ⟨y.f,at_,na,y.done⟩)):=Lib.hid (by
     have:=HO8.out.setTo (j:=10) (y:=⟨y.f,at_,na,y.done⟩) (v:=.bool na) Hi8.out (by decide) rfl
     rwa [List.set_set] at this)
    have hk9 : KeepT [65] w8 (w8.setCell ⟨g,i * 12 + 10,none⟩ (.bool na)):=KeepT.of_rowset HO8.out _ _
    have HT9:=Lib.hid (HT8.out.keepT hk9 (by decide))
    have HK9:=Lib.hid (HK8.out.keepT hk9 (by decide))
    have HC9 : Hid (Chg T lst (.slice (some ⟨g,0,none⟩) n2 c2) w (w8.setCell ⟨g,i * 12 + 10,none⟩ (.bool na))):=Lib.hid (HC8.out.trans Chg.of_row)
    generalize (w8.setCell ⟨g,i * 12 + 10,none⟩ (.bool na)) = w9 at *
    clear HO8 HT8 HC8 HK8 hk9 g10 gf
    have Hi9 : Hid ((LV.set i ⟨y.f,at_,na,y.done⟩)[i]? = some ⟨y.f,at_,na,y.done⟩):=Lib.hid (List.getElem?_set_self (by rw [HN2.out];exact hin))
    have g11 : w9.cell? ⟨g,i * 12 + 11,none⟩ = some (.bool y.done):=HO9.out.get (j:=11) Hi9.out rfl
    have gf:=HO9.out.frozen
    have x11:=HK9.out.cell 11
    have x12:=HK9.out.cell 12
    rw [HX11.out] at x11
    rw [HX12.out] at x12
    have HFin : Hid (∀ d : Bool,d = (y.done || dn) → OwnK layTk (w9.setCell ⟨g,i * 12 + 11,none⟩ (.bool d)) B (.slice (some ⟨g,0,none⟩) n2 c2) (LV.modify i (seenM f at_ dn))):=Lib.hid fun d hd => by
     have:=HO9.out.setTo (j:=11) (y:=⟨y.f,at_,na,d⟩) (v:=.bool d) Hi9.out (by decide) rfl
     rw [List.set_set] at this
     rw [modify_set _ Hi.out]
     unfold seenM
     rw [HNa.out, ← hd]
     exact this
    have HTin : Hid (∀ v : Value,Blk (w9.setCell ⟨g,i * 12 + 11,none⟩ v) T 80 (trC rs tv most at_ (.slice (some ⟨g,0,none⟩) n2 c2))):=Lib.hid fun v => HT9.out.keepT (KeepT.of_rowset HO9.out _ _) (by decide)
    have HCin : Hid (∀ v : Value,Chg T lst (.slice (some ⟨g,0,none⟩) n2 c2) w (w9.setCell ⟨g,i * 12 + 11,none⟩ v)):=Lib.hid fun v => HC9.out.trans Chg.of_row
    have HDd : Hid ((xf || xr) = dn):=HDn
    clear HO9 HT9 HC9 HK9 Hi9 Hi8 Hi7
    obtain ⟨yd,hyd⟩ : ∃ yd,y.done = yd:=⟨_,rfl⟩
    rw [hyd] at g11 HFin
    clear hyd
    cases yd
    ·cases xf
     ·go_wp2_with fail
      go_ret
      first | exact ⟨rfl,_,HTin.out _,HFin.out _ (by rw [← HDd.out];rfl),HCin.out _⟩ | exact ⟨_,rfl,HTin.out _,HFin.out _ (by rw [← HDd.out];rfl),HCin.out _⟩
     ·go_wp2_with fail
      go_ret
      first | exact ⟨rfl,_,HTin.out _,HFin.out _ (by rw [← HDd.out];rfl),HCin.out _⟩ | exact ⟨_,rfl,HTin.out _,HFin.out _ (by rw [← HDd.out];rfl),HCin.out _⟩
    ·go_wp2_with fail
     go_ret
     first | exact ⟨rfl,_,HTin.out _,HFin.out _ rfl,HCin.out _⟩ | exact ⟨_,rfl,HTin.out _,HFin.out _ rfl,HCin.out _⟩
   ·first
     | (rintro w8 ⟨m8,hm8⟩
        have hb : Below w7.heap.size w7 w8:=by rw [hm8];exact m8.2
        clear hm8 m8)
     | (rintro ⟨w8,hb⟩
        simp only)
    obtain ⟨na,hna⟩ : ∃ na : Bool,true = na:=⟨_,rfl⟩
    have HNa : Hid ((y.ans || !y.f.eqB f) = na):=Lib.hid (by rw [HYA.out,HEB.out, ← hna];rfl)
    rw [hna]
    clear hna
    have HO8:=Lib.hid (HO7.out.later hb)
    have HT8:=Lib.hid (HT7.out.below hb HT7.out.lt)
    have HC8 : Hid (Chg T lst (.slice (some ⟨g,0,none⟩) n2 c2) w w8):=Lib.hid (HC7.out.trans (Chg.of_below hb))
    have HK8:=Lib.hid (HK7.out.below hb HK7.out.lt)
    have g10:=HW8.out w8 hb
    have gf:=HO8.out.frozen
    clear hb HO7 HT7 HC7 HQ7 HR1 HR2 hE hG m10 HW8 HYA HEB HF7
    go_upto_region 10 with fail
    have Hi8 : Hid ((LV.set i ⟨y.f,at_,y.ans,y.done⟩)[i]? = some ⟨y.f,at_,y.ans,y.done⟩):=Hi7
    have HO9 : Hid (OwnK layTk (w8.setCell ⟨g,i * 12 + 10,none⟩ (.bool na)) B (.slice (some ⟨g,0,none⟩) n2 c2) (LV.set i ⟨y.f,at_,na,y.done⟩)):=Lib.hid (by
     have:=HO8.out.setTo (j:=10) (y:=⟨y.f,at_,na,y.done⟩) (v:=.bool na) Hi8.out (by decide) rfl
     rwa [List.set_set] at this)
    have hk9 : KeepT [65] w8 (w8.setCell ⟨g,i * 12 + 10,none⟩ (.bool na)):=KeepT.of_rowset HO8.out _ _
    have HT9:=Lib.hid (HT8.out.keepT hk9 (by decide))
    have HK9:=Lib.hid (HK8.out.keepT hk9 (by decide))
    have HC9 : Hid (Chg T lst (.slice (some ⟨g,0,none⟩) n2 c2) w (w8.setCell ⟨g,i * 12 + 10,none⟩ (.bool na))):=Lib.hid (HC8.out.trans Chg.of_row)
    generalize (w8.setCell ⟨g,i * 12 + 10,none⟩ (.bool na)) = w9 at *
    clear HO8 HT8 HC8 HK8 hk9 g10 gf
    have Hi9 : Hid ((LV.set i ⟨y.f,at_,na,y.done⟩)[i]? = some ⟨y.f,at_,na,y.done⟩):=Lib.hid (List.getElem?_set_self (by rw [HN2.out];exact hin))
    have g11 : w9.cell? ⟨g,i * 12 + 11,none⟩ = some (.bool y.done):=HO9.out.get (j:=11) Hi9.out rfl
    have gf:=HO9.out.frozen
    have x11:=HK9.out.cell 11
    have x12:=HK9.out.cell 12
    rw [HX11.out] at x11
    rw [HX12.out] at x12
    have HFin : Hid (∀ d : Bool,d = (y.done || dn) → OwnK layTk (w9.setCell ⟨g,i * 12 + 11,none⟩ (.bool d)) B (.slice (some ⟨g,0,none⟩) n2 c2) (LV.modify i (seenM f at_ dn))):=Lib.hid fun d hd => by
     have:=HO9.out.setTo (j:=11) (y:=⟨y.f,at_,na,d⟩) (v:=.bool d) Hi9.out (by decide) rfl
     rw [List.set_set] at this
     rw [modify_set _ Hi.out]
     unfold seenM
     rw [HNa.out, ← hd]
     exact this
    have HTin : Hid (∀ v : Value,Blk (w9.setCell ⟨g,i * 12 + 11,none⟩ v) T 80 (trC rs tv most at_ (.slice (some ⟨g,0,none⟩) n2 c2))):=Lib.hid fun v => HT9.out.keepT (KeepT.of_rowset HO9.out _ _) (by decide)
    have HCin : Hid (∀ v : Value,Chg T lst (.slice (some ⟨g,0,none⟩) n2 c2) w (w9.setCell ⟨g,i * 12 + 11,none⟩ v)):=Lib.hid fun v => HC9.out.trans Chg.of_row
    have HDd : Hid ((xf || xr) = dn):=HDn
    clear HO9 HT9 HC9 HK9 Hi9 Hi8 Hi7
    obtain ⟨yd,hyd⟩ : ∃ yd,y.done = yd:=⟨_,rfl⟩
    rw [hyd] at g11 HFin
    clear hyd
    cases yd
    ·cases xf
     ·go_wp2_with fail
      go_ret
      first | exact ⟨rfl,_,HTin.out _,HFin.out _ (by rw [← HDd.out];rfl),HCin.out _⟩ | exact ⟨_,rfl,HTin.out _,HFin.out _ (by rw [← HDd.out];rfl),HCin.out _⟩
     ·go_wp2_with fail
      go_ret
      first | exact ⟨rfl,_,HTin.out _,HFin.out _ (by rw [← HDd.out];rfl),HCin.out _⟩ | exact ⟨_,rfl,HTin.out _,HFin.out _ (by rw [← HDd.out];rfl),HCin.out _⟩
    ·go_wp2_with fail
     go_ret
     first | exact ⟨rfl,_,HTin.out _,HFin.out _ rfl,HCin.out _⟩ | exact ⟨_,rfl,HTin.out _,HFin.out _ rfl,HCin.out _⟩
theorem nilTk (w : World) (a : Option Addr) (l c : Nat) : (binOp .eql 42 (.slice a l c) (.slice none 0 0)).run Tryz.prog w = .ok (.bool a.isNone) w :=
 Lib.run_eql_slice_nil (h:=Tryz.underlying42) ..
theorem cloneTk_any (ad : Option Addr) (n c : Nat) (L : List TK) (w : World) (h : RdK layTk w ad L) (hn : L.length = n) (hs : n ≤ 1000000) :
  Calls Tryz.prog 55 #[.slice ad n c] w fun e w' => ∃ v,e = .returned v ∧ OwnK layTk w' w.heap.size v L ∧ Below w.heap.size w w':=by
 cases ad with
 | none =>
   have en:=fun w => nilTk w none n c
   simp only [Option.isNone_none] at en
   have hL : Hid (L = []):=Lib.hid h.none_
   clear h hn hs
   go_enter Tryz.func55,Tryz.ntmps55
   go_wp2
   go_ret
   exact ⟨_,rfl,by rw [hL.out];exact OwnK.nil _ _ _,Below.refl _ _⟩
 | some a =>
   have en:=fun w => nilTk w (some a) n c
   simp only [Option.isNone_some] at en
   subst hn
   have HS:=Lib.hid h.src
   have hB : Hid (Below w.heap.size w (w.alloc (.cells #[] layTk.ty (0,0)))):=Lib.hid (below_alloc (Below.refl _ _) _)
   clear h
   go_enter Tryz.func55,Tryz.ntmps55
   go_wp2_with (at_builtin;refine wpList_app tkE rfl (.tmp 5) (.tmp 6) rfl rfl (ownK_empty layTk w) rfl (src_later HS.out hB.out) (layTk.all_one L) ?c2 ?c3 ?c4 ?_)
   case c2 => unfold maxLen;simp only [List.length_nil];omega
   case c3 => simp only [List.length_nil];omega
   case c4 => simp
   intro v' w' hO hG
   have HO : Hid (OwnK layTk w' w.heap.size v' L):=Lib.hid hO
   have HG:=Lib.hid hG
   clear hO hG
   go_wp2
   go_ret
   exact ⟨_,rfl,HO.out,HG.out.below (u:=.slice (some ⟨w.heap.size,0,none⟩) 0 0) (by simp) (by intro k hk;simp [Value.ownBlock] at hk;omega) |> (below_alloc (Below.refl _ _) _).trans⟩
def delTkR (g n c i : Nat) (M : List TK) : Nat → Value → World → Prop
 | 0,v,_ => v = .slice (some ⟨g,0,none⟩) n c
 | 1,v,_ => v = .int .i64 (i : Int)
 | 2,v,_ => v = .slice (some ⟨g,0,none⟩) i c
 | 3,v,_ => v = .slice (some ⟨g,0,none⟩) n c
 | 4,v,_ => v = .int .i64 ((i : Int) + 1)
 | _,v,w => ∃ ad m c2,v = .slice ad m c2 ∧ Src w ad m layTk.K (layTk.all M) ∧ M.length = m
theorem delTkR_keep {g n c i : Nat} {M : List TK} (p : Nat) (v : Value) (u w : World) (h : delTkR g n c i M p v u) (hb : Below u.heap.size u w) : delTkR g n c i M p v w:=by
 rcases p with _ | _ | _ | _ | _ | p
 all_goals first
  | exact h
  | (obtain ⟨ad,m,c2,h1,h2,h3⟩:=h;exact ⟨ad,m,c2,h1,src_later h2 hb,h3⟩)
theorem deleteTk_any (B : Nat) (ad : Option Addr) (n c i : Nat) (L : List TK) (w : World) (h : OwnK layTk w B (.slice ad n c) L) (hs : n ≤ 1000000) (hB : B ≤ w.heap.size) (hi : i < n) :
  Calls Tryz.prog 92 #[.slice ad n c, .int .i64 (i : Int), .int .i64 ((i : Int) + 1)] w fun e w' => ∃ v,e = .returned v ∧ OwnK layTk w' B v (L.eraseIdx i) ∧ Grew w w' (.slice ad n c) v:=by
 have hn : L.length = n:=by
  obtain ⟨_,_,hv,_⟩:=h.form
  injection hv with _ e _
  exact e.symm
 obtain ⟨g,c',hv,hBg, -⟩:=h.one (by rw [hn];omega)
 injection hv with hv q1 q2
 subst hv
 clear q1 q2
 have HO:=Lib.hid h
 have Hn:=Lib.hid hn
 have hnc : n ≤ c:=h.block.2.2.1
 have hcm:=h.block.2.2.2.1
 have hcm2 : c ≤ 9223372036854775807:=by unfold maxLen at hcm;omega
 have HE : Hid (L.eraseIdx i = L.take i ++ L.drop (i + 1)):=Lib.hid (List.eraseIdx_eq_take_drop_succ _ _)
 have HR : Hid (∀ wx,Below w.heap.size w wx → OwnK layTk wx B (.slice (some ⟨g,0,none⟩) i c) (L.take i) ∧ OwnK layTk wx B (.slice (some ⟨g,0,none⟩) n c) L):=Lib.hid fun wx hb => ⟨(HO.out.later hb).take (by omega),HO.out.later hb⟩
 clear h hn hcm
 have e1 : ((i : Int) == (i : Int) + 1) = false:=beq_eq_false_iff_ne.2 (by omega)
 have i0 : (0 : Int) ≤ (i : Int):=by omega
 have i1 : (i : Int) + 1 ≤ (n : Int):=by omega
 have i2 : (i : Int) + 1 ≤ (c : Int):=by omega
 have i3 : (n : Int) ≤ (c : Int):=by omega
 go_enter Tryz.func92,Tryz.ntmps92
 go_upto_region 5 with fail
 refine wp_region_inv 6 0 (delTkR g n c i (L.drop (i + 1))) (fun _ wx => Below w.heap.size w wx) (fun u v => Below u.heap.size u v) (fun _ => 0)
  (by kernel_rfl) (by kernel_rfl) (by decide) delTkR_keep (below_drew (Below.refl _ _)) ?hX
 case' hX => (apply Exists.intro;refine ⟨fun T => ?hA,?hob,?hend⟩)
 case hA =>
  simp only [setAll,List.take_succ_cons,List.take_zero,Act.put,List.setIfInBounds_toArray,List.set_cons_succ,List.set_cons_zero,Nat.reduceAdd]
  exact rfl
 case hob =>
  go_light
  refine ⟨?_,?_,?_,?_,?_,?_,trivial⟩
  all_goals (intro T wx n0 hC hn hp;dsimp only at hn ⊢;unfold Op1)
  ·go_simp
   exact ⟨rfl,Below.refl _ _⟩
  ·go_simp
   exact ⟨rfl,Below.refl _ _⟩
  ·obtain ⟨h0,h1, -⟩:=hp
   have h0 : T 0 = .slice (some ⟨g,0,none⟩) n c:=h0
   have h1 : T 1 = .int .i64 (i : Int):=h1
   have i4 : (i : Int) ≤ (c : Int):=by omega
   go_simp
   exact ⟨by show _ = _;simp,Below.refl _ _⟩
  ·go_simp
   exact ⟨rfl,Below.refl _ _⟩
  ·go_simp
   exact ⟨rfl,Below.refl _ _⟩
  ·obtain ⟨h0,h1, -⟩:=hp
   have h0 : T 3 = .slice (some ⟨g,0,none⟩) n c:=h0
   have h1 : T 4 = .int .i64 ((i : Int) + 1):=h1
   have i4 : (0 : Int) ≤ (i : Int) + 1:=by omega
   have e0 : ((i : Int) + 1).toNat = i + 1:=by omega
   have hsr : Src wx (if c = i + 1 then some ⟨g,0,none⟩ else some (⟨g,(i + 1) * 12,none⟩ : Addr)) (n - (i + 1)) layTk.K (layTk.all (L.drop (i + 1))):=by
    refine ⟨by rw [layTk.all_len,List.length_drop,Hn.out],fun j u hu => ?_⟩
    have hj : j < (n - (i + 1)) * 12:=by
     have:=(List.getElem?_eq_some_iff.1 hu).1
     rw [layTk.all_len,List.length_drop,Hn.out] at this
     exact this
    have hne : ¬ c = i + 1:=fun h => by
     have : n - (i + 1) = 0:=by omega
     rw [this] at hj;simp at hj
    refine ⟨⟨g,(i + 1) * 12,none⟩,by rw [if_neg hne],Nat.lt_of_lt_of_le (own_lt HO.out g rfl) hC.size,?_⟩
    have hadd : (⟨g,(i + 1) * 12,none⟩ : Addr).add j = ⟨g,(i + 1) * 12 + j,none⟩:=by unfold Addr.add;split <;> simp_all
    obtain ⟨x,hx,hc2⟩:=layTk.all_cut (L.drop (i + 1)) j (by rw [List.length_drop,Hn.out];exact hj)
    rw [List.getElem?_drop] at hx
    have hu' : (layTk.enc x)[j % 12]? = some u:=hc2.symm.trans hu
    have hg:=((HR.out wx hC).2).get (i:=i + 1 + j / 12) (j:=j % 12) hx hu'
    rw [hadd, ← hg]
    show wx.cell? ⟨g,(i + 1) * 12 + j,none⟩ = wx.cell? ⟨g,(i + 1 + j / 12) * 12 + j % 12,none⟩
    rw [show (i + 1) * 12 + j = (i + 1 + j / 12) * 12 + j % 12 by omega]
   by_cases hci : c = i + 1
   ·rw [if_pos hci] at hsr
    have HS:=Lib.hid hsr
    clear hsr
    go_simp
    exact ⟨⟨_,_,_,rfl,HS.out,by rw [List.length_drop,Hn.out]⟩,Below.refl _ _⟩
   ·rw [if_neg hci] at hsr
    have HS:=Lib.hid hsr
    clear hsr
    go_simp
    exact ⟨⟨_,_,_,rfl,HS.out,by rw [List.length_drop,Hn.out]⟩,Below.refl _ _⟩
 case hend =>
  intro T w4 ⟨n0,hn0,hb⟩ hR
  have hT2 : T 2 = .slice (some ⟨g,0,none⟩) i c:=hR 2 (by omega)
  obtain ⟨ad5,m5,c5,hT5,hS5,hm5⟩:=hR 5 (by omega)
  have HS5:=Lib.hid hS5
  have HO4:=Lib.hid (HR.out w4 hb).1
  have HG4 : Hid (Grew w w4 (.slice (some ⟨g,0,none⟩) n c) (.slice (some ⟨g,0,none⟩) n c)):=Lib.hid ⟨⟨hb.os,hb.tape,hb.output,hb.size,fun j hj _ => hb.block j hj⟩, .inl rfl⟩
  have hm5' : m5 = n - (i + 1):=by rw [← hm5,List.length_drop,Hn.out]
  subst hm5'
  have Hm5:=Lib.hid hm5
  clear hR hb hS5 HR hm5
  simp only [List.drop_succ_cons,List.drop_zero]
  refine wpList_app_fit (c2:=c5) tkE rfl (.tmp 22) (.tmp 25) rfl ?hs HO4.out ?hx HS5.out Hm5.out ?c1 ?_
  case hs => exact hT2
  case hx => exact hT5
  case c1 => omega
  intro w5 hO hG
  have e5 : i + (n - (i + 1)) = n - 1:=by omega
  rw [e5] at hO ⊢
  have HO5 : Hid (OwnK layTk w5 B (.slice (some ⟨g,0,none⟩) (n - 1) c) (L.eraseIdx i)):=Lib.hid (by rw [HE.out];exact hO)
  have HG5 : Hid (Grew w w5 (.slice (some ⟨g,0,none⟩) n c) (.slice (some ⟨g,0,none⟩) n c)):=Lib.hid (HG4.out.trans ⟨hG, .inl rfl⟩)
  obtain ⟨n1,hn1⟩ : ∃ n1,n = n1 + 1:=⟨n - 1,by omega⟩
  subst hn1
  rw [Nat.add_sub_cancel] at HO5 ⊢
  clear hO hG HO4 HG4 HS5 Hm5 hT2 hT5 e5
  obtain ⟨zv,hz1,hz2,hz3⟩:=zval_tk
  have hth : w5.there g (n1 * 12) 12:=fun j hj => by
   obtain ⟨_,_,_,_,cur,hg,hs,_⟩:=HO5.out.block
   refine ⟨?_,HO5.out.frozen _⟩
   rw [cell_of_row w5 g _ _ _ _ hg,Array.getElem?_eq_getElem (by
    rw [hs]
    show n1 * 12 + j < c * 12
    have:=Nat.mul_le_mul_right 12 hnc
    omega)]
   rfl
  have HCL : ∀ ty c',(Builtin.clear_ #[42] ty #[.slice (some ⟨g,n1 * 12,none⟩) 1 c']).run Tryz.prog w5 = .ok (.tuple #[]) (w5.setCells g (n1 * 12) (Builtin.zeroCells zv.cells 1).toList):=fun ty c' =>
   run_clear_rows w5 42 65 ty zv Tryz.underlying42 hz2 hz3 g (n1 * 12) 1 c' (by omega) (by rw [hz1,Nat.one_mul];exact hth) (by rw [hz1];decide)
  have HOW:=Lib.hid (HO5.out.cut (i:=n1) (Nat.le_refl _) (Builtin.zeroCells zv.cells 1).toList)
  have HGW : Hid (Grew w (w5.setCells g (n1 * 12) (Builtin.zeroCells zv.cells 1).toList) (.slice (some ⟨g,0,none⟩) (n1 + 1) c) (.slice (some ⟨g,0,none⟩) n1 c)):=Lib.hid (HG5.out.trans ⟨grown_setCells g _ (n1 * 12) w5, .inl rfl⟩)
  have HL : Hid ((L.eraseIdx i).take n1 = L.eraseIdx i):=Lib.hid (List.take_of_length_le (by rw [← HO5.out.block.1];exact Nat.le_refl _))
  rw [HL.out] at HOW
  have hci : ¬ c = n1:=by omega
  clear hz1 hz2 hz3 HL hth HO5 HG5 HE
  generalize (Builtin.zeroCells zv.cells 1).toList = ZS at *
  go_wp2_with fail
  go_ret
  exact ⟨_,rfl,HOW.out,HGW.out⟩
theorem Op1.appR {P : Program} {t e : TypeId} {size bytes : Nat} (E : EI P t e size bytes) {w : World} {o : Oper} {ρ : Operand → Value} {post : Value → World → Prop} (s x : Operand)
  (ho : o.op = .call { callee:=.builtin .append,args:=#[s,x],argTypes:=#[t,t] })
  {base : Nat} {v : Value} {n : Nat} {xs : List Value} (hs : ρ s = v) (hown : w.ownsRow base e size v n xs)
  {ad : Option Addr} {m c : Nat} {news : List Value} (hx : ρ x = .slice ad m c) (hsrc : Src w ad m size news) (h1 : ∀ u ∈ news,u.oneCell' = true)
  (h63 : n + m ≤ maxLen) (hbytes : (n + m) * bytes ≤ 140737488355328) (hbase : base ≤ w.heap.size)
  (h : ∀ v' w',w'.ownsRow base e size v' (n + m) (xs ++ news) → Grew w w' v v' → post v' w') : Op1 P o ρ w post:=by
 obtain ⟨v',w',hr,h2,h3⟩:=run_append_src E w base o.type v n xs hown ad m c news hsrc h1 h63 hbytes hbase
 unfold Op1 execOp
 simp only [ho,resolve,invoke,builtin,Sem.run_bind,Sem.run_pure,Result.andThen_ok,List.map_toArray,List.map_cons,List.map_nil,hs,hx,hr]
 exact h v' w' h2 h3
theorem wpList_var3 {P : Program} {ops : Array Oper} {rest : List Oper} {o1 o2 o3 : Oper} {a : Act} {Q : Exit → Act → World → Prop} {w : World} (c' : Array Value) (ty : TypeId) {z : Value} (hz : ∀ w,(zeroValue ty).run P w = .ok z w)
  (h1 : o1.guard = none) (e1 : o1.op = .alloc ty) (h2 : o2.guard = none) (u : Operand) (e2 : o2.op = .assign u) (h3 : o3.guard = none) (x y : Operand) (e3 : o3.op = .store ty x y) (d : Option Tmp) (hd : o1.dst = d) (a2 : Act) (ha2 : a2 = ((a.put d (.pointer (some ⟨w.heap.size,0,none⟩))).put o2.dst ((a.put d (.pointer (some ⟨w.heap.size,0,none⟩))).eval u)))
  (hx : a2.eval x = .pointer (some ⟨w.heap.size,0,none⟩)) (hy : a2.eval y = .agg c')
  (m : Nat) (hi : (P.info? ty).map (·.size) = some m) (hm : c'.size = m) (hs : z.cells.size = m) (hone : c'.all (·.oneCell') = true)
  (h : wpList P ops Q rest (a2.put o3.dst undef) (w.alloc (.cells c' ty (0,0)))) : wpList P ops Q (o1 :: o2 :: o3 :: rest) a w:=by
 subst hd hm ha2
 refine wpList_plain h1 fun K hK => ?_
 unfold Oper.wp execOp
 simp only [e1,Sem.run_bind,alloc_of hz w,Sem.run_pure,Result.andThen_ok]
 refine hK _ _ (wpList_plain h2 fun K2 hK2 => ?_)
 unfold Oper.wp execOp
 simp only [e2,Sem.run_pure]
 exact hK2 _ _ (wpList_store_newb h3 ty x y e3 hx hy hi hs hone h)
def trS (n : Nat) (w : World) (n' : Nat) (w' : World) : Prop:=(n' = n ∧ n = 0 ∧ Below w.heap.size w w') ∨ (w' = w ∧ n' = n) ∨ (n = 0 ∧ n' = 1)
def tr1R (T p o : Nat) (X : Array Value) (f : FV) (at_ : Int) (lst : Value) (fin rst : Bool) (B0 : Nat) (L : List TK) (w0 : World) : Nat → Value → Nat → World → Prop
 | 0,v,_,_ => v = .pointer (some ⟨T,0,none⟩)
 | 1,v,_,_ => v = .pointer (some ⟨T,0,none⟩)
 | 2,v,_,_ => v = .pointer (some ⟨T,0,none⟩)
 | 3,v,_,_ => v = .pointer (some ⟨T,o,none⟩)
 | 4,v,_,_ => v = lst
 | 5,v,_,_ => v = .agg X
 | 6,v,_,_ => v = .agg f.cells
 | 7,v,_,_ => v = .int .i64 at_
 | 8,v,_,_ => v = .pointer (some ⟨p,11,none⟩)
 | 9,v,_,_ => v = .bool fin
 | 10,v,_,_ => v = .bool fin
 | 11,v,_,_ => fin = false → v = .pointer (some ⟨p,12,none⟩)
 | 12,v,_,_ => fin = false → v = .bool rst
 | 13,v,_,_ => v = .bool (fin || rst)
 | 14,v,_,_ => v = .agg (tkC (newT f (fin || rst) at_)).toArray
 | 15,v,n,w => n = 0 → ∃ B,v = .slice (some ⟨B,0,none⟩) 1 1 ∧ Blk w B 65 (tkC (newT f (fin || rst) at_)).toArray
 | _,v,n,w => n = 1 ∧ OwnK layTk w B0 v (L ++ [newT f (fin || rst) at_]) ∧ Grew w0 w lst v
theorem tr1R_keep {T p o : Nat} {X : Array Value} {f : FV} {at_ : Int} {lst : Value} {fin rst : Bool} {B0 : Nat} {L : List TK} {w0 : World} (q : Nat) (v : Value) (n : Nat) (u : World) (m : Nat) (w : World) (h : tr1R T p o X f at_ lst fin rst B0 L w0 q v n u) (hb : trS n u m w) : tr1R T p o X f at_ lst fin rst B0 L w0 q v m w:=by
 rcases q with _ | _ | _ | _ | _ | _ | _ | _ | _ | _ | _ | _ | _ | _ | _ | _ | q
 all_goals first
  | exact h
  | (rcases hb with ⟨rfl,h0,hb⟩ | ⟨rfl,rfl⟩ | ⟨h0,h1⟩
     ·first
       | exact absurd (h0.symm.trans h.1) (by decide)
       | exact fun hm => by
           obtain ⟨B,h1,h2⟩:=h h0
           exact ⟨B,h1,h2.below hb h2.lt⟩
     ·exact h
     ·first
       | exact absurd (h0.symm.trans h.1) (by decide)
       | exact fun hm => absurd (hm.symm.trans h1) (by decide))
theorem ttrack_any (T B : Nat) (rs : Value) (tv : TV) (most last : Int) (lst : Value) (L : List TK) (x : PV) (at_ : Int) (w : World) (hT : Blk w T 80 (trC rs tv most last lst)) (hL : OwnK layTk w B lst L) (hB : B ≤ w.heap.size) (hs : L.length ≤ 1000) (hm : 1 ≤ most ∧ most ≤ 1000) :
  Calls Tryz.prog 48 #[.pointer (some ⟨T,0,none⟩), .agg x.cells, .int .i64 at_] w fun e w' => ∃ lst',e = .returned (.tuple #[]) ∧ Blk w' T 80 (trC rs tv most last lst') ∧ OwnK layTk w' B lst' (trackM most x.flow (x.fin || x.rst) at_ L) ∧ Chg T lst lst' w w':=by
 obtain ⟨TM,hTM⟩ : ∃ TM,trackM most x.flow (x.fin || x.rst) at_ L = TM:=⟨_,rfl⟩
 have HTM : Hid (TM = if ((L.length : Int) + 1) ≤ most then L ++ [newT x.flow (x.fin || x.rst) at_] else (L ++ [newT x.flow (x.fin || x.rst) at_]).eraseIdx (leastK (L ++ [newT x.flow (x.fin || x.rst) at_]) (L.length + 1))):=Lib.hid hTM.symm
 rw [hTM]
 clear hTM
 have HK1 : Hid (Blk (w.alloc (.cells x.cells 52 (0,0))) w.heap.size 52 x.cells):=Lib.hid (Blk.new w _ _)
 have hb0 : Below w.heap.size w (w.alloc (.cells x.cells 52 (0,0))):=below_alloc (Below.refl _ _) _
 have HT1:=Lib.hid (hT.below hb0 hT.lt)
 have HL1:=Lib.hid (hL.later hb0)
 have HC1 : Hid (Chg T lst lst w (w.alloc (.cells x.cells 52 (0,0)))):=Lib.hid (Chg.of_below hb0)
 have hTw:=hT.lt
 have HB1 : Hid (B ≤ (w.alloc (.cells x.cells 52 (0,0))).heap.size):=Lib.hid (Nat.le_trans hB hb0.size)
 obtain ⟨ad,c,hlst, -⟩:=hL.form
 clear hT hL hb0
 have hXs : x.cells.size = 19:=rfl
 have hXz : (Tryz.prog.info? 52).map (·.size) = some 19:=by kernel_rfl
 have hXu : Tryz.prog.underlying 52 = some (.struct (Tryz.prog.fieldsOf 52)):=by kernel_rfl
 have hX11 : x.cells[11]? = some (.bool x.fin):=rfl
 have hX12 : x.cells[12]? = some (.bool x.rst):=rfl
 go_enter Tryz.func48,Tryz.ntmps48
 go_upto_region 1 with fail
 generalize (w.alloc (.cells x.cells 52 (0,0))) = w1 at *
 generalize hp : w.heap.size = p at *
 clear hp
 have HFl:=Lib.hid fun wx => flowOf_any x wx
 have HX11:=Lib.hid hX11
 have HX12:=Lib.hid hX12
 obtain ⟨f,hf⟩ : ∃ f,x.flow = f:=⟨_,rfl⟩
 rw [hf] at HFl HTM
 clear hf hX11 hX12
 generalize x.fin = xf at *
 generalize x.rst = xr at *
 generalize x.cells = X at *
 refine Lm.wp_region_lim 17 1 (tr1R T p 7 X f at_ lst xf xr B L w1) (seC w1) trS (fun i => if i = 16 then 1 else 0) (fun i => if i = 0 then 1 else 0)
  (by kernel_rfl) (by kernel_rfl) (by decide) (by kernel_rfl) tr1R_keep ⟨KeepT.of_below (below_drew (Below.refl _ _)),fun _ => below_drew (Below.refl _ _)⟩ ?hX
 case' hX => (apply Exists.intro;refine ⟨fun TT => ?hA,?hob,?hend⟩)
 case hA =>
  simp only [setAll,List.take_succ_cons,List.take_zero,Act.put,List.setIfInBounds_toArray,List.set_cons_succ,List.set_cons_zero,Nat.reduceAdd]
  exact rfl
 case hob =>
  clear HC1 HTM
  go_light
  refine ⟨?_,?_,?_,?_,?_,?_,?_,?_,?_,?_,?_,?_,?_,?_,?_,?_,?_,trivial⟩
  all_goals (intro TT wx n0 hC hn hp;dsimp only at hn ⊢)
  ·unfold Op1
   go_simp
   first | exact ⟨rfl,hC, .inr (.inl ⟨rfl,rfl⟩)⟩ | exact ⟨rfl, .inr (.inl ⟨rfl,rfl⟩)⟩ | exact .inr (.inl ⟨rfl,rfl⟩)
  ·unfold Op1
   go_simp
   first | exact ⟨rfl,hC, .inr (.inl ⟨rfl,rfl⟩)⟩ | exact ⟨rfl, .inr (.inl ⟨rfl,rfl⟩)⟩ | exact .inr (.inl ⟨rfl,rfl⟩)
  ·obtain ⟨h0, -⟩:=hp
   have h0 : TT 1 = .pointer (some ⟨T,0,none⟩):=h0
   unfold Op1
   go_simp
   first | exact ⟨rfl,hC, .inr (.inl ⟨rfl,rfl⟩)⟩ | exact ⟨rfl, .inr (.inl ⟨rfl,rfl⟩)⟩ | exact .inr (.inl ⟨rfl,rfl⟩)
  ·obtain ⟨h0, -⟩:=hp
   have h0 : TT 2 = .pointer (some ⟨T,0,none⟩):=h0
   unfold Op1
   go_simp
   first | exact ⟨rfl,hC, .inr (.inl ⟨rfl,rfl⟩)⟩ | exact ⟨rfl, .inr (.inl ⟨rfl,rfl⟩)⟩ | exact .inr (.inl ⟨rfl,rfl⟩)
  ·obtain ⟨h0, -⟩:=hp
   have h0 : TT 3 = .pointer (some ⟨T,7,none⟩):=h0
   have e0:=(HT1.out.keepT hC.1 (by decide)).cell 7
   simp [trC] at e0
   clear hlst
   unfold Op1
   go_simp
   first | exact ⟨rfl,hC, .inr (.inl ⟨rfl,rfl⟩)⟩ | exact ⟨rfl, .inr (.inl ⟨rfl,rfl⟩)⟩ | exact .inr (.inl ⟨rfl,rfl⟩)
  ·exact Op1.loadn 52 (.tmp 4) rfl p 0 rfl X.toList _ (Blk.range (HK1.out.keepT hC.1 (by decide) : Blk wx p 52 X.toList.toArray)) hXu rfl 19 hXz (by simpa using hXs) ⟨rfl,hC, .inr (.inl ⟨rfl,rfl⟩)⟩
  ·obtain ⟨h0, -⟩:=hp
   have h0 : TT 5 = .agg X:=h0
   unfold Op1
   go_simp
   refine (HFl.out wx).mono ?_
   rintro e w5 ⟨rfl,hb⟩
   have hn0 : n0 = 0:=by simpa using hn
   subst hn0
   exact ⟨_,rfl,rfl,⟨hC.1.trans (KeepT.of_below hb),fun _ => (hC.2 rfl).trans (hb.mono (hC.2 rfl).size)⟩, .inl ⟨rfl,rfl,hb⟩⟩
  ·unfold Op1
   go_simp
   first | exact ⟨rfl,hC, .inr (.inl ⟨rfl,rfl⟩)⟩ | exact ⟨rfl, .inr (.inl ⟨rfl,rfl⟩)⟩ | exact .inr (.inl ⟨rfl,rfl⟩)
  ·unfold Op1
   go_simp
   first | exact ⟨rfl,hC, .inr (.inl ⟨rfl,rfl⟩)⟩ | exact ⟨rfl, .inr (.inl ⟨rfl,rfl⟩)⟩ | exact .inr (.inl ⟨rfl,rfl⟩)
  ·obtain ⟨h0, -⟩:=hp
   have h0 : TT 8 = .pointer (some ⟨p,11,none⟩):=h0
   have e0:=(HK1.out.keepT hC.1 (by decide)).cell 11
   rw [HX11.out] at e0
   unfold Op1
   go_simp
   first | exact ⟨rfl,hC, .inr (.inl ⟨rfl,rfl⟩)⟩ | exact ⟨rfl, .inr (.inl ⟨rfl,rfl⟩)⟩ | exact .inr (.inl ⟨rfl,rfl⟩)
  ·obtain ⟨h0, -⟩:=hp
   have h0 : TT 9 = .bool xf:=h0
   unfold Op1
   go_simp
   first | exact ⟨rfl,hC, .inr (.inl ⟨rfl,rfl⟩)⟩ | exact ⟨rfl, .inr (.inl ⟨rfl,rfl⟩)⟩ | exact .inr (.inl ⟨rfl,rfl⟩)
  ·refine ⟨fun hg => ?_,fun hg => ?_⟩
   ·unfold Op1
    go_simp
    first | exact ⟨fun _ => rfl,hC, .inr (.inl ⟨rfl,rfl⟩)⟩ | exact ⟨fun _ => rfl, .inr (.inl ⟨rfl,rfl⟩)⟩ | exact .inr (.inl ⟨rfl,rfl⟩)
   ·obtain ⟨h0, -⟩:=hp
    have h0 : TT 10 = .bool xf:=h0
    exact ⟨fun h => absurd (by rw [h0,h]) hg,hC, .inr (.inl ⟨rfl,rfl⟩)⟩
  ·obtain ⟨h1,h0, -⟩:=hp
   have h0 : TT 10 = .bool xf:=h0
   have h1 : xf = false → TT 11 = .pointer (some ⟨p,12,none⟩):=h1
   refine ⟨fun hg => ?_,fun hg => ?_⟩
   ·have hxf : xf = false:=by
     rw [h0] at hg
     injection hg
    have h1:=h1 hxf
    have e0:=(HK1.out.keepT hC.1 (by decide)).cell 12
    rw [HX12.out] at e0
    unfold Op1
    go_simp
    first | exact ⟨fun _ => rfl,hC, .inr (.inl ⟨rfl,rfl⟩)⟩ | exact ⟨fun _ => rfl, .inr (.inl ⟨rfl,rfl⟩)⟩ | exact .inr (.inl ⟨rfl,rfl⟩)
   ·exact ⟨fun h => absurd (by rw [h0,h]) hg,hC, .inr (.inl ⟨rfl,rfl⟩)⟩
  ·obtain ⟨h0,h1, -⟩:=hp
   have h0 : TT 10 = .bool xf:=h0
   have h1 : xf = false → TT 12 = .bool xr:=h1
   unfold Op1
   cases xf
   ·have h1:=h1 rfl
    go_simp
    first | exact ⟨rfl,hC, .inr (.inl ⟨rfl,rfl⟩)⟩ | exact ⟨rfl, .inr (.inl ⟨rfl,rfl⟩)⟩ | exact .inr (.inl ⟨rfl,rfl⟩)
   ·go_simp
    first | exact ⟨rfl,hC, .inr (.inl ⟨rfl,rfl⟩)⟩ | exact ⟨rfl, .inr (.inl ⟨rfl,rfl⟩)⟩ | exact .inr (.inl ⟨rfl,rfl⟩)
  ·obtain ⟨h0,h1,h2, -⟩:=hp
   have h0 : TT 6 = .agg f.cells:=h0
   have h1 : TT 7 = .int .i64 at_:=h1
   have h2 : TT 13 = .bool (xf || xr):=h2
   unfold FV.cells at h0
   unfold Op1
   go_simp
   first | exact ⟨rfl,hC, .inr (.inl ⟨rfl,rfl⟩)⟩ | exact ⟨rfl, .inr (.inl ⟨rfl,rfl⟩)⟩ | exact .inr (.inl ⟨rfl,rfl⟩)
  ·obtain ⟨h0, -⟩:=hp
   have h0 : TT 14 = .agg (tkC (newT f (xf || xr) at_)).toArray:=h0
   unfold Op1
   generalize hz : newT f (xf || xr) at_ = z at *
   obtain ⟨⟨fp,s1,h1,l1,s2,h2,l2,ff,ft⟩,la,an,dn⟩:=z
   simp only [tkC] at h0
   go_simp
   have hn0 : n0 = 0:=by simpa using hn
   subst hn0
   refine ⟨fun _ => ⟨wx.heap.size,rfl,?_⟩,⟨hC.1.alloc _,fun _ => below_alloc (hC.2 rfl) _⟩, .inl ⟨rfl,rfl,below_alloc (Below.refl _ _) _⟩⟩
   rw [hz]
   exact Blk.new wx _ _
  ·obtain ⟨h0,h1, -⟩:=hp
   have hn0 : n0 = 0:=by simpa using hn
   subst hn0
   have h0 : TT 4 = lst:=h0
   obtain ⟨bk,h1,hBk⟩ : ∃ B,TT 15 = .slice (some ⟨B,0,none⟩) 1 1 ∧ Blk wx B 65 (tkC (newT f (xf || xr) at_)).toArray:=h1 rfl
   have hbx:=hC.2 rfl
   refine Op1.appR (c:=1) tkE (.tmp 13) (.tmp 24) rfl h0 (HL1.out.later hbx) h1 (src_blk layTk _ hBk rfl) (layTk.one _) (by unfold maxLen;omega) (by omega) (Nat.le_trans HB1.out hbx.size) ?_
   intro v' w' hO hG
   have hG1 : Grew w1 w' lst v':=(⟨⟨hbx.os,hbx.tape,hbx.output,hbx.size,fun j hj _ => hbx.block j hj⟩, .inl rfl⟩ : Grew w1 wx lst lst).trans hG
   exact ⟨⟨rfl,OwnK.snoc hO,hG1⟩,⟨KeepT.of_grew (E:=layTk) HL1.out hG1 (by simp [layTk]),fun h => absurd h (by decide)⟩, .inr (.inr ⟨rfl,rfl⟩)⟩
 case hend =>
  intro TT w2 ⟨n0,hn0,hC,hR⟩
  have hT0 : TT 0 = .pointer (some ⟨T,0,none⟩):=hR 0 (by omega)
  obtain ⟨hn1,hO,hG⟩:=hR 16 (by omega)
  obtain ⟨lv,hlv⟩ : ∃ lv,TT 16 = lv:=⟨_,rfl⟩
  rw [hlv] at hO hG
  have HT2:=Lib.hid (HT1.out.keepT hC.1 (by decide))
  have HC2 : Hid (Chg T lst lv w w2):=Lib.hid (HC1.out.trans (Chg.of_grew hG))
  have hBw : B ≤ w2.heap.size:=Nat.le_trans HB1.out hC.1.1
  have HO2:=Lib.hid hO
  obtain ⟨a2,c2,hlv2, -⟩:=hO.form
  have hl2 : (L ++ [newT f (xf || xr) at_]).length = L.length + 1:=by simp
  have HL2:=Lib.hid hl2
  clear hR hn1 hO hG hC HL1 HT1 HC1 HB1 HK1 HFl HX11 HX12 hlst
  subst hlv2
  rw [hl2] at HO2 HC2 hlv
  clear hl2
  generalize hLV : L ++ [newT f (xf || xr) at_] = LV at *
  obtain ⟨n1,hn1⟩ : ∃ n,L.length = n:=⟨_,rfl⟩
  rw [hn1] at HO2 HC2 hlv HL2 HTM hs
  clear hn1 hLV
  have t7:=HT2.out.cell 7
  have tf:=HT2.out.free
  simp [trC] at t7
  simp only [List.drop_succ_cons,List.drop_zero]
  go_upto_region 2 with fail
  have HT3 : Hid (Blk (w2.setCell ⟨T,7,none⟩ (.slice a2 (n1 + 1) c2)) T 80 (trC rs tv most last (.slice a2 (n1 + 1) c2))):=Lib.hid (HT2.out.set 7 _)
  have HO3:=Lib.hid (HO2.out.keepT (KeepT.of_set (S:=[80]) (i:=7) (v:=.slice a2 (n1 + 1) c2) HT2.out (by simp)) (by decide))
  have HC3 : Hid (Chg T lst (.slice a2 (n1 + 1) c2) w (w2.setCell ⟨T,7,none⟩ (.slice a2 (n1 + 1) c2))):=Lib.hid (HC2.out.trans Chg.of_set)
  have hB3 : B ≤ (w2.setCell ⟨T,7,none⟩ (.slice a2 (n1 + 1) c2)).heap.size:=by simpa using hBw
  generalize (w2.setCell ⟨T,7,none⟩ (.slice a2 (n1 + 1) c2)) = w3 at *
  clear HT2 HO2 HC2 t7 tf hT0 hlv hBw
  have t7:=HT3.out.cell 7
  have t5:=HT3.out.cell 5
  simp [trC] at t7 t5
  have m7:=Later.cell_of t7
  have m5:=Later.cell_of t5
  have hcond : Hid True:=Lib.hid trivial
  by_cases hle : ((n1 : Int) + 1) ≤ most
  ·have hTM2 : TM = LV:=by rw [HTM.out,if_pos hle]
   subst hTM2
   have hle2 : ((n1 : Int) + 1) ≤ most:=hle
   refine wp_region_later (by kernel_rfl) (by kernel_rfl) ?_
   repeat (go_big_quiet_step (fail))
   refine wpQuiet_nil ?_
   first
    | (rintro w8 ⟨m8,hm8⟩
       have hb : Below w3.heap.size w3 w8:=by rw [hm8];exact m8.2
       clear hm8 m8)
    | (rintro ⟨w8,hb⟩
       simp only)
   have HT8:=Lib.hid (HT3.out.below hb HT3.out.lt)
   have HO8:=Lib.hid (HO3.out.later hb)
   have HC8 : Hid (Chg T lst (.slice a2 (n1 + 1) c2) w w8):=Lib.hid (HC3.out.trans (Chg.of_below hb))
   clear hb HT3 HO3 HC3 t7 t5 m7 m5
   go_wp2_with fail
   first | (refine bodyPost_ret (results_none rfl _ _ _) rfl ?_) | go_end0
   first | exact ⟨rfl,_,HT8.out,HO8.out,HC8.out⟩ | exact ⟨_,rfl,HT8.out,HO8.out,HC8.out⟩
  ·have hTM2 : TM = LV.eraseIdx (leastK LV (n1 + 1)):=by rw [HTM.out,if_neg hle]
   have HTM2:=Lib.hid hTM2
   clear HTM hTM2
   have hle2 : ¬ ((n1 : Int) + 1) ≤ most:=hle
   refine wp_region_later (by kernel_rfl) (by kernel_rfl) ?_
   repeat (go_big_quiet_step (fail))
   refine wpQuiet_nil ?_
   first
    | (rintro w8 ⟨m8,hm8⟩
       have hb : Below w3.heap.size w3 w8:=by rw [hm8];exact m8.2
       clear hm8 m8)
    | (rintro ⟨w8,hb⟩
       simp only)
   have HT8:=Lib.hid (HT3.out.below hb HT3.out.lt)
   have HO8:=Lib.hid (HO3.out.later hb)
   have HC8 : Hid (Chg T lst (.slice a2 (n1 + 1) c2) w w8):=Lib.hid (HC3.out.trans (Chg.of_below hb))
   have hB8 : B ≤ w8.heap.size:=Nat.le_trans hB3 hb.size
   clear hb HT3 HO3 HC3 t7 t5 m7 m5 hB3
   have t7:=HT8.out.cell 7
   simp [trC] at t7
   obtain ⟨g,c',hv,hBg, -⟩:=HO8.out.one (by rw [HL2.out];omega)
   injection hv with hv q1 q2
   subst hv
   clear q1 q2
   go_wp2_with fail
   go_loopw [6,43] (fun iv kv wr => ∃ (i k : Nat),i < n1 + 1 ∧ k ≤ n1 + 1 ∧ iv = .int .i64 (i : Int) ∧ kv = .int .i64 (k : Int) ∧ Hid (leastK LV k = i) ∧ Hid (Below w8.heap.size w8 wr)) (fun _ kv _ => (n1 + 1) - (intOf kv).toNat)
   case atStart => exact ⟨0,0,by omega,by omega,rfl,rfl,Lib.hid rfl,Lib.hid (Below.refl _ _)⟩
   case round =>
    obtain ⟨i,k,hi,hk,rfl,rfl,HI,HB⟩:=hrel
    by_cases hlt : k < n1 + 1
    ·obtain ⟨y,hy⟩ : ∃ y,LV[k]? = some y:=⟨_,List.getElem?_eq_getElem (by rw [HL2.out];exact hlt)⟩
     obtain ⟨z,hz⟩ : ∃ z,LV[i]? = some z:=⟨_,List.getElem?_eq_getElem (by rw [HL2.out];exact hi)⟩
     have HLS : Hid (leastK LV (k + 1) = if y.last < z.last then k else i):=Lib.hid (by
      show (match LV[k]?,LV[leastK LV k]? with
       | some x,some y => if x.last < y.last then k else leastK LV k
       | _,_ => leastK LV k) = _
      rw [HI.out,hy,hz])
     have HOr:=Lib.hid (HO8.out.later HB.out)
     have HTr:=Lib.hid (HT8.out.below HB.out HT8.out.lt)
     have HR : Hid (wr.rangeAt g (k * 12) (layTk.enc y)):=Lib.hid (HOr.out.cellsAt hy)
     have HY9 : Hid ((layTk.enc y)[9]? = some (.int .i64 y.last)):=Lib.hid rfl
     have HX1 : Hid ((layTk.enc y).toArray.size = 12):=Lib.hid (by simp [layTk.len];rfl)
     have HX2 : Hid ((layTk.enc y).toArray.all (·.oneCell') = true):=Lib.hid (all_oneCell_toArray (layTk.one y))
     have HZa : Hid ((wr.alloc (.cells (layTk.enc y).toArray 65 (0,0))).cell? ⟨g,i * 12 + 9,none⟩ = some (.int .i64 z.last)):=Lib.hid ((HOr.out.later (below_alloc (Below.refl _ _) _)).get (j:=9) hz rfl)
     generalize y.last = yl at *
     generalize z.last = zl at *
     generalize layTk.enc y = X1 at *
     clear hy hz
     have HP : Hid (Blk (wr.alloc (.cells X1.toArray 65 (0,0))) wr.heap.size 65 X1.toArray):=Lib.hid (Blk.new wr _ _)
     have hba : Below w8.heap.size w8 (wr.alloc (.cells X1.toArray 65 (0,0))):=below_alloc HB.out _
     have hbr : Below wr.heap.size wr (wr.alloc (.cells X1.toArray 65 (0,0))):=below_alloc (Below.refl _ _) _
     have HBa:=Lib.hid hba
     have HTa:=Lib.hid (HTr.out.below hbr HTr.out.lt)
     clear hba hbr t7
     go_upto_region 7 with (first | (refine wpList_loadn rfl 65 _ rfl g (k * 12) rfl _ _ HR.out under_tk rfl 12 size_tk (by simpa using HX1.out) ?_;go_simp) | (refine wpList_var3 X1.toArray 65 Tryz.zeroValue65 rfl rfl rfl _ rfl rfl _ _ rfl _ rfl _ rfl ?_ ?_ 12 size_tk HX1.out ?_ HX2.out ?_;all_goals (try rfl);try go_simp))
     generalize wr.alloc (.cells X1.toArray 65 (0,0)) = w4 at *
     generalize wr.heap.size = bx at *
     have x9:=HP.out.cell 9
     have t7:=HTa.out.cell 7
     have z9:=HZa.out
     simp [trC] at t7
     simp only [List.getElem?_toArray,HY9.out] at x9
     have m9:=Later.cell_of x9
     have m7:=Later.cell_of t7
     have mz:=Later.cell_of z9
     clear HR HP HTr HOr HX1 HX2 HZa
     by_cases hyz : yl < zl
     ·have HLK : Hid (leastK LV (k + 1) = k):=Lib.hid (by rw [HLS.out,if_pos hyz])
      refine wp_region_later (by kernel_rfl) (by kernel_rfl) ?_
      repeat (go_big_quiet_step (fail))
      refine wpQuiet_nil ?_
      first
       | (rintro w5 ⟨m5,hm5⟩
          have hb : Below w4.heap.size w4 w5:=by rw [hm5];exact m5.2
          clear hm5 m5)
       | (rintro ⟨w5,hb⟩
          simp only)
      have HB5:=Lib.hid (HBa.out.trans (hb.mono HBa.out.size))
      clear hb HBa m9 m7 mz x9 t7 z9 HTa
      go_wp2_with fail
      exact ⟨⟨k,k + 1,by omega,by omega,rfl,by go_num,HLK,HB5⟩,by simp [intOf];omega⟩
     ·have HLK : Hid (leastK LV (k + 1) = i):=Lib.hid (by rw [HLS.out,if_neg hyz])
      refine wp_region_later (by kernel_rfl) (by kernel_rfl) ?_
      repeat (go_big_quiet_step (fail))
      refine wpQuiet_nil ?_
      first
       | (rintro w5 ⟨m5,hm5⟩
          have hb : Below w4.heap.size w4 w5:=by rw [hm5];exact m5.2
          clear hm5 m5)
       | (rintro ⟨w5,hb⟩
          simp only)
      have HB5:=Lib.hid (HBa.out.trans (hb.mono HBa.out.size))
      clear hb HBa m9 m7 mz x9 t7 z9 HTa
      go_wp2_with fail
      exact ⟨⟨i,k + 1,by omega,by omega,rfl,by go_num,HLK,HB5⟩,by simp [intOf];omega⟩
    ·obtain rfl : k = n1 + 1:=by omega
     have HO9:=Lib.hid (HO8.out.later HB.out)
     have HT9:=Lib.hid (HT8.out.below HB.out HT8.out.lt)
     have HC9 : Hid (Chg T lst (.slice (some ⟨g,0,none⟩) (n1 + 1) c2) w wr):=Lib.hid (HC8.out.trans (Chg.of_below HB.out))
     have hB9 : B ≤ wr.heap.size:=Nat.le_trans hB8 HB.out.size
     have t7:=HT9.out.cell 7
     simp [trC] at t7
     have HDel:=Lib.hid (deleteTk_any B _ _ _ i LV wr HO9.out (by omega) hB9 hi)
     have HTI : Hid (TM = LV.eraseIdx i):=Lib.hid (by rw [HTM2.out,HI.out])
     clear HT8 HO8 HC8 HB HTM2
     go_wp2_with fail
     refine HDel.out.mono ?_
     rintro e w5 ⟨v,rfl,hO,hG⟩
     obtain ⟨ad5,c5,hv5, -⟩:=hO.form
     generalize (LV.eraseIdx i).length = n5 at hv5
     subst hv5
     have HO5:=Lib.hid hO
     have hk5 : KeepT [65] wr w5:=KeepT.of_grew (E:=layTk) HO9.out hG (by simp [layTk])
     have HT5:=Lib.hid (HT9.out.keepT hk5 (by decide))
     have HC5 : Hid (Chg T lst (.slice ad5 n5 c5) w w5):=Lib.hid (HC9.out.trans (Chg.of_grew hG))
     have HT6 : Hid (Blk (w5.setCell ⟨T,7,none⟩ (.slice ad5 n5 c5)) T 80 (trC rs tv most last (.slice ad5 n5 c5))):=Lib.hid (HT5.out.set 7 _)
     have HO6:=Lib.hid (HO5.out.keepT (KeepT.of_set (S:=[80]) (i:=7) (v:=.slice ad5 n5 c5) HT5.out (by simp)) (by decide))
     have HC6 : Hid (Chg T lst (.slice ad5 n5 c5) w (w5.setCell ⟨T,7,none⟩ (.slice ad5 n5 c5))):=Lib.hid (HC5.out.trans Chg.of_set)
     have t7:=HT5.out.cell 7
     have tf:=HT5.out.free
     simp [trC] at t7
     clear HDel hO hG hk5 HT9 HO9 HC9 HO5 HC5 HT5
     go_wp2_with fail
     first | (refine bodyPost_ret (results_none rfl _ _ _) rfl ?_) | go_end0
     rw [HTI.out]
     first | exact ⟨rfl,_,HT6.out,HO6.out,HC6.out⟩ | exact ⟨_,rfl,HT6.out,HO6.out,HC6.out⟩
theorem qtrack_any (T B : Nat) (rs : Value) (tv : TV) (most last : Int) (lst : Value) (L : List TK) (x : PV) (at_ : Int) (w : World) (hT : Blk w T 44 (tcC rs tv most last lst)) (hL : OwnK layTk w B lst L) (hB : B ≤ w.heap.size) (hs : L.length ≤ 1000) (hm : 1 ≤ most ∧ most ≤ 1000) :
  Calls Tryz.prog 53 #[.pointer (some ⟨T,0,none⟩), .agg x.cells, .int .i64 at_] w fun e w' => ∃ lst',e = .returned (.tuple #[]) ∧ Blk w' T 44 (tcC rs tv most last lst') ∧ OwnK layTk w' B lst' (trackM most x.flow (x.fin || x.rst) at_ L) ∧ Chg T lst lst' w w':=by
 obtain ⟨TM,hTM⟩ : ∃ TM,trackM most x.flow (x.fin || x.rst) at_ L = TM:=⟨_,rfl⟩
 have HTM : Hid (TM = if ((L.length : Int) + 1) ≤ most then L ++ [newT x.flow (x.fin || x.rst) at_] else (L ++ [newT x.flow (x.fin || x.rst) at_]).eraseIdx (leastK (L ++ [newT x.flow (x.fin || x.rst) at_]) (L.length + 1))):=Lib.hid hTM.symm
 rw [hTM]
 clear hTM
 have HK1 : Hid (Blk (w.alloc (.cells x.cells 52 (0,0))) w.heap.size 52 x.cells):=Lib.hid (Blk.new w _ _)
 have hb0 : Below w.heap.size w (w.alloc (.cells x.cells 52 (0,0))):=below_alloc (Below.refl _ _) _
 have HT1:=Lib.hid (hT.below hb0 hT.lt)
 have HL1:=Lib.hid (hL.later hb0)
 have HC1 : Hid (Chg T lst lst w (w.alloc (.cells x.cells 52 (0,0)))):=Lib.hid (Chg.of_below hb0)
 have hTw:=hT.lt
 have HB1 : Hid (B ≤ (w.alloc (.cells x.cells 52 (0,0))).heap.size):=Lib.hid (Nat.le_trans hB hb0.size)
 obtain ⟨ad,c,hlst, -⟩:=hL.form
 clear hT hL hb0
 have hXs : x.cells.size = 19:=rfl
 have hXz : (Tryz.prog.info? 52).map (·.size) = some 19:=by kernel_rfl
 have hXu : Tryz.prog.underlying 52 = some (.struct (Tryz.prog.fieldsOf 52)):=by kernel_rfl
 have hX11 : x.cells[11]? = some (.bool x.fin):=rfl
 have hX12 : x.cells[12]? = some (.bool x.rst):=rfl
 go_enter Tryz.func53,Tryz.ntmps53
 go_upto_region 1 with fail
 generalize (w.alloc (.cells x.cells 52 (0,0))) = w1 at *
 generalize hp : w.heap.size = p at *
 clear hp
 have HFl:=Lib.hid fun wx => flowFrom_any x wx
 have HX11:=Lib.hid hX11
 have HX12:=Lib.hid hX12
 obtain ⟨f,hf⟩ : ∃ f,x.flow = f:=⟨_,rfl⟩
 rw [hf] at HFl HTM
 clear hf hX11 hX12
 generalize x.fin = xf at *
 generalize x.rst = xr at *
 generalize x.cells = X at *
 refine Lm.wp_region_lim 17 1 (tr1R T p 6 X f at_ lst xf xr B L w1) (seC w1) trS (fun i => if i = 16 then 1 else 0) (fun i => if i = 0 then 1 else 0)
  (by kernel_rfl) (by kernel_rfl) (by decide) (by kernel_rfl) tr1R_keep ⟨KeepT.of_below (below_drew (Below.refl _ _)),fun _ => below_drew (Below.refl _ _)⟩ ?hX
 case' hX => (apply Exists.intro;refine ⟨fun TT => ?hA,?hob,?hend⟩)
 case hA =>
  simp only [setAll,List.take_succ_cons,List.take_zero,Act.put,List.setIfInBounds_toArray,List.set_cons_succ,List.set_cons_zero,Nat.reduceAdd]
  exact rfl
 case hob =>
  clear HC1 HTM
  go_light
  refine ⟨?_,?_,?_,?_,?_,?_,?_,?_,?_,?_,?_,?_,?_,?_,?_,?_,?_,trivial⟩
  all_goals (intro TT wx n0 hC hn hp;dsimp only at hn ⊢)
  ·unfold Op1
   go_simp
   first | exact ⟨rfl,hC, .inr (.inl ⟨rfl,rfl⟩)⟩ | exact ⟨rfl, .inr (.inl ⟨rfl,rfl⟩)⟩ | exact .inr (.inl ⟨rfl,rfl⟩)
  ·unfold Op1
   go_simp
   first | exact ⟨rfl,hC, .inr (.inl ⟨rfl,rfl⟩)⟩ | exact ⟨rfl, .inr (.inl ⟨rfl,rfl⟩)⟩ | exact .inr (.inl ⟨rfl,rfl⟩)
  ·obtain ⟨h0, -⟩:=hp
   have h0 : TT 1 = .pointer (some ⟨T,0,none⟩):=h0
   unfold Op1
   go_simp
   first | exact ⟨rfl,hC, .inr (.inl ⟨rfl,rfl⟩)⟩ | exact ⟨rfl, .inr (.inl ⟨rfl,rfl⟩)⟩ | exact .inr (.inl ⟨rfl,rfl⟩)
  ·obtain ⟨h0, -⟩:=hp
   have h0 : TT 2 = .pointer (some ⟨T,0,none⟩):=h0
   unfold Op1
   go_simp
   first | exact ⟨rfl,hC, .inr (.inl ⟨rfl,rfl⟩)⟩ | exact ⟨rfl, .inr (.inl ⟨rfl,rfl⟩)⟩ | exact .inr (.inl ⟨rfl,rfl⟩)
  ·obtain ⟨h0, -⟩:=hp
   have h0 : TT 3 = .pointer (some ⟨T,6,none⟩):=h0
   have e0:=(HT1.out.keepT hC.1 (by decide)).cell 6
   simp [tcC] at e0
   clear hlst
   unfold Op1
   go_simp
   first | exact ⟨rfl,hC, .inr (.inl ⟨rfl,rfl⟩)⟩ | exact ⟨rfl, .inr (.inl ⟨rfl,rfl⟩)⟩ | exact .inr (.inl ⟨rfl,rfl⟩)
  ·exact Op1.loadn 52 (.tmp 4) rfl p 0 rfl X.toList _ (Blk.range (HK1.out.keepT hC.1 (by decide) : Blk wx p 52 X.toList.toArray)) hXu rfl 19 hXz (by simpa using hXs) ⟨rfl,hC, .inr (.inl ⟨rfl,rfl⟩)⟩
  ·obtain ⟨h0, -⟩:=hp
   have h0 : TT 5 = .agg X:=h0
   unfold Op1
   go_simp
   refine (HFl.out wx).mono ?_
   rintro e w5 ⟨rfl,hb⟩
   have hn0 : n0 = 0:=by simpa using hn
   subst hn0
   exact ⟨_,rfl,rfl,⟨hC.1.trans (KeepT.of_below hb),fun _ => (hC.2 rfl).trans (hb.mono (hC.2 rfl).size)⟩, .inl ⟨rfl,rfl,hb⟩⟩
  ·unfold Op1
   go_simp
   first | exact ⟨rfl,hC, .inr (.inl ⟨rfl,rfl⟩)⟩ | exact ⟨rfl, .inr (.inl ⟨rfl,rfl⟩)⟩ | exact .inr (.inl ⟨rfl,rfl⟩)
  ·unfold Op1
   go_simp
   first | exact ⟨rfl,hC, .inr (.inl ⟨rfl,rfl⟩)⟩ | exact ⟨rfl, .inr (.inl ⟨rfl,rfl⟩)⟩ | exact .inr (.inl ⟨rfl,rfl⟩)
  ·obtain ⟨h0, -⟩:=hp
   have h0 : TT 8 = .pointer (some ⟨p,11,none⟩):=h0
   have e0:=(HK1.out.keepT hC.1 (by decide)).cell 11
   rw [HX11.out] at e0
   unfold Op1
   go_simp
   first | exact ⟨rfl,hC, .inr (.inl ⟨rfl,rfl⟩)⟩ | exact ⟨rfl, .inr (.inl ⟨rfl,rfl⟩)⟩ | exact .inr (.inl ⟨rfl,rfl⟩)
  ·obtain ⟨h0, -⟩:=hp
   have h0 : TT 9 = .bool xf:=h0
   unfold Op1
   go_simp
   first | exact ⟨rfl,hC, .inr (.inl ⟨rfl,rfl⟩)⟩ | exact ⟨rfl, .inr (.inl ⟨rfl,rfl⟩)⟩ | exact .inr (.inl ⟨rfl,rfl⟩)
  ·refine ⟨fun hg => ?_,fun hg => ?_⟩
   ·unfold Op1
    go_simp
    first | exact ⟨fun _ => rfl,hC, .inr (.inl ⟨rfl,rfl⟩)⟩ | exact ⟨fun _ => rfl, .inr (.inl ⟨rfl,rfl⟩)⟩ | exact .inr (.inl ⟨rfl,rfl⟩)
   ·obtain ⟨h0, -⟩:=hp
    have h0 : TT 10 = .bool xf:=h0
    exact ⟨fun h => absurd (by rw [h0,h]) hg,hC, .inr (.inl ⟨rfl,rfl⟩)⟩
  ·obtain ⟨h1,h0, -⟩:=hp
   have h0 : TT 10 = .bool xf:=h0
   have h1 : xf = false → TT 11 = .pointer (some ⟨p,12,none⟩):=h1
   refine ⟨fun hg => ?_,fun hg => ?_⟩
   ·have hxf : xf = false:=by
     rw [h0] at hg
     injection hg
    have h1:=h1 hxf
    have e0:=(HK1.out.keepT hC.1 (by decide)).cell 12
    rw [HX12.out] at e0
    unfold Op1
    go_simp
    first | exact ⟨fun _ => rfl,hC, .inr (.inl ⟨rfl,rfl⟩)⟩ | exact ⟨fun _ => rfl, .inr (.inl ⟨rfl,rfl⟩)⟩ | exact .inr (.inl ⟨rfl,rfl⟩)
   ·exact ⟨fun h => absurd (by rw [h0,h]) hg,hC, .inr (.inl ⟨rfl,rfl⟩)⟩
  ·obtain ⟨h0,h1, -⟩:=hp
   have h0 : TT 10 = .bool xf:=h0
   have h1 : xf = false → TT 12 = .bool xr:=h1
   unfold Op1
   cases xf
   ·have h1:=h1 rfl
    go_simp
    first | exact ⟨rfl,hC, .inr (.inl ⟨rfl,rfl⟩)⟩ | exact ⟨rfl, .inr (.inl ⟨rfl,rfl⟩)⟩ | exact .inr (.inl ⟨rfl,rfl⟩)
   ·go_simp
    first | exact ⟨rfl,hC, .inr (.inl ⟨rfl,rfl⟩)⟩ | exact ⟨rfl, .inr (.inl ⟨rfl,rfl⟩)⟩ | exact .inr (.inl ⟨rfl,rfl⟩)
  ·obtain ⟨h0,h1,h2, -⟩:=hp
   have h0 : TT 6 = .agg f.cells:=h0
   have h1 : TT 7 = .int .i64 at_:=h1
   have h2 : TT 13 = .bool (xf || xr):=h2
   unfold FV.cells at h0
   unfold Op1
   go_simp
   first | exact ⟨rfl,hC, .inr (.inl ⟨rfl,rfl⟩)⟩ | exact ⟨rfl, .inr (.inl ⟨rfl,rfl⟩)⟩ | exact .inr (.inl ⟨rfl,rfl⟩)
  ·obtain ⟨h0, -⟩:=hp
   have h0 : TT 14 = .agg (tkC (newT f (xf || xr) at_)).toArray:=h0
   unfold Op1
   generalize hz : newT f (xf || xr) at_ = z at *
   obtain ⟨⟨fp,s1,h1,l1,s2,h2,l2,ff,ft⟩,la,an,dn⟩:=z
   simp only [tkC] at h0
   go_simp
   have hn0 : n0 = 0:=by simpa using hn
   subst hn0
   refine ⟨fun _ => ⟨wx.heap.size,rfl,?_⟩,⟨hC.1.alloc _,fun _ => below_alloc (hC.2 rfl) _⟩, .inl ⟨rfl,rfl,below_alloc (Below.refl _ _) _⟩⟩
   rw [hz]
   exact Blk.new wx _ _
  ·obtain ⟨h0,h1, -⟩:=hp
   have hn0 : n0 = 0:=by simpa using hn
   subst hn0
   have h0 : TT 4 = lst:=h0
   obtain ⟨bk,h1,hBk⟩ : ∃ B,TT 15 = .slice (some ⟨B,0,none⟩) 1 1 ∧ Blk wx B 65 (tkC (newT f (xf || xr) at_)).toArray:=h1 rfl
   have hbx:=hC.2 rfl
   refine Op1.appR (c:=1) tkE (.tmp 13) (.tmp 24) rfl h0 (HL1.out.later hbx) h1 (src_blk layTk _ hBk rfl) (layTk.one _) (by unfold maxLen;omega) (by omega) (Nat.le_trans HB1.out hbx.size) ?_
   intro v' w' hO hG
   have hG1 : Grew w1 w' lst v':=(⟨⟨hbx.os,hbx.tape,hbx.output,hbx.size,fun j hj _ => hbx.block j hj⟩, .inl rfl⟩ : Grew w1 wx lst lst).trans hG
   exact ⟨⟨rfl,OwnK.snoc hO,hG1⟩,⟨KeepT.of_grew (E:=layTk) HL1.out hG1 (by simp [layTk]),fun h => absurd h (by decide)⟩, .inr (.inr ⟨rfl,rfl⟩)⟩
 case hend =>
  intro TT w2 ⟨n0,hn0,hC,hR⟩
  have hT0 : TT 0 = .pointer (some ⟨T,0,none⟩):=hR 0 (by omega)
  obtain ⟨hn1,hO,hG⟩:=hR 16 (by omega)
  obtain ⟨lv,hlv⟩ : ∃ lv,TT 16 = lv:=⟨_,rfl⟩
  rw [hlv] at hO hG
  have HT2:=Lib.hid (HT1.out.keepT hC.1 (by decide))
  have HC2 : Hid (Chg T lst lv w w2):=Lib.hid (HC1.out.trans (Chg.of_grew hG))
  have hBw : B ≤ w2.heap.size:=Nat.le_trans HB1.out hC.1.1
  have HO2:=Lib.hid hO
  obtain ⟨a2,c2,hlv2, -⟩:=hO.form
  have hl2 : (L ++ [newT f (xf || xr) at_]).length = L.length + 1:=by simp
  have HL2:=Lib.hid hl2
  clear hR hn1 hO hG hC HL1 HT1 HC1 HB1 HK1 HFl HX11 HX12 hlst
  subst hlv2
  rw [hl2] at HO2 HC2 hlv
  clear hl2
  generalize hLV : L ++ [newT f (xf || xr) at_] = LV at *
  obtain ⟨n1,hn1⟩ : ∃ n,L.length = n:=⟨_,rfl⟩
  rw [hn1] at HO2 HC2 hlv HL2 HTM hs
  clear hn1 hLV
  have t7:=HT2.out.cell 6
  have tf:=HT2.out.free
  simp [tcC] at t7
  simp only [List.drop_succ_cons,List.drop_zero]
  go_upto_region 2 with fail
  have HT3 : Hid (Blk (w2.setCell ⟨T,6,none⟩ (.slice a2 (n1 + 1) c2)) T 44 (tcC rs tv most last (.slice a2 (n1 + 1) c2))):=Lib.hid (HT2.out.set 6 _)
  have HO3:=Lib.hid (HO2.out.keepT (KeepT.of_set (S:=[44]) (i:=6) (v:=.slice a2 (n1 + 1) c2) HT2.out (by simp)) (by decide))
  have HC3 : Hid (Chg T lst (.slice a2 (n1 + 1) c2) w (w2.setCell ⟨T,6,none⟩ (.slice a2 (n1 + 1) c2))):=Lib.hid (HC2.out.trans Chg.of_set)
  have hB3 : B ≤ (w2.setCell ⟨T,6,none⟩ (.slice a2 (n1 + 1) c2)).heap.size:=by simpa using hBw
  generalize (w2.setCell ⟨T,6,none⟩ (.slice a2 (n1 + 1) c2)) = w3 at *
  clear HT2 HO2 HC2 t7 tf hT0 hlv hBw
  have t7:=HT3.out.cell 6
  have t5:=HT3.out.cell 5
  simp [tcC] at t7 t5
  have m7:=Later.cell_of t7
  have m5:=Later.cell_of t5
  have hcond : Hid True:=Lib.hid trivial
  by_cases hle : ((n1 : Int) + 1) ≤ most
  ·have hTM2 : TM = LV:=by rw [HTM.out,if_pos hle]
   subst hTM2
   have hle2 : ¬ ((n1 : Int) + 1) > most:=by omega
   refine wp_region_later (by kernel_rfl) (by kernel_rfl) ?_
   repeat (go_big_quiet_step (fail))
   refine wpQuiet_nil ?_
   first
    | (rintro w8 ⟨m8,hm8⟩
       have hb : Below w3.heap.size w3 w8:=by rw [hm8];exact m8.2
       clear hm8 m8)
    | (rintro ⟨w8,hb⟩
       simp only)
   have HT8:=Lib.hid (HT3.out.below hb HT3.out.lt)
   have HO8:=Lib.hid (HO3.out.later hb)
   have HC8 : Hid (Chg T lst (.slice a2 (n1 + 1) c2) w w8):=Lib.hid (HC3.out.trans (Chg.of_below hb))
   clear hb HT3 HO3 HC3 t7 t5 m7 m5
   go_wp2_with fail
   first | (refine bodyPost_ret (results_none rfl _ _ _) rfl ?_) | go_end0
   first | exact ⟨rfl,_,HT8.out,HO8.out,HC8.out⟩ | exact ⟨_,rfl,HT8.out,HO8.out,HC8.out⟩
  ·have hTM2 : TM = LV.eraseIdx (leastK LV (n1 + 1)):=by rw [HTM.out,if_neg hle]
   have HTM2:=Lib.hid hTM2
   clear HTM hTM2
   have hle2 : ((n1 : Int) + 1) > most:=by omega
   refine wp_region_later (by kernel_rfl) (by kernel_rfl) ?_
   repeat (go_big_quiet_step (fail))
   refine wpQuiet_nil ?_
   first
    | (rintro w8 ⟨m8,hm8⟩
       have hb : Below w3.heap.size w3 w8:=by rw [hm8];exact m8.2
       clear hm8 m8)
    | (rintro ⟨w8,hb⟩
       simp only)
   have HT8:=Lib.hid (HT3.out.below hb HT3.out.lt)
   have HO8:=Lib.hid (HO3.out.later hb)
   have HC8 : Hid (Chg T lst (.slice a2 (n1 + 1) c2) w w8):=Lib.hid (HC3.out.trans (Chg.of_below hb))
   have hB8 : B ≤ w8.heap.size:=Nat.le_trans hB3 hb.size
   clear hb HT3 HO3 HC3 t7 t5 m7 m5 hB3
   have t7:=HT8.out.cell 6
   simp [tcC] at t7
   obtain ⟨g,c',hv,hBg, -⟩:=HO8.out.one (by rw [HL2.out];omega)
   injection hv with hv q1 q2
   subst hv
   clear q1 q2
   go_wp2_with fail
   go_loopw [6,43] (fun iv kv wr => ∃ (i k : Nat),i < n1 + 1 ∧ k ≤ n1 + 1 ∧ iv = .int .i64 (i : Int) ∧ kv = .int .i64 (k : Int) ∧ Hid (leastK LV k = i) ∧ Hid (Below w8.heap.size w8 wr)) (fun _ kv _ => (n1 + 1) - (intOf kv).toNat)
   case atStart => exact ⟨0,0,by omega,by omega,rfl,rfl,Lib.hid rfl,Lib.hid (Below.refl _ _)⟩
   case round =>
    obtain ⟨i,k,hi,hk,rfl,rfl,HI,HB⟩:=hrel
    by_cases hlt : k < n1 + 1
    ·obtain ⟨y,hy⟩ : ∃ y,LV[k]? = some y:=⟨_,List.getElem?_eq_getElem (by rw [HL2.out];exact hlt)⟩
     obtain ⟨z,hz⟩ : ∃ z,LV[i]? = some z:=⟨_,List.getElem?_eq_getElem (by rw [HL2.out];exact hi)⟩
     have HLS : Hid (leastK LV (k + 1) = if y.last < z.last then k else i):=Lib.hid (by
      show (match LV[k]?,LV[leastK LV k]? with
       | some x,some y => if x.last < y.last then k else leastK LV k
       | _,_ => leastK LV k) = _
      rw [HI.out,hy,hz])
     have HOr:=Lib.hid (HO8.out.later HB.out)
     have HTr:=Lib.hid (HT8.out.below HB.out HT8.out.lt)
     have HR : Hid (wr.rangeAt g (k * 12) (layTk.enc y)):=Lib.hid (HOr.out.cellsAt hy)
     have HY9 : Hid ((layTk.enc y)[9]? = some (.int .i64 y.last)):=Lib.hid rfl
     have HX1 : Hid ((layTk.enc y).toArray.size = 12):=Lib.hid (by simp [layTk.len];rfl)
     have HX2 : Hid ((layTk.enc y).toArray.all (·.oneCell') = true):=Lib.hid (all_oneCell_toArray (layTk.one y))
     have HZa : Hid ((wr.alloc (.cells (layTk.enc y).toArray 65 (0,0))).cell? ⟨g,i * 12 + 9,none⟩ = some (.int .i64 z.last)):=Lib.hid ((HOr.out.later (below_alloc (Below.refl _ _) _)).get (j:=9) hz rfl)
     generalize y.last = yl at *
     generalize z.last = zl at *
     generalize layTk.enc y = X1 at *
     clear hy hz
     have HP : Hid (Blk (wr.alloc (.cells X1.toArray 65 (0,0))) wr.heap.size 65 X1.toArray):=Lib.hid (Blk.new wr _ _)
     have hba : Below w8.heap.size w8 (wr.alloc (.cells X1.toArray 65 (0,0))):=below_alloc HB.out _
     have hbr : Below wr.heap.size wr (wr.alloc (.cells X1.toArray 65 (0,0))):=below_alloc (Below.refl _ _) _
     have HBa:=Lib.hid hba
     have HTa:=Lib.hid (HTr.out.below hbr HTr.out.lt)
     clear hba hbr t7
     go_upto_region 7 with (first | (refine wpList_loadn rfl 65 _ rfl g (k * 12) rfl _ _ HR.out under_tk rfl 12 size_tk (by simpa using HX1.out) ?_;go_simp) | (refine wpList_var3 X1.toArray 65 Tryz.zeroValue65 rfl rfl rfl _ rfl rfl _ _ rfl _ rfl _ rfl ?_ ?_ 12 size_tk HX1.out ?_ HX2.out ?_;all_goals (try rfl);try go_simp))
     generalize wr.alloc (.cells X1.toArray 65 (0,0)) = w4 at *
     generalize wr.heap.size = bx at *
     have x9:=HP.out.cell 9
     have t7:=HTa.out.cell 6
     have z9:=HZa.out
     simp [tcC] at t7
     simp only [List.getElem?_toArray,HY9.out] at x9
     have m9:=Later.cell_of x9
     have m7:=Later.cell_of t7
     have mz:=Later.cell_of z9
     clear HR HP HTr HOr HX1 HX2 HZa
     by_cases hyz : yl < zl
     ·have HLK : Hid (leastK LV (k + 1) = k):=Lib.hid (by rw [HLS.out,if_pos hyz])
      refine wp_region_later (by kernel_rfl) (by kernel_rfl) ?_
      repeat (go_big_quiet_step (fail))
      refine wpQuiet_nil ?_
      first
       | (rintro w5 ⟨m5,hm5⟩
          have hb : Below w4.heap.size w4 w5:=by rw [hm5];exact m5.2
          clear hm5 m5)
       | (rintro ⟨w5,hb⟩
          simp only)
      have HB5:=Lib.hid (HBa.out.trans (hb.mono HBa.out.size))
      clear hb HBa m9 m7 mz x9 t7 z9 HTa
      go_wp2_with fail
      exact ⟨⟨k,k + 1,by omega,by omega,rfl,by go_num,HLK,HB5⟩,by simp [intOf];omega⟩
     ·have HLK : Hid (leastK LV (k + 1) = i):=Lib.hid (by rw [HLS.out,if_neg hyz])
      refine wp_region_later (by kernel_rfl) (by kernel_rfl) ?_
      repeat (go_big_quiet_step (fail))
      refine wpQuiet_nil ?_
      first
       | (rintro w5 ⟨m5,hm5⟩
          have hb : Below w4.heap.size w4 w5:=by rw [hm5];exact m5.2
          clear hm5 m5)
       | (rintro ⟨w5,hb⟩
          simp only)
      have HB5:=Lib.hid (HBa.out.trans (hb.mono HBa.out.size))
      clear hb HBa m9 m7 mz x9 t7 z9 HTa
      go_wp2_with fail
      exact ⟨⟨i,k + 1,by omega,by omega,rfl,by go_num,HLK,HB5⟩,by simp [intOf];omega⟩
    ·obtain rfl : k = n1 + 1:=by omega
     have HO9:=Lib.hid (HO8.out.later HB.out)
     have HT9:=Lib.hid (HT8.out.below HB.out HT8.out.lt)
     have HC9 : Hid (Chg T lst (.slice (some ⟨g,0,none⟩) (n1 + 1) c2) w wr):=Lib.hid (HC8.out.trans (Chg.of_below HB.out))
     have hB9 : B ≤ wr.heap.size:=Nat.le_trans hB8 HB.out.size
     have t7:=HT9.out.cell 6
     simp [tcC] at t7
     have HDel:=Lib.hid (deleteTk_any B _ _ _ i LV wr HO9.out (by omega) hB9 hi)
     have HTI : Hid (TM = LV.eraseIdx i):=Lib.hid (by rw [HTM2.out,HI.out])
     clear HT8 HO8 HC8 HB HTM2
     go_wp2_with fail
     refine HDel.out.mono ?_
     rintro e w5 ⟨v,rfl,hO,hG⟩
     obtain ⟨ad5,c5,hv5, -⟩:=hO.form
     generalize (LV.eraseIdx i).length = n5 at hv5
     subst hv5
     have HO5:=Lib.hid hO
     have hk5 : KeepT [65] wr w5:=KeepT.of_grew (E:=layTk) HO9.out hG (by simp [layTk])
     have HT5:=Lib.hid (HT9.out.keepT hk5 (by decide))
     have HC5 : Hid (Chg T lst (.slice ad5 n5 c5) w w5):=Lib.hid (HC9.out.trans (Chg.of_grew hG))
     have HT6 : Hid (Blk (w5.setCell ⟨T,6,none⟩ (.slice ad5 n5 c5)) T 44 (tcC rs tv most last (.slice ad5 n5 c5))):=Lib.hid (HT5.out.set 6 _)
     have HO6:=Lib.hid (HO5.out.keepT (KeepT.of_set (S:=[44]) (i:=6) (v:=.slice ad5 n5 c5) HT5.out (by simp)) (by decide))
     have HC6 : Hid (Chg T lst (.slice ad5 n5 c5) w (w5.setCell ⟨T,6,none⟩ (.slice ad5 n5 c5))):=Lib.hid (HC5.out.trans Chg.of_set)
     have t7:=HT5.out.cell 6
     have tf:=HT5.out.free
     simp [tcC] at t7
     clear HDel hO hG hk5 HT9 HO9 HC9 HO5 HC5 HT5
     go_wp2_with fail
     first | (refine bodyPost_ret (results_none rfl _ _ _) rfl ?_) | go_end0
     rw [HTI.out]
     first | exact ⟨rfl,_,HT6.out,HO6.out,HC6.out⟩ | exact ⟨_,rfl,HT6.out,HO6.out,HC6.out⟩
theorem ok_block {x n : Nat} (hv : VN x) (hn : n ≤ LN x) (hd : 2 ^ (LN x - n) ∣ x) : OkPf (pfOf (x,n)) ∧ nuP (pfOf (x,n)) = x ∧ spP (pfOf (x,n)) = (x,x + (2 ^ (LN x - n) - 1)):=by
 have ha:=ok_aN hv
 have hln : n ≤ lenN (sixN x):=by rw [← LN_six];exact hn
 have hc : clr x (LN x - n) = x:=clr_dvd.2 hd
 have hm:=mask_num (n:=n) ha
 rw [num_aN hv, ← LN_six,hc] at hm
 have h1:=aN_num (mask_aok ha hln)
 rw [hm] at h1
 have hnu : nuP (pfOf (x,n)) = x:=num_aN hv
 have hP : POK (sixN x) (hiN x) (loN x) n:=⟨ha,hln,h1.2.2.1.symm,h1.2.2.2.symm⟩
 refine ⟨⟨rfl,hP⟩,hnu,?_⟩
 unfold spP
 rw [hnu]
 show (x,fil x (LN x - n)) = _
 rw [fil_of hd]
theorem mem_allB {S : List Sp} (hv : ∀ p ∈ S,VR p) {c : Nat × Nat} (hc : c ∈ allB S) : VN c.1 ∧ c.2 ≤ LN c.1 ∧ 2 ^ (LN c.1 - c.2) ∣ c.1 ∧ ∃ p ∈ S,LN c.1 = LN p.1 ∧ p.1 ≤ c.1 ∧ c.1 + (2 ^ (LN c.1 - c.2) - 1) ≤ p.2:=by
 obtain ⟨p,hp,hc⟩:=List.mem_flatMap.1 hc
 obtain ⟨h1,h2,h3⟩:=(blks_ok (LN p.1) p.1 p.2).each c hc
 obtain ⟨v,l,s⟩:=blk_vn (hv p hp) h1 h2
 refine ⟨v,?_,?_,p,hp,l,h1,?_⟩
 ·rw [l];exact h3.le
 ·rw [l];exact h3.dvd
 ·rw [l];exact h3.fits
theorem okPf_pfs {S : List Sp} (hv : ∀ p ∈ S,VR p) : ∀ q ∈ pfs S,OkPf q:=fun q hq => by
 obtain ⟨c,hc,rfl⟩:=List.mem_map.1 hq
 obtain ⟨a,b,d,_⟩:=mem_allB hv hc
 exact (ok_block a b d).1
def spn (L : List Pf) : List Sp:=jn (L.map spP)
theorem spn_vr {L : List Pf} (hv : ∀ p ∈ L,OkPf p) : ∀ p ∈ spn L,VR p:=sps_vr hv
theorem sps_le {L : List Pf} (hv : ∀ p ∈ L,OkPf p) : ∀ p ∈ L.map spP,p.1 ≤ p.2:=fun p hp => by
 obtain ⟨q,hq,rfl⟩:=List.mem_map.1 hp
 exact (hv q hq).vr.le
theorem spn_can {L : List Pf} (hv : ∀ p ∈ L,OkPf p) : Can (spn L):=(jn_joined (sps_le hv)).can
theorem inS_spn {L : List Pf} (hv : ∀ p ∈ L,OkPf p) (x : Nat) : InS (spn L) x ↔ InS (L.map spP) x:=(jn_joined (sps_le hv)).mem x
theorem spn_len (L : List Pf) : (spn L).length ≤ L.length:=by
 have:=jn_len (L.map spP)
 rw [List.length_map] at this
 exact this
theorem ok_append {A B : List Pf} (hA : ∀ p ∈ A,OkPf p) (hB : ∀ p ∈ B,OkPf p) : ∀ p ∈ A ++ B,OkPf p:=fun p hp => (List.mem_append.1 hp).elim (hA p) (hB p)
def gapsF (top : Nat) : List Sp → Nat → List Sp
 | [],x => if x ≤ top then [(x,top)] else []
 | r :: S,x => (if x < r.1 then [(x,r.1 - 1)] else []) ++ gapsF top S (r.2 + 1)
def fam (six : Bool) (S : List Sp) : List Sp:=S.filter fun p => sixN p.1 == six
def loF (six : Bool) : Nat:=if six = true then 2 ^ 128 else 0
def topF (six : Bool) : Nat:=if six = true then 2 ^ 129 - 1 else 2 ^ 32 - 1
def gapsOf (six : Bool) (S : List Sp) : List Sp:=gapsF (topF six) (fam six S) (loF six)
def gaps (S : List Sp) : List Sp:=gapsOf false S ++ gapsOf true S
def both : List Sp → List Sp → List Sp
 | [],_ => []
 | _ :: _, [] => []
 | p :: A,q :: B => (if max p.1 q.1 ≤ min p.2 q.2 then [(max p.1 q.1,min p.2 q.2)] else []) ++ if p.2 < q.2 then both A (q :: B) else both (p :: A) B
termination_by A B => A.length + B.length
theorem ok_lst {a : List Pf} (ha : ∀ p ∈ a,OkPf p) : ∀ p ∈ lst a,OkPf p:=okPf_pfs (spn_vr ha)
def inP (p : Pf) (x : Nat) : Bool:=decide ((spP p).1 ≤ x) && decide (x ≤ (spP p).2)
theorem any_inP (L : List Pf) (x : Nat) : (L.any fun p => inP p x) = true ↔ InS (L.map spP) x:=by
 rw [List.any_eq_true]
 unfold InS inP
 constructor
 ·rintro ⟨p,hp,h⟩
  simp at h
  exact ⟨spP p,List.mem_map.2 ⟨p,hp,rfl⟩,h⟩
 ·rintro ⟨q,hq,h⟩
  obtain ⟨p,hp,rfl⟩:=List.mem_map.1 hq
  exact ⟨p,hp,by simpa using h⟩
theorem holdsN {p : Pf} {x : Nat} (w : World) (hp : OkPf p) (hx : VN x) : Calls Tryz.prog 149 #[.agg (pfC p).toArray, .agg (aN x)] w (Ret (.bool (inP p x)) w):=by
 have h:=holds_any p.1 p.2.1 p.2.2.1 p.2.2.2.toNat (sixN x) (hiN x) (loN x) w hp.ok.1.1 hp.ok.1.2.1 (hiN_u x) (loN_u x) hp.ok.2.1
 have e : holdsB p.1 p.2.1 p.2.2.1 p.2.2.2.toNat (sixN x) (hiN x) (loN x) = inP p x:=by
  unfold holdsB inP spP
  rw [num_aN hx,fill_num hp.ok.1,LN_six,hp.num.2.1]
  rfl
 rw [e] at h
 have ec : (pfC p).toArray = #[.bool p.1, .int .u64 ((p.2.1 : Nat) : Int), .int .u64 ((p.2.2.1 : Nat) : Int), .int .i64 ((p.2.2.2.toNat : Nat) : Int)]:=by
  unfold pfC
  rw [← hp.nn]
 rw [ec]
 exact h
theorem hasOf1_any {p : Pf} {x : Nat} (bx : Nat) (w : World) (hp : OkPf p) (hx : VN x) (hb : Blk w bx 49 (aN x)) : Calls Tryz.prog 148 #[.agg (pfC p).toArray, .pointer (some ⟨bx,0,none⟩)] w (Ret (.bool (inP p x)) w):=by
 have HH:=Lib.hid fun wx => holdsN wx hp hx
 obtain ⟨p1,p2,p3,p4,hpc, -, -⟩:=pf_cells hp
 rw [hpc] at HH ⊢
 have HX:=Lib.hid hb
 clear hb hx hpc hp
 unfold aN at HX HH
 generalize inP p x = R at *
 generalize sixN x = x1 at *
 generalize hiN x = x2 at *
 generalize loN x = x3 at *
 have HP1 : Hid (Blk (w.alloc (.cells #[.bool p1, .int .u64 (p2 : Int), .int .u64 (p3 : Int), .int .i64 (p4 : Int)] 104 (0,0))) w.heap.size 104 #[.bool p1, .int .u64 (p2 : Int), .int .u64 (p3 : Int), .int .i64 (p4 : Int)]):=Lib.hid (Blk.new w _ _)
 have HX1 : Hid (Blk (w.alloc (.cells #[.bool p1, .int .u64 (p2 : Int), .int .u64 (p3 : Int), .int .i64 (p4 : Int)] 104 (0,0))) bx 49 #[.bool x1, .int .u64 (x2 : Int), .int .u64 (x3 : Int)]):=Lib.hid (HX.out.alloc _)
 have HB1 : Hid (Below w.heap.size w (w.alloc (.cells #[.bool p1, .int .u64 (p2 : Int), .int .u64 (p3 : Int), .int .i64 (p4 : Int)] 104 (0,0)))):=Lib.hid (below_alloc (Below.refl _ _) _)
 go_enter Tryz.func148,Tryz.ntmps148
 go_upto_region 1 with fail
 generalize (w.alloc (.cells #[.bool p1, .int .u64 (p2 : Int), .int .u64 (p3 : Int), .int .i64 (p4 : Int)] 104 (0,0))) = w2 at *
 have c0:=HP1.out.cell 0
 have c1:=HP1.out.cell 1
 have c2:=HP1.out.cell 2
 have c3:=HP1.out.cell 3
 simp at c0 c1 c2 c3
 have d0:=HX1.out.cell 0
 have d1:=HX1.out.cell 1
 have d2:=HX1.out.cell 2
 simp at d0 d1 d2
 go_wp2_with fail
 refine (HH.out _).mono ?_
 rintro e w3 ⟨rfl,hb⟩
 have HB3:=Lib.hid (HB1.out.trans (hb.mono HB1.out.size))
 clear hb c0 c1 c2 c3 d0 d1 d2
 go_wp2_with fail
 go_ret
 exact ⟨rfl,HB3.out⟩
theorem indexHas_any (ad : Option Addr) (n c bx : Nat) (L : List Pf) (x : Nat) (w : World) (h : RdK layPf w ad L) (hn : L.length = n) (hs : n ≤ 1000000) (hv : ∀ p ∈ L,OkPf p) (hx : VN x) (hb : Blk w bx 49 (aN x)) :
  Calls Tryz.prog 159 #[.slice ad n c, .func (.func 148) #[] #[.pointer (some ⟨bx,0,none⟩)]] w fun e w' => ∃ k : Int,e = .returned (.int .i64 k) ∧ decide (0 ≤ k) = (L.any fun p => inP p x) ∧ Below w.heap.size w w':=by
 have H0:=Lib.hid h
 have Hn:=Lib.hid hn
 have Hv:=Lib.hid hv
 have HX:=Lib.hid hb
 have Hx:=Lib.hid hx
 clear h hn hv hb hx
 go_enter Tryz.func159,Tryz.ntmps159
 go_wp2_with fail
 go_loopw [5,8] (fun s5 i wr => ∃ k : Nat,k ≤ n ∧ i = .int .i64 (k : Int) ∧ Hid (∀ j p,j < k → L[j]? = some p → inP p x = false) ∧ Hid (Below w.heap.size w wr)) (fun _ i _ => n - (intOf i).toNat)
 case atStart => exact ⟨0,Nat.zero_le _,rfl,Lib.hid fun j p hj => absurd hj (Nat.not_lt_zero _),Lib.hid (Below.refl _ _)⟩
 case round =>
  obtain ⟨k,hk,rfl,HN,HB⟩:=hrel
  by_cases hlt : k < n
  ·have hS : k < L.length:=by rw [Hn.out];exact hlt
   obtain ⟨p,hp⟩ : ∃ p,L[k]? = some p:=⟨_,List.getElem?_eq_getElem hS⟩
   have hok:=Hv.out p (List.mem_of_getElem? hp)
   have HC:=Lib.hid fun wx (hb : Blk wx bx 49 (aN x)) => hasOf1_any bx wx hok Hx.out hb
   obtain ⟨p1,p2,p3,p4,hpc, -, -⟩:=pf_cells hok
   obtain ⟨g,o,had,hg,c0,c1,c2,c3⟩:=(H0.out.below HB.out).pf hp hpc
   rw [hpc] at HC
   have Hp:=Lib.hid hp
   have Hpm:=Lib.hid (List.mem_of_getElem? hp)
   have HXr:=Lib.hid (HX.out.below HB.out HX.out.lt)
   subst had
   clear hp hS hok hpc hg
   go_wp2_with fail
   refine (HC.out _ HXr.out).mono ?_
   rintro e w3 ⟨rfl,hb⟩
   have HB3:=Lib.hid (HB.out.trans (hb.mono HB.out.size))
   clear hb HC HXr c0 c1 c2 c3
   cases hR : inP p x
   ·have HN2 : Hid (∀ j q,j < k + 1 → L[j]? = some q → inP q x = false):=Lib.hid fun j q hj hq => by
     rcases Nat.lt_or_ge j k with h1 | h1
     ·exact HN.out j q h1 hq
     ·obtain rfl : j = k:=by omega
      rw [Hp.out] at hq
      exact (Option.some.inj hq) ▸ hR
    clear hR
    go_wp2_with fail
    exact ⟨⟨k + 1,by omega,by go_num,HN2,HB3⟩,by simp [intOf];omega⟩
   ·have HT : Hid ((L.any fun p => inP p x) = true):=Lib.hid (List.any_eq_true.2 ⟨p,Hpm.out,hR⟩)
    clear hR
    go_wp2_with fail
    go_ret
    exact ⟨(k : Int),rfl,by rw [HT.out];exact decide_eq_true (by omega),HB3.out⟩
  ·obtain rfl : k = n:=by omega
   have HT : Hid ((L.any fun p => inP p x) = false):=Lib.hid (by
    rw [Bool.eq_false_iff]
    intro h
    obtain ⟨p,hp,hR⟩:=List.any_eq_true.1 h
    obtain ⟨j,hj,rfl⟩:=List.getElem_of_mem hp
    have:=HN.out j _ (by rw [← Hn.out];exact hj) (List.getElem?_eq_getElem hj)
    rw [this] at hR;cases hR)
   go_wp2_with fail
   go_ret
   exact ⟨-1,rfl,by rw [HT.out];rfl,HB.out⟩
theorem containsHas_any (ad : Option Addr) (n c bx : Nat) (L : List Pf) (x : Nat) (w : World) (h : RdK layPf w ad L) (hn : L.length = n) (hs : n ≤ 1000000) (hv : ∀ p ∈ L,OkPf p) (hx : VN x) (hb : Blk w bx 49 (aN x)) :
  Calls Tryz.prog 147 #[.slice ad n c, .func (.func 148) #[] #[.pointer (some ⟨bx,0,none⟩)]] w (Ret (.bool (L.any fun p => inP p x)) w):=by
 have HI:=Lib.hid (indexHas_any ad n c bx L x w h hn hs hv hx hb)
 clear h hn hs hv hx hb
 generalize (L.any fun p => inP p x) = R at *
 go_enter Tryz.func147,Tryz.ntmps147
 go_wp2_with fail
 refine HI.out.mono ?_
 rintro e w3 ⟨k,rfl,hk,hb⟩
 have HB:=Lib.hid hb
 clear hb HI
 cases R
 ·have hk0 : ¬ 0 ≤ k:=of_decide_eq_false hk
  have hk1 : ¬ k ≥ 0:=hk0
  go_wp2_with fail
  go_ret
  exact ⟨rfl,HB.out⟩
 ·have hk0 : 0 ≤ k:=of_decide_eq_true hk
  have hk1 : k ≥ 0:=hk0
  go_wp2_with fail
  go_ret
  exact ⟨rfl,HB.out⟩
theorem hasOf_any (ad : Option Addr) (n c : Nat) (L : List Pf) (x : Nat) (w : World) (h : RdK layPf w ad L) (hn : L.length = n) (hs : n ≤ 1000000) (hv : ∀ p ∈ L,OkPf p) (hx : VN x) :
  Calls Tryz.prog 128 #[.slice ad n c, .agg (aN x)] w (Ret (.bool (L.any fun p => inP p x)) w):=by
 have hb0 : Below w.heap.size w (w.alloc (.cells (aN x) 49 (0,0))):=below_alloc (Below.refl _ _) _
 have HC:=Lib.hid (containsHas_any ad n c w.heap.size L x (w.alloc (.cells (aN x) 49 (0,0))) (h.below hb0) hn hs hv hx (Blk.new w _ _))
 have HB0:=Lib.hid hb0
 clear h hn hs hv hx hb0
 generalize (L.any fun p => inP p x) = R at *
 unfold aN at HC HB0 ⊢
 generalize sixN x = x1 at *
 generalize hiN x = x2 at *
 generalize loN x = x3 at *
 go_enter Tryz.func128,Tryz.ntmps128
 go_wp2_with fail
 refine HC.out.mono ?_
 rintro e w3 ⟨rfl,hb⟩
 have HB3:=Lib.hid (HB0.out.trans (hb.mono HB0.out.size))
 clear hb HC HB0
 go_wp2_with fail
 go_ret
 exact ⟨rfl,HB3.out⟩
end Go.Proofs.YthebgfnaomgcnaaGreat
