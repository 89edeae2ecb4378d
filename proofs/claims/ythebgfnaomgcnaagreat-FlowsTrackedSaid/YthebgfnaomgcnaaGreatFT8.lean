/-
  addr.Least, CheckSet, Ranges of the program.
  addr.CheckSet of the program.
  addr.Ranges and addr.Span of the program.
  A variable made and filled: alloc and store of a whole value at once, the cells whatever.
  Tracked flows: how they lie; when they end; the closures that say so.
  When a tracked flow has ended: the program's ended, the reference's over, and their closures.
  What a tracker does, in plain words; flows compared.
  Bytes: put and big (a number in some bytes), Equal of two slices of bytes.
-/
import Derived.Test.YthebgfnaomgcnaaGreatFT7
import Derived.Deep.MidRow
import Derived.Deep.WholeRow
import Derived.Great.Walk
import Derived.BigQuiet
import Derived.Great.BuildSlice
import Derived.Great.FillDense
import Derived.Test.YthebgfnaomgcnaaGreatFT5
import Derived.Test.YthebgfnaomgcnaaGreatFT6
import Derived.Laws.StructEq
set_option linter.unusedVariables false
set_option maxRecDepth 100000
set_option maxHeartbeats 4000000
namespace Go.Proofs.YthebgfnaomgcnaaGreat
open Go.RowKit Go
def lst (L : List Pf) : List Pf := pfs (jn (L.map spP))
theorem jn_vr {L : List Sp} (hv : ∀ p ∈ L,VR p) : ∀ p ∈ jn L,VR p := by
 have hs := jn_srt L
 have hp := jn_perm L
 have := (vr_take hs (fun p h => hv p (hp.mem_iff.1 h)) _ (Nat.le_refl _)).1
 rw [List.take_length] at this
 exact this
theorem sps_vr {L : List Pf} (hv : ∀ p ∈ L,OkPf p) : ∀ p ∈ jn (L.map spP),VR p := jn_vr fun p hp => by
 obtain ⟨q,hq,rfl⟩ := List.mem_map.1 hp
 exact (hv q hq).vr
theorem jn_len (L : List Sp) : (jn L).length ≤ L.length := by
 unfold jn joinL
 have := fold_len (L.mergeSort fun p q => decide (p.1 ≤ q.1)) []
 rw [(jn_perm L).length_eq] at this
 simpa using this
theorem lst_len {L : List Pf} (hv : ∀ p ∈ L,OkPf p) : (lst L).length ≤ L.length := by
 have hvr : ∀ p ∈ L.map spP,VR p := fun p hp => by
  obtain ⟨q,hq,rfl⟩ := List.mem_map.1 hp
  exact (hv q hq).vr
 have := allB_len (jn_joined fun p hp => (hvr p hp).le) (fun p hp => by
  obtain ⟨q,hq,rfl⟩ := List.mem_map.1 hp
  exact ⟨_,(hv q hq).sp⟩) (fun c hc => by
  have := jn_vr hvr c hc
  rw [LN_six,LN_six,this.s])
 rw [List.length_map] at this
 unfold lst pfs
 rw [List.length_map]
 exact this
def fAt (L : List Pf) (i : Nat) : Int := if pfF (L.getD i zPf) ≠ 0 then pfF (L.getD i zPf) else if 0 < i ∧ nuP (L.getD i zPf) ≤ nuP (L.getD (i - 1) zPf) then 7 else 0
theorem fAt_zero {L : List Pf} {i : Nat} (h : fAt L i = 0) : pfF (L.getD i zPf) = 0 := by
 unfold fAt at h
 by_cases h1 : pfF (L.getD i zPf) ≠ 0
 ·rw [if_pos h1] at h;exact h
 ·simpa using h1
def scanF (L : List Pf) : Int := firstN (fAt L) L.length
def setF (L : List Pf) : Int := if 1000 < L.length then 2 else if scanF L ≠ 0 then scanF L else if lst L = L then 0 else 16
theorem checkSet_any (ad : Option Addr) (n c : Nat) (L : List Pf) (w : World) (h : RdK layPf w ad L) (hn : L.length = n) (hs : n ≤ 100000) (hu : U4 L) :
  Calls Tryz.prog 68 #[.slice ad n c] w (Ret (.int .i64 (setF L)) w) := by
 by_cases hb : 1000 < n
 ·have e : setF L = 2 := by unfold setF;rw [hn,if_pos hb]
  rw [e]
  have hb2 : (n : Int) > 1000 := by omega
  clear h hu hn e
  go_enter Tryz.func68,Tryz.ntmps68
  go_wp2_with fail
  go_ret
  exact ⟨rfl,Below.refl _ _⟩
 ·have hb2 : ¬ (n : Int) > 1000 := by omega
  have H0 := Lib.hid h
  have Hn := Lib.hid hn
  have Hu := Lib.hid hu
  have HF : Hid (∀ k,k < n → (∀ j,j < k → fAt L j = 0) → fAt L k ≠ 0 → setF L = fAt L k) := Lib.hid fun k hk h1 h2 => by
   have e := firstN_hit (fAt L) n k hk h1 h2
   unfold setF scanF
   rw [hn,if_neg hb,if_pos (by rw [e];exact h2),e]
  have HZ : Hid ((∀ j,j < n → fAt L j = 0) → (∀ p ∈ L,OkPf p) ∧ (lst L = L → setF L = 0) ∧ (lst L ≠ L → setF L = 16)) := Lib.hid fun h1 => by
   have e := firstN_none (fAt L) n h1
   refine ⟨fun p hp => ?_,fun h2 => ?_,fun h2 => ?_⟩
   ·obtain ⟨i,hi,rfl⟩ := List.getElem_of_mem hp
    have := fAt_zero (h1 i (by omega))
    simp only [List.getD,List.getElem?_eq_getElem hi,Option.getD_some] at this
    obtain ⟨u1,u2⟩ := hu _ (List.getElem_mem hi)
    exact okPf_of this u1 u2
   ·unfold setF scanF
    rw [hn,if_neg hb,e,if_neg (by decide),if_pos h2]
   ·unfold setF scanF
    rw [hn,if_neg hb,e,if_neg (by decide),if_neg h2]
  obtain ⟨af,haf⟩ : ∃ z,setF L = z := ⟨_,rfl⟩
  rw [haf] at HF HZ ⊢
  clear haf h hn hu hb
  go_enter Tryz.func68,Tryz.ntmps68
  go_wp2_with fail
  go_loopw [3,4,5,11] (fun iv bx ev i wr => ∃ (k : Nat),k ≤ n ∧ i = .int .i64 k ∧ Hid (∀ j,j < k → fAt L j = 0) ∧ Hid (Below w.heap.size w wr)) (fun _ _ _ i _ => n - (intOf i).toNat)
  case atStart => exact ⟨0,Nat.zero_le _,rfl,Lib.hid fun j hj => absurd hj (Nat.not_lt_zero _),Lib.hid (Below.refl _ _)⟩
  case round =>
   obtain ⟨k,hk,rfl,HX,HB⟩ := hrel
   by_cases hlt : k < n
   ·have hS : k < L.length := by rw [Hn.out];exact hlt
    obtain ⟨p,hp⟩ : ∃ p,L[k]? = some p := ⟨_,List.getElem?_eq_getElem hS⟩
    have hpd : L.getD k zPf = p := by simp [List.getD,hp]
    have HU := Lib.hid (Hu.out p (List.mem_of_getElem? hp))
    obtain ⟨g,o,had,hg,c0,c1,c2,c3⟩ := (H0.out.below HB.out).pf hp rfl
    subst had
    have HP := Lib.hid fun wx => checkPrefix_any p.1 p.2.1 p.2.2.1 p.2.2.2 wx HU.out.1 HU.out.2
    have HFk := Lib.hid (HF.out k hlt HX.out)
    have HXk : Hid (fAt L k = 0 → ∀ j,j < k + 1 → fAt L j = 0) := Lib.hid fun e j hj => by
     rcases Nat.lt_or_ge j k with h1 | h1
     ·exact HX.out j h1
     ·obtain rfl : j = k := by omega
      exact e
    have HA : Hid (fAt L k = if pfF p ≠ 0 then pfF p else if 0 < k ∧ nuP p ≤ nuP (L.getD (k - 1) zPf) then 7 else 0) := Lib.hid (by unfold fAt;rw [hpd])
    have HNu : Hid (nuP p = numA p.1 p.2.1 p.2.2.1) := Lib.hid rfl
    unfold pfF at HA
    skip
    clear hp hS hpd hg HX
    generalize hFe : pFault p.1 p.2.1 p.2.2.1 p.2.2.2 = F at *
    clear hFe
    generalize p.1 = a1 at *
    generalize p.2.1 = a2 at *
    generalize p.2.2.1 = a3 at *
    generalize p.2.2.2 = a4 at *
    have HB1 : Hid (Below w.heap.size w (wr.alloc (.cells #[.bool a1, .int .u64 (a2 : Int), .int .u64 (a3 : Int), .int .i64 a4] 104 (0,0)))) := Lib.hid (Below.alloc HB.out HB.out.size _)
    have HP1 : Hid (Blk (wr.alloc (.cells #[.bool a1, .int .u64 (a2 : Int), .int .u64 (a3 : Int), .int .i64 a4] 104 (0,0))) wr.heap.size 104 #[.bool a1, .int .u64 (a2 : Int), .int .u64 (a3 : Int), .int .i64 a4]) := Lib.hid (Blk.new wr _ _)
    go_upto_region 6 with fail
    generalize wr.alloc (.cells #[.bool a1, .int .u64 (a2 : Int), .int .u64 (a3 : Int), .int .i64 a4] 104 (0,0)) = w3 at *
    generalize wr.heap.size = bx at *
    clear HB c0 c1 c2 c3
    have d0 := HP1.out.cell 0
    have d1 := HP1.out.cell 1
    have d2 := HP1.out.cell 2
    have d3 := HP1.out.cell 3
    simp at d0 d1 d2 d3
    go_wp2_with fail
    refine (HP.out _).mono ?_
    rintro e w4 ⟨rfl,hb⟩
    have HB4 := Lib.hid (HB1.out.trans (hb.mono HB1.out.size))
    have HP4 := Lib.hid (HP1.out.below hb HP1.out.lt)
    clear hb HB1 HP1 HP d0 d1 d2 d3
    by_cases hF0 : F = 0
    ·rcases Nat.eq_zero_or_pos k with hk0 | hk0
     ·have HX2 := Lib.hid (HXk.out (by rw [HA.out,if_neg (by simp [hF0]),if_neg (by omega)]))
      subst hF0 hk0
      have z0 : ((0 : Nat) : Int) = 0 := rfl
      simp only [z0]
      clear HFk HXk HA HNu HU
      go_wp2_with fail
      refine wp_region_later (by kernel_rfl) (by kernel_rfl) ?_
      repeat (go_big_quiet_step (fail))
      refine wpQuiet_nil ?_
      rintro w5 ⟨n5,hn5⟩
      have hb : Below w4.heap.size w4 w5 := by rw [hn5];exact n5.2
      clear hn5 n5
      have HB5 := Lib.hid (HB4.out.trans (hb.mono HB4.out.size))
      clear hb
      go_wp2_with fail
      exact ⟨⟨1,by omega,by first | rfl | go_num,HX2,HB5⟩,by simp [intOf];omega⟩
     ·obtain ⟨j,hj⟩ : ∃ j,k = j + 1 := ⟨k - 1,by omega⟩
      have hjS : j < L.length := by rw [Hn.out];omega
      obtain ⟨q,hq⟩ : ∃ q,L[j]? = some q := ⟨_,List.getElem?_eq_getElem hjS⟩
      have hqd : L.getD (k - 1) zPf = q := by rw [hj];simp [List.getD,hq]
      obtain ⟨hu3,hu4⟩ := Hu.out q (List.mem_of_getElem? hq)
      obtain ⟨g',o',had,hg',b0,b1,b2,b3⟩ := (H0.out.below HB4.out).pf hq rfl
      injection had with had
      injection had with had1 had2
      subst had1 had2
      have HO := Lib.hid fun wx => aCompare_any q.1 q.2.1 q.2.2.1 a1 a2 a3 wx hu3 hu4 HU.out.1 HU.out.2
      have HA2 : Hid (fAt L k = if nuP p ≤ nuP q then 7 else 0) := Lib.hid (by
       rw [HA.out,if_neg (by simp [hF0]),hqd]
       by_cases h1 : nuP p ≤ nuP q
       ·rw [if_pos h1,if_pos ⟨hk0,h1⟩]
       ·rw [if_neg h1,if_neg (fun h => h1 h.2)])
      have HCg := Lib.hid (cN_ge_iff (nuP q) (nuP p))
      have HNq : Hid (nuP q = numA q.1 q.2.1 q.2.2.1) := Lib.hid rfl
      rw [← HNq.out, ← HNu.out] at HO
      clear hq hqd hjS hu3 hu4 HA HNu HNq hg'
      generalize nuP q = nq at *
      generalize nuP p = np at *
      generalize q.1 = e1 at *
      generalize q.2.1 = e2 at *
      generalize q.2.2.1 = e3 at *
      generalize q.2.2.2 = e4 at *
      have i1 : (k : Int) - 1 = (j : Int) := by omega
      have i2 : decide (0 < k) = true := decide_eq_true hk0
      have i3 : (j : Int) < (n : Int) := by omega
      have i4 : (0 : Int) ≤ (j : Int) := by omega
      have i5 : (k : Int) ≤ 1000 := by omega
      have Hj := Lib.hid hj
      clear hj hk0
      have d0 := HP4.out.cell 0
      have d1 := HP4.out.cell 1
      have d2 := HP4.out.cell 2
      have d3 := HP4.out.cell 3
      simp at d0 d1 d2 d3
      have l0 := Later.cell_of d0
      have l1 := Later.cell_of d1
      have l2 := Later.cell_of d2
      have k0 := Later.cell_of b0
      have k1 := Later.cell_of b1
      have k2 := Later.cell_of b2
      have hO := fun x : Later w4 => Calls.later x (HO.out x.1)
      subst hF0
      generalize cN nq np = C at *
      go_upto_region 9 with fail
      refine wp_region_later (by kernel_rfl) (by kernel_rfl) ?_
      repeat (go_big_quiet_step ((go_at_call 109;exact hO _)))
      refine wpQuiet_nil ?_
      rintro w5 ⟨n5,hn5⟩
      have hb : Below w4.heap.size w4 w5 := by rw [hn5];exact n5.2
      clear hn5 n5 hO HO l0 l1 l2 k0 k1 k2 d0 d1 d2 d3 b0 b1 b2 b3
      have HB5 := Lib.hid (HB4.out.trans (hb.mono HB4.out.size))
      clear hb HP4 HB4
      by_cases hnn : np ≤ nq
      ·have hC0 : C ≥ 0 := HCg.out.2 hnn
       have HE := Lib.hid (HFk.out (by rw [HA2.out,if_pos hnn];decide))
       have HE2 : Hid (af = 7) := Lib.hid (by rw [HE.out,HA2.out,if_pos hnn])
       clear HFk HXk HA2 HE HU
       go_wp2_with fail
       go_ret
       exact ⟨by rw [HE2.out];rfl,HB5.out⟩
      ·have hC0 : ¬ C ≥ 0 := fun h => hnn (HCg.out.1 h)
       have HX2 := Lib.hid (HXk.out (by rw [HA2.out,if_neg hnn]))
       clear HFk HXk HA2 HU
       go_wp2_with fail
       exact ⟨⟨k + 1,by omega,by go_num,HX2,HB5⟩,by simp [intOf];omega⟩
    ·have hF2 : (F != 0) = true := by simpa using hF0
     have hFA : fAt L k = F := by rw [HA.out,if_pos hF0]
     have HE : Hid (af = F) := Lib.hid (by rw [HFk.out (by rw [hFA];exact hF0),hFA])
     clear HFk HXk hF0 HA hFA HU
     go_wp2_with fail
     go_ret
     exact ⟨by rw [HE.out];rfl,HB4.out⟩
   ·obtain rfl : k = n := by omega
    obtain ⟨hok,hz0,hz1⟩ := HZ.out HX.out
    have HR := Lib.hid (H0.out.below HB.out)
    have HZ0 := Lib.hid hz0
    have HZ1 := Lib.hid hz1
    have HS := Lib.hid (spanOf_any ad k c L wr HR.out Hn.out hs hok)
    have HJv := Lib.hid (sps_vr hok)
    have HJl := Lib.hid (jn_len (L.map spP))
    have HLl := Lib.hid (lst_len hok)
    have Hlst : Hid (pfs (jn (L.map spP)) = lst L) := Lib.hid rfl
    clear hok hz0 hz1 HZ HF HX Hu
    generalize jn (L.map spP) = J at *
    go_wp2_with fail
    refine HS.out.mono ?_
    rintro e w3 ⟨v,rfl,hO,hB⟩
    obtain ⟨ad3,c3,rfl,_⟩ := hO.form
    have HT := Lib.hid (prefixes_any ad3 J.length c3 J w3 hO.rd rfl (by have := HJl.out;rw [List.length_map,Hn.out] at this;omega) HJv.out)
    rw [Hlst.out] at HT
    have HB3 := Lib.hid (HB.out.trans (hB.mono HB.out.size))
    have HR3 := Lib.hid (HR.out.below hB)
    clear hO hB HB HS HJl HJv Hlst HR
    generalize J.length = jl at *
    go_wp2_with fail
    refine HT.out.mono ?_
    rintro e w4 ⟨v,rfl,hO,hB⟩
    obtain ⟨ad4,c4,rfl,_⟩ := hO.form
    have HQ := Lib.hid (equal_pf ad4 ad c4 c (lst L) L w4 hO.rd (HR3.out.below hB) (by have := HLl.out;rw [Hn.out] at this;omega))
    rw [Hn.out] at HQ
    have HB4 := Lib.hid (HB3.out.trans (hB.mono HB3.out.size))
    clear hO hB HB3 HR3 HT HLl
    generalize (lst L).length = ll at *
    go_wp2_with fail
    refine HQ.out.mono ?_
    rintro e w5 ⟨rfl,q5,rfl⟩
    have HB5 := Lib.hid (below_drewN HB4.out q5)
    by_cases hq : lst L = L
    ·have HE := Lib.hid (HZ0.out hq)
     rw [decide_eq_true hq]
     clear hq HQ HZ0 HZ1
     go_wp2_with fail
     go_ret
     exact ⟨by rw [HE.out];rfl,HB5.out⟩
    ·have HE := Lib.hid (HZ1.out hq)
     rw [decide_eq_false hq]
     clear hq HQ HZ0 HZ1
     go_wp2_with fail
     go_ret
     exact ⟨by rw [HE.out];rfl,HB5.out⟩
theorem alloc_of {P : Program} {ty : TypeId} {z : Value} (hz : ∀ w,(zeroValue ty).run P w = .ok z w) (w : World) : (Instr.alloc ty true (.tuple #[])).run P w = .ok (.pointer (some ⟨w.heap.size,0,none⟩)) (w.alloc (.cells z.cells ty (0,0))) := by
 simp [Instr.alloc,hz,newVar,newRow]
theorem wpList_store_newb {P : Program} {ops : Array Oper} {rest : List Oper} {op : Oper} {a : Act} {Q : Exit → Act → World → Prop} {w : World} {c c' : Array Value} (hgd : op.guard = none) (ty : TypeId) (x y : Operand) (ho : op.op = .store ty x y)
  (hx : a.eval x = .pointer (some ⟨w.heap.size,0,none⟩)) (hy : a.eval y = .agg c') (hi : (P.info? ty).map (·.size) = some c'.size) (hs : c.size = c'.size) (h1 : c'.all (·.oneCell') = true)
  (h : wpList P ops Q rest (a.put op.dst undef) (w.alloc (.cells c' ty (0,0)))) : wpList P ops Q (op :: rest) a (w.alloc (.cells c ty (0,0))) :=
 wpList_store_row hgd ty x y ho w.heap.size c' hx hy ty c (heap_alloc_last w _) hi hs h1 (by rw [World.setRow_alloc_new];exact h)
theorem wpList_var {P : Program} {ops : Array Oper} {rest : List Oper} {o1 o2 : Oper} {a : Act} {Q : Exit → Act → World → Prop} {w : World} (c' : Array Value) (ty : TypeId) {z : Value} (hz : ∀ w,(zeroValue ty).run P w = .ok z w)
  (h1 : o1.guard = none) (e1 : o1.op = .alloc ty) (h2 : o2.guard = none) (x y : Operand) (e2 : o2.op = .store ty x y) (d : Option Tmp) (hd : o1.dst = d)
  (hx : (a.put d (.pointer (some ⟨w.heap.size,0,none⟩))).eval x = .pointer (some ⟨w.heap.size,0,none⟩)) (hy : (a.put d (.pointer (some ⟨w.heap.size,0,none⟩))).eval y = .agg c')
  (m : Nat) (hi : (P.info? ty).map (·.size) = some m) (hm : c'.size = m) (hs : z.cells.size = m) (hone : c'.all (·.oneCell') = true)
  (h : wpList P ops Q rest ((a.put d (.pointer (some ⟨w.heap.size,0,none⟩))).put o2.dst undef) (w.alloc (.cells c' ty (0,0)))) : wpList P ops Q (o1 :: o2 :: rest) a w := by
 subst hd hm
 refine wpList_plain h1 fun K hK => ?_
 unfold Oper.wp execOp
 simp only [e1,Sem.run_bind,alloc_of hz w,Sem.run_pure,Result.andThen_ok]
 exact hK _ _ (wpList_store_newb h2 ty x y e2 hx hy hi hs hone h)
theorem wpList_loadn {P : Program} {ops : Array Oper} {rest : List Oper} {op : Oper} {a : Act} {w : World} {Q : Exit → Act → World → Prop} (hgd : op.guard = none) (ty : TypeId) (x : Operand) (ho : op.op = .load ty x)
  (b o : Nat) (hx : a.eval x = .pointer (some ⟨b,o,none⟩)) (cs : List Value) (d : TypeDesc) (hc : w.rangeAt b o cs)
  (hu : P.underlying ty = some d) (hd : d.isRow = true) (m : Nat) (hi : (P.info? ty).map (·.size) = some m) (hm : cs.length = m)
  (h : wpList P ops Q rest (a.put op.dst (.agg cs.toArray)) w) : wpList P ops Q (op :: rest) a w := by
 subst hm
 exact wpList_load_mid hgd ty x ho b o hx cs d hc hu hd hi h
theorem wpList_build1 {P : Program} {ops : Array Oper} {rest : List Oper} {o : Oper} {a : Act} {w : World} {Q : Exit → Act → World → Prop} (hg : o.guard = none) (t e : TypeId) (x : Operand) (ho : o.op = .buildSlice t 1 #[(0,x)])
  (X : Array Value) (hx : a.eval x = .agg X) (m : Nat) (hu : P.underlying t = some (.slice e)) (hi : (P.info? e).map (fun i => (i.size,i.zero.map (fun z => z.cells.size))) = some (m,some m)) (hX : X.size = m) (hpos : 0 < m) (hsmall : m ≤ 2 ^ 24)
  (h : wpList P ops Q rest (a.put o.dst (.slice (some ⟨w.heap.size,0,none⟩) 1 1)) (w.alloc (.cells X e (0,0)))) : wpList P ops Q (o :: rest) a w := by
 cases hie : P.info? e with
 | none => rw [hie] at hi;cases hi
 | some ie =>
   rw [hie] at hi
   simp only [Option.map_some,Option.some.injEq,Prod.mk.injEq] at hi
   obtain ⟨h1,h2⟩ := hi
   cases hz : ie.zero with
   | none => rw [hz] at h2;cases h2
   | some z =>
     rw [hz] at h2
     simp only [Option.map_some,Option.some.injEq] at h2
     have hf := Go.Great.fill_whole (s := m) hpos [Value.agg X] ((Array.range (1 * m)).map (z.cells[· % z.cells.size]!)) (fun v hv => by rw [List.mem_singleton] at hv;subst hv;exact hX) (by simp)
     have e2 : (([Value.agg X] : List Value).flatMap fun v => v.cells.toList).toArray = X := by simp [Value.cells]
     rw [e2] at hf
     refine wpList_buildSlice hg t e 1 #[(0,x)] ho X ie z hu hie hz (by rw [h1];omega) (by rw [h1];omega) ?_ h
     rw [h1]
     simpa [hx] using hf
theorem Blk.range {w : World} {B : Nat} {t : TypeId} {X : List Value} (h : Blk w B t X.toArray) : w.rangeAt B 0 X := fun j v hv => by
 rw [Nat.zero_add,h.cell j]
 simpa using hv
theorem range_left {w : World} {b o : Nat} {A B : List Value} (h : w.rangeAt b o (A ++ B)) : w.rangeAt b o A := fun j v hv => h j v (by
 have hj := (List.getElem?_eq_some_iff.1 hv).1
 rw [List.getElem?_append_left hj];exact hv)
theorem range_right {w : World} {b o : Nat} {A B : List Value} (h : w.rangeAt b o (A ++ B)) : w.rangeAt b (o + A.length) B := fun j v hv => by
 have := h (A.length + j) v (by rw [List.getElem?_append_right (Nat.le_add_right _ _),Nat.add_sub_cancel_left];exact hv)
 rw [← Nat.add_assoc] at this
 exact this
theorem range_below {w w' : World} {b o B : Nat} {A : List Value} (h : w.rangeAt b o A) (hb : Below B w w') (hlt : b < B) : w'.rangeAt b o A := fun j v hv => (hb.cell (p := ⟨b,o + j,none⟩) hlt).trans (h j v hv)
theorem wpQuiet_loadn {P : Program} {ops : Array Oper} {C : World → Prop} {Q : Act → Prop} {o : Oper} {rest : List Oper} {a : Act} (hw : Region.wanted o (yielded ops a.tmps) = true) (ty : TypeId) (x : Operand) (ho : o.op = .load ty x) (dst : Option Tmp) (hdst : o.dst = dst)
  (b off : Nat) (hx : a.eval x = .pointer (some ⟨b,off,none⟩)) (X : Array Value) (hc : ∀ w,C w → w.rangeAt b off X.toList) (d : TypeDesc) (hu : P.underlying ty = some d) (hd : d.isRow = true) (m : Nat) (hi : (P.info? ty).map (·.size) = some m) (hm : X.size = m)
  (h : wpQuiet P ops C Q rest (a.put dst (.agg X))) : wpQuiet P ops C Q (o :: rest) a := by
 subst hm hdst
 refine BigFrame.wpQuiet_want hw fun K hK => ⟨.agg X,fun w hwC => ?_,hK _ h⟩
 have := run_loadAt_mid w b off ty X.toList d (hc w hwC) hu hd (by simpa using hi)
 unfold Oper.quietAt execOp
 simp only [ho,hx,Sem.run_bind,this,Result.andThen_ok,Sem.run_pure]
 exact ⟨rfl,rfl⟩
theorem cN_pos (a b : Nat) : cN a b > 0 ↔ b < a := by unfold cN;split <;> (try split) <;> omega
theorem wN_size (x : Nat) : (wN x).size = 9 := rfl
theorem wN_dig8 (x : Nat) : (wN x).toList[8]? = some (.int .i64 ((digN x 8 : Nat) : Int)) := rfl
theorem qs_split (p : Sp) : layQs.enc p = (wN p.1).toList ++ (wN p.2).toList := Array.toList_append
theorem zero_qs : (Tryz.prog.info? 174).map (fun i => (i.size,i.zero.map (fun z => z.cells.size))) = some (18,some 18) := by kernel_rfl
theorem size_qs : (Tryz.prog.info? 174).map (·.size) = some 18 := by kernel_rfl
theorem size_wide : (Tryz.prog.info? 148).map (·.size) = some 9 := by kernel_rfl
structure TK where
 f : FV
 last : Int
 ans : Bool
 done : Bool
def tkC (x : TK) : List Value := [.int .i64 x.f.p, .bool x.f.s1, .int .u64 x.f.h1, .int .u64 x.f.l1, .bool x.f.s2, .int .u64 x.f.h2, .int .u64 x.f.l2, .int .i64 x.f.fp, .int .i64 x.f.tp, .int .i64 x.last, .bool x.ans, .bool x.done]
def layTk : Lay TK := ⟨tkC,12,65,by decide,fun _ => rfl,fun p v hv => by
 simp [tkC] at hv
 rcases hv with rfl | rfl | rfl | rfl | rfl | rfl | rfl | rfl | rfl | rfl | rfl | rfl <;> rfl⟩
theorem tkE : EI Tryz.prog 42 65 12 88 := EI.mk' (z := .agg #[.int .i64 0, .bool false, .int .u64 0, .int .u64 0, .bool false, .int .u64 0, .int .u64 0, .int .i64 0, .int .i64 0, .int .i64 0, .bool false, .bool false]) Tryz.underlying42 (by kernel_rfl) rfl (by decide)
theorem size_tk : (Tryz.prog.info? 65).map (·.size) = some 12 := by kernel_rfl
theorem under_tk : Tryz.prog.underlying 65 = some (.struct (Tryz.prog.fieldsOf 65)) := by kernel_rfl
theorem zval_tk : ∃ z : Value,z.cells.size = 12 ∧ (∀ w,(zeroValue 65).run Tryz.prog w = .ok z w) ∧ ∀ v ∈ z.cells,v.oneCell' = true := ⟨.agg #[.int .i64 0, .bool false, .int .u64 0, .int .u64 0, .bool false, .int .u64 0, .int .u64 0, .int .i64 0, .int .i64 0, .int .i64 0, .bool false, .bool false],rfl,fun w => by kernel_rfl,fun v hv => by
 simp [Value.cells] at hv
 rcases hv with rfl | rfl | rfl | rfl | rfl | rfl | rfl | rfl | rfl | rfl | rfl | rfl <;> rfl⟩
def longB (tv : TV) (x : TK) : Int := if x.done = true then tv.d else if x.ans = false then tv.y else if x.f.p = 6 then tv.t else tv.o
def endB (tv : TV) (x : TK) (at_ : Int) : Bool := decide (longB tv x ≤ at_ - x.last)
def trC (rs : Value) (tv : TV) (most last : Int) (lst : Value) : Array Value := #[rs, .int .i64 tv.y, .int .i64 tv.t, .int .i64 tv.d, .int .i64 tv.o, .int .i64 most, .int .i64 last,lst]
def tcC (rs : Value) (tv : TV) (most last : Int) (lst : Value) : Array Value := #[rs, .int .i64 tv.y, .int .i64 tv.t, .int .i64 tv.d, .int .i64 tv.o, .int .i64 most,lst, .int .i64 last]
theorem ended_any (T : Nat) (rs : Value) (most last : Int) (lst : Value) (tv : TV) (x : TK) (at_ : Int) (w : World) (hT : Blk w T 80 (trC rs tv most last lst)) (hx : 0 ≤ x.last ∧ x.last < 345686400) (ha : 0 ≤ at_ ∧ at_ < 345686400) :
  Calls Tryz.prog 57 #[.pointer (some ⟨T,0,none⟩), .agg (tkC x).toArray, .int .i64 at_] w (Ret (.bool (endB tv x at_)) w) := by
 have HE : Hid (endB tv x at_ = decide (longB tv x ≤ at_ - x.last)) := Lib.hid rfl
 have HL : Hid (longB tv x = if x.done = true then tv.d else if x.ans = false then tv.y else if x.f.p = 6 then tv.t else tv.o) := Lib.hid rfl
 rw [HE.out,HL.out]
 clear HE HL
 obtain ⟨⟨fp,s1,h1,l1,s2,h2,l2,ff,ft⟩,la,an,dn⟩ := x
 obtain ⟨y,t,d,o⟩ := tv
 simp only [tkC,trC] at hT ⊢
 simp only at hx
 have HT0 := Lib.hid hT
 have HX : Hid (Blk (w.alloc (.cells #[.int .i64 fp, .bool s1, .int .u64 h1, .int .u64 l1, .bool s2, .int .u64 h2, .int .u64 l2, .int .i64 ff, .int .i64 ft, .int .i64 la, .bool an, .bool dn] 65 (0,0))) w.heap.size 65 #[.int .i64 fp, .bool s1, .int .u64 h1, .int .u64 l1, .bool s2, .int .u64 h2, .int .u64 l2, .int .i64 ff, .int .i64 ft, .int .i64 la, .bool an, .bool dn]) := Lib.hid (Blk.new w _ _)
 have HB : Hid (Below w.heap.size w (w.alloc (.cells #[.int .i64 fp, .bool s1, .int .u64 h1, .int .u64 l1, .bool s2, .int .u64 h2, .int .u64 l2, .int .i64 ff, .int .i64 ft, .int .i64 la, .bool an, .bool dn] 65 (0,0)))) := Lib.hid (below_alloc (Below.refl _ _) _)
 have HT := Lib.hid (HT0.out.alloc (.cells #[.int .i64 fp, .bool s1, .int .u64 h1, .int .u64 l1, .bool s2, .int .u64 h2, .int .u64 l2, .int .i64 ff, .int .i64 ft, .int .i64 la, .bool an, .bool dn] 65 (0,0)))
 clear hT HT0
 go_enter Tryz.func57,Tryz.ntmps57
 go_upto_region 1 with fail
 generalize w.alloc (.cells #[.int .i64 fp, .bool s1, .int .u64 h1, .int .u64 l1, .bool s2, .int .u64 h2, .int .u64 l2, .int .i64 ff, .int .i64 ft, .int .i64 la, .bool an, .bool dn] 65 (0,0)) = w1 at *
 generalize hbx : w.heap.size = bx at HX ⊢
 clear hbx
 have t1 := HT.out.cell 1
 have t2 := HT.out.cell 2
 have t3 := HT.out.cell 3
 have t4 := HT.out.cell 4
 have x0 := HX.out.cell 0
 have x9 := HX.out.cell 9
 have x10 := HX.out.cell 10
 have x11 := HX.out.cell 11
 simp at t1 t2 t3 t4 x0 x9 x10 x11
 cases dn
 ·cases an
  ·go_wp2_with fail
   go_ret
   exact ⟨by simp,HB.out⟩
  ·by_cases h6 : fp = 6
   ·subst h6
    go_wp2_with fail
    go_ret
    exact ⟨by simp,HB.out⟩
   ·have h6' : (fp == 6) = false := by simpa using h6
    go_wp2_with fail
    go_ret
    exact ⟨by simp,HB.out⟩
 ·go_wp2_with fail
  go_ret
  exact ⟨by simp,HB.out⟩
theorem over_any (T : Nat) (rs : Value) (most last : Int) (lst : Value) (tv : TV) (x : TK) (at_ : Int) (w : World) (hT : Blk w T 44 (tcC rs tv most last lst)) (hx : 0 ≤ x.last ∧ x.last < 345686400) (ha : 0 ≤ at_ ∧ at_ < 345686400) :
  Calls Tryz.prog 62 #[.pointer (some ⟨T,0,none⟩), .agg (tkC x).toArray, .int .i64 at_] w (Ret (.bool (endB tv x at_)) w) := by
 have HE : Hid (endB tv x at_ = decide (longB tv x ≤ at_ - x.last)) := Lib.hid rfl
 have HL : Hid (longB tv x = if x.done = true then tv.d else if x.ans = false then tv.y else if x.f.p = 6 then tv.t else tv.o) := Lib.hid rfl
 rw [HE.out,HL.out]
 clear HE HL
 obtain ⟨⟨fp,s1,h1,l1,s2,h2,l2,ff,ft⟩,la,an,dn⟩ := x
 obtain ⟨y,t,d,o⟩ := tv
 simp only [tkC,tcC] at hT ⊢
 simp only at hx
 have HT0 := Lib.hid hT
 have HX : Hid (Blk (w.alloc (.cells #[.int .i64 fp, .bool s1, .int .u64 h1, .int .u64 l1, .bool s2, .int .u64 h2, .int .u64 l2, .int .i64 ff, .int .i64 ft, .int .i64 la, .bool an, .bool dn] 65 (0,0))) w.heap.size 65 #[.int .i64 fp, .bool s1, .int .u64 h1, .int .u64 l1, .bool s2, .int .u64 h2, .int .u64 l2, .int .i64 ff, .int .i64 ft, .int .i64 la, .bool an, .bool dn]) := Lib.hid (Blk.new w _ _)
 have HB : Hid (Below w.heap.size w (w.alloc (.cells #[.int .i64 fp, .bool s1, .int .u64 h1, .int .u64 l1, .bool s2, .int .u64 h2, .int .u64 l2, .int .i64 ff, .int .i64 ft, .int .i64 la, .bool an, .bool dn] 65 (0,0)))) := Lib.hid (below_alloc (Below.refl _ _) _)
 have HT := Lib.hid (HT0.out.alloc (.cells #[.int .i64 fp, .bool s1, .int .u64 h1, .int .u64 l1, .bool s2, .int .u64 h2, .int .u64 l2, .int .i64 ff, .int .i64 ft, .int .i64 la, .bool an, .bool dn] 65 (0,0)))
 clear hT HT0
 go_enter Tryz.func62,Tryz.ntmps62
 go_upto_region 1 with fail
 generalize w.alloc (.cells #[.int .i64 fp, .bool s1, .int .u64 h1, .int .u64 l1, .bool s2, .int .u64 h2, .int .u64 l2, .int .i64 ff, .int .i64 ft, .int .i64 la, .bool an, .bool dn] 65 (0,0)) = w1 at *
 generalize hbx : w.heap.size = bx at HX ⊢
 clear hbx
 have t1 := HT.out.cell 1
 have t2 := HT.out.cell 2
 have t3 := HT.out.cell 3
 have t4 := HT.out.cell 4
 have x0 := HX.out.cell 0
 have x9 := HX.out.cell 9
 have x10 := HX.out.cell 10
 have x11 := HX.out.cell 11
 simp at t1 t2 t3 t4 x0 x9 x10 x11
 cases dn
 ·cases an
  ·go_wp2_with fail
   go_ret
   exact ⟨by simp,HB.out⟩
  ·by_cases h6 : fp = 6
   ·subst h6
    go_wp2_with fail
    go_ret
    exact ⟨by simp,HB.out⟩
   ·have h6' : (fp == 6) = false := by simpa using h6
    go_wp2_with fail
    go_ret
    exact ⟨by simp,HB.out⟩
 ·go_wp2_with fail
  go_ret
  exact ⟨by simp,HB.out⟩
theorem tsee1_any (T p1 p2 : Nat) (rs : Value) (most last : Int) (lst : Value) (tv : TV) (x : TK) (at_ : Int) (w : World) (hT : Blk w T 80 (trC rs tv most last lst)) (h1 : Blk w p1 32 #[.pointer (some ⟨T,0,none⟩)]) (h2 : Blk w p2 3 #[.int .i64 at_]) (hx : 0 ≤ x.last ∧ x.last < 345686400) (ha : 0 ≤ at_ ∧ at_ < 345686400) :
  Calls Tryz.prog 84 #[.agg (tkC x).toArray, .pointer (some ⟨p1,0,none⟩), .pointer (some ⟨p2,0,none⟩)] w (Ret (.bool (endB tv x at_)) w) := by
 have HC := Lib.hid fun wx (hb : Below w.heap.size w wx) => ended_any T rs most last lst tv x at_ wx (hT.below hb hT.lt) hx ha
 generalize endB tv x at_ = E at *
 have H1 := Lib.hid h1
 have H2 := Lib.hid h2
 obtain ⟨⟨fp,s1,h1',l1,s2,h2',l2,ff,ft⟩,la,an,dn⟩ := x
 simp only [tkC] at HC ⊢
 clear hx hT h1 h2
 have HX : Hid (Blk (w.alloc (.cells #[.int .i64 fp, .bool s1, .int .u64 h1', .int .u64 l1, .bool s2, .int .u64 h2', .int .u64 l2, .int .i64 ff, .int .i64 ft, .int .i64 la, .bool an, .bool dn] 65 (0,0))) w.heap.size 65 #[.int .i64 fp, .bool s1, .int .u64 h1', .int .u64 l1, .bool s2, .int .u64 h2', .int .u64 l2, .int .i64 ff, .int .i64 ft, .int .i64 la, .bool an, .bool dn]) := Lib.hid (Blk.new w _ _)
 have HB : Hid (Below w.heap.size w (w.alloc (.cells #[.int .i64 fp, .bool s1, .int .u64 h1', .int .u64 l1, .bool s2, .int .u64 h2', .int .u64 l2, .int .i64 ff, .int .i64 ft, .int .i64 la, .bool an, .bool dn] 65 (0,0)))) := Lib.hid (below_alloc (Below.refl _ _) _)
 have hp1 := (H1.out.alloc (.cells #[.int .i64 fp, .bool s1, .int .u64 h1', .int .u64 l1, .bool s2, .int .u64 h2', .int .u64 l2, .int .i64 ff, .int .i64 ft, .int .i64 la, .bool an, .bool dn] 65 (0,0))).cell 0
 have hp2 := (H2.out.alloc (.cells #[.int .i64 fp, .bool s1, .int .u64 h1', .int .u64 l1, .bool s2, .int .u64 h2', .int .u64 l2, .int .i64 ff, .int .i64 ft, .int .i64 la, .bool an, .bool dn] 65 (0,0))).cell 0
 simp only [List.getElem?_toArray,List.getElem?_cons_zero] at hp1 hp2
 clear H1 H2
 go_enter Tryz.func84,Tryz.ntmps84
 go_upto_region 1 with fail
 generalize w.alloc (.cells #[.int .i64 fp, .bool s1, .int .u64 h1', .int .u64 l1, .bool s2, .int .u64 h2', .int .u64 l2, .int .i64 ff, .int .i64 ft, .int .i64 la, .bool an, .bool dn] 65 (0,0)) = w1 at *
 generalize hbx : w.heap.size = bx at HX ⊢
 clear hbx
 have x0 := HX.out.cell 0
 have x1 := HX.out.cell 1
 have x2 := HX.out.cell 2
 have x3 := HX.out.cell 3
 have x4 := HX.out.cell 4
 have x5 := HX.out.cell 5
 have x6 := HX.out.cell 6
 have x7 := HX.out.cell 7
 have x8 := HX.out.cell 8
 have x9 := HX.out.cell 9
 have x10 := HX.out.cell 10
 have x11 := HX.out.cell 11
 simp at x0 x1 x2 x3 x4 x5 x6 x7 x8 x9 x10 x11
 go_wp2_with fail
 refine (HC.out _ HB.out).mono ?_
 rintro e w2 ⟨rfl,hb⟩
 have HB2 := Lib.hid (HB.out.trans (hb.mono HB.out.size))
 clear hb HC HB HX hp1 hp2 x0 x1 x2 x3 x4 x5 x6 x7 x8 x9 x10 x11
 go_wp2_with fail
 go_ret
 exact ⟨rfl,HB2.out⟩
theorem tflows1_any (T p1 p2 : Nat) (rs : Value) (most last : Int) (lst : Value) (tv : TV) (x : TK) (at_ : Int) (w : World) (hT : Blk w T 80 (trC rs tv most last lst)) (h1 : Blk w p1 32 #[.pointer (some ⟨T,0,none⟩)]) (h2 : Blk w p2 3 #[.int .i64 at_]) (hx : 0 ≤ x.last ∧ x.last < 345686400) (ha : 0 ≤ at_ ∧ at_ < 345686400) :
  Calls Tryz.prog 56 #[.agg (tkC x).toArray, .pointer (some ⟨p1,0,none⟩), .pointer (some ⟨p2,0,none⟩)] w (Ret (.bool (endB tv x at_)) w) := by
 have HC := Lib.hid fun wx (hb : Below w.heap.size w wx) => ended_any T rs most last lst tv x at_ wx (hT.below hb hT.lt) hx ha
 generalize endB tv x at_ = E at *
 have H1 := Lib.hid h1
 have H2 := Lib.hid h2
 obtain ⟨⟨fp,s1,h1',l1,s2,h2',l2,ff,ft⟩,la,an,dn⟩ := x
 simp only [tkC] at HC ⊢
 clear hx hT h1 h2
 have HX : Hid (Blk (w.alloc (.cells #[.int .i64 fp, .bool s1, .int .u64 h1', .int .u64 l1, .bool s2, .int .u64 h2', .int .u64 l2, .int .i64 ff, .int .i64 ft, .int .i64 la, .bool an, .bool dn] 65 (0,0))) w.heap.size 65 #[.int .i64 fp, .bool s1, .int .u64 h1', .int .u64 l1, .bool s2, .int .u64 h2', .int .u64 l2, .int .i64 ff, .int .i64 ft, .int .i64 la, .bool an, .bool dn]) := Lib.hid (Blk.new w _ _)
 have HB : Hid (Below w.heap.size w (w.alloc (.cells #[.int .i64 fp, .bool s1, .int .u64 h1', .int .u64 l1, .bool s2, .int .u64 h2', .int .u64 l2, .int .i64 ff, .int .i64 ft, .int .i64 la, .bool an, .bool dn] 65 (0,0)))) := Lib.hid (below_alloc (Below.refl _ _) _)
 have hp1 := (H1.out.alloc (.cells #[.int .i64 fp, .bool s1, .int .u64 h1', .int .u64 l1, .bool s2, .int .u64 h2', .int .u64 l2, .int .i64 ff, .int .i64 ft, .int .i64 la, .bool an, .bool dn] 65 (0,0))).cell 0
 have hp2 := (H2.out.alloc (.cells #[.int .i64 fp, .bool s1, .int .u64 h1', .int .u64 l1, .bool s2, .int .u64 h2', .int .u64 l2, .int .i64 ff, .int .i64 ft, .int .i64 la, .bool an, .bool dn] 65 (0,0))).cell 0
 simp only [List.getElem?_toArray,List.getElem?_cons_zero] at hp1 hp2
 clear H1 H2
 go_enter Tryz.func56,Tryz.ntmps56
 go_upto_region 1 with fail
 generalize w.alloc (.cells #[.int .i64 fp, .bool s1, .int .u64 h1', .int .u64 l1, .bool s2, .int .u64 h2', .int .u64 l2, .int .i64 ff, .int .i64 ft, .int .i64 la, .bool an, .bool dn] 65 (0,0)) = w1 at *
 generalize hbx : w.heap.size = bx at HX ⊢
 clear hbx
 have x0 := HX.out.cell 0
 have x1 := HX.out.cell 1
 have x2 := HX.out.cell 2
 have x3 := HX.out.cell 3
 have x4 := HX.out.cell 4
 have x5 := HX.out.cell 5
 have x6 := HX.out.cell 6
 have x7 := HX.out.cell 7
 have x8 := HX.out.cell 8
 have x9 := HX.out.cell 9
 have x10 := HX.out.cell 10
 have x11 := HX.out.cell 11
 simp at x0 x1 x2 x3 x4 x5 x6 x7 x8 x9 x10 x11
 go_wp2_with fail
 refine (HC.out _ HB.out).mono ?_
 rintro e w2 ⟨rfl,hb⟩
 have HB2 := Lib.hid (HB.out.trans (hb.mono HB.out.size))
 clear hb HC HB HX hp1 hp2 x0 x1 x2 x3 x4 x5 x6 x7 x8 x9 x10 x11
 go_wp2_with fail
 go_ret
 exact ⟨rfl,HB2.out⟩
theorem qsee1_any (T p1 p2 : Nat) (rs : Value) (most last : Int) (lst : Value) (tv : TV) (x : TK) (at_ : Int) (w : World) (hT : Blk w T 44 (tcC rs tv most last lst)) (h1 : Blk w p1 41 #[.pointer (some ⟨T,0,none⟩)]) (h2 : Blk w p2 3 #[.int .i64 at_]) (hx : 0 ≤ x.last ∧ x.last < 345686400) (ha : 0 ≤ at_ ∧ at_ < 345686400) :
  Calls Tryz.prog 94 #[.agg (tkC x).toArray, .pointer (some ⟨p1,0,none⟩), .pointer (some ⟨p2,0,none⟩)] w (Ret (.bool (endB tv x at_)) w) := by
 have HC := Lib.hid fun wx (hb : Below w.heap.size w wx) => over_any T rs most last lst tv x at_ wx (hT.below hb hT.lt) hx ha
 generalize endB tv x at_ = E at *
 have H1 := Lib.hid h1
 have H2 := Lib.hid h2
 obtain ⟨⟨fp,s1,h1',l1,s2,h2',l2,ff,ft⟩,la,an,dn⟩ := x
 simp only [tkC] at HC ⊢
 clear hx hT h1 h2
 have HX : Hid (Blk (w.alloc (.cells #[.int .i64 fp, .bool s1, .int .u64 h1', .int .u64 l1, .bool s2, .int .u64 h2', .int .u64 l2, .int .i64 ff, .int .i64 ft, .int .i64 la, .bool an, .bool dn] 65 (0,0))) w.heap.size 65 #[.int .i64 fp, .bool s1, .int .u64 h1', .int .u64 l1, .bool s2, .int .u64 h2', .int .u64 l2, .int .i64 ff, .int .i64 ft, .int .i64 la, .bool an, .bool dn]) := Lib.hid (Blk.new w _ _)
 have HB : Hid (Below w.heap.size w (w.alloc (.cells #[.int .i64 fp, .bool s1, .int .u64 h1', .int .u64 l1, .bool s2, .int .u64 h2', .int .u64 l2, .int .i64 ff, .int .i64 ft, .int .i64 la, .bool an, .bool dn] 65 (0,0)))) := Lib.hid (below_alloc (Below.refl _ _) _)
 have hp1 := (H1.out.alloc (.cells #[.int .i64 fp, .bool s1, .int .u64 h1', .int .u64 l1, .bool s2, .int .u64 h2', .int .u64 l2, .int .i64 ff, .int .i64 ft, .int .i64 la, .bool an, .bool dn] 65 (0,0))).cell 0
 have hp2 := (H2.out.alloc (.cells #[.int .i64 fp, .bool s1, .int .u64 h1', .int .u64 l1, .bool s2, .int .u64 h2', .int .u64 l2, .int .i64 ff, .int .i64 ft, .int .i64 la, .bool an, .bool dn] 65 (0,0))).cell 0
 simp only [List.getElem?_toArray,List.getElem?_cons_zero] at hp1 hp2
 clear H1 H2
 go_enter Tryz.func94,Tryz.ntmps94
 go_upto_region 1 with fail
 generalize w.alloc (.cells #[.int .i64 fp, .bool s1, .int .u64 h1', .int .u64 l1, .bool s2, .int .u64 h2', .int .u64 l2, .int .i64 ff, .int .i64 ft, .int .i64 la, .bool an, .bool dn] 65 (0,0)) = w1 at *
 generalize hbx : w.heap.size = bx at HX ⊢
 clear hbx
 have x0 := HX.out.cell 0
 have x1 := HX.out.cell 1
 have x2 := HX.out.cell 2
 have x3 := HX.out.cell 3
 have x4 := HX.out.cell 4
 have x5 := HX.out.cell 5
 have x6 := HX.out.cell 6
 have x7 := HX.out.cell 7
 have x8 := HX.out.cell 8
 have x9 := HX.out.cell 9
 have x10 := HX.out.cell 10
 have x11 := HX.out.cell 11
 simp at x0 x1 x2 x3 x4 x5 x6 x7 x8 x9 x10 x11
 go_wp2_with fail
 refine (HC.out _ HB.out).mono ?_
 rintro e w2 ⟨rfl,hb⟩
 have HB2 := Lib.hid (HB.out.trans (hb.mono HB.out.size))
 clear hb HC HB HX hp1 hp2 x0 x1 x2 x3 x4 x5 x6 x7 x8 x9 x10 x11
 go_wp2_with fail
 go_ret
 exact ⟨rfl,HB2.out⟩
theorem qflows1_any (T p1 p2 : Nat) (rs : Value) (most last : Int) (lst : Value) (tv : TV) (x : TK) (at_ : Int) (w : World) (hT : Blk w T 44 (tcC rs tv most last lst)) (h1 : Blk w p1 41 #[.pointer (some ⟨T,0,none⟩)]) (h2 : Blk w p2 3 #[.int .i64 at_]) (hx : 0 ≤ x.last ∧ x.last < 345686400) (ha : 0 ≤ at_ ∧ at_ < 345686400) :
  Calls Tryz.prog 61 #[.agg (tkC x).toArray, .pointer (some ⟨p1,0,none⟩), .pointer (some ⟨p2,0,none⟩)] w (Ret (.bool (endB tv x at_)) w) := by
 have HC := Lib.hid fun wx (hb : Below w.heap.size w wx) => over_any T rs most last lst tv x at_ wx (hT.below hb hT.lt) hx ha
 generalize endB tv x at_ = E at *
 have H1 := Lib.hid h1
 have H2 := Lib.hid h2
 obtain ⟨⟨fp,s1,h1',l1,s2,h2',l2,ff,ft⟩,la,an,dn⟩ := x
 simp only [tkC] at HC ⊢
 clear hx hT h1 h2
 have HX : Hid (Blk (w.alloc (.cells #[.int .i64 fp, .bool s1, .int .u64 h1', .int .u64 l1, .bool s2, .int .u64 h2', .int .u64 l2, .int .i64 ff, .int .i64 ft, .int .i64 la, .bool an, .bool dn] 65 (0,0))) w.heap.size 65 #[.int .i64 fp, .bool s1, .int .u64 h1', .int .u64 l1, .bool s2, .int .u64 h2', .int .u64 l2, .int .i64 ff, .int .i64 ft, .int .i64 la, .bool an, .bool dn]) := Lib.hid (Blk.new w _ _)
 have HB : Hid (Below w.heap.size w (w.alloc (.cells #[.int .i64 fp, .bool s1, .int .u64 h1', .int .u64 l1, .bool s2, .int .u64 h2', .int .u64 l2, .int .i64 ff, .int .i64 ft, .int .i64 la, .bool an, .bool dn] 65 (0,0)))) := Lib.hid (below_alloc (Below.refl _ _) _)
 have hp1 := (H1.out.alloc (.cells #[.int .i64 fp, .bool s1, .int .u64 h1', .int .u64 l1, .bool s2, .int .u64 h2', .int .u64 l2, .int .i64 ff, .int .i64 ft, .int .i64 la, .bool an, .bool dn] 65 (0,0))).cell 0
 have hp2 := (H2.out.alloc (.cells #[.int .i64 fp, .bool s1, .int .u64 h1', .int .u64 l1, .bool s2, .int .u64 h2', .int .u64 l2, .int .i64 ff, .int .i64 ft, .int .i64 la, .bool an, .bool dn] 65 (0,0))).cell 0
 simp only [List.getElem?_toArray,List.getElem?_cons_zero] at hp1 hp2
 clear H1 H2
 go_enter Tryz.func61,Tryz.ntmps61
 go_upto_region 1 with fail
 generalize w.alloc (.cells #[.int .i64 fp, .bool s1, .int .u64 h1', .int .u64 l1, .bool s2, .int .u64 h2', .int .u64 l2, .int .i64 ff, .int .i64 ft, .int .i64 la, .bool an, .bool dn] 65 (0,0)) = w1 at *
 generalize hbx : w.heap.size = bx at HX ⊢
 clear hbx
 have x0 := HX.out.cell 0
 have x1 := HX.out.cell 1
 have x2 := HX.out.cell 2
 have x3 := HX.out.cell 3
 have x4 := HX.out.cell 4
 have x5 := HX.out.cell 5
 have x6 := HX.out.cell 6
 have x7 := HX.out.cell 7
 have x8 := HX.out.cell 8
 have x9 := HX.out.cell 9
 have x10 := HX.out.cell 10
 have x11 := HX.out.cell 11
 simp at x0 x1 x2 x3 x4 x5 x6 x7 x8 x9 x10 x11
 go_wp2_with fail
 refine (HC.out _ HB.out).mono ?_
 rintro e w2 ⟨rfl,hb⟩
 have HB2 := Lib.hid (HB.out.trans (hb.mono HB.out.size))
 clear hb HC HB HX hp1 hp2 x0 x1 x2 x3 x4 x5 x6 x7 x8 x9 x10 x11
 go_wp2_with fail
 go_ret
 exact ⟨rfl,HB2.out⟩
def FV.eqB (f g : FV) : Bool := f.p == g.p && (f.s1 == g.s1 && (f.h1 == g.h1 && f.l1 == g.l1)) && (f.s2 == g.s2 && (f.h2 == g.h2 && f.l2 == g.l2)) && f.fp == g.fp && f.tp == g.tp
theorem eqGuard_flow (op : BinOp) (x y : Operand) (f g : FV) (w : World) (h : op = .eql ∨ op = .neq) : (eqGuard op 63 x y (.agg f.cells) (.agg g.cells)).run Tryz.prog w = .ok () w := by
 rcases h with rfl | rfl
 ·exact run_eqGuard_agg w _ _ _ _ _ _ (by kernel_rfl)
 ·exact run_eqGuard_agg w _ _ _ _ _ _ (by kernel_rfl)
theorem equalIn_addr (d : Nat) (w : World) (a : Bool) (b c : Int) (a2 : Bool) (b2 c2 : Int) : (Op.equalIn (d + 2) 49 (.agg #[.bool a, .int .u64 b, .int .u64 c]) (.agg #[.bool a2, .int .u64 b2, .int .u64 c2])).run Tryz.prog w = .ok (a == a2 && (b == b2 && c == c2)) w := by
 have u2 := Tryz.underlying4
 have a2' := Tryz.isAgg4
 have z2 := Tryz.sizeOf4
 have u3 := Tryz.underlying47
 have a3 := Tryz.isAgg47
 have z3 := Tryz.sizeOf47
 have hS5 : Tryz.prog.underlying 49 = some (.struct (Tryz.prog.fieldsOf 49)) := by kernel_rfl
 have hp5 : Tryz.prog.stoodInHeld 49 = false := by kernel_rfl
 rw [run_equalIn_agg w (d + 1) 49 _ _ hS5 hp5]
 simp only [Program.fieldsOf,Tryz.underlying49]
 go_simp
 cases h1 : (a == a2) <;> cases h2 : (b == b2) <;> cases h3 : (c == c2) <;> simp_all
theorem equalIn_flow (d : Nat) (w : World) (f g : FV) : (Op.equalIn (d + 3) 63 (.agg f.cells) (.agg g.cells)).run Tryz.prog w = .ok (f.eqB g) w := by
 have u1 := Tryz.underlying3
 have a1 := Tryz.isAgg3
 have z1 := Tryz.sizeOf3
 have u5 := Tryz.underlying49
 have a5 := Tryz.isAgg49
 have z5 := Tryz.sizeOf49
 have hS4 : Tryz.prog.underlying 63 = some (.struct (Tryz.prog.fieldsOf 63)) := by kernel_rfl
 have hp4 : Tryz.prog.stoodInHeld 63 = false := by kernel_rfl
 have e5 := equalIn_addr
 obtain ⟨p,s1,h1,l1,s2,h2,l2,fp,tp⟩ := f
 obtain ⟨p',s1',h1',l1',s2',h2',l2',fp',tp'⟩ := g
 rw [run_equalIn_agg w (d + 2) 63 _ _ hS4 hp4]
 simp only [Program.fieldsOf,Tryz.underlying63,FV.cells,FV.eqB]
 go_simp
 clear u1 a1 z1 u5 a5 z5 hS4 hp4 e5
 repeat' split
 all_goals simp_all
 all_goals (intros;simp_all)
theorem eql_flow (f g : FV) (w : World) : (binOp .eql 63 (.agg f.cells) (.agg g.cells)).run Tryz.prog w = .ok (.bool (f.eqB g)) w := by
 have := equalIn_flow 9997 w f g
 simp only [binOp]
 simp [Op.equal,Op.maxDepth,this]
theorem neq_flow (f g : FV) (w : World) : (binOp .neq 63 (.agg f.cells) (.agg g.cells)).run Tryz.prog w = .ok (.bool (!f.eqB g)) w := by
 have := equalIn_flow 9997 w f g
 rw [run_neq_struct,show (10000 : Nat) = 9997 + 3 from rfl,this]
 rfl
def momF (at_ last : Int) : Int := if at_ < 0 ∨ 345686400 ≤ at_ then 1 else if at_ < last then 7 else 0
def liveM (tv : TV) (at_ : Int) (L : List TK) : List TK := L.filter fun x => !endB tv x at_
def isF (f : FV) (x : TK) : Bool := x.f.eqB f || x.f.eqB f.back
def seenM (f : FV) (at_ : Int) (fin : Bool) (x : TK) : TK := ⟨x.f,at_,x.ans || !x.f.eqB f,x.done || fin⟩
def firstI {α : Type} (p : α → Bool) : List α → Option Nat
 | [] => none
 | x :: l => if p x = true then some 0 else (firstI p l).map (· + 1)
theorem firstI_some {α : Type} {p : α → Bool} : ∀ {L : List α} {i : Nat} {x : α},L[i]? = some x → p x = true → (∀ (j : Nat) (y : α),j < i → L[j]? = some y → p y = false) → firstI p L = some i
 | [],i,x,h,_,_ => by simp at h
 | a :: L,0,x,h,hp,_ => by
   have : a = x := by simpa using h
   subst this
   unfold firstI
   rw [if_pos hp]
 | a :: L,i + 1,x,h,hp,hj => by
   have ha : p a = false := hj 0 a (by omega) rfl
   unfold firstI
   rw [if_neg (by simp [ha]),firstI_some (by simpa using h) hp (fun j y h1 h2 => hj (j + 1) y (by omega) (by simpa using h2))]
   rfl
theorem firstI_none {α : Type} {p : α → Bool} : ∀ {L : List α},(∀ x ∈ L,p x = false) → firstI p L = none
 | [],_ => rfl
 | a :: L,h => by
   unfold firstI
   rw [if_neg (by simp [h a (by simp)]),firstI_none (fun x hx => h x (by simp [hx]))]
   rfl
def seeM (tv : TV) (f : FV) (fin : Bool) (at_ : Int) (L : List TK) : Bool × List TK :=
 match firstI (isF f) (liveM tv at_ L) with
 | none => (false,liveM tv at_ L)
 | some i => (true,(liveM tv at_ L).modify i (seenM f at_ fin))
def leastK (L : List TK) : Nat → Nat
 | 0 => 0
 | k + 1 => match L[k]?,L[leastK L k]? with
  | some x,some y => if x.last < y.last then k else leastK L k
  | _,_ => leastK L k
def newT (f : FV) (fin : Bool) (at_ : Int) : TK := ⟨f,at_,false,fin⟩
def trackM (most : Int) (f : FV) (fin : Bool) (at_ : Int) (L : List TK) : List TK :=
 if ((L.length : Int) + 1) ≤ most then L ++ [newT f fin at_] else (L ++ [newT f fin at_]).eraseIdx (leastK (L ++ [newT f fin at_]) (L.length + 1))
def TkOk (L : List TK) : Prop := ∀ x ∈ L,0 ≤ x.last ∧ x.last < 345686400
def encB (c : UInt8) : Value := .int .u8 (c.toNat : Int)
def encBs (bs : List UInt8) : List Value := bs.map encB
def OwnB (w : World) (base : Nat) (v : Value) (bs : List UInt8) : Prop := w.ownsRow base 5 1 v bs.length (encBs bs)
theorem byteE : EI Tryz.prog 50 5 1 1 := EI.mk' (z := .int .u8 0) Tryz.underlying50 (by kernel_rfl) rfl (by decide)
theorem OwnB.nil (w : World) (base : Nat) : OwnB w base (.slice none 0 0) [] := World.ownsRow_nil w base _ 1
def be (n : Nat) : Nat → List UInt8
 | 0 => []
 | k + 1 => UInt8.ofNat (n / 256 ^ k) :: be n k
end Go.Proofs.YthebgfnaomgcnaaGreat
