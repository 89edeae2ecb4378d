/-
  Generators of flows and times: contracts of Flow, Times.
  Flows turned round, and times: back, Back, BackOf, CheckTimes, TimesFault, Times, filtered.
  Sorting an own row of structs by a number of each element, in the words of an own row.
  The contract of slices.SortFunc at a slice of structs over this program, as the kit's lay-plain.mjs prints it. Condition: the slice has no element, or its cells are known, fewer than 2^62 of them.
  The contract of slices.SortFunc at a slice of structs over this program, as the kit's lay-plain.mjs prints it. Condition: the slice has no element, or its cells are known, fewer than 2^62 of them.
  Contracts of Go's library over this program, as the kit's lay-plain.mjs prints them. Conditions: stated in each.
  Rows of prefixes, of ranges, of spans: how they lie; the comparisons of the two sorts; the sorts; the copies.
  The copies and the sorts of rows of ranges (program) and of spans (reference).
-/
import Derived.Test.YthebgfnaomgcnaaGreatFT1
import Derived.Test.YthebgfnaomgcnaaGreatFT5
import Derived.Shelf.SlSortCmp.NoneTotal
import Derived.Test.YthebgfnaomgcnaaGreatProg
import Derived.Shelf.Small.Bits
import Derived.Shelf.Strconv.Itoa0
import Derived.WalkSpells
set_option linter.unusedVariables false
set_option maxRecDepth 100000
set_option maxHeartbeats 1000000
namespace Go.Proofs.YthebgfnaomgcnaaGreat
open Go.RowKit
def FV.back (f : FV) : FV := ⟨f.p,f.s2,f.h2,f.l2,f.s1,f.h1,f.l1,f.tp,f.fp⟩
theorem fback_any (f : FV) (w : World) : Calls Tryz.prog 87 #[.agg f.cells] w (Ret (.agg f.back.cells) w) := by
 obtain ⟨p,s1,h1,l1,s2,h2,l2,fp,tp⟩ := f
 simp only [FV.cells,FV.back]
 go_enter Tryz.func87,Tryz.ntmps87
 go_wp2
 exact bodyPost_ret (v := .agg #[.int .i64 p, .bool s2, .int .u64 h2, .int .u64 l2, .bool s1, .int .u64 h1, .int .u64 l1, .int .i64 tp, .int .i64 fp]) (by simp [results,Tryz.results87,go_sem]) rfl ⟨rfl,by repeat (first | exact Below.refl _ _ | apply below_alloc | apply below_drewN | (refine below_set ?_ (by simp) _ _))⟩
theorem backOf_any (f : FV) (w : World) : Calls Tryz.prog 95 #[.agg f.cells] w (Ret (.agg f.back.cells) w) := by
 obtain ⟨p,s1,h1,l1,s2,h2,l2,fp,tp⟩ := f
 simp only [FV.cells,FV.back]
 go_enter Tryz.func95,Tryz.ntmps95
 go_wp2
 exact bodyPost_ret (v := .agg #[.int .i64 p, .bool s2, .int .u64 h2, .int .u64 l2, .bool s1, .int .u64 h1, .int .u64 l1, .int .i64 tp, .int .i64 fp]) (by simp [results,Tryz.results95,go_sem]) rfl ⟨rfl,by repeat (first | exact Below.refl _ _ | apply below_alloc | apply below_drewN | (refine below_set ?_ (by simp) _ _))⟩
/-! times -/
structure TV where
 y : Int
 t : Int
 d : Int
 o : Int
def TV.cells (x : TV) : Array Value := #[.int .i64 x.y, .int .i64 x.t, .int .i64 x.d, .int .i64 x.o]
def TV.ok (x : TV) : Prop := I41 x.y ∧ I41 x.t ∧ I41 x.d ∧ I41 x.o
def timesFault (x : TV) : Int := if outB x.y 1 86400 = true ∨ outB x.t 1 86400 = true ∨ outB x.d 1 86400 = true ∨ outB x.o 1 86400 = true then 1 else 0
theorem timesFault_bad {x : TV} (h : min (min (min x.y x.t) x.d) x.o < 1 ∨ 86400 < max (max (max x.y x.t) x.d) x.o) : timesFault x = 1 := by
 unfold timesFault outB
 refine if_pos ?_
 simp only [Bool.or_eq_true,decide_eq_true_eq]
 omega
theorem timesFault_good {x : TV} (h : ¬ min (min (min x.y x.t) x.d) x.o < 1) (h2 : ¬ 86400 < max (max (max x.y x.t) x.d) x.o) : timesFault x = 0 := by
 unfold timesFault outB
 refine if_neg ?_
 simp only [Bool.or_eq_true,decide_eq_true_eq]
 omega
theorem idx4_0 (a b c d : Int) (w : World) : (Instr.index 108 (.agg #[.int .i64 a, .int .i64 b, .int .i64 c, .int .i64 d]) (.int .i64 0)).run Tryz.prog w = .ok (.int .i64 a) w := by kernel_rfl
theorem idx4_1 (a b c d : Int) (w : World) : (Instr.index 108 (.agg #[.int .i64 a, .int .i64 b, .int .i64 c, .int .i64 d]) (.int .i64 1)).run Tryz.prog w = .ok (.int .i64 b) w := by kernel_rfl
theorem idx4_2 (a b c d : Int) (w : World) : (Instr.index 108 (.agg #[.int .i64 a, .int .i64 b, .int .i64 c, .int .i64 d]) (.int .i64 2)).run Tryz.prog w = .ok (.int .i64 c) w := by kernel_rfl
theorem idx4_3 (a b c d : Int) (w : World) : (Instr.index 108 (.agg #[.int .i64 a, .int .i64 b, .int .i64 c, .int .i64 d]) (.int .i64 3)).run Tryz.prog w = .ok (.int .i64 d) w := by kernel_rfl
theorem checkTimes_any (x : TV) (w : World) : Calls Tryz.prog 29 #[.agg x.cells] w (Ret (.int .i64 (timesFault x)) w) := by
 obtain ⟨y,t,d,o⟩ := x
 simp only [TV.cells]
 have i0 := idx4_0
 have i1 := idx4_1
 have i2 := idx4_2
 have i3 := idx4_3
 go_enter Tryz.func29,Tryz.ntmps29
 go_wp2
 refine wp_loop_rounds 5 ?_
 rw [rounds_succ]
 go_wp2_with (first | rw [rounds_succ] | (go_at_call 30;refine (outside_any _ _ _ _).mono ?_;rintro e w' ⟨rfl,rfl⟩))
 all_goals (go_ret;clear i0 i1 i2 i3;refine ⟨?_,by repeat (first | exact Below.refl _ _ | apply below_alloc | apply below_drewN)⟩)
 all_goals (simp_all [timesFault])
theorem min4_any (a b c d : Int) (w : World) (B : Nat) (h : Blk w B 3 #[.int .i64 a, .int .i64 b, .int .i64 c, .int .i64 d]) :
  Calls Tryz.prog 37 #[.slice (some ⟨B,0,none⟩) 4 4] w fun e w' => e = .returned (.int .i64 (min (min (min a b) c) d)) ∧ w = w' := by
 have c0 := h.cell 0
 have c1 := h.cell 1
 have c2 := h.cell 2
 have c3 := h.cell 3
 simp at c0 c1 c2 c3
 clear h
 go_enter Tryz.func37,Tryz.ntmps37
 go_wp2
 refine wp_loop_rounds 5 ?_
 rw [rounds_succ]
 go_wp2_with (rw [rounds_succ])
 all_goals (go_ret;refine ⟨ret_int ?_,rfl⟩;omega)
theorem max4_any (a b c d : Int) (w : World) (B : Nat) (h : Blk w B 3 #[.int .i64 a, .int .i64 b, .int .i64 c, .int .i64 d]) :
  Calls Tryz.prog 38 #[.slice (some ⟨B,0,none⟩) 4 4] w fun e w' => e = .returned (.int .i64 (max (max (max a b) c) d)) ∧ w = w' := by
 have c0 := h.cell 0
 have c1 := h.cell 1
 have c2 := h.cell 2
 have c3 := h.cell 3
 simp at c0 c1 c2 c3
 clear h
 go_enter Tryz.func38,Tryz.ntmps38
 go_wp2
 refine wp_loop_rounds 5 ?_
 rw [rounds_succ]
 go_wp2_with (rw [rounds_succ])
 all_goals (go_ret;refine ⟨ret_int ?_,rfl⟩;omega)
theorem timesFault_any (x : TV) (w : World) : Calls Tryz.prog 10 #[.agg x.cells] w (Ret (.int .i64 (timesFault x)) w) := by
 obtain ⟨y,t,d,o⟩ := x
 simp only [TV.cells]
 go_enter Tryz.func10,Tryz.ntmps10
 go_wp2_with fail
 refine (min4_any y t d o _ (w.heap.size + 1) ?_).mono ?_
 ·have := Blk.new (w.alloc (.cells #[.int .i64 y, .int .i64 t, .int .i64 d, .int .i64 o] 29 (0,0))) 3 #[.int .i64 y, .int .i64 t, .int .i64 d, .int .i64 o]
  simpa using this
 rintro e w1 ⟨rfl,rfl⟩
 by_cases hmin : min (min (min y t) d) o < 1
 ·have hf := Lib.hid (timesFault_bad (x := ⟨y,t,d,o⟩) (.inl hmin))
  go_wp2_with fail
  go_ret
  exact ⟨ret_int hf.out.symm,below_alloc (below_alloc (Below.refl _ _) _) _⟩
 ·go_wp2_with fail
  refine (max4_any y t d o _ (w.heap.size + 1) ?_).mono ?_
  ·have := Blk.new (w.alloc (.cells #[.int .i64 y, .int .i64 t, .int .i64 d, .int .i64 o] 29 (0,0))) 3 #[.int .i64 y, .int .i64 t, .int .i64 d, .int .i64 o]
   simpa using this
  rintro e w1 ⟨rfl,rfl⟩
  by_cases hmax : 86400 < max (max (max y t) d) o
  ·have hf := Lib.hid (timesFault_bad (x := ⟨y,t,d,o⟩) (.inr hmax))
   go_wp2_with fail
   go_ret
   exact ⟨ret_int hf.out.symm,below_alloc (below_alloc (Below.refl _ _) _) _⟩
  ·have hf := Lib.hid (timesFault_good (x := ⟨y,t,d,o⟩) (by simp only;omega) (by simp only;omega))
   go_wp2_with fail
   go_ret
   exact ⟨ret_int hf.out.symm,below_alloc (below_alloc (Below.refl _ _) _) _⟩
def TBlk (w : World) (B : Nat) (x : TV) : Prop := Blk w B 29 #[.int .i64 x.y, .int .i64 x.t, .int .i64 x.d, .int .i64 x.o]
def TV.zero : TV := ⟨0,0,0,0⟩
theorem TBlk.cells {w : World} {B : Nat} {x : TV} (h : TBlk w B x) : w.cell? ⟨B,0,none⟩ = some (.int .i64 x.y) ∧ w.cell? ⟨B,1,none⟩ = some (.int .i64 x.t) ∧ w.cell? ⟨B,2,none⟩ = some (.int .i64 x.d) ∧ w.cell? ⟨B,3,none⟩ = some (.int .i64 x.o) ∧ ∀ i,w.frozen? ⟨B,i,none⟩ = false :=
 ⟨Blk.cell h 0,Blk.cell h 1,Blk.cell h 2,Blk.cell h 3,Blk.free h⟩
theorem times_gen (b m : Nat) (w : World) (h : Strm w b m) (hm : m + 20 < 1099511627776) :
  Calls Tryz.prog 5 #[.pointer (some ⟨b,0,none⟩)] w fun e w' => ∃ x : TV,e = .returned (.agg x.cells) ∧ x.ok ∧ Gen b w w' (m + 9) := by
 have hblt := h.lt
 go_enter Tryz.func5,Tryz.ntmps5
 go_wp2_with fail
 refine (pick_new b m _ _ _ _ [1,5,10] _ (h.alloc _) (by simp) (by omega) rfl (by decide) rfl).mono ?_
 rintro e w1 ⟨x1,rfl,hp,hg⟩
 have hx1 : 1 ≤ x1 ∧ x1 ≤ 100 := by simp at hp;omega
 have HG1 := Lib.hid (((Gen.start h).alloc _).trans hg)
 have HA1 : Hid (TBlk w1 w.heap.size TV.zero) := (Blk.new w _ _).keep hg.g (by omega)
 clear hp hg
 go_wp2_with fail
 refine (pick_new b (m + 1) _ _ _ _ [1,20,100] _ HG1.out.s rfl (by omega) rfl (by decide) rfl).mono ?_
 rintro e w2 ⟨x2,rfl,hp,hg⟩
 have hx2 : 1 ≤ x2 ∧ x2 ≤ 100 := by simp at hp;omega
 have HG2 := Lib.hid (HG1.out.trans hg)
 have HA2 : Hid (TBlk w2 w.heap.size TV.zero) := Blk.keep HA1.out hg.g (by omega)
 clear hp hg HG1 HA1
 go_wp2_with fail
 refine (pick_new b (m + 1 + 1) _ _ _ _ [1,3] _ HG2.out.s rfl (by omega) rfl (by decide) rfl).mono ?_
 rintro e w3 ⟨x3,rfl,hp,hg⟩
 have hx3 : 1 ≤ x3 ∧ x3 ≤ 100 := by simp at hp;omega
 have HG3 := Lib.hid (HG2.out.trans hg)
 have HA3 : Hid (TBlk w3 w.heap.size TV.zero) := Blk.keep HA2.out hg.g (by omega)
 clear hp hg HG2 HA2
 go_wp2_with fail
 refine (pick_new b (m + 1 + 1 + 1) _ _ _ _ [1,15] _ HG3.out.s rfl (by omega) rfl (by decide) rfl).mono ?_
 rintro e w4 ⟨x4,rfl,hp,hg⟩
 have hx4 : 1 ≤ x4 ∧ x4 ≤ 100 := by simp at hp;omega
 have HG4 := Lib.hid (HG3.out.trans hg)
 have HA4 : Hid (TBlk w4 w.heap.size TV.zero) := Blk.keep HA3.out hg.g (by omega)
 clear hp hg HG3 HA3
 go_wp2_with fail
 have hlt : w.heap.size < w4.heap.size := Blk.lt HA4.out
 refine (flip_gen b (m + 1 + 1 + 1 + 1) _ _ (HG4.out.s.alloc _) (by omega) (by omega)).mono ?_
 rintro e w5 ⟨kk,rfl,hg⟩
 have HF5 : Hid (TBlk w5 w4.heap.size ⟨x1,x2,x3,x4⟩) := (Blk.new w4 _ _).keep hg.g (by have := HG4.out.s.lt;omega)
 have HA5 : Hid (TBlk w5 w.heap.size TV.zero) := (Blk.alloc HA4.out _).keep hg.g (by omega)
 have HG5 := Lib.hid ((HG4.out.alloc _).trans hg)
 clear hg HG4 HA4
 generalize w4.heap.size = F at *
 go_upto_if 18 with fail
 go_cut [] (fun wx => ∃ x : TV,TBlk wx F x ∧ x.ok ∧ TBlk wx w.heap.size TV.zero ∧ Gen b w wx (m + 9))
 case rest =>
  clear HF5 HA5 HG5 hx1 hx2 hx3 hx4
  obtain ⟨x,HF,HO,HA,HG⟩ := hcut
  obtain ⟨c0,c1,c2,c3,f0⟩ := TBlk.cells HF
  obtain ⟨d0,d1,d2,d3,g0⟩ := TBlk.cells HA
  have HG := Lib.hid HG
  have hne : w.heap.size ≠ F := by omega
  clear HF HA hlt
  go_wp2_with fail
  refine bodyPost_ret (v := .agg x.cells) (by simp [results,Tryz.results5,go_sem,d0,d1,d2,d3,TV.cells]) rfl ⟨x,rfl,HO,?_⟩
  exact Gen.setCell (Gen.set3 HG.out (Nat.le_refl _) hblt _ _ _) ⟨w.heap.size,3,none⟩ _ (Nat.le_refl _) hblt
 case first =>
  go_wp2_with fail
  ·refine (odd_gen b (m + 1 + 1 + 1 + 1 + 1) _ _ _ HG5.out.s (by omega) (by omega) (by omega)).mono ?_
   rintro e w6 ⟨y1,rfl,⟨hy10,hy11⟩,hg⟩
   have HF6 : Hid (TBlk w6 F ⟨x1,x2,x3,x4⟩) := Blk.keep HF5.out hg.g (by omega)
   have HA6 : Hid (TBlk w6 w.heap.size TV.zero) := Blk.keep HA5.out hg.g (by omega)
   have HG6 := Lib.hid (HG5.out.trans hg)
   clear hg HF5 HA5 HG5
   go_wp2_with fail
   refine (odd_gen b (m + 1 + 1 + 1 + 1 + 1 + 2) _ _ _ HG6.out.s (by omega) (by omega) (by omega)).mono ?_
   rintro e w7 ⟨y2,rfl,⟨hy20,hy21⟩,hg⟩
   have HF7 : Hid (TBlk w7 F ⟨x1,x2,x3,x4⟩) := Blk.keep HF6.out hg.g (by omega)
   have HA7 : Hid (TBlk w7 w.heap.size TV.zero) := Blk.keep HA6.out hg.g (by omega)
   have HG7 := Lib.hid (HG6.out.trans hg)
   obtain ⟨c0,c1,c2,c3,f0⟩ := TBlk.cells HF7.out
   clear hg HF6 HA6 HG6
   go_wp2_with fail
   go_meet
   case rel =>
    exact ⟨⟨y1,x2,y2,x4⟩,Blk.set (Blk.set HF7.out 0 (.int .i64 y1)) 2 (.int .i64 y2),by simp only [TV.ok,I41];omega,Blk.far (Blk.far HA7.out (by omega) 0 _) (by omega) 2 _,
     Gen.setCell (Gen.setCell (HG7.out.mono (by omega)) ⟨F,0,none⟩ _ (Nat.le_of_lt hlt) (by simp only;omega)) ⟨F,2,none⟩ _ (Nat.le_of_lt hlt) (by simp only;omega)⟩
  ·go_meet
   case rel => exact ⟨⟨x1,x2,x3,x4⟩,HF5.out,by simp only [TV.ok,I41];omega,HA5.out,HG5.out.mono (by omega)⟩
open Go.RowKit Go Go.Sort
def cfK {α : Type} (f : α → Nat) (x y : α) : Int := cN (f x) (f y)
theorem ltK {α : Type} (f : α → Nat) (x y : α) : Go.Proofs.ltOf (cfK f) x y = decide (f x < f y) := by
 unfold Go.Proofs.ltOf cfK
 rw [decide_eq_decide]
 exact cN_lt_iff _ _
theorem swoK {α : Type} (f : α → Nat) : SWO (Go.Proofs.ltOf (cfK f)) where
 irrefl x := by rw [ltK];simp
 trans x y z h1 h2 := by rw [ltK] at *;simp at *;omega
 ntrans x y z h1 h2 := by rw [ltK] at *;simp at *;omega
theorem putK_take (F cur : Array Value) (h : F.size ≤ cur.size) : (putCells id 0 F cur).size = cur.size ∧ (putCells id 0 F cur).toList.take F.size = F.toList := by
 refine ⟨by simp [putCells],List.ext_getElem? fun i => ?_⟩
 rcases Nat.lt_or_ge i F.size with hi | hi
 ·rw [List.getElem?_take,if_pos hi,Array.getElem?_toList,Array.getElem?_toList]
  simp only [putCells,Array.getElem?_mapIdx]
  rw [Array.getElem?_eq_getElem (by omega)]
  simp [hi]
 ·rw [List.getElem?_eq_none (by simp;omega),List.getElem?_eq_none (by simpa using hi)]
section
variable {α : Type} [Inhabited α] {E : Lay α} {f : α → Nat}
theorem flat_all (E : Lay α) (d : Array α) : (flatK E.enc E.K d).toList = E.all d.toList := by
 refine List.ext_getElem? fun t => ?_
 rcases Nat.lt_or_ge t (d.size * E.K) with h | h
 ·have hs : t < (flatK E.enc E.K d).size := by rw [size_flatK];exact h
  obtain ⟨x,hx,e⟩ := E.all_cut d.toList t (by simpa using h)
  rw [e,Array.getElem?_toList,Array.getElem?_eq_getElem hs, ← getElem!_pos (flatK E.enc E.K d) t hs,get_flatK _ _ _ _ h]
  have hx2 : d[t / E.K]? = some x := by rw [← Array.getElem?_toList];exact hx
  have hd : d[t / E.K]! = x := by rw [getElem!_def,hx2]
  have hm : t % E.K < (E.enc x).length := by rw [E.len];exact Nat.mod_lt _ E.pos
  rw [hd,List.getElem?_eq_getElem hm]
  first | rfl | simp [hm]
 ·rw [List.getElem?_eq_none (by rw [Array.length_toList,size_flatK];exact h),List.getElem?_eq_none (by rw [E.all_len];simpa using h)]
theorem cmpLays_of {P : Program} {g blk off size : Nat} {w : World} (h : ∀ x y W,Calls P g #[.agg (E.enc x).toArray, .agg (E.enc y).toArray] W (RetD (.int .i64 (cfK f x y)) W)) : CmpLays P g #[] E.enc E.K (cfK f) blk off size w :=
 fun m os dk _ x y => by
  rw [Array.append_empty]
  exact (h x y _).mono fun _ _ ⟨he,hb⟩ => ⟨he,hb.grow⟩
theorem OwnK.holds {w : World} {B g n c : Nat} {M : List α} (h : OwnK E w B (.slice (some ⟨g,0,none⟩) n c) M) : HoldsK E.enc E.K w g 0 M.toArray ∧ g < w.heap.size := by
 obtain ⟨_,hb,hc,hm,cur,hg,hs,ht⟩ := h.block
 refine ⟨?_,lt_of_block hg⟩
 have hF := flat_all E M.toArray
 rw [List.toList_toArray] at hF
 have hfs : (flatK E.enc E.K M.toArray).size = M.length * E.K := by rw [size_flatK];rfl
 intro j hj
 rw [hfs] at hj
 refine ⟨?_,frozen_of_row w g (0 + j) cur _ hg⟩
 rw [Nat.zero_add,cell_of_row w g j _ _ _ hg]
 have h1 : (cur.toList.take (M.length * E.K))[j]? = (flatK E.enc E.K M.toArray).toList[j]? := by rw [ht,hF]
 rw [List.getElem?_take,if_pos hj,Array.getElem?_toList,Array.getElem?_toList,Array.getElem?_eq_getElem (xs := flatK E.enc E.K M.toArray) (by omega)] at h1
 rw [h1,getElem!_pos _ j (by omega)]
 rfl
theorem OwnK.sorted {w w' : World} {B g n c : Nat} {M : List α} (h : OwnK E w B (.slice (some ⟨g,0,none⟩) n c) M) (hB : B ≤ w.heap.size) {d' : Array α} {q : Nat} {os : Array Obj}
  (hp : PermIn 0 M.toArray.size M.toArray d') (hso : SortedIn (Go.Proofs.ltOf (cfK f)) 0 M.toArray.size d') (hw : w' = sortWorldK E.enc E.K w g 0 q d' os) :
  ∃ S : List α,S.Perm M ∧ S.Pairwise (fun p q => f p ≤ f q) ∧ OwnK E w' B (.slice (some ⟨g,0,none⟩) n c) S ∧ Below B w w' := by
 subst hw
 obtain ⟨hn,hb,hc,hm,cur,hg,hs,ht⟩ := h.block
 have hlt := lt_of_block hg
 have hms : M.toArray.size = M.length := rfl
 have hds' : d'.size = M.length := hp.1
 have hperm : d'.toList.Perm M := by
  have h3 := hp.2.2
  rw [Array.extract_eq_self_of_le (by omega),Array.extract_eq_self_of_le (by omega)] at h3
  exact h3
 have hF' := flat_all E d'
 have hfs' : (flatK E.enc E.K d').size = M.length * E.K := by rw [size_flatK,hds']
 refine ⟨d'.toList,hperm,?_,?_⟩
 ·rw [List.pairwise_iff_getElem]
  intro i j hi hj hij
  have hj' : j < d'.size := by simpa using hj
  have hs := hso i j (Nat.zero_le _) hij (by omega)
  rw [ltK,getElem!_pos d' j hj',getElem!_pos d' i (by omega)] at hs
  simp at hs ⊢
  exact hs
 ·show OwnK E (grow (putRow id (Sort.ahead w q) g 0 (flatK E.enc E.K d')) os) B _ _ ∧ Below B w (grow (putRow id (Sort.ahead w q) g 0 (flatK E.enc E.K d')) os)
  generalize flatK E.enc E.K d' = F at hF' hfs' ⊢
  have hlen : d'.toList.length = M.length := by simp [hds']
  generalize d'.toList = L at hF' hlen ⊢
  have hheap : ∀ i,i < w.heap.size → (grow (putRow id (Sort.ahead w q) g 0 F) os).heap[i]? = if g = i then some (.cells (putCells id 0 F cur) E.ty (0,0)) else w.heap[i]? := by
   intro i hi
   simp only [grow,putRow,mapBlock,Sort.ahead]
   rw [Array.getElem?_append_left (by simpa using hi),Array.getElem?_modify]
   by_cases e : g = i
   ·subst e
    rw [if_pos rfl,if_pos rfl,hg]
    rfl
   ·rw [if_neg e,if_neg e]
  have hFc : F.size ≤ cur.size := by
   rw [hfs',hs]
   exact Nat.mul_le_mul_right _ (by omega)
  obtain ⟨p1,p2⟩ := putK_take F cur hFc
  refine ⟨⟨by rw [E.all_len], .inr ⟨g,c,_,by rw [hlen,hn],hb,by rw [hheap g hlt,if_pos rfl],by omega,hm,by omega,by rw [hlen, ← hfs',p2];exact hF'⟩⟩,?_⟩
  refine ⟨rfl,rfl,rfl,by simp [grow,putRow,mapBlock,Sort.ahead],fun i hi => ?_⟩
  rw [hheap i (by omega),if_neg (by omega)]
end
end Go.Proofs.YthebgfnaomgcnaaGreat
namespace Go.Proofs
open Go.Shelf
def Tryz.pdqRg_ren : Go.Shelf.Ren := ⟨fun | 14 => 153 | 20 => 161 | 21 => 162 | 22 => 163 | 23 => 164 | 24 => 165 | 25 => 166 | 26 => 167 | 27 => 168 | 46 => 172 | 47 => 173 | 48 => 174 | 49 => 175 | 50 => 176 | 15 => 154 | 57 => 185 | 28 => 169 | 29 => 170 | n => n,fun | 24 => 144 | 22 => 109 | 3 => 3 | 25 => 171 | 4 => 4 | 0 => 0 | 46 => 194 | 45 => 193 | 50 => 158 | 66 => 203 | 39 => 119 | 55 => 47 | 70 => 207 | 76 => 214 | 77 => 215 | 53 => 200 | 5 => 5 | 9 => 9 | n => n,fun | n => n⟩
theorem Tryz.pdqRg : Go.Proofs.SlLaysF0.n14 Tryz.prog Tryz.pdqRg_ren := {
 mixed := by kernel_rfl
 f14 := ⟨Tryz.f153.name,by decide,Tryz.func153.trans (congrArg some (by kernel_rfl))⟩
 f15 := Tryz.func154.trans (congrArg some (by kernel_rfl))
 f20 := ⟨Tryz.f161.name,by decide,Tryz.func161.trans (congrArg some (by kernel_rfl))⟩
 f21 := ⟨Tryz.f162.name,by decide,Tryz.func162.trans (congrArg some (by kernel_rfl))⟩
 f22 := ⟨Tryz.f163.name,by decide,Tryz.func163.trans (congrArg some (by kernel_rfl))⟩
 f23 := ⟨Tryz.f164.name,by decide,Tryz.func164.trans (congrArg some (by kernel_rfl))⟩
 f24 := ⟨Tryz.f165.name,by decide,Tryz.func165.trans (congrArg some (by kernel_rfl))⟩
 f25 := ⟨Tryz.f166.name,by decide,Tryz.func166.trans (congrArg some (by kernel_rfl))⟩
 f26 := ⟨Tryz.f167.name,by decide,Tryz.func167.trans (congrArg some (by kernel_rfl))⟩
 f27 := ⟨Tryz.f168.name,by decide,Tryz.func168.trans (congrArg some (by kernel_rfl))⟩
 f28 := Tryz.func169.trans (congrArg some (by kernel_rfl))
 f29 := Tryz.func170.trans (congrArg some (by kernel_rfl))
 f46 := ⟨Tryz.f172.name,by decide,Tryz.func172.trans (congrArg some (by kernel_rfl))⟩
 f47 := Tryz.func173.trans (congrArg some (by kernel_rfl))
 f48 := Tryz.func174.trans (congrArg some (by kernel_rfl))
 f49 := ⟨Tryz.f175.name,by decide,Tryz.func175.trans (congrArg some (by kernel_rfl))⟩
 f50 := ⟨Tryz.f176.name,by decide,Tryz.func176.trans (congrArg some (by kernel_rfl))⟩
 f57 := ⟨Tryz.f185.name,by decide,Tryz.func185.trans (congrArg some (by kernel_rfl))⟩
 t0 := Tryz.underlying0
 a0 := Tryz.isAgg0
 z0 := Tryz.sizeOf0
 v0 := Tryz.zeroValue0
 t3 := Tryz.underlying3
 a3 := Tryz.isAgg3
 z3 := Tryz.sizeOf3
 v3 := Tryz.zeroValue3
 t4 := Tryz.underlying4
 a4 := Tryz.isAgg4
 z4 := Tryz.sizeOf4
 v4 := Tryz.zeroValue4
 t5 := Tryz.underlying5
 a5 := Tryz.isAgg5
 z5 := Tryz.sizeOf5
 v5 := Tryz.zeroValue5
 t9 := Tryz.underlying9
 a9 := Tryz.isAgg9
 z9 := Tryz.sizeOf9
 v9 := Tryz.zeroValue9
 t22 := Tryz.underlying109
 a22 := Tryz.isAgg109
 z22 := Tryz.sizeOf109
 v22 := Tryz.zeroValue109
 t25 := Tryz.underlying171
 a25 := Tryz.isAgg171
 z25 := Tryz.sizeOf171
 v25 := Tryz.zeroValue171
 t39 := Tryz.underlying119
 a39 := Tryz.isAgg119
 z39 := Tryz.sizeOf119
 v39 := Tryz.zeroValue119
 t45 := Tryz.underlying193
 a45 := Tryz.isAgg193
 z45 := Tryz.sizeOf193
 v45 := Tryz.zeroValue193
 t46 := Tryz.underlying194
 a46 := Tryz.isAgg194
 z46 := Tryz.sizeOf194
 v46 := Tryz.zeroValue194
 t50 := Tryz.underlying158
 a50 := Tryz.isAgg158
 z50 := Tryz.sizeOf158
 v50 := Tryz.zeroValue158
 t53 := Tryz.underlying200
 a53 := Tryz.isAgg200
 z53 := Tryz.sizeOf200
 v53 := Tryz.zeroValue200
 t55 := Tryz.underlying47
 a55 := Tryz.isAgg47
 z55 := Tryz.sizeOf47
 v55 := Tryz.zeroValue47
 t66 := Tryz.underlying203
 a66 := Tryz.isAgg203
 z66 := Tryz.sizeOf203
 v66 := Tryz.zeroValue203
 t70 := Tryz.underlying207
 a70 := Tryz.isAgg207
 z70 := Tryz.sizeOf207
 v70 := Tryz.zeroValue207
 t76 := Tryz.underlying214
 a76 := Tryz.isAgg214
 z76 := Tryz.sizeOf214
 v76 := Tryz.zeroValue214
 t77 := Tryz.underlying215
 a77 := Tryz.isAgg215
 z77 := Tryz.sizeOf215
 v77 := Tryz.zeroValue215 }
open Go.Sort Go.RowKit in
theorem Tryz.slices_pdq_Rg {α : Type} [Inhabited α] (enc : α → List Value) (hk : ∀ x,(enc x).length = 6) (h1 : ∀ x, ∀ v ∈ enc x,v.oneCell' = true) (cf : α → α → Int) (hO : SWO (ltOf cf)) (g : Nat) (cb : Array Value) (blk off cap lim : Nat) (d : Array α) (w : World)
  (eg : ∀ args w,(callFunc g args).run Tryz.prog w = .ok (.enter g args) w) (hcmp : CmpLays Tryz.prog g cb enc 6 cf blk off d.size w) (hH : HoldsK enc 6 w blk off d) (hblk : blk < w.heap.size) (hsz : d.size < 4611686018427387904) (hlim : lim < 4611686018427387904) :
  Calls Tryz.prog 153 #[.slice (some ⟨blk,off,none⟩) d.size cap, .int .i64 (0 : Nat), .int .i64 (d.size : Nat), .int .i64 (lim : Nat), .func (.func g) #[] cb] w fun e w' =>
   e = .returned (.tuple #[]) ∧ ∃ d' n os,PermIn 0 d.size d d' ∧ SortedIn (ltOf cf) 0 d.size d' ∧ w' = sortWorldK enc 6 w blk off n d' os :=
 (AnyQ.pdqsortCmpFunc_all Tryz.pdqRg 6 Tryz.isAgg144 Tryz.sizeOf144 enc cf g cb hO blk off cap d w eg hcmp ⟨hk,h1,hH,hblk⟩ (d.size + 1) 0 d.size lim d w (by omega) rfl (SWK.start hH) (Nat.zero_le _) (Nat.le_refl _) hsz hlim (Or.inl rfl)).mono fun _ _ ⟨he,n,os,hw⟩ =>
  have h := pdq_sorts (ltOf cf) hO d 0 d.size lim true true (Nat.zero_le _) (Nat.le_refl _) (Or.inl rfl)
  ⟨he,_,n,os,h.1,h.2,hw⟩
open Go.Sort Go.RowKit in
theorem Tryz.slices_pdq_Rg_none (p : Option Addr) (cap : Nat) (lim : Int) (fv : Value) (w : World) :
  Calls Tryz.prog 153 #[.slice p 0 cap, .int .i64 0, .int .i64 0, .int .i64 lim,fv] w fun e w' => e = .returned (.tuple #[]) ∧ w' = w :=
 AnyF.pdqsortCmpFunc_none Tryz.pdqRg p cap lim fv w
end Go.Proofs
namespace Go.Proofs
open Go.Shelf
def Tryz.sortQs_ren : Go.Shelf.Ren := ⟨fun | 6 => 156 | 15 => 154 | 14 => 171 | 28 => 169 | 29 => 170 | 20 => 177 | 21 => 178 | 22 => 179 | 23 => 180 | 24 => 181 | 25 => 182 | 26 => 183 | 27 => 184 | 46 => 186 | 47 => 173 | 48 => 174 | 49 => 187 | 50 => 188 | 57 => 189 | n => n,fun | 22 => 153 | 24 => 174 | 25 => 189 | 3 => 3 | 39 => 119 | 0 => 0 | 53 => 200 | 55 => 47 | 4 => 4 | 46 => 194 | 45 => 193 | 50 => 158 | 5 => 5 | 9 => 9 | 66 => 203 | 70 => 207 | 76 => 214 | 77 => 215 | n => n,fun | n => n⟩
theorem Tryz.sortQs : Go.Proofs.SlLaysF0.n6 Tryz.prog Tryz.sortQs_ren := {
 mixed := by kernel_rfl
 f6 := ⟨Tryz.f156.name,by decide,Tryz.func156.trans (congrArg some (by kernel_rfl))⟩
 f14 := ⟨Tryz.f171.name,by decide,Tryz.func171.trans (congrArg some (by kernel_rfl))⟩
 f15 := Tryz.func154.trans (congrArg some (by kernel_rfl))
 f20 := ⟨Tryz.f177.name,by decide,Tryz.func177.trans (congrArg some (by kernel_rfl))⟩
 f21 := ⟨Tryz.f178.name,by decide,Tryz.func178.trans (congrArg some (by kernel_rfl))⟩
 f22 := ⟨Tryz.f179.name,by decide,Tryz.func179.trans (congrArg some (by kernel_rfl))⟩
 f23 := ⟨Tryz.f180.name,by decide,Tryz.func180.trans (congrArg some (by kernel_rfl))⟩
 f24 := ⟨Tryz.f181.name,by decide,Tryz.func181.trans (congrArg some (by kernel_rfl))⟩
 f25 := ⟨Tryz.f182.name,by decide,Tryz.func182.trans (congrArg some (by kernel_rfl))⟩
 f26 := ⟨Tryz.f183.name,by decide,Tryz.func183.trans (congrArg some (by kernel_rfl))⟩
 f27 := ⟨Tryz.f184.name,by decide,Tryz.func184.trans (congrArg some (by kernel_rfl))⟩
 f28 := Tryz.func169.trans (congrArg some (by kernel_rfl))
 f29 := Tryz.func170.trans (congrArg some (by kernel_rfl))
 f46 := ⟨Tryz.f186.name,by decide,Tryz.func186.trans (congrArg some (by kernel_rfl))⟩
 f47 := Tryz.func173.trans (congrArg some (by kernel_rfl))
 f48 := Tryz.func174.trans (congrArg some (by kernel_rfl))
 f49 := ⟨Tryz.f187.name,by decide,Tryz.func187.trans (congrArg some (by kernel_rfl))⟩
 f50 := ⟨Tryz.f188.name,by decide,Tryz.func188.trans (congrArg some (by kernel_rfl))⟩
 f57 := ⟨Tryz.f189.name,by decide,Tryz.func189.trans (congrArg some (by kernel_rfl))⟩
 t0 := Tryz.underlying0
 a0 := Tryz.isAgg0
 z0 := Tryz.sizeOf0
 v0 := Tryz.zeroValue0
 t3 := Tryz.underlying3
 a3 := Tryz.isAgg3
 z3 := Tryz.sizeOf3
 v3 := Tryz.zeroValue3
 t4 := Tryz.underlying4
 a4 := Tryz.isAgg4
 z4 := Tryz.sizeOf4
 v4 := Tryz.zeroValue4
 t5 := Tryz.underlying5
 a5 := Tryz.isAgg5
 z5 := Tryz.sizeOf5
 v5 := Tryz.zeroValue5
 t9 := Tryz.underlying9
 a9 := Tryz.isAgg9
 z9 := Tryz.sizeOf9
 v9 := Tryz.zeroValue9
 t22 := Tryz.underlying153
 a22 := Tryz.isAgg153
 z22 := Tryz.sizeOf153
 v22 := Tryz.zeroValue153
 t25 := Tryz.underlying189
 a25 := Tryz.isAgg189
 z25 := Tryz.sizeOf189
 v25 := Tryz.zeroValue189
 t39 := Tryz.underlying119
 a39 := Tryz.isAgg119
 z39 := Tryz.sizeOf119
 v39 := Tryz.zeroValue119
 t45 := Tryz.underlying193
 a45 := Tryz.isAgg193
 z45 := Tryz.sizeOf193
 v45 := Tryz.zeroValue193
 t46 := Tryz.underlying194
 a46 := Tryz.isAgg194
 z46 := Tryz.sizeOf194
 v46 := Tryz.zeroValue194
 t50 := Tryz.underlying158
 a50 := Tryz.isAgg158
 z50 := Tryz.sizeOf158
 v50 := Tryz.zeroValue158
 t53 := Tryz.underlying200
 a53 := Tryz.isAgg200
 z53 := Tryz.sizeOf200
 v53 := Tryz.zeroValue200
 t55 := Tryz.underlying47
 a55 := Tryz.isAgg47
 z55 := Tryz.sizeOf47
 v55 := Tryz.zeroValue47
 t66 := Tryz.underlying203
 a66 := Tryz.isAgg203
 z66 := Tryz.sizeOf203
 v66 := Tryz.zeroValue203
 t70 := Tryz.underlying207
 a70 := Tryz.isAgg207
 z70 := Tryz.sizeOf207
 v70 := Tryz.zeroValue207
 t76 := Tryz.underlying214
 a76 := Tryz.isAgg214
 z76 := Tryz.sizeOf214
 v76 := Tryz.zeroValue214
 t77 := Tryz.underlying215
 a77 := Tryz.isAgg215
 z77 := Tryz.sizeOf215
 v77 := Tryz.zeroValue215 }
open Go.Sort Go.RowKit in
theorem Tryz.slices_SortFunc_Qs {α : Type} [Inhabited α] (enc : α → List Value) (hk : ∀ x,(enc x).length = 18) (h1 : ∀ x, ∀ v ∈ enc x,v.oneCell' = true) (cf : α → α → Int) (hO : SWO (ltOf cf)) (g : Nat) (cb : Array Value) (blk off cap : Nat) (d : Array α) (w : World)
  (eg : ∀ args w,(callFunc g args).run Tryz.prog w = .ok (.enter g args) w) (hcmp : CmpLays Tryz.prog g cb enc 18 cf blk off d.size w) (hH : HoldsK enc 18 w blk off d) (hblk : blk < w.heap.size) (hsz : d.size < 4611686018427387904) :
  Calls Tryz.prog 156 #[.slice (some ⟨blk,off,none⟩) d.size cap, .func (.func g) #[] cb] w fun e w' =>
   e = .returned (.tuple #[]) ∧ ∃ d' n os,PermIn 0 d.size d d' ∧ SortedIn (ltOf cf) 0 d.size d' ∧ w' = sortWorldK enc 18 w blk off n d' os :=
 AnyQ.slices_SortFunc Tryz.sortQs 18 Tryz.isAgg174 Tryz.sizeOf174 enc hk h1 cf hO g cb blk off cap d w eg hcmp hH hblk hsz
open Go.Sort Go.RowKit in
theorem Tryz.slices_SortFunc_Qs_none (p : Option Addr) (cap : Nat) (fv : Value) (w : World) :
  Calls Tryz.prog 156 #[.slice p 0 cap,fv] w fun e w' => e = .returned (.tuple #[]) ∧ w' = w :=
 AnyF.slices_SortFunc_none Tryz.sortQs p cap fv w
end Go.Proofs
namespace Go.Proofs
open Go.Shelf
def Tryz.lays125_ren : Go.Shelf.Ren := ⟨fun | 125 => 154 | 128 => 169 | 129 => 170 | n => n,fun | 46 => 119 | 3 => 3 | 51 => 200 | 53 => 47 | 4 => 4 | 5 => 5 | 9 => 9 | n => n,fun | n => n⟩
theorem Tryz.lays125 : Go.Proofs.Lays.n125 Tryz.prog Tryz.lays125_ren := {
 mixed := by kernel_rfl
 f125 := Tryz.func154.trans (congrArg some (by kernel_rfl))
 f128 := Tryz.func169.trans (congrArg some (by kernel_rfl))
 f129 := Tryz.func170.trans (congrArg some (by kernel_rfl))
 t3 := Tryz.underlying3
 a3 := Tryz.isAgg3
 z3 := Tryz.sizeOf3
 v3 := Tryz.zeroValue3
 t4 := Tryz.underlying4
 a4 := Tryz.isAgg4
 z4 := Tryz.sizeOf4
 v4 := Tryz.zeroValue4
 t5 := Tryz.underlying5
 a5 := Tryz.isAgg5
 z5 := Tryz.sizeOf5
 v5 := Tryz.zeroValue5
 t9 := Tryz.underlying9
 a9 := Tryz.isAgg9
 z9 := Tryz.sizeOf9
 v9 := Tryz.zeroValue9
 t46 := Tryz.underlying119
 a46 := Tryz.isAgg119
 z46 := Tryz.sizeOf119
 v46 := Tryz.zeroValue119
 t51 := Tryz.underlying200
 a51 := Tryz.isAgg200
 z51 := Tryz.sizeOf200
 v51 := Tryz.zeroValue200
 t53 := Tryz.underlying47
 a53 := Tryz.isAgg47
 z53 := Tryz.sizeOf47
 v53 := Tryz.zeroValue47 }
theorem Tryz.bits_Len (x : Int) (w : World) (h0 : 0 ≤ x) (h1 : x ≤ 18446744073709551615) :
  Calls Tryz.prog 154 #[.int .u64 x] w fun e w' => e = .returned (.int .i64 (Lib.bitLen x.toNat)) ∧ w' = w := Any.bits_Len Tryz.lays125 x w h0 h1
end Go.Proofs
namespace Go.Proofs.YthebgfnaomgcnaaGreat
open Go.RowKit Go Go.Sort
abbrev Pf := Bool × Nat × Nat × Int
def pfC (p : Pf) : List Value := [.bool p.1, .int .u64 ((p.2.1 : Nat) : Int), .int .u64 ((p.2.2.1 : Nat) : Int), .int .i64 p.2.2.2]
def layPf : Lay Pf := ⟨pfC,4,104,by decide,fun _ => rfl,fun p v hv => by simp [pfC] at hv;rcases hv with rfl | rfl | rfl | rfl <;> rfl⟩
def rgC (p : Sp) : List Value := [.bool (sixN p.1), .int .u64 ((hiN p.1 : Nat) : Int), .int .u64 ((loN p.1 : Nat) : Int), .bool (sixN p.2), .int .u64 ((hiN p.2 : Nat) : Int), .int .u64 ((loN p.2 : Nat) : Int)]
def layRg : Lay Sp := ⟨rgC,6,144,by decide,fun _ => rfl,fun p v hv => by simp [rgC] at hv;rcases hv with rfl | rfl | rfl | rfl | rfl | rfl <;> rfl⟩
def qsC (p : Sp) : List Value := (wN p.1 ++ wN p.2).toList
theorem wN_one (N : Nat) : ∀ v ∈ (wN N).toList,v.oneCell' = true := fun v hv => by
 simp [wN,wd] at hv
 rcases hv with rfl | rfl | rfl | rfl | rfl | rfl | rfl | rfl | rfl <;> rfl
def layQs : Lay Sp := ⟨qsC,18,174,by decide,fun _ => rfl,fun p v hv => by
 rw [qsC,Array.toList_append,List.mem_append] at hv
 rcases hv with hv | hv <;> exact wN_one _ v hv⟩
theorem pfE : EI Tryz.prog 68 104 4 32 := EI.mk' (z := .agg #[.bool false, .int .u64 0, .int .u64 0, .int .i64 0]) Tryz.underlying68 (by kernel_rfl) rfl (by decide)
theorem rgE : EI Tryz.prog 110 144 6 48 := EI.mk' (z := .agg #[.bool false, .int .u64 0, .int .u64 0, .bool false, .int .u64 0, .int .u64 0]) Tryz.underlying110 (by kernel_rfl) rfl (by decide)
theorem qsE : EI Tryz.prog 153 174 18 144 := EI.mk' (z := .agg #[.int .i64 0, .int .i64 0, .int .i64 0, .int .i64 0, .int .i64 0, .int .i64 0, .int .i64 0, .int .i64 0, .int .i64 0, .int .i64 0, .int .i64 0, .int .i64 0, .int .i64 0, .int .i64 0, .int .i64 0, .int .i64 0, .int .i64 0, .int .i64 0]) Tryz.underlying153 (by kernel_rfl) rfl (by decide)
/-! ### The comparisons -/
def nmN (x : Nat) : Nat := numA (sixN x) (hiN x) (loN x)
def keyRg (p : Sp) : Nat := nmN p.1
def keyQs (p : Sp) : Nat := p.1 % 65536 ^ 9
theorem cmpRg_any (p q : Sp) (w : World) : Calls Tryz.prog 139 #[.agg (layRg.enc p).toArray, .agg (layRg.enc q).toArray] w (RetD (.int .i64 (cfK keyRg p q)) w) := by
 have HC := Lib.hid fun wx => spanCompareD_any (sixN p.1) (hiN p.1) (loN p.1) (sixN q.1) (hiN q.1) (loN q.1) wx (hiN_u _) (loN_u _) (hiN_u _) (loN_u _)
 show Calls Tryz.prog 139 #[.agg #[.bool (sixN p.1), .int .u64 ((hiN p.1 : Nat) : Int), .int .u64 ((loN p.1 : Nat) : Int), .bool (sixN p.2), .int .u64 ((hiN p.2 : Nat) : Int), .int .u64 ((loN p.2 : Nat) : Int)], .agg #[.bool (sixN q.1), .int .u64 ((hiN q.1 : Nat) : Int), .int .u64 ((loN q.1 : Nat) : Int), .bool (sixN q.2), .int .u64 ((hiN q.2 : Nat) : Int), .int .u64 ((loN q.2 : Nat) : Int)]] w (RetD (.int .i64 (cN (numA (sixN p.1) (hiN p.1) (loN p.1)) (numA (sixN q.1) (hiN q.1) (loN q.1)))) w)
 generalize cN (numA (sixN p.1) (hiN p.1) (loN p.1)) (numA (sixN q.1) (hiN q.1) (loN q.1)) = C at *
 generalize sixN p.1 = a1 at *
 generalize hiN p.1 = a2 at *
 generalize loN p.1 = a3 at *
 generalize sixN p.2 = a4 at *
 generalize hiN p.2 = a5 at *
 generalize loN p.2 = a6 at *
 generalize sixN q.1 = b1 at *
 generalize hiN q.1 = b2 at *
 generalize loN q.1 = b3 at *
 generalize sixN q.2 = b4 at *
 generalize hiN q.2 = b5 at *
 generalize loN q.2 = b6 at *
 have HP' : Blk ((w.alloc (.cells #[.bool a1, .int .u64 (a2 : Int), .int .u64 (a3 : Int), .bool a4, .int .u64 (a5 : Int), .int .u64 (a6 : Int)] 144 (0,0))).alloc (.cells #[.bool b1, .int .u64 (b2 : Int), .int .u64 (b3 : Int), .bool b4, .int .u64 (b5 : Int), .int .u64 (b6 : Int)] 144 (0,0))) (w.heap.size) 144 #[.bool a1, .int .u64 (a2 : Int), .int .u64 (a3 : Int), .bool a4, .int .u64 (a5 : Int), .int .u64 (a6 : Int)] :=
  (Blk.new w 144 #[.bool a1, .int .u64 (a2 : Int), .int .u64 (a3 : Int), .bool a4, .int .u64 (a5 : Int), .int .u64 (a6 : Int)]).alloc _
 have HP := Lib.hid HP'
 clear HP'
 have HQ' : Blk ((w.alloc (.cells #[.bool a1, .int .u64 (a2 : Int), .int .u64 (a3 : Int), .bool a4, .int .u64 (a5 : Int), .int .u64 (a6 : Int)] 144 (0,0))).alloc (.cells #[.bool b1, .int .u64 (b2 : Int), .int .u64 (b3 : Int), .bool b4, .int .u64 (b5 : Int), .int .u64 (b6 : Int)] 144 (0,0))) (w.heap.size + 1) 144 #[.bool b1, .int .u64 (b2 : Int), .int .u64 (b3 : Int), .bool b4, .int .u64 (b5 : Int), .int .u64 (b6 : Int)] := by
  have this := Blk.new (w.alloc (.cells #[.bool a1, .int .u64 (a2 : Int), .int .u64 (a3 : Int), .bool a4, .int .u64 (a5 : Int), .int .u64 (a6 : Int)] 144 (0,0))) 144 #[.bool b1, .int .u64 (b2 : Int), .int .u64 (b3 : Int), .bool b4, .int .u64 (b5 : Int), .int .u64 (b6 : Int)]
  rw [World.size_alloc] at this
  exact this
 have HQ := Lib.hid HQ'
 clear HQ'
 have HB : Hid (BelD w ((w.alloc (.cells #[.bool a1, .int .u64 (a2 : Int), .int .u64 (a3 : Int), .bool a4, .int .u64 (a5 : Int), .int .u64 (a6 : Int)] 144 (0,0))).alloc (.cells #[.bool b1, .int .u64 (b2 : Int), .int .u64 (b3 : Int), .bool b4, .int .u64 (b5 : Int), .int .u64 (b6 : Int)] 144 (0,0)))) := Lib.hid (((BelD.refl _).alloc _).alloc _)
 go_enter Tryz.func139,Tryz.ntmps139
 go_upto_region 1 with fail
 generalize ((w.alloc (.cells #[.bool a1, .int .u64 (a2 : Int), .int .u64 (a3 : Int), .bool a4, .int .u64 (a5 : Int), .int .u64 (a6 : Int)] 144 (0,0))).alloc (.cells #[.bool b1, .int .u64 (b2 : Int), .int .u64 (b3 : Int), .bool b4, .int .u64 (b5 : Int), .int .u64 (b6 : Int)] 144 (0,0))) = w1 at *
 have p0 := HP.out.cell 0
 have p1 := HP.out.cell 1
 have p2 := HP.out.cell 2
 simp at p0 p1 p2
 have q0 := HQ.out.cell 0
 have q1 := HQ.out.cell 1
 have q2 := HQ.out.cell 2
 simp at q0 q1 q2
 go_wp2_with fail
 refine (HC.out _).mono ?_
 rintro e w2 ⟨rfl,hb⟩
 go_wp2_with fail
 go_ret
 exact ⟨rfl,HB.out.trans hb⟩
theorem cmpQs_any (p q : Sp) (w : World) : Calls Tryz.prog 157 #[.agg (layQs.enc p).toArray, .agg (layQs.enc q).toArray] w (RetD (.int .i64 (cfK keyQs p q)) w) := by
 have HC := Lib.hid fun wx => wideCmpD_any (digN p.1) (digN q.1) wx (digN_lt _) (digN_lt _)
 rw [PW_digN,PW_digN] at HC
 show Calls Tryz.prog 157 #[.agg (wN p.1 ++ wN p.2), .agg (wN q.1 ++ wN q.2)] w (RetD (.int .i64 (cN (p.1 % 65536 ^ 9) (q.1 % 65536 ^ 9))) w)
 generalize cN (p.1 % 65536 ^ 9) (q.1 % 65536 ^ 9) = C at *
 have HP' : Blk ((w.alloc (.cells (wN p.1 ++ wN p.2) 174 (0,0))).alloc (.cells (wN q.1 ++ wN q.2) 174 (0,0))) (w.heap.size) 174 (wN p.1 ++ wN p.2) :=
  (Blk.new w 174 (wN p.1 ++ wN p.2)).alloc _
 have HP := Lib.hid HP'
 clear HP'
 have HQ' : Blk ((w.alloc (.cells (wN p.1 ++ wN p.2) 174 (0,0))).alloc (.cells (wN q.1 ++ wN q.2) 174 (0,0))) (w.heap.size + 1) 174 (wN q.1 ++ wN q.2) := by
  have this := Blk.new (w.alloc (.cells (wN p.1 ++ wN p.2) 174 (0,0))) 174 (wN q.1 ++ wN q.2)
  rw [World.size_alloc] at this
  exact this
 have HQ := Lib.hid HQ'
 clear HQ'
 have HB : Hid (BelD w ((w.alloc (.cells (wN p.1 ++ wN p.2) 174 (0,0))).alloc (.cells (wN q.1 ++ wN q.2) 174 (0,0)))) := Lib.hid (((BelD.refl _).alloc _).alloc _)
 have e1 : ∀ i,i < 9 → (wN p.1 ++ wN p.2)[i]? = some (.int .i64 ((digN p.1 i : Nat) : Int)) := fun i hi => by
  rw [Array.getElem?_append_left (show i < (wN p.1).size from hi)];exact wd_get _ _ hi
 have e2 : ∀ i,i < 9 → (wN q.1 ++ wN q.2)[i]? = some (.int .i64 ((digN q.1 i : Nat) : Int)) := fun i hi => by
  rw [Array.getElem?_append_left (show i < (wN q.1).size from hi)];exact wd_get _ _ hi
 have E1 := Lib.hid e1
 have E2 := Lib.hid e2
 clear e1 e2
 generalize wN p.1 ++ wN p.2 = X at *
 generalize wN q.1 ++ wN q.2 = Y at *
 unfold wd at HC
 generalize digN p.1 = f at *
 generalize digN q.1 = g at *
 go_enter Tryz.func157,Tryz.ntmps157
 go_upto_region 1 with fail
 generalize ((w.alloc (.cells X 174 (0,0))).alloc (.cells Y 174 (0,0))) = w1 at *
 have p0 := (HP.out.cell 0).trans (E1.out 0 (by decide))
 have p1 := (HP.out.cell 1).trans (E1.out 1 (by decide))
 have p2 := (HP.out.cell 2).trans (E1.out 2 (by decide))
 have p3 := (HP.out.cell 3).trans (E1.out 3 (by decide))
 have p4 := (HP.out.cell 4).trans (E1.out 4 (by decide))
 have p5 := (HP.out.cell 5).trans (E1.out 5 (by decide))
 have p6 := (HP.out.cell 6).trans (E1.out 6 (by decide))
 have p7 := (HP.out.cell 7).trans (E1.out 7 (by decide))
 have p8 := (HP.out.cell 8).trans (E1.out 8 (by decide))
 have q0 := (HQ.out.cell 0).trans (E2.out 0 (by decide))
 have q1 := (HQ.out.cell 1).trans (E2.out 1 (by decide))
 have q2 := (HQ.out.cell 2).trans (E2.out 2 (by decide))
 have q3 := (HQ.out.cell 3).trans (E2.out 3 (by decide))
 have q4 := (HQ.out.cell 4).trans (E2.out 4 (by decide))
 have q5 := (HQ.out.cell 5).trans (E2.out 5 (by decide))
 have q6 := (HQ.out.cell 6).trans (E2.out 6 (by decide))
 have q7 := (HQ.out.cell 7).trans (E2.out 7 (by decide))
 have q8 := (HQ.out.cell 8).trans (E2.out 8 (by decide))
 go_wp2_with fail
 refine (HC.out _).mono ?_
 rintro e w2 ⟨rfl,hb⟩
 go_wp2_with fail
 go_ret
 exact ⟨rfl,HB.out.trans hb⟩
theorem nil_rg (w : World) (a : Option Addr) (l c : Nat) : (binOp .eql 110 (.slice a l c) (.slice none 0 0)).run Tryz.prog w = .ok (.bool a.isNone) w :=
 Lib.run_eql_slice_nil (h := Tryz.underlying110) ..
theorem clone_rg (ad : Option Addr) (n c : Nat) (L : List Sp) (w : World) (h : RdK layRg w ad L) (hn : L.length = n) (hs : n ≤ 1000000) :
  Calls Tryz.prog 137 #[.slice ad n c] w fun e w' => ∃ v,e = .returned v ∧ OwnK layRg w' w.heap.size v L ∧ Below w.heap.size w w' := by
 cases ad with
 | none =>
   have en := fun w => nil_rg w none n c
   simp only [Option.isNone_none] at en
   have hL : Hid (L = []) := Lib.hid h.none_
   clear h hn hs
   go_enter Tryz.func137,Tryz.ntmps137
   go_wp2
   go_ret
   exact ⟨_,rfl,by rw [hL.out];exact OwnK.nil _ _ _,Below.refl _ _⟩
 | some a =>
   have en := fun w => nil_rg w (some a) n c
   simp only [Option.isNone_some] at en
   subst hn
   have HS := Lib.hid h.src
   have hB : Hid (Below w.heap.size w (w.alloc (.cells #[] layRg.ty (0,0)))) := Lib.hid (below_alloc (Below.refl _ _) _)
   clear h
   go_enter Tryz.func137,Tryz.ntmps137
   go_wp2_with (at_builtin;refine wpList_app rgE rfl (.tmp 5) (.tmp 6) rfl rfl (ownK_empty layRg w) rfl (src_later HS.out hB.out) (layRg.all_one L) ?c2 ?c3 ?c4 ?_)
   case c2 => unfold maxLen;simp only [List.length_nil];omega
   case c3 => simp only [List.length_nil];omega
   case c4 => simp
   intro v' w' hO hG
   have HO : Hid (OwnK layRg w' w.heap.size v' L) := Lib.hid hO
   have HG := Lib.hid hG
   clear hO hG
   go_wp2
   go_ret
   exact ⟨_,rfl,HO.out,HG.out.below (u := .slice (some ⟨w.heap.size,0,none⟩) 0 0) (by simp) (by intro k hk;simp [Value.ownBlock] at hk;omega) |> (below_alloc (Below.refl _ _) _).trans⟩
theorem nil_qs (w : World) (a : Option Addr) (l c : Nat) : (binOp .eql 153 (.slice a l c) (.slice none 0 0)).run Tryz.prog w = .ok (.bool a.isNone) w :=
 Lib.run_eql_slice_nil (h := Tryz.underlying153) ..
theorem clone_qs (ad : Option Addr) (n c : Nat) (L : List Sp) (w : World) (h : RdK layQs w ad L) (hn : L.length = n) (hs : n ≤ 1000000) :
  Calls Tryz.prog 155 #[.slice ad n c] w fun e w' => ∃ v,e = .returned v ∧ OwnK layQs w' w.heap.size v L ∧ Below w.heap.size w w' := by
 cases ad with
 | none =>
   have en := fun w => nil_qs w none n c
   simp only [Option.isNone_none] at en
   have hL : Hid (L = []) := Lib.hid h.none_
   clear h hn hs
   go_enter Tryz.func155,Tryz.ntmps155
   go_wp2
   go_ret
   exact ⟨_,rfl,by rw [hL.out];exact OwnK.nil _ _ _,Below.refl _ _⟩
 | some a =>
   have en := fun w => nil_qs w (some a) n c
   simp only [Option.isNone_some] at en
   subst hn
   have HS := Lib.hid h.src
   have hB : Hid (Below w.heap.size w (w.alloc (.cells #[] layQs.ty (0,0)))) := Lib.hid (below_alloc (Below.refl _ _) _)
   clear h
   go_enter Tryz.func155,Tryz.ntmps155
   go_wp2_with (at_builtin;refine wpList_app qsE rfl (.tmp 5) (.tmp 6) rfl rfl (ownK_empty layQs w) rfl (src_later HS.out hB.out) (layQs.all_one L) ?c2 ?c3 ?c4 ?_)
   case c2 => unfold maxLen;simp only [List.length_nil];omega
   case c3 => simp only [List.length_nil];omega
   case c4 => simp
   intro v' w' hO hG
   have HO : Hid (OwnK layQs w' w.heap.size v' L) := Lib.hid hO
   have HG := Lib.hid hG
   clear hO hG
   go_wp2
   go_ret
   exact ⟨_,rfl,HO.out,HG.out.below (u := .slice (some ⟨w.heap.size,0,none⟩) 0 0) (by simp) (by intro k hk;simp [Value.ownBlock] at hk;omega) |> (below_alloc (Below.refl _ _) _).trans⟩
theorem sortRg_any (B n c : Nat) (ad : Option Addr) (M : List Sp) (w : World) (h : OwnK layRg w B (.slice ad n c) M) (hn : M.length = n) (hs : n ≤ 1000000) (hB : B ≤ w.heap.size) :
  Calls Tryz.prog 138 #[.slice ad n c, .func (.func 139) #[] #[]] w fun e w' => e = .returned (.tuple #[]) ∧ ∃ S : List Sp,S.Perm M ∧ S.Pairwise (fun p q => keyRg p ≤ keyRg q) ∧ OwnK layRg w' B (.slice ad n c) S ∧ Below B w w' := by
 have hl := Tryz.bits_Len (n : Int) w (by omega) (by omega)
 rw [Int.toNat_natCast] at hl
 have wr : IntKind.u64.wrap (n : Int) = n := by simp [IntKind.wrap,IntKind.bits,IntKind.signed];omega
 rcases Nat.eq_zero_or_pos n with h0 | h0
 ·subst h0
  have hM : M = [] := List.eq_nil_of_length_eq_zero hn
  subst hM
  have hp := Tryz.slices_pdq_Rg_none ad c (Lib.bitLen 0 : Nat) (.func (.func 139) #[] #[]) w
  have H0 := Lib.hid h
  have Hl := Lib.hid hl
  have Hp := Lib.hid hp
  clear h hl hp
  go_enter Tryz.func138,Tryz.ntmps138
  go_wp2_with fail
  refine Hl.out.mono ?_
  rintro e w' ⟨rfl,rfl⟩
  go_wp2_with fail
  refine Hp.out.mono ?_
  rintro e w' ⟨rfl,rfl⟩
  go_wp2_with fail
  go_end0
  exact ⟨rfl, [],List.Perm.refl _,List.Pairwise.nil,H0.out,(Below.refl _ _).mono hB⟩
 ·obtain ⟨g,c',hv2,_⟩ := h.one (by omega)
  simp at hv2
  obtain ⟨rfl, -,rfl⟩ := hv2
  have hlim : Lib.bitLen n < 4611686018427387904 := Nat.lt_of_le_of_lt (Lib.bitLen_le n 62 (by omega) (by omega)) (by omega)
  obtain ⟨hH,hlt⟩ := h.holds
  have eg : ∀ args w,(callFunc 139 args).run Tryz.prog w = .ok (.enter 139 args) w := Go.Proofs.enters_of Tryz.func139 (by kernel_rfl) rfl
  have hp := Tryz.slices_pdq_Rg layRg.enc layRg.len layRg.one (cfK keyRg) (swoK keyRg) 139 #[] g 0 c (Lib.bitLen n) M.toArray w eg (cmpLays_of cmpRg_any) hH hlt (by show M.length < _;omega) hlim
  have hsz : M.toArray.size = n := hn
  rw [hsz] at hp
  have hq : Calls Tryz.prog 153 #[.slice (some ⟨g,0,none⟩) n c, .int .i64 0, .int .i64 (n : Int), .int .i64 (Lib.bitLen n : Nat), .func (.func 139) #[] #[]] w fun e w' => e = .returned (.tuple #[]) ∧ ∃ S : List Sp,S.Perm M ∧ S.Pairwise (fun p q => keyRg p ≤ keyRg q) ∧ OwnK layRg w' B (.slice (some ⟨g,0,none⟩) n c) S ∧ Below B w w' :=
   hp.mono fun e w' ⟨he,d',q,os,h1,h2,h3⟩ => ⟨he,h.sorted hB (by rw [hsz];exact h1) (by rw [hsz];exact h2) h3⟩
  have Hl := Lib.hid hl
  have Hq := Lib.hid hq
  clear hl hq hp hH eg h hlim hsz hn hlt
  go_enter Tryz.func138,Tryz.ntmps138
  go_wp2_with fail
  refine Hl.out.mono ?_
  rintro e w' ⟨rfl,rfl⟩
  go_wp2_with fail
  refine Hq.out.mono ?_
  rintro e w2 ⟨rfl,hS⟩
  have HS := Lib.hid hS
  clear hS
  go_wp2_with fail
  go_end0
  exact ⟨rfl,HS.out⟩
theorem sortQs_any (B n c : Nat) (ad : Option Addr) (M : List Sp) (w : World) (h : OwnK layQs w B (.slice ad n c) M) (hn : M.length = n) (hs : n ≤ 1000000) (hB : B ≤ w.heap.size) :
  Calls Tryz.prog 156 #[.slice ad n c, .func (.func 157) #[] #[]] w fun e w' => e = .returned (.tuple #[]) ∧ ∃ S : List Sp,S.Perm M ∧ S.Pairwise (fun p q => keyQs p ≤ keyQs q) ∧ OwnK layQs w' B (.slice ad n c) S ∧ Below B w w' := by
 rcases Nat.eq_zero_or_pos n with h0 | h0
 ·subst h0
  have hM : M = [] := List.eq_nil_of_length_eq_zero hn
  subst hM
  refine (Tryz.slices_SortFunc_Qs_none ad c _ w).mono ?_
  rintro e w' ⟨rfl,rfl⟩
  exact ⟨rfl, [],List.Perm.refl _,List.Pairwise.nil,h,(Below.refl _ _).mono hB⟩
 ·obtain ⟨g,c',hv2,_⟩ := h.one (by omega)
  simp at hv2
  obtain ⟨rfl, -,rfl⟩ := hv2
  obtain ⟨hH,hlt⟩ := h.holds
  have eg : ∀ args w,(callFunc 157 args).run Tryz.prog w = .ok (.enter 157 args) w := Go.Proofs.enters_of Tryz.func157 (by kernel_rfl) rfl
  have hp := Tryz.slices_SortFunc_Qs layQs.enc layQs.len layQs.one (cfK keyQs) (swoK keyQs) 157 #[] g 0 c M.toArray w eg (cmpLays_of cmpQs_any) hH hlt (by show M.length < _;omega)
  have hsz : M.toArray.size = n := hn
  rw [hsz] at hp
  exact hp.mono fun e w' ⟨he,d',q,os,h1,h2,h3⟩ => ⟨he,h.sorted hB (by rw [hsz];exact h1) (by rw [hsz];exact h2) h3⟩
end Go.Proofs.YthebgfnaomgcnaaGreat
