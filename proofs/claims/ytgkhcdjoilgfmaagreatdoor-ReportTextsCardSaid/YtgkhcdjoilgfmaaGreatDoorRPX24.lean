/-
  slices.Equal of two rows of the same reports.
  The law AddrReads: walked. Condition: the variables that the functions read.
  The sort of ints: see the shelf.
  Sorting an own row of ints, in the words of an own row.
  Twice the median, four times the spread: the program and the reference.
  Four times the spread: the program and the reference give the same number.
  The error of Median and Spread: the program's and the reference's.
  Gcd and Lowest of the program, Lowest of the reference: the same fraction. Conditions: the numerator is not below 0, the denominator above 0.
-/
import Derived.Test.YtgkhcdjoilgfmaaGreatDoorRPX8
import Derived.Test.YtgkhcdjoilgfmaaGreatDoorRPX12
import Derived.Test.YtgkhcdjoilgfmaaGreatDoorRPX10
import Derived.Deep.Light
import Derived.Test.YtgkhcdjoilgfmaaGreatDoorRPX14
import Derived.Test.YtgkhcdjoilgfmaaGreatDoorRPX15
import Derived.Test.YtgkhcdjoilgfmaaGreatDoorRPX4
import Derived.Laws.StructEq
import Derived.Test.YtgkhcdjoilgfmaaGreatDoorRPX18
import Derived.Test.YtgkhcdjoilgfmaaGreatDoorRPX1
import Derived.StillTailTactics
set_option linter.unusedVariables false
set_option maxRecDepth 100000
set_option maxHeartbeats 4000000
namespace Go.Proofs.YtgkhcdjoilgfmaaGreatDoor
open Go.RowKit Go
def eqRbR (s1 s2:Value) (i:Nat) (g1 g2 o1 o2:Nat) (x:RB):Nat→Value→World→Prop
 | 0,v,_ => v=s1
 | 1,v,_ => v=.int .i64 (i:Int)
 | 2,v,_ => v=.pointer (some ⟨g1,o1 + i * 14,none⟩)
 | 3,v,_ => v=.agg (layRb.enc x).toArray
 | 4,v,_ => v=s2
 | 5,v,_ => v=.int .i64 (i:Int)
 | 6,v,_ => v=.pointer (some ⟨g2,o2 + i * 14,none⟩)
 | _,v,_ => v=.agg (layRb.enc x).toArray
theorem eqRbR_keep {s1 s2:Value} {i g1 g2 o1 o2:Nat} {x:RB} (p:Nat) (v:Value) (u w:World) (h:eqRbR s1 s2 i g1 g2 o1 o2 x p v u) (hb:Below u.heap.size u w):eqRbR s1 s2 i g1 g2 o1 o2 x p v w:=by
 rcases p with _ | _ | _ | _ | _ | _ | _ | p
 all_goals exact h
theorem neq_selfR (v:RB) (w:World):(binOp .neq 74 (.agg (layRb.enc v).toArray) (.agg (layRb.enc v).toArray)).run Tryz.prog w=.ok (.bool false) w:=by
 rw [neq_rb,show eqRB v v=true from eqB_self v.1]
 rfl
theorem equalRb_any (a1 a2:Option Addr) (n c1 c2:Nat) (L:List RB) (w:World) (h1:RdK layRb w a1 L) (h2:RdK layRb w a2 L) (hn:L.length=n) (hs:n≤1000000) :
  Calls Tryz.prog 36 #[.slice a1 n c1, .slice a2 n c2] w (Ret (.bool true) w):=by
 have H1:=Lib.hid h1
 have H2:=Lib.hid h2
 have Hn:=Lib.hid hn
 clear h1 h2 hn
 go_enter Tryz.func36,Tryz.ntmps36
 go_wp2_with fail
 go_loopw [5,13] (fun s5 i wr => ∃ k:Nat,k≤n∧i=.int .i64 (k:Int)∧Hid (Below w.heap.size w wr)) (fun _ i _ => n - (intOf i).toNat)
 case atStart => exact ⟨0,Nat.zero_le _,rfl,Lib.hid (Below.refl _ _)⟩
 case round =>
  obtain ⟨k,hk,rfl,HB⟩:=hrel
  by_cases hlt:k < n
  ·have hS:k < L.length:=by rw [Hn.out];exact hlt
   obtain ⟨x,hx⟩:∃ x,L[k]?=some x:=⟨_,List.getElem?_eq_getElem hS⟩
   obtain ⟨g1,o1,had1,hg1,hc1⟩:=(H1.out.below HB.out) k x hx
   obtain ⟨g2,o2,had2,hg2,hc2⟩:=(H2.out.below HB.out) k x hx
   have HR1:Hid (∀ wx,Below wr.heap.size wr wx→wx.rangeAt g1 (o1 + k * 14) (layRb.enc x)):=Lib.hid fun wx hb => range_below (fun j v hv => by
    have:=hc1 j v hv
    rwa [← Nat.add_assoc] at this) hb hg1
   have HR2:Hid (∀ wx,Below wr.heap.size wr wx→wx.rangeAt g2 (o2 + k * 14) (layRb.enc x)):=Lib.hid fun wx hb => range_below (fun j v hv => by
    have:=hc2 j v hv
    rwa [← Nat.add_assoc] at this) hb hg2
   subst had1 had2
   clear hx hS hg1 hg2 hc1 hc2
   go_upto_region 6 with fail
   refine wp_region_inv 8 0 (eqRbR (.slice (some ⟨g1,o1,none⟩) n c1) (.slice (some ⟨g2,o2,none⟩) n c2) k g1 g2 o1 o2 x) (fun _ wx => Below wr.heap.size wr wx) (fun u v => Below u.heap.size u v) (fun _ => 0)
    (by kernel_rfl) (by kernel_rfl) (by decide) eqRbR_keep (below_drew (Below.refl _ _)) ?hX
   case' hX => (apply Exists.intro;refine ⟨fun T => ?hA,?hob,?hend⟩)
   case hA =>
    simp only [setAll,List.take_succ_cons,List.take_zero,Act.put,List.setIfInBounds_toArray,List.set_cons_succ,List.set_cons_zero,Nat.reduceAdd]
    exact rfl
   case hob =>
    go_light
    refine ⟨?_,?_,?_,?_,?_,?_,?_,?_,trivial⟩
    all_goals (intro T wx n0 hC hn hp;dsimp only at hn ⊢)
    ·unfold Op1
     go_simp
     exact ⟨rfl,Below.refl _ _⟩
    ·unfold Op1
     go_simp
     exact ⟨rfl,Below.refl _ _⟩
    ·obtain ⟨q0,q1, -⟩:=hp
     have q0:T 0=.slice (some ⟨g1,o1,none⟩) n c1:=q0
     have q1:T 1=.int .i64 (k:Int):=q1
     unfold Op1
     go_simp
     exact ⟨rfl,Below.refl _ _⟩
    ·obtain ⟨q0, -⟩:=hp
     have q0:T 2=.pointer (some ⟨g1,o1 + k * 14,none⟩):=q0
     exact Op1.loadn 74 (.tmp 18) rfl g1 (o1 + k * 14) q0 (layRb.enc x) _ (HR1.out wx hC) under_rb rfl 14 size_rb (layRb.len x) ⟨rfl,hC,Below.refl _ _⟩
    ·unfold Op1
     go_simp
     exact ⟨rfl,Below.refl _ _⟩
    ·unfold Op1
     go_simp
     exact ⟨rfl,Below.refl _ _⟩
    ·obtain ⟨q0,q1, -⟩:=hp
     have q0:T 4=.slice (some ⟨g2,o2,none⟩) n c2:=q0
     have q1:T 5=.int .i64 (k:Int):=q1
     unfold Op1
     go_simp
     exact ⟨rfl,Below.refl _ _⟩
    ·obtain ⟨q0, -⟩:=hp
     have q0:T 6=.pointer (some ⟨g2,o2 + k * 14,none⟩):=q0
     exact Op1.loadn 74 (.tmp 22) rfl g2 (o2 + k * 14) q0 (layRb.enc x) _ (HR2.out wx hC) under_rb rfl 14 size_rb (layRb.len x) ⟨rfl,hC,Below.refl _ _⟩
   case hend =>
    intro T w4 ⟨n0,hn0,hb⟩ hR
    have hT3:T 3=.agg (layRb.enc x).toArray:=hR 3 (by omega)
    have hT7:T 7=.agg (layRb.enc x).toArray:=hR 7 (by omega)
    have gx:=fun a b wz => eqGuard_rb .neq a b x x wz (.inr rfl)
    have nx:=fun wz => neq_selfR x wz
    have HB4:=Lib.hid (HB.out.trans (hb.mono HB.out.size))
    clear hR hb HR1 HR2 HB
    generalize (layRb.enc x).toArray=X at *
    go_wp2_with fail
    exact ⟨⟨k + 1,by omega,by go_num,HB4⟩,by simp [intOf];omega⟩
  ·obtain rfl:k=n:=by omega
   go_wp2_with fail
   go_ret
   exact ⟨rfl,HB.out⟩
open Go.RowKit Go Go.Sort
theorem Gen.toBelowR {b m:Nat} {w u v:World} (h:Gen b u v m) (hw:Below w.heap.size w u) (hb:w.heap.size≤b):Below w.heap.size w v :=
 ⟨h.g.os.trans hw.os,h.g.tape.trans hw.tape,h.g.output.trans hw.output,Nat.le_trans hw.size h.g.size,fun i hi => (h.g.block i (Nat.lt_of_lt_of_le hi hw.size) (by intro e;injection e;omega)).trans (hw.block i hi)⟩
def sortI (zs:List Int):List Int:=zs.mergeSort fun x y => decide (x≤y)
theorem sortI_len (zs:List Int):(sortI zs).length=zs.length:=List.length_mergeSort _
theorem sortI_mem {zs:List Int} {z:Int}:z ∈ sortI zs ↔ z ∈ zs:=List.mem_mergeSort
theorem putCells_take (enc:Int→Value) (ys:List Int) (cur:Array Value) (h:ys.length≤cur.size) :
  (putCells enc 0 ys.toArray cur).size=cur.size∧(putCells enc 0 ys.toArray cur).toList.take ys.length=ys.map enc:=by
 refine ⟨by simp [putCells],List.ext_getElem? fun i => ?_⟩
 rcases Nat.lt_or_ge i ys.length with hi | hi
 ·rw [List.getElem?_take,if_pos hi,Array.getElem?_toList]
  simp only [putCells,Array.getElem?_mapIdx]
  rw [Array.getElem?_eq_getElem (by omega)]
  simp [hi]
 ·rw [List.getElem?_eq_none (by simp;omega),List.getElem?_eq_none (by simpa using hi)]
theorem sort_ints (B g n c:Nat) (zs:List Int) (w:World) (h:OwnI w B (.slice (some ⟨g,0,none⟩) n c) zs) (hn:zs.length=n) (hn1:1≤n∧n≤1000000) (hB:B≤w.heap.size) :
  Calls Tryz.prog 226 #[.slice (some ⟨g,0,none⟩) n c] w fun e w' => e=.returned (.tuple #[])∧OwnI w' B (.slice (some ⟨g,0,none⟩) n c) (sortI zs)∧Below B w w':=by
 subst hn
 obtain ⟨g',c',cur,hv,hb,hg,hR,hc,hm⟩:=h.slice hn1.1
 obtain ⟨rfl,rfl⟩:g'=g∧c'=c:=by simp at hv;exact ⟨hv.1.symm,hv.2.symm⟩
 have hsz:cur.size=c' * 1:=by
  rcases h.2 with ⟨hv,_⟩ | ⟨g2,c2,cur2,hv2,_,hg2,_,_,hs2,_⟩
  ·cases hv
  ·simp at hv2
   obtain ⟨rfl,rfl⟩:=hv2
   rw [hg] at hg2
   simp at hg2
   rw [hg2];exact hs2
 have hH:Holds (Value.int .i64) w g' 0 zs.toArray:=by
  intro j hj
  have hj':j < zs.length:=by simpa using hj
  refine ⟨?_,?_⟩
  ·rw [hR.2.2 j hj']
   simp [List.getD,hj']
  ·exact frozen_of_row w g' (0 + j) cur _ hg
 refine (Tryz.slices_Sort_int g' 0 c' zs w hH (lt_of_block hg) (by omega)).mono ?_
 rintro e w' ⟨rfl,n,os,rfl⟩
 have hys:(sortI zs).length=zs.length:=sortI_len zs
 show _∧OwnI (grow (putRow (Value.int .i64) (Sort.ahead w n) g' 0 (sortI zs).toArray) os) B _ (sortI zs)∧Below B w (grow (putRow (Value.int .i64) (Sort.ahead w n) g' 0 (sortI zs).toArray) os)
 generalize sortI zs=ys at hys ⊢
 have hlt:g' < w.heap.size:=lt_of_block hg
 have hheap:∀ i,i < w.heap.size→(grow (putRow (Value.int .i64) (Sort.ahead w n) g' 0 ys.toArray) os).heap[i]?=if g'=i then some (.cells (putCells (Value.int .i64) 0 ys.toArray cur) 3 (0,0)) else w.heap[i]?:=by
  intro i hi
  simp only [grow,putRow,mapBlock,Sort.ahead]
  rw [Array.getElem?_append_left (by simpa using hi),Array.getElem?_modify]
  by_cases e:g'=i
  ·subst e
   rw [if_pos rfl,if_pos rfl,hg]
   rfl
  ·rw [if_neg e,if_neg e]
 obtain ⟨p1,p2⟩:=putCells_take (Value.int .i64) ys cur (by omega)
 refine ⟨rfl,⟨by simp [encIs], .inr ⟨g',c',_,by rw [hys],hb,by rw [hheap g' hlt,if_pos rfl],by omega,hm,by omega,by rw [Nat.mul_one];exact p2⟩⟩,?_⟩
 refine ⟨rfl,rfl,rfl,by simp [grow,putRow,mapBlock,Sort.ahead],fun i hi => ?_⟩
 rw [hheap i (by omega),if_neg (by omega)]
def Sized (zs:List Int):Prop:=∀ z ∈ zs, -1099511627776000≤z∧z≤1099511627776000
def mid (zs:List Int):Int:=(sortI zs).getD ((zs.length - 1) / 2) 0 + (sortI zs).getD (zs.length / 2) 0
theorem mid_bd {zs:List Int} {a b:Int} (h:∀ z ∈ zs,a≤z∧z≤b) (hn:1≤zs.length):2 * a≤mid zs∧mid zs≤2 * b:=by
 unfold mid
 have h1:=h _ (sortI_mem.1 (getD_mem (zs:=sortI zs) (i:=(zs.length - 1) / 2) (by rw [sortI_len];omega)))
 have h2:=h _ (sortI_mem.1 (getD_mem (zs:=sortI zs) (i:=zs.length / 2) (by rw [sortI_len];omega)))
 omega
theorem Sized.sort {zs:List Int} (h:Sized zs):Sized (sortI zs):=fun z hz => h z (sortI_mem.1 hz)
theorem Sized.at {zs:List Int} (h:Sized zs) (i:Nat):-1099511627776000≤zs.getD i 0∧zs.getD i 0≤1099511627776000:=by
 rcases Nat.lt_or_ge i zs.length with hi | hi
 ·exact h _ (getD_mem hi)
 ·rw [List.getD_eq_getElem?_getD,List.getElem?_eq_none hi];simp
theorem middle_any (g o n c:Nat) (zs:List Int) (w:World) (h:RdInts w g o n zs) (hn:1≤n∧n≤1000000) (hs:Sized zs) :
  Calls Tryz.prog 173 #[.slice (some ⟨g,o,none⟩) n c] w (Ret (.int .i64 (mid zs)) w):=by
 have hl:=h.1
 have HS:=Lib.hid hs.sort
 have H:=Lib.hid h
 obtain ⟨M,hM⟩:∃ M,M=mid zs:=⟨_,rfl⟩
 rw [← hM]
 unfold mid at hM
 rw [hl] at hM
 have HM:=Lib.hid hM
 clear h hs hM
 go_enter Tryz.func173,Tryz.ntmps173
 go_wp2_with fail
 refine (clone_ints g o n c zs w H.out hn.2).mono ?_
 rintro e w1 ⟨v,rfl,hO,hB⟩
 obtain ⟨g1,c1,cur,rfl,hb1,_,_,hc1,hm1⟩:=hO.slice (by omega)
 rw [hl] at hO hc1 ⊢
 have HB1:=Lib.hid hB
 have HO1:=Lib.hid hO
 clear hB hO
 go_wp2_with fail
 refine (sort_ints w.heap.size g1 n c1 zs w1 HO1.out hl hn HB1.out.size).mono ?_
 rintro e w2 ⟨rfl,hO,hB⟩
 have HB2:=Lib.hid (HB1.out.trans hB)
 have hys:(sortI zs).length=n:=(sortI_len zs).trans hl
 generalize sortI zs=ys at *
 obtain ⟨g2,c2,cur2,hv,_,hg2,hR,_,_⟩:=hO.slice (by omega)
 obtain ⟨rfl,rfl⟩:g1=g2∧c1=c2:=by simp at hv;exact ⟨hv.1,hv.2.2⟩
 obtain ⟨_,hgl,hc⟩:=hR
 have e1:=hc ((n - 1) / 2) (by omega)
 have e2:=hc (n / 2) (by omega)
 have b1:=HS.out.at ((n - 1) / 2)
 have b2:=HS.out.at (n / 2)
 rw [Nat.zero_add] at e1 e2
 generalize ys.getD ((n - 1) / 2) 0=y1 at *
 generalize ys.getD (n / 2) 0=y2 at *
 have HH:=Lib.hid (And.intro hg2 hv)
 clear hc hg2 hv hO hB HO1 hys hl HS
 have t1:((n:Int) - 1).tdiv 2=(((n - 1) / 2:Nat):Int):=by rw [Int.tdiv_eq_ediv_of_nonneg (by omega)];omega
 have t2:(n:Int).tdiv 2=((n / 2:Nat):Int):=by rw [Int.tdiv_eq_ediv_of_nonneg (by omega)];omega
 have k1:(n - 1) / 2 < n:=by omega
 have k2:n / 2 < n:=by omega
 have k3:1≤n:=hn.1
 generalize (n - 1) / 2=i1 at *
 generalize n / 2=i2 at *
 go_wp2_with fail
 go_quiet (fail)
 go_wp2
 go_ret
 exact ⟨ret_int HM.out.symm,below_drewN HB2.out _⟩
def Small (zs:List Int):Prop:=∀ z ∈ zs,0≤z∧z≤2000000000000
theorem Small.sized {zs:List Int} (h:Small zs):Sized zs:=fun z hz => by have:=h z hz;omega
theorem mid_I62 {zs:List Int} (h:Small zs) (hn:1≤zs.length):0≤mid zs∧mid zs≤4000000000000:=by have:=mid_bd h hn;omega
def badN (z:Int):Bool:=outB z 0 2000000000000
def nFault (zs:List Int):Int:=if zs.length=0 then 8 else if zs.any badN=true then 1 else 0
theorem nFault_small {zs:List Int} (h:nFault zs=0):Small zs∧1≤zs.length:=by
 unfold nFault at h
 split at h
 ·cases h
 ·split at h
  ·cases h
  ·rename_i h1 h2
   refine ⟨fun z hz => ?_,by omega⟩
   have:badN z=false:=by
    cases hb:badN z
    ·rfl
    ·exact absurd (List.any_eq_true.2 ⟨z,hz,hb⟩) h2
   simp [badN,outB] at this
   omega
theorem bad_any (z:Int) (w:World):Calls Tryz.prog 223 #[.int .i64 z] w fun e w' => e=.returned (.bool (badN z))∧w'=w:=by
 unfold badN
 go_enter Tryz.func223,Tryz.ntmps223
 go_wp2_with (go_at_call 125;refine (outside_any _ _ _ _).mono ?_;rintro e w' ⟨rfl,rfl⟩)
 go_ret
 exact ⟨rfl,rfl⟩
theorem index_bad (g o n c:Nat) (zs:List Int) (w:World) (h:RdInts w g o n zs) (hn:n≤1000000) :
  Calls Tryz.prog 276 #[.slice (some ⟨g,o,none⟩) n c, .func (.func 223) #[] #[]] w fun e w' => ∃ k:Int,e=.returned (.int .i64 k)∧decide (0≤k)=zs.any badN∧w'=w:=by
 obtain ⟨hl,hg,hc⟩:=h
 have Hc:=Lib.hid hc
 have Hl:=Lib.hid hl
 clear hc hl
 go_enter Tryz.func276,Tryz.ntmps276
 go_wp2
 go_loopw [8] (fun i wr => ∃ (k:Nat),k≤n∧i=.int .i64 k∧Hid (∀ j,j < k→badN (zs.getD j 0)=false)∧wr=w) (fun i _ => n - (intOf i).toNat)
 case atStart => exact ⟨0,Nat.zero_le _,rfl,Lib.hid fun j hj => absurd hj (Nat.not_lt_zero _),rfl⟩
 case round =>
  obtain ⟨k,hk,rfl,HX,rfl⟩:=hrel
  by_cases hlt:k < n
  ·have ck:=Hc.out k hlt
   have Hmem:=Lib.hid (getD_mem (zs:=zs) (i:=k) (by have:=Hl.out;omega))
   obtain ⟨z,hz⟩:∃ z,z=zs.getD k 0:=⟨_,rfl⟩
   rw [← hz] at ck Hmem
   have Hz:=Lib.hid hz
   clear hz
   cases hb:badN z with
   | true =>
     have Hb:=Lib.hid hb
     clear hb
     go_wp2_with fail
     refine (bad_any _ _).mono ?_
     rintro e w' ⟨rfl,rfl⟩
     rw [Hb.out]
     go_wp2_with fail
     go_ret
     refine ⟨k,rfl,?_,rfl⟩
     rw [List.any_eq_true.2 ⟨z,Hmem.out,Hb.out⟩]
     simp
   | false =>
     have Hb:=Lib.hid hb
     clear hb
     go_wp2_with fail
     refine (bad_any _ _).mono ?_
     rintro e w' ⟨rfl,rfl⟩
     rw [Hb.out]
     go_wp2_with fail
     refine ⟨⟨k + 1,by omega,by go_num,Lib.hid fun j hj => ?_,by first | rfl | trivial⟩,by simp [intOf];omega⟩
     rcases Nat.lt_or_ge j k with h | h
     ·exact HX.out j h
     ·obtain rfl:j=k:=by omega
      rw [← Hz.out];exact Hb.out
  ·obtain rfl:k=n:=by omega
   go_wp2
   go_ret
   refine ⟨-1,rfl,?_,rfl⟩
   have:zs.any badN=false:=by
    rw [Bool.eq_false_iff]
    intro hh
    obtain ⟨z,hz,hb⟩:=List.any_eq_true.1 hh
    obtain ⟨j,hj,rfl⟩:=List.getElem_of_mem hz
    have:=HX.out j (by have:=Hl.out;omega)
    rw [List.getD_eq_getElem?_getD,List.getElem?_eq_getElem hj] at this
    simp at this
    rw [this] at hb
    cases hb
   rw [this]
   rfl
theorem contains_bad (g o n c:Nat) (zs:List Int) (w:World) (h:RdInts w g o n zs) (hn:n≤1000000) :
  Calls Tryz.prog 222 #[.slice (some ⟨g,o,none⟩) n c, .func (.func 223) #[] #[]] w fun e w' => e=.returned (.bool (zs.any badN))∧w'=w:=by
 have Hi:=Lib.hid (index_bad g o n c zs w h hn)
 generalize zs.any badN=b at *
 clear h
 go_enter Tryz.func222,Tryz.ntmps222
 go_wp2_with fail
 refine Hi.out.mono ?_
 rintro e w' ⟨k,rfl,hk,rfl⟩
 subst hk
 go_wp2
 go_ret
 exact ⟨rfl,rfl⟩
theorem numbersFault_none (ad:Option Addr) (c:Nat) (w:World) :
  Calls Tryz.prog 171 #[.slice ad 0 c] w fun e w' => e=.returned (.int .i64 8)∧w'=w:=by
 go_enter Tryz.func171,Tryz.ntmps171
 go_wp2
 go_ret
 exact ⟨rfl,rfl⟩
theorem numbersFault_any (g o n c:Nat) (zs:List Int) (w:World) (h:RdInts w g o n zs) (hn:1≤n∧n≤3000) :
  Calls Tryz.prog 171 #[.slice (some ⟨g,o,none⟩) n c] w fun e w' => e=.returned (.int .i64 (nFault zs))∧w'=w:=by
 have hf:nFault zs=if zs.any badN=true then 1 else 0:=by unfold nFault;rw [if_neg (by have:=h.1;omega)]
 rw [hf]
 have Hi:=Lib.hid (contains_bad g o n c zs w h (by omega))
 have h0:¬ (n:Int)=0:=by omega
 have h1:¬ 3000 < (n:Int):=by omega
 clear h hf
 generalize zs.any badN=b at *
 cases b
 all_goals
  go_enter Tryz.func171,Tryz.ntmps171
  go_wp2_with fail
  refine Hi.out.mono ?_
  rintro e w' ⟨rfl,rfl⟩
  go_wp2_with fail
  go_ret
  exact ⟨rfl,rfl⟩
def I62 (x:Int):Prop:=0≤x∧x≤2305843009213693952
theorem gcd_step {x y:Int} (h:0≤x) (hy:0≤y):Int.gcd y (x.tmod y)=Int.gcd x y:=by
 obtain ⟨m,rfl⟩:=Int.eq_ofNat_of_zero_le h
 obtain ⟨n,rfl⟩:=Int.eq_ofNat_of_zero_le hy
 rw [← Int.ofNat_tmod]
 simp only [Int.gcd,Int.natAbs_natCast]
 rw [Nat.gcd_comm m n,Nat.gcd_rec n m,Nat.gcd_comm]
theorem gcd_zero {x:Int} (h:0≤x):((Int.gcd x 0:Nat):Int)=x:=by
 simp only [Int.gcd_zero];omega
def fracN (a b:Int):Int:=a / (Int.gcd a b:Nat)
def fracD (a b:Int):Int:=b / (Int.gcd a b:Nat)
theorem tmod_lt {x y:Int} (h:0≤x) (hy:0 < y):0≤x.tmod y∧x.tmod y < y:=by
 rw [Int.tmod_eq_emod_of_nonneg h]
 exact ⟨Int.emod_nonneg _ (by omega),Int.emod_lt_of_pos _ hy⟩
theorem gcd_any (a b:Int) (w:World) (ha:I62 a) (hb:I62 b) :
  Calls Tryz.prog 224 #[.int .i64 a, .int .i64 b] w fun e w' => e=.returned (.int .i64 (Int.gcd a b:Nat))∧∃ n,w'=w.drewN n:=by
 obtain ⟨g,hg⟩:∃ g,g=Int.gcd a b:=⟨_,rfl⟩
 rw [← hg]
 have Hg:=Lib.hid hg
 clear hg
 go_enter Tryz.func224,Tryz.ntmps224
 go_wp2
 go_loopw [0,1] (fun s0 s1 wr => ∃ (x y:Int) (q:Nat),s0=.int .i64 x∧s1=.int .i64 y∧I62 x∧I62 y∧Hid (Int.gcd x y=g)∧wr=w.drewN q) (fun _ s1 _ => (intOf s1).toNat)
 case atStart => exact ⟨a,b,0,rfl,rfl,ha,hb,Lib.hid Hg.out.symm,rfl⟩
 case round =>
  obtain ⟨x,y,q,rfl,rfl,hx,hy,HG,rfl⟩:=hrel
  obtain ⟨hx0,hx1⟩:=hx
  obtain ⟨hy0,hy1⟩:=hy
  by_cases h0:y=0
  ·subst h0
   have hG:=HG.out
   have Hx:=Lib.hid (gcd_zero hx0)
   rw [hG] at Hx
   clear hG
   go_wp2
   go_ret
   exact ⟨ret_int (by have:=Hx.out;omega),_,rfl⟩
  ·have Hm:=Lib.hid (tmod_lt hx0 (show 0 < y by omega))
   have Hs:=Lib.hid (gcd_step hx0 hy0)
   obtain ⟨r,hr⟩:∃ r,r=x.tmod y:=⟨_,rfl⟩
   rw [← hr] at Hm Hs
   have hr':=hr.symm
   clear hr
   go_wp2_with fail
   go_quiet (fail)
   go_wp2_with fail
   have:=Hm.out
   refine ⟨⟨y,r,q + nq,?_,?_,⟨hy0,hy1⟩,⟨this.1,by omega⟩,Lib.hid (Hs.out.trans HG.out),?_⟩,?_⟩
   all_goals first | rfl | trivial | exact World.drewN_drewN .. | (simp [intOf];omega)
theorem gcd_pos {a b:Int} (hb:0 < b):0 < ((Int.gcd a b:Nat):Int):=by
 have:Int.gcd a b ≠ 0:=fun h => by have:=(Int.gcd_eq_zero_iff.1 h).2;omega
 omega
theorem tdiv_ok {x y:Int} (h:I62 x) (hy:0 < y):x.tdiv y=x / y∧0≤x / y∧x / y≤2305843009213693952 :=
 ⟨Int.tdiv_eq_ediv_of_nonneg h.1,Int.ediv_nonneg h.1 (by omega),Int.le_trans (Int.ediv_le_self _ h.1) h.2⟩
theorem lowest_any (a b:Int) (w:World) (ha:I62 a) (hb:I62 b) (h0:0 < b) :
  Calls Tryz.prog 172 #[.int .i64 a, .int .i64 b] w (Ret (.agg #[.int .i64 (fracN a b), .int .i64 (fracD a b)]) w):=by
 have Hp:=Lib.hid (gcd_pos (a:=a) h0)
 obtain ⟨hN,hN0,hN1⟩:=tdiv_ok ha Hp.out
 obtain ⟨hD,hD0,hD1⟩:=tdiv_ok hb Hp.out
 have HI:=Lib.hid (And.intro ha hb)
 unfold fracN fracD
 have hb0:¬ b < 0:=by omega
 go_enter Tryz.func172,Tryz.ntmps172
 go_wp2_with fail
 refine (gcd_any a b _ HI.out.1 HI.out.2).mono ?_
 rintro e w1 ⟨rfl,n,rfl⟩
 generalize ((Int.gcd a b:Nat):Int)=g at *
 have hg0:=Hp.out
 have hg1:¬ g=0:=by omega
 have hg2:¬ g=-1:=by omega
 clear hg0
 generalize a / g=x at *
 generalize b / g=y at *
 have HB:Hid (Blk (((w.alloc (.cells #[.int .i64 0, .int .i64 0] 151 (0,0))).drewN n).drew) w.heap.size 151 #[.int .i64 0, .int .i64 0]):=Lib.hid (Blk.new w _ _)
 have HW:Hid (Below w.heap.size w (((w.alloc (.cells #[.int .i64 0, .int .i64 0] 151 (0,0))).drewN n).drew)):=Lib.hid (below_drew (below_drewN (below_alloc (Below.refl _ _) _) _))
 go_wp2_with fail
 go_still_tail 7,(by kernel_rfl)
 rw [IntWalk.i64_in x (by omega),IntWalk.i64_in y (by omega)]
 change wpList _ _ _ _ _ (((w.alloc (.cells #[.int .i64 0, .int .i64 0] 151 (0,0))).drewN n).drew)
 generalize (((w.alloc (.cells #[.int .i64 0, .int .i64 0] 151 (0,0))).drewN n).drew)=w2 at *
 have c0:=HB.out.cell 0
 have c1:=HB.out.cell 1
 have f0:=HB.out.free
 simp at c0 c1
 go_wp2
 refine bodyPost_ret (v:=.agg #[.int .i64 x, .int .i64 y]) (by simp [results,Tryz.results172,go_sem,c0,c1]) rfl ⟨rfl,?_⟩
 exact below_set (below_set HW.out (Nat.le_refl _) _ _) (Nat.le_refl _) _ _
end Go.Proofs.YtgkhcdjoilgfmaaGreatDoor
