/-
  Spans.Has: binary search in spans.
  Whether a number is in one of some ports: the program's inPorts and the reference's closure of lets.
  The reference's lets: whether a row lets a flow in.
  The program's lets: whether a ready row lets a flow in.
  Rows that let a flow in: the reference's DecidesOf and the program's lets.
  Rows that let a flow in: the reference's DecidesOf.
  Rows of filters (api.Filter, filter.row): how they lie, and what their slices hold.
  rowsOf: rows made ready for questions.
-/
import Derived.Test.YthebgfnaomgcnaaGreatFT12
import Derived.Test.YthebgfnaomgcnaaGreatFT5
import Derived.Test.YthebgfnaomgcnaaGreatFT7
import Derived.WalkSpells
set_option linter.unusedVariables false
set_option maxRecDepth 100000
set_option maxHeartbeats 8000000
namespace Go.Proofs.YthebgfnaomgcnaaGreat
open Go.RowKit Go
theorem has1_any (p : Sp) (x : Nat) (w : World) (hp : VN p.1) (hx : VN x) : Calls Tryz.prog 125 #[.agg (rgC p).toArray, .agg (aN x)] w (Ret (.int .i64 (cN p.1 x)) w):=by
 have HC:=Lib.hid fun wx => spanCompareN wx hp hx
 obtain ⟨a1,a2,a3,a4,a5,a6,hpc,ha, -, -, -⟩:=rg_cells p
 rw [ha] at HC
 rw [hpc]
 unfold aN at HC ⊢
 generalize cN p.1 x = R at *
 clear hp hx hpc ha
 generalize sixN x = x1 at *
 generalize hiN x = x2 at *
 generalize loN x = x3 at *
 have HP : Hid (Blk ((w.alloc (.cells #[.bool a1, .int .u64 (a2 : Int), .int .u64 (a3 : Int), .bool a4, .int .u64 (a5 : Int), .int .u64 (a6 : Int)] 144 (0,0))).alloc (.cells #[.bool x1, .int .u64 (x2 : Int), .int .u64 (x3 : Int)] 49 (0,0))) w.heap.size 144 #[.bool a1, .int .u64 (a2 : Int), .int .u64 (a3 : Int), .bool a4, .int .u64 (a5 : Int), .int .u64 (a6 : Int)]):=Lib.hid ((Blk.new w _ _).alloc _)
 have HX : Hid (Blk ((w.alloc (.cells #[.bool a1, .int .u64 (a2 : Int), .int .u64 (a3 : Int), .bool a4, .int .u64 (a5 : Int), .int .u64 (a6 : Int)] 144 (0,0))).alloc (.cells #[.bool x1, .int .u64 (x2 : Int), .int .u64 (x3 : Int)] 49 (0,0))) (w.heap.size + 1) 49 #[.bool x1, .int .u64 (x2 : Int), .int .u64 (x3 : Int)]):=Lib.hid (by
  have this:=Blk.new (w.alloc (.cells #[.bool a1, .int .u64 (a2 : Int), .int .u64 (a3 : Int), .bool a4, .int .u64 (a5 : Int), .int .u64 (a6 : Int)] 144 (0,0))) 49 #[.bool x1, .int .u64 (x2 : Int), .int .u64 (x3 : Int)]
  rw [World.size_alloc] at this
  exact this)
 have HB : Hid (Below w.heap.size w ((w.alloc (.cells #[.bool a1, .int .u64 (a2 : Int), .int .u64 (a3 : Int), .bool a4, .int .u64 (a5 : Int), .int .u64 (a6 : Int)] 144 (0,0))).alloc (.cells #[.bool x1, .int .u64 (x2 : Int), .int .u64 (x3 : Int)] 49 (0,0)))):=Lib.hid (below_alloc (below_alloc (Below.refl _ _) _) _)
 go_enter Tryz.func125,Tryz.ntmps125
 go_upto_region 1 with fail
 generalize ((w.alloc (.cells #[.bool a1, .int .u64 (a2 : Int), .int .u64 (a3 : Int), .bool a4, .int .u64 (a5 : Int), .int .u64 (a6 : Int)] 144 (0,0))).alloc (.cells #[.bool x1, .int .u64 (x2 : Int), .int .u64 (x3 : Int)] 49 (0,0))) = w2 at *
 have c0:=HP.out.cell 0
 have c1:=HP.out.cell 1
 have c2:=HP.out.cell 2
 have d0:=HX.out.cell 0
 have d1:=HX.out.cell 1
 have d2:=HX.out.cell 2
 simp at c0 c1 c2 d0 d1 d2
 go_wp2_with fail
 refine (HC.out _).mono ?_
 rintro e w3 ⟨rfl,hb⟩
 have HB3:=Lib.hid (HB.out.trans (hb.b.mono HB.out.size))
 clear hb c0 c1 c2 d0 d1 d2
 go_wp2_with fail
 go_ret
 exact ⟨rfl,HB3.out⟩
structure Bin (L : List Sp) (x k : Nat) (b : Bool) : Prop where
 le : k ≤ L.length
 lo : ∀ j p,j < k → L[j]? = some p → p.1 < x
 hi : ∀ j p,k ≤ j → L[j]? = some p → x ≤ p.1
 eq : b = true ↔ ∃ p,L[k]? = some p ∧ p.1 = x
theorem hs_neg {a b : Nat} : cN a b < 0 ↔ a < b:=by
 unfold cN
 by_cases h : a < b
 ·rw [if_pos h];exact ⟨fun _ => h,fun _ => by omega⟩
 ·rw [if_neg h]
  by_cases h2 : b < a
  ·rw [if_pos h2];exact ⟨fun h3 => by omega,fun h3 => absurd h3 h⟩
  ·rw [if_neg h2];exact ⟨fun h3 => by omega,fun h3 => absurd h3 h⟩
theorem hs_zero {a b : Nat} : cN a b = 0 ↔ a = b:=by
 unfold cN
 by_cases h : a < b
 ·rw [if_pos h];exact ⟨fun h3 => by omega,fun h3 => by omega⟩
 ·rw [if_neg h]
  by_cases h2 : b < a
  ·rw [if_pos h2];exact ⟨fun h3 => by omega,fun h3 => by omega⟩
  ·rw [if_neg h2];exact ⟨fun h3 => by omega,fun h3 => rfl⟩
theorem bin_any (ad : Option Addr) (n c : Nat) (L : List Sp) (x : Nat) (w : World) (h : RdK layRg w ad L) (hn : L.length = n) (hs : n ≤ 1000000) (hv : ∀ p ∈ L,VR p) (hx : VN x) (hm : ∀ (j i : Nat) (p q : Sp),j ≤ i → L[j]? = some p → L[i]? = some q → p.1 ≤ q.1) :
  Calls Tryz.prog 124 #[.slice ad n c, .agg (aN x), .func (.func 125) #[] #[]] w fun e w' => ∃ (k : Nat) (b : Bool),e = .returned (.tuple #[.int .i64 (k : Int), .bool b]) ∧ Bin L x k b ∧ Below w.heap.size w w':=by
 have H0:=Lib.hid h
 have Hn:=Lib.hid hn
 have Hv:=Lib.hid hv
 have Hx:=Lib.hid hx
 have Hm:=Lib.hid hm
 clear h hn hv hx hm
 have HX : Hid (Blk (w.alloc (.cells (aN x) 49 (0,0))) w.heap.size 49 (aN x)):=Lib.hid (Blk.new w _ _)
 have HB : Hid (Below w.heap.size w (w.alloc (.cells (aN x) 49 (0,0)))):=Lib.hid (below_alloc (Below.refl _ _) _)
 have HE : Hid (aN x = #[.bool (sixN x), .int .u64 ((hiN x : Nat) : Int), .int .u64 ((loN x : Nat) : Int)]):=Lib.hid rfl
 rw [HE.out] at HX HB ⊢
 generalize sixN x = x1 at *
 generalize hiN x = x2 at *
 generalize loN x = x3 at *
 go_enter Tryz.func124,Tryz.ntmps124
 go_upto_region 1 with fail
 generalize (w.alloc (.cells #[.bool x1, .int .u64 (x2 : Int), .int .u64 (x3 : Int)] 49 (0,0))) = w2 at *
 go_wp2_with fail
 go_loopw [9,10,11] (fun iv jv s11 wr => ∃ i j : Nat,i ≤ j ∧ j ≤ n ∧ iv = .int .i64 (i : Int) ∧ jv = .int .i64 (j : Int) ∧ Hid (∀ m p,m < i → L[m]? = some p → p.1 < x) ∧ Hid (∀ m p,j ≤ m → L[m]? = some p → x ≤ p.1) ∧ Hid (Below w.heap.size w wr) ∧ Hid (Blk wr w.heap.size 49 #[.bool x1, .int .u64 (x2 : Int), .int .u64 (x3 : Int)])) (fun iv jv _ _ => (intOf jv).toNat - (intOf iv).toNat)
 case atStart => exact ⟨0,n,Nat.zero_le _,Nat.le_refl _,rfl,rfl,Lib.hid fun m p hj => absurd hj (Nat.not_lt_zero _),Lib.hid (fun m p hj hp => absurd (List.getElem?_eq_some_iff.1 hp).1 (by have:=Hn.out;omega)),HB,HX⟩
 case round =>
  obtain ⟨i,j,hij,hjn,rfl,rfl,HLo,HHi,HBr,HXr⟩:=hrel
  by_cases hlt : i < j
  ·obtain ⟨m,hme,him,hmj⟩ : ∃ m : Nat,((i : Int) + (j : Int)) / 2 = (m : Int) ∧ i ≤ m ∧ m < j:=⟨(i + j) / 2,by omega,by omega,by omega⟩
   have hS : m < L.length:=by rw [Hn.out];omega
   obtain ⟨p,hp⟩ : ∃ p,L[m]? = some p:=⟨_,List.getElem?_eq_getElem hS⟩
   have hok:=Hv.out p (List.mem_of_getElem? hp)
   have HC:=Lib.hid fun wx => has1_any p x wx hok.a Hx.out
   rw [HE.out] at HC
   obtain ⟨a1,a2,a3,a4,a5,a6,hpc, -, -, -, -⟩:=rg_cells p
   obtain ⟨g,o,had,hg,c0,c1,c2,c3,c4,c5⟩:=(H0.out.below HBr.out).rg hp hpc
   rw [hpc] at HC
   obtain ⟨C,hC⟩ : ∃ C : Int,cN p.1 x = C:=⟨_,rfl⟩
   have HCl : Hid (C < 0 ↔ p.1 < x):=Lib.hid (by rw [← hC];exact hs_neg)
   rw [hC] at HC
   have Hp:=Lib.hid hp
   have hmn : (m : Int) < (n : Int):=by omega
   subst had
   clear hp hS hok hpc hg hC
   go_upto_region 5 with fail
   have d0:=HXr.out.cell 0
   have d1:=HXr.out.cell 1
   have d2:=HXr.out.cell 2
   simp at d0 d1 d2
   have k0:=Later.cell_of c0
   have k1:=Later.cell_of c1
   have k2:=Later.cell_of c2
   have k3:=Later.cell_of c3
   have k4:=Later.cell_of c4
   have k5:=Later.cell_of c5
   have l0:=Later.cell_of d0
   have l1:=Later.cell_of d1
   have l2:=Later.cell_of d2
   have hD:=fun X : Later wr => Calls.later X (HC.out X.1)
   refine wp_region_later (by kernel_rfl) (by kernel_rfl) ?_
   repeat (go_big_quiet_step ((go_at_call 125;exact hD _)))
   refine wpQuiet_nil ?_
   rintro w8 ⟨n8,hn8⟩
   have hb : Below wr.heap.size wr w8:=by rw [hn8];exact n8.2
   clear hn8 n8
   have HB8:=Lib.hid (HBr.out.trans (hb.mono HBr.out.size))
   have HX8:=Lib.hid (HXr.out.below hb HXr.out.lt)
   clear hb hD HC k0 k1 k2 k3 k4 k5 l0 l1 l2 c0 c1 c2 c3 c4 c5 d0 d1 d2 HBr HXr
   by_cases hpx : p.1 < x
   ·have hC0 : C < 0:=HCl.out.2 hpx
    have HLo2 : Hid (∀ m' q,m' < m + 1 → L[m']? = some q → q.1 < x):=Lib.hid fun m' q h1 h2 => Nat.lt_of_le_of_lt (Hm.out m' m q p (by omega) h2 Hp.out) hpx
    clear HLo HCl
    go_wp2_with fail
    exact ⟨⟨m + 1,j,by omega,by omega,by go_num,rfl,HLo2,HHi,HB8,HX8⟩,by simp [intOf];omega⟩
   ·have hC0 : ¬ C < 0:=fun h => hpx (HCl.out.1 h)
    have HHi2 : Hid (∀ m' q,m ≤ m' → L[m']? = some q → x ≤ q.1):=Lib.hid fun m' q h1 h2 => Nat.le_trans (Nat.le_of_not_lt hpx) (Hm.out m m' p q h1 Hp.out h2)
    clear HHi HCl
    go_wp2_with fail
    exact ⟨⟨i,m,by omega,by omega,rfl,rfl,HLo,HHi2,HB8,HX8⟩,by simp [intOf];omega⟩
  ·obtain rfl : i = j:=by omega
   by_cases hin : i < n
   ·have hS : i < L.length:=by rw [Hn.out];exact hin
    obtain ⟨p,hp⟩ : ∃ p,L[i]? = some p:=⟨_,List.getElem?_eq_getElem hS⟩
    have hok:=Hv.out p (List.mem_of_getElem? hp)
    have HC:=Lib.hid fun wx => has1_any p x wx hok.a Hx.out
    rw [HE.out] at HC
    obtain ⟨a1,a2,a3,a4,a5,a6,hpc, -, -, -, -⟩:=rg_cells p
    obtain ⟨g,o,had,hg,c0,c1,c2,c3,c4,c5⟩:=(H0.out.below HBr.out).rg hp hpc
    rw [hpc] at HC
    obtain ⟨C,hC⟩ : ∃ C : Int,cN p.1 x = C:=⟨_,rfl⟩
    have HCl : Hid (C = 0 ↔ p.1 = x):=Lib.hid (by rw [← hC];exact hs_zero)
    rw [hC] at HC
    have HBin : Hid (Bin L x i (C == 0)):=Lib.hid ⟨by have:=Hn.out;omega,HLo.out,HHi.out,by
     rw [beq_iff_eq,HCl.out]
     exact ⟨fun h => ⟨p,hp,h⟩,fun ⟨q,h1,h2⟩ => by rw [hp] at h1;rw [Option.some.inj h1];exact h2⟩⟩
    have hmn : (i : Int) < (n : Int):=by omega
    subst had
    clear hp hS hok hpc hg hC HCl
    go_upto_region 8 with fail
    have d0:=HXr.out.cell 0
    have d1:=HXr.out.cell 1
    have d2:=HXr.out.cell 2
    simp at d0 d1 d2
    have k0:=Later.cell_of c0
    have k1:=Later.cell_of c1
    have k2:=Later.cell_of c2
    have k3:=Later.cell_of c3
    have k4:=Later.cell_of c4
    have k5:=Later.cell_of c5
    have l0:=Later.cell_of d0
    have l1:=Later.cell_of d1
    have l2:=Later.cell_of d2
    have hD:=fun X : Later wr => Calls.later X (HC.out X.1)
    refine wp_region_later (by kernel_rfl) (by kernel_rfl) ?_
    repeat (go_big_quiet_step ((go_at_call 125;exact hD _)))
    refine wpQuiet_nil ?_
    rintro w8 ⟨n8,hn8⟩
    have hb : Below wr.heap.size wr w8:=by rw [hn8];exact n8.2
    clear hn8 n8
    have HB8:=Lib.hid (HBr.out.trans (hb.mono HBr.out.size))
    clear hb hD HC k0 k1 k2 k3 k4 k5 l0 l1 l2 c0 c1 c2 c3 c4 c5 d0 d1 d2 HBr HXr
    go_wp2_with fail
    go_ret2
    first | exact ⟨i,_,rfl,HBin.out,HB8.out⟩ | exact ⟨i, .inl ⟨rfl,HBin.out,HB8.out⟩⟩
   ·have hin' : ¬ (i : Int) < (n : Int):=by omega
    have HBin : Hid (Bin L x i false):=Lib.hid ⟨by have:=Hn.out;omega,HLo.out,HHi.out,by
     constructor
     ·intro h;cases h
     ·rintro ⟨p,h1,h2⟩
      exact absurd (List.getElem?_eq_some_iff.1 h1).1 (by have:=Hn.out;omega)⟩
    go_upto_region 8 with fail
    refine wp_region_later (by kernel_rfl) (by kernel_rfl) ?_
    repeat (go_big_quiet_step (fail))
    refine wpQuiet_nil ?_
    rintro w8 ⟨n8,hn8⟩
    have hb : Below wr.heap.size wr w8:=by rw [hn8];exact n8.2
    clear hn8 n8
    have HB8:=Lib.hid (HBr.out.trans (hb.mono HBr.out.size))
    clear hb HBr HXr
    go_wp2_with fail
    go_ret2
    first | exact ⟨i,_,rfl,HBin.out,HB8.out⟩ | exact ⟨i, .inl ⟨rfl,HBin.out,HB8.out⟩⟩
theorem bin_has {L : List Sp} {x k : Nat} {b : Bool} (hc : Can L) (h : Bin L x k b) : (b = true ∨ ∃ p,0 < k ∧ L[k - 1]? = some p ∧ x ≤ p.2) ↔ InS L x:=by
 constructor
 ·rintro (hb | ⟨p,hk,hp,hx⟩)
  ·obtain ⟨p,hp,hx⟩:=h.eq.1 hb
   have hm:=List.mem_of_getElem? hp
   exact ⟨p,hm,by omega,by have:=hc.2 p hm;omega⟩
  ·have:=h.lo (k - 1) p (by omega) hp
   exact ⟨p,List.mem_of_getElem? hp,by omega,hx⟩
 ·rintro ⟨p,hm,h1,h2⟩
  obtain ⟨j,hj,rfl⟩:=List.getElem_of_mem hm
  have hjs:=List.getElem?_eq_getElem hj
  rcases Nat.lt_or_ge j k with hjk | hjk
  ·right
   have hk1 : k - 1 < L.length:=by have:=h.le;omega
   refine ⟨L[k - 1],by omega,List.getElem?_eq_getElem hk1,?_⟩
   rcases Nat.lt_or_ge j (k - 1) with h3 | h3
   ·have h4:=List.pairwise_iff_getElem.1 hc.1 j (k - 1) hj hk1 h3
    have h5:=hc.2 _ (List.getElem_mem hk1)
    have h6:=h.lo (k - 1) _ (by omega) (List.getElem?_eq_getElem hk1)
    omega
   ·have : j = k - 1:=by omega
    subst this
    exact h2
  ·left
   have hx:=h.hi j _ hjk hjs
   have hxe : x = L[j].1:=by omega
   rcases Nat.lt_or_ge k j with h3 | h3
   ·have hk1 : k < L.length:=by omega
    have h4:=List.pairwise_iff_getElem.1 hc.1 k j hk1 hj h3
    have h5:=hc.2 _ (List.getElem_mem hk1)
    have h6:=h.hi k _ (Nat.le_refl _) (List.getElem?_eq_getElem hk1)
    omega
   ·have : j = k:=by omega
    subst this
    exact h.eq.2 ⟨_,hjs,hxe.symm⟩
theorem can_mono {L : List Sp} (hc : Can L) (j i : Nat) (p q : Sp) (h : j ≤ i) (h1 : L[j]? = some p) (h2 : L[i]? = some q) : p.1 ≤ q.1:=by
 obtain ⟨a1,rfl⟩:=List.getElem?_eq_some_iff.1 h1
 obtain ⟨a2,rfl⟩:=List.getElem?_eq_some_iff.1 h2
 rcases Nat.lt_or_ge j i with h3 | h3
 ·have h4:=List.pairwise_iff_getElem.1 hc.1 j i a1 a2 h3
  have h5:=hc.2 _ (List.getElem_mem a1)
  omega
 ·have : j = i:=by omega
  subst this
  exact Nat.le_refl _
theorem has_any (ad : Option Addr) (n c : Nat) (L : List Sp) (x : Nat) (w : World) (h : RdK layRg w ad L) (hn : L.length = n) (hs : n ≤ 1000000) (hv : ∀ p ∈ L,VR p) (hx : VN x) (hc : Can L) :
  Calls Tryz.prog 91 #[.slice ad n c, .agg (aN x)] w fun e w' => ∃ b : Bool,e = .returned (.bool b) ∧ (b = true ↔ InS L x) ∧ Below w.heap.size w w':=by
 have H0:=Lib.hid h
 have Hn:=Lib.hid hn
 have Hv:=Lib.hid hv
 have Hx:=Lib.hid hx
 have Hc:=Lib.hid hc
 have HBS:=Lib.hid fun wx (h : RdK layRg wx ad L) => bin_any ad n c L x wx h hn hs hv hx (can_mono hc)
 clear h hn hv hx hc
 have HX : Hid (Blk (w.alloc (.cells (aN x) 49 (0,0))) w.heap.size 49 (aN x)):=Lib.hid (Blk.new w _ _)
 have HB : Hid (Below w.heap.size w (w.alloc (.cells (aN x) 49 (0,0)))):=Lib.hid (below_alloc (Below.refl _ _) _)
 have HE : Hid (aN x = #[.bool (sixN x), .int .u64 ((hiN x : Nat) : Int), .int .u64 ((loN x : Nat) : Int)]):=Lib.hid rfl
 have HSx : Hid (sixN x = sixN x):=Lib.hid rfl
 obtain ⟨x1,hx1⟩ : ∃ x1 : Bool,sixN x = x1:=⟨_,rfl⟩
 obtain ⟨x2,hx2⟩ : ∃ x2 : Nat,hiN x = x2:=⟨_,rfl⟩
 obtain ⟨x3,hx3⟩ : ∃ x3 : Nat,loN x = x3:=⟨_,rfl⟩
 rw [hx1,hx2,hx3] at HE
 have HS1:=Lib.hid hx1
 rw [HE.out] at HX HB HBS ⊢
 clear hx1 hx2 hx3 HSx
 go_enter Tryz.func91,Tryz.ntmps91
 go_upto_region 1 with fail
 generalize (w.alloc (.cells #[.bool x1, .int .u64 (x2 : Int), .int .u64 (x3 : Int)] 49 (0,0))) = w2 at *
 have d0:=HX.out.cell 0
 have d1:=HX.out.cell 1
 have d2:=HX.out.cell 2
 simp at d0 d1 d2
 go_wp2_with fail
 refine (HBS.out _ (H0.out.below HB.out)).mono ?_
 rintro e w3 ⟨k,b,rfl,hbin,hb⟩
 have HB3:=Lib.hid (HB.out.trans (hb.mono HB.out.size))
 have HX3:=Lib.hid (HX.out.below hb HX.out.lt)
 have HBin:=Lib.hid hbin
 have HH:=Lib.hid (bin_has Hc.out hbin)
 clear hb hbin HBS HB HX d0 d1 d2
 go_upto_region 2 with fail
 have d0:=HX3.out.cell 0
 have d1:=HX3.out.cell 1
 have d2:=HX3.out.cell 2
 simp at d0 d1 d2
 have l0:=Later.cell_of d0
 have l1:=Later.cell_of d1
 have l2:=Later.cell_of d2
 cases b
 ·by_cases hk : 0 < k
  ·have hS : k - 1 < L.length:=by have:=HBin.out.le;omega
   obtain ⟨p,hp⟩ : ∃ p,L[k - 1]? = some p:=⟨_,List.getElem?_eq_getElem hS⟩
   have hok:=Hv.out p (List.mem_of_getElem? hp)
   have hlo:=HBin.out.lo (k - 1) p (by omega) hp
   have HC:=Lib.hid fun wx => spanCompareN (y:=p.2) wx Hx.out hok.b
   rw [HE.out] at HC
   obtain ⟨a1,a2,a3,a4,a5,a6,hpc, -,hp2,hs1, -⟩:=rg_cells p
   rw [hp2] at HC
   obtain ⟨g,o,had,hg,c0,c1,c2,c3,c4,c5⟩:=(H0.out.below HB3.out).rg hp hpc
   obtain ⟨C,hC⟩ : ∃ C : Int,cN x p.2 = C:=⟨_,rfl⟩
   have hCl : C ≤ 0 ↔ x ≤ p.2:=by rw [← hC];exact cN_le x p.2
   rw [hC] at HC
   have HR : Hid (((a1 == x1) = true ∧ C ≤ 0) ↔ InS L x):=Lib.hid (by
    rw [← HH.out]
    constructor
    ·rintro ⟨-,h⟩;exact .inr ⟨p,hk,hp,hCl.1 h⟩
    ·rintro (h | ⟨q,h1,h2,h3⟩)
     ·cases h
     ·rw [hp] at h2
      have hq:=Option.some.inj h2
      rw [← hq] at h3
      refine ⟨?_,hCl.2 h3⟩
      rw [beq_iff_eq,hs1, ← HS1.out]
      exact (blk_vn hok (by omega) h3).2.2.symm)
   have hk1 : ((k : Int) - 1) = ((k - 1 : Nat) : Int):=by omega
   have hkn : ((k - 1 : Nat) : Int) < (n : Int):=by have:=Hn.out;omega
   have hkp : (k : Int) > 0:=by omega
   subst had
   clear hp hS hok hpc hg hC hCl hlo hp2 hs1 HH
   generalize k - 1 = k' at *
   have k0:=Later.cell_of c0
   have k1:=Later.cell_of c1
   have k2:=Later.cell_of c2
   have k3:=Later.cell_of c3
   have k4:=Later.cell_of c4
   have k5:=Later.cell_of c5
   have hD:=fun X : Later w3 => Calls.later X ((HC.out X.1).mono fun _ _ h => h.ret)
   cases hsx : (a1 == x1)
   ·have HR0 : Hid (¬ InS L x):=Lib.hid fun h => by have:=(HR.out.2 h).1;rw [hsx] at this;cases this
    refine wp_region_later (by kernel_rfl) (by kernel_rfl) ?_
    repeat (go_big_quiet_step (fail))
    refine wpQuiet_nil ?_
    rintro w8 ⟨n8,hn8⟩
    have hb : Below w3.heap.size w3 w8:=by rw [hn8];exact n8.2
    clear hn8 n8
    have HB8:=Lib.hid (HB3.out.trans (hb.mono HB3.out.size))
    clear hb hD HC k0 k1 k2 k3 k4 k5 l0 l1 l2 c0 c1 c2 c3 c4 c5 d0 d1 d2 HB3 HX3
    go_wp2_with fail
    go_ret
    first | exact ⟨false,rfl,⟨fun h => (by cases h),fun h => absurd h HR0.out⟩,HB8.out⟩ | exact .inl ⟨rfl,⟨fun h => (by cases h),fun h => absurd h HR0.out⟩,HB8.out⟩ | exact .inl ⟨rfl,HR0.out,HB8.out⟩
   ·have HR0 : Hid (decide (C ≤ 0) = true ↔ InS L x):=Lib.hid (by rw [decide_eq_true_iff, ← HR.out];exact ⟨fun h => ⟨hsx,h⟩,fun h => h.2⟩)
    refine wp_region_later (by kernel_rfl) (by kernel_rfl) ?_
    repeat (go_big_quiet_step ((go_at_call 126;exact hD _)))
    refine wpQuiet_nil ?_
    rintro w8 ⟨n8,hn8⟩
    have hb : Below w3.heap.size w3 w8:=by rw [hn8];exact n8.2
    clear hn8 n8
    have HB8:=Lib.hid (HB3.out.trans (hb.mono HB3.out.size))
    clear hb hD HC k0 k1 k2 k3 k4 k5 l0 l1 l2 c0 c1 c2 c3 c4 c5 d0 d1 d2 HB3 HX3
    go_wp2_with fail
    go_ret
    exact ⟨_,rfl,HR0.out,HB8.out⟩
  ·have hk0 : ¬ (k : Int) > 0:=by omega
   have HR0 : Hid (¬ InS L x):=Lib.hid fun h => by
    rcases HH.out.2 h with h | ⟨p,h1,_⟩
    ·cases h
    ·exact hk h1
   clear HH
   refine wp_region_later (by kernel_rfl) (by kernel_rfl) ?_
   repeat (go_big_quiet_step (fail))
   refine wpQuiet_nil ?_
   rintro w8 ⟨n8,hn8⟩
   have hb : Below w3.heap.size w3 w8:=by rw [hn8];exact n8.2
   clear hn8 n8
   have HB8:=Lib.hid (HB3.out.trans (hb.mono HB3.out.size))
   clear hb l0 l1 l2 d0 d1 d2 HB3 HX3
   go_wp2_with fail
   go_ret
   first | exact ⟨false,rfl,⟨fun h => (by cases h),fun h => absurd h HR0.out⟩,HB8.out⟩ | exact .inl ⟨rfl,⟨fun h => (by cases h),fun h => absurd h HR0.out⟩,HB8.out⟩ | exact .inl ⟨rfl,HR0.out,HB8.out⟩
 ·have HR0 : Hid (InS L x):=Lib.hid (HH.out.1 (.inl rfl))
  clear HH
  refine wp_region_later (by kernel_rfl) (by kernel_rfl) ?_
  repeat (go_big_quiet_step (fail))
  refine wpQuiet_nil ?_
  rintro w8 ⟨n8,hn8⟩
  have hb : Below w3.heap.size w3 w8:=by rw [hn8];exact n8.2
  clear hn8 n8
  have HB8:=Lib.hid (HB3.out.trans (hb.mono HB3.out.size))
  clear hb l0 l1 l2 d0 d1 d2 HB3 HX3
  go_wp2_with fail
  go_ret
  first | exact ⟨true,rfl,⟨fun _ => HR0.out,fun _ => rfl⟩,HB8.out⟩ | exact .inr ⟨rfl,⟨fun _ => HR0.out,fun _ => rfl⟩,HB8.out⟩ | exact .inr ⟨rfl,HR0.out,HB8.out⟩
def poC (p : Int × Int) : List Value:=[.int .i64 p.1, .int .i64 p.2]
def layPo : Lay (Int × Int):=⟨poC,2,74,by decide,fun _ => rfl,fun p v hv => by simp [poC] at hv;rcases hv with rfl | rfl <;> rfl⟩
def inPo (p : Int × Int) (x : Int) : Bool:=decide (p.1 ≤ x) && decide (x ≤ p.2)
theorem RdK.po {w : World} {ad : Option Addr} {L : List (Int × Int)} (h : RdK layPo w ad L) {k : Nat} {p : Int × Int} (hp : L[k]? = some p) :
  ∃ g o,ad = some ⟨g,o,none⟩ ∧ g < w.heap.size ∧ w.cell? ⟨g,o + k * 2,none⟩ = some (.int .i64 p.1) ∧ w.cell? ⟨g,o + k * 2 + 1,none⟩ = some (.int .i64 p.2):=by
 obtain ⟨g,o,e,hg,h0⟩:=h k p hp
 have hE : layPo.enc p = [.int .i64 p.1, .int .i64 p.2]:=rfl
 have hK : layPo.K = 2:=rfl
 rw [hE,hK] at h0
 exact ⟨g,o,e,hg,h0 0 _ rfl,h0 1 _ rfl⟩
theorem inPorts1_any (p1 p2 x : Int) (bx : Nat) (w : World) (hb : w.cell? ⟨bx,0,none⟩ = some (.int .i64 x)) (hl : bx < w.heap.size) : Calls Tryz.prog 123 #[.agg #[.int .i64 p1, .int .i64 p2], .pointer (some ⟨bx,0,none⟩)] w (Ret (.bool (inPo (p1,p2) x)) w):=by
 have HI : Hid (inPo (p1,p2) x = (decide (p1 ≤ x) && decide (x ≤ p2))):=Lib.hid rfl
 rw [HI.out]
 have hB : Below w.heap.size w (w.alloc (.cells #[.int .i64 p1, .int .i64 p2] 74 (0,0))):=below_alloc (Below.refl _ _) _
 have HX : Hid ((w.alloc (.cells #[.int .i64 p1, .int .i64 p2] 74 (0,0))).cell? ⟨bx,0,none⟩ = some (.int .i64 x)):=Lib.hid ((hB.cell (p:=⟨bx,0,none⟩) hl).trans hb)
 have HP : Hid (Blk (w.alloc (.cells #[.int .i64 p1, .int .i64 p2] 74 (0,0))) w.heap.size 74 #[.int .i64 p1, .int .i64 p2]):=Lib.hid (Blk.new w _ _)
 have HB:=Lib.hid hB
 clear hB hb hl
 go_enter Tryz.func123,Tryz.ntmps123
 go_upto_region 1 with fail
 generalize (w.alloc (.cells #[.int .i64 p1, .int .i64 p2] 74 (0,0))) = w2 at *
 have c0:=HP.out.cell 0
 have c1:=HP.out.cell 1
 simp at c0 c1
 have d0:=HX.out
 by_cases h1 : p1 ≤ x
 ·go_wp2_with fail
  go_ret
  exact ⟨by simp [h1],HB.out⟩
 ·go_wp2_with fail
  go_ret
  exact ⟨by rw [show decide (p1 ≤ x) = false from decide_eq_false (by omega)];rfl,HB.out⟩
theorem qlets1_any (p1 p2 x : Int) (bx : Nat) (w : World) (hb : w.cell? ⟨bx,8,none⟩ = some (.int .i64 x)) (hl : bx < w.heap.size) : Calls Tryz.prog 129 #[.agg #[.int .i64 p1, .int .i64 p2], .pointer (some ⟨bx,0,none⟩)] w (Ret (.bool (inPo (p1,p2) x)) w):=by
 have HI : Hid (inB x p1 p2 = inPo (p1,p2) x):=Lib.hid rfl
 rw [← HI.out]
 have hB : Below w.heap.size w (w.alloc (.cells #[.int .i64 p1, .int .i64 p2] 74 (0,0))):=below_alloc (Below.refl _ _) _
 have HX : Hid ((w.alloc (.cells #[.int .i64 p1, .int .i64 p2] 74 (0,0))).cell? ⟨bx,8,none⟩ = some (.int .i64 x)):=Lib.hid ((hB.cell (p:=⟨bx,8,none⟩) hl).trans hb)
 have HP : Hid (Blk (w.alloc (.cells #[.int .i64 p1, .int .i64 p2] 74 (0,0))) w.heap.size 74 #[.int .i64 p1, .int .i64 p2]):=Lib.hid (Blk.new w _ _)
 have HB:=Lib.hid hB
 clear hB hb hl
 go_enter Tryz.func129,Tryz.ntmps129
 go_upto_region 1 with fail
 generalize (w.alloc (.cells #[.int .i64 p1, .int .i64 p2] 74 (0,0))) = w2 at *
 have c0:=HP.out.cell 0
 have c1:=HP.out.cell 1
 simp at c0 c1
 have d0:=HX.out
 go_wp2_with (go_at_call 32;refine (in_any _ _ _ _).mono ?_;rintro e w' ⟨rfl,rfl⟩)
 go_ret
 exact ⟨rfl,HB.out⟩
theorem indexPoP_any (ad : Option Addr) (n c bx : Nat) (L : List (Int × Int)) (x : Int) (w : World) (h : RdK layPo w ad L) (hn : L.length = n) (hs : n ≤ 1000000) (hb : w.cell? ⟨bx,0,none⟩ = some (.int .i64 x)) (hl : bx < w.heap.size) :
  Calls Tryz.prog 144 #[.slice ad n c, .func (.func 123) #[] #[.pointer (some ⟨bx,0,none⟩)]] w fun e w' => ∃ k : Int,e = .returned (.int .i64 k) ∧ decide (0 ≤ k) = (L.any fun p => inPo p x) ∧ Below w.heap.size w w':=by
 have H0:=Lib.hid h
 have Hn:=Lib.hid hn
 have HX:=Lib.hid hb
 have Hl:=Lib.hid hl
 clear h hn hb hl
 go_enter Tryz.func144,Tryz.ntmps144
 go_wp2_with fail
 go_loopw [5,8] (fun s5 i wr => ∃ k : Nat,k ≤ n ∧ i = .int .i64 (k : Int) ∧ Hid (∀ j p,j < k → L[j]? = some p → inPo p x = false) ∧ Hid (Below w.heap.size w wr)) (fun _ i _ => n - (intOf i).toNat)
 case atStart => exact ⟨0,Nat.zero_le _,rfl,Lib.hid fun j p hj => absurd hj (Nat.not_lt_zero _),Lib.hid (Below.refl _ _)⟩
 case round =>
  obtain ⟨k,hk,rfl,HN,HB⟩:=hrel
  by_cases hlt : k < n
  ·have hS : k < L.length:=by rw [Hn.out];exact hlt
   obtain ⟨p,hp⟩ : ∃ p,L[k]? = some p:=⟨_,List.getElem?_eq_getElem hS⟩
   obtain ⟨g,o,had,hg,c0,c1⟩:=(H0.out.below HB.out).po hp
   obtain ⟨p1,p2⟩:=p
   have HXr:=Lib.hid ((HB.out.cell (p:=⟨bx,0,none⟩) Hl.out).trans HX.out)
   have HC:=Lib.hid (inPorts1_any p1 p2 x bx wr HXr.out (Nat.lt_of_lt_of_le Hl.out HB.out.size))
   have Hp:=Lib.hid hp
   have Hpm:=Lib.hid (List.mem_of_getElem? hp)
   subst had
   clear hp hS hg HXr
   simp only at c0 c1
   go_wp2_with fail
   refine HC.out.mono ?_
   rintro e w3 ⟨rfl,hb⟩
   have HB3:=Lib.hid (HB.out.trans (hb.mono HB.out.size))
   clear hb HC c0 c1
   cases hR : inPo (p1,p2) x
   ·have HN2 : Hid (∀ j q,j < k + 1 → L[j]? = some q → inPo q x = false):=Lib.hid fun j q hj hq => by
     rcases Nat.lt_or_ge j k with h1 | h1
     ·exact HN.out j q h1 hq
     ·obtain rfl : j = k:=by omega
      rw [Hp.out] at hq
      exact (Option.some.inj hq) ▸ hR
    clear hR
    go_wp2_with fail
    exact ⟨⟨k + 1,by omega,by go_num,HN2,HB3⟩,by simp [intOf];omega⟩
   ·have HT : Hid ((L.any fun p => inPo p x) = true):=Lib.hid (List.any_eq_true.2 ⟨_,Hpm.out,hR⟩)
    clear hR
    go_wp2_with fail
    go_ret
    exact ⟨(k : Int),rfl,by rw [HT.out];exact decide_eq_true (by omega),HB3.out⟩
  ·obtain rfl : k = n:=by omega
   have HT : Hid ((L.any fun p => inPo p x) = false):=Lib.hid (by
    rw [Bool.eq_false_iff]
    intro h
    obtain ⟨p,hp,hR⟩:=List.any_eq_true.1 h
    obtain ⟨j,hj,rfl⟩:=List.getElem_of_mem hp
    have:=HN.out j _ (by rw [← Hn.out];exact hj) (List.getElem?_eq_getElem hj)
    rw [this] at hR;cases hR)
   go_wp2_with fail
   go_ret
   exact ⟨-1,rfl,by rw [HT.out];rfl,HB.out⟩
theorem containsPoP_any (ad : Option Addr) (n c bx : Nat) (L : List (Int × Int)) (x : Int) (w : World) (h : RdK layPo w ad L) (hn : L.length = n) (hs : n ≤ 1000000) (hb : w.cell? ⟨bx,0,none⟩ = some (.int .i64 x)) (hl : bx < w.heap.size) :
  Calls Tryz.prog 122 #[.slice ad n c, .func (.func 123) #[] #[.pointer (some ⟨bx,0,none⟩)]] w (Ret (.bool (L.any fun p => inPo p x)) w):=by
 have HI:=Lib.hid (indexPoP_any ad n c bx L x w h hn hs hb hl)
 clear h hn hs hb hl
 generalize (L.any fun p => inPo p x) = R at *
 go_enter Tryz.func122,Tryz.ntmps122
 go_wp2_with fail
 refine HI.out.mono ?_
 rintro e w3 ⟨k,rfl,hk,hb⟩
 have HB:=Lib.hid hb
 clear hb HI
 cases R
 ·have hk0 : ¬ 0 ≤ k:=of_decide_eq_false hk
  have hk1 : ¬ k ≥ 0:=hk0
  go_wp2_with fail
  go_ret
  exact ⟨rfl,HB.out⟩
 ·have hk0 : 0 ≤ k:=of_decide_eq_true hk
  have hk1 : k ≥ 0:=hk0
  go_wp2_with fail
  go_ret
  exact ⟨rfl,HB.out⟩
theorem indexPoQ_any (ad : Option Addr) (n c bx : Nat) (L : List (Int × Int)) (x : Int) (w : World) (h : RdK layPo w ad L) (hn : L.length = n) (hs : n ≤ 1000000) (hb : w.cell? ⟨bx,8,none⟩ = some (.int .i64 x)) (hl : bx < w.heap.size) :
  Calls Tryz.prog 144 #[.slice ad n c, .func (.func 129) #[] #[.pointer (some ⟨bx,0,none⟩)]] w fun e w' => ∃ k : Int,e = .returned (.int .i64 k) ∧ decide (0 ≤ k) = (L.any fun p => inPo p x) ∧ Below w.heap.size w w':=by
 have H0:=Lib.hid h
 have Hn:=Lib.hid hn
 have HX:=Lib.hid hb
 have Hl:=Lib.hid hl
 clear h hn hb hl
 go_enter Tryz.func144,Tryz.ntmps144
 go_wp2_with fail
 go_loopw [5,8] (fun s5 i wr => ∃ k : Nat,k ≤ n ∧ i = .int .i64 (k : Int) ∧ Hid (∀ j p,j < k → L[j]? = some p → inPo p x = false) ∧ Hid (Below w.heap.size w wr)) (fun _ i _ => n - (intOf i).toNat)
 case atStart => exact ⟨0,Nat.zero_le _,rfl,Lib.hid fun j p hj => absurd hj (Nat.not_lt_zero _),Lib.hid (Below.refl _ _)⟩
 case round =>
  obtain ⟨k,hk,rfl,HN,HB⟩:=hrel
  by_cases hlt : k < n
  ·have hS : k < L.length:=by rw [Hn.out];exact hlt
   obtain ⟨p,hp⟩ : ∃ p,L[k]? = some p:=⟨_,List.getElem?_eq_getElem hS⟩
   obtain ⟨g,o,had,hg,c0,c1⟩:=(H0.out.below HB.out).po hp
   obtain ⟨p1,p2⟩:=p
   have HXr:=Lib.hid ((HB.out.cell (p:=⟨bx,8,none⟩) Hl.out).trans HX.out)
   have HC:=Lib.hid (qlets1_any p1 p2 x bx wr HXr.out (Nat.lt_of_lt_of_le Hl.out HB.out.size))
   have Hp:=Lib.hid hp
   have Hpm:=Lib.hid (List.mem_of_getElem? hp)
   subst had
   clear hp hS hg HXr
   simp only at c0 c1
   go_wp2_with fail
   refine HC.out.mono ?_
   rintro e w3 ⟨rfl,hb⟩
   have HB3:=Lib.hid (HB.out.trans (hb.mono HB.out.size))
   clear hb HC c0 c1
   cases hR : inPo (p1,p2) x
   ·have HN2 : Hid (∀ j q,j < k + 1 → L[j]? = some q → inPo q x = false):=Lib.hid fun j q hj hq => by
     rcases Nat.lt_or_ge j k with h1 | h1
     ·exact HN.out j q h1 hq
     ·obtain rfl : j = k:=by omega
      rw [Hp.out] at hq
      exact (Option.some.inj hq) ▸ hR
    clear hR
    go_wp2_with fail
    exact ⟨⟨k + 1,by omega,by go_num,HN2,HB3⟩,by simp [intOf];omega⟩
   ·have HT : Hid ((L.any fun p => inPo p x) = true):=Lib.hid (List.any_eq_true.2 ⟨_,Hpm.out,hR⟩)
    clear hR
    go_wp2_with fail
    go_ret
    exact ⟨(k : Int),rfl,by rw [HT.out];exact decide_eq_true (by omega),HB3.out⟩
  ·obtain rfl : k = n:=by omega
   have HT : Hid ((L.any fun p => inPo p x) = false):=Lib.hid (by
    rw [Bool.eq_false_iff]
    intro h
    obtain ⟨p,hp,hR⟩:=List.any_eq_true.1 h
    obtain ⟨j,hj,rfl⟩:=List.getElem_of_mem hp
    have:=HN.out j _ (by rw [← Hn.out];exact hj) (List.getElem?_eq_getElem hj)
    rw [this] at hR;cases hR)
   go_wp2_with fail
   go_ret
   exact ⟨-1,rfl,by rw [HT.out];rfl,HB.out⟩
theorem containsPoQ_any (ad : Option Addr) (n c bx : Nat) (L : List (Int × Int)) (x : Int) (w : World) (h : RdK layPo w ad L) (hn : L.length = n) (hs : n ≤ 1000000) (hb : w.cell? ⟨bx,8,none⟩ = some (.int .i64 x)) (hl : bx < w.heap.size) :
  Calls Tryz.prog 122 #[.slice ad n c, .func (.func 129) #[] #[.pointer (some ⟨bx,0,none⟩)]] w (Ret (.bool (L.any fun p => inPo p x)) w):=by
 have HI:=Lib.hid (indexPoQ_any ad n c bx L x w h hn hs hb hl)
 clear h hn hs hb hl
 generalize (L.any fun p => inPo p x) = R at *
 go_enter Tryz.func122,Tryz.ntmps122
 go_wp2_with fail
 refine HI.out.mono ?_
 rintro e w3 ⟨k,rfl,hk,hb⟩
 have HB:=Lib.hid hb
 clear hb HI
 cases R
 ·have hk0 : ¬ 0 ≤ k:=of_decide_eq_false hk
  have hk1 : ¬ k ≥ 0:=hk0
  go_wp2_with fail
  go_ret
  exact ⟨rfl,HB.out⟩
 ·have hk0 : 0 ≤ k:=of_decide_eq_true hk
  have hk1 : k ≥ 0:=hk0
  go_wp2_with fail
  go_ret
  exact ⟨rfl,HB.out⟩
theorem inPorts_any (ad : Option Addr) (n c : Nat) (L : List (Int × Int)) (x : Int) (w : World) (h : RdK layPo w ad L) (hn : L.length = n) (hs : n ≤ 1000000) :
  Calls Tryz.prog 90 #[.slice ad n c, .int .i64 x] w (Ret (.bool (L.any fun p => inPo p x)) w):=by
 have hb0 : Below w.heap.size w (w.alloc (.cells #[.int .i64 x] 3 (0,0))):=below_alloc (Below.refl _ _) _
 have hX : Blk (w.alloc (.cells #[.int .i64 x] 3 (0,0))) w.heap.size 3 #[.int .i64 x]:=Blk.new w _ _
 have hc0 : (w.alloc (.cells #[.int .i64 x] 3 (0,0))).cell? ⟨w.heap.size,0,none⟩ = some (.int .i64 x):=by first | exact hX.cell 0 | simp
 have HC:=Lib.hid (containsPoP_any ad n c w.heap.size L x (w.alloc (.cells #[.int .i64 x] 3 (0,0))) (h.below hb0) hn hs hc0 hX.lt)
 have HB0:=Lib.hid hb0
 clear h hn hs hb0 hX hc0
 generalize (L.any fun p => inPo p x) = R at *
 go_enter Tryz.func90,Tryz.ntmps90
 go_wp2_with fail
 refine HC.out.mono ?_
 rintro e w3 ⟨rfl,hb⟩
 have HB3:=Lib.hid (HB0.out.trans (hb.mono HB0.out.size))
 clear hb HC HB0
 go_wp2_with fail
 go_ret
 exact ⟨rfl,HB3.out⟩
structure FR where
 p : Int
 src : List Pf
 dst : List Pf
 po : List (Int × Int)
structure FRAt (w : World) (r : FR) (s1 s2 s3 : Option Addr) (n1 n2 n3 : Nat) : Prop where
 r1 : RdK layPf w s1 r.src
 r2 : RdK layPf w s2 r.dst
 r3 : RdK layPo w s3 r.po
 l1 : r.src.length = n1
 l2 : r.dst.length = n2
 l3 : r.po.length = n3
theorem FRAt.below {w w' : World} {r : FR} {s1 s2 s3 : Option Addr} {n1 n2 n3 : Nat} (h : FRAt w r s1 s2 s3 n1 n2 n3) (hb : Below w.heap.size w w') : FRAt w' r s1 s2 s3 n1 n2 n3 :=
 ⟨h.r1.below hb,h.r2.below hb,h.r3.below hb,h.l1,h.l2,h.l3⟩
def letsB (r : FR) (fp : Int) (x y : Nat) (t : Int) : Bool :=
 (decide (r.p = 0) || decide (r.p = fp)) && (r.src.any fun p => inP p x) && (r.dst.any fun p => inP p y) && (r.po.any fun p => inPo p t)
def flC (fp : Int) (x y : Nat) (a b : Int) : Array Value:=#[.int .i64 fp, .bool (sixN x), .int .u64 ((hiN x : Nat) : Int), .int .u64 ((loN x : Nat) : Int), .bool (sixN y), .int .u64 ((hiN y : Nat) : Int), .int .u64 ((loN y : Nat) : Int), .int .i64 a, .int .i64 b]
theorem qlets_any (r : FR) (s1 s2 s3 : Option Addr) (n1 n2 n3 c1 c2 c3 : Nat) (fp : Int) (x y : Nat) (a b : Int) (w : World) (h : FRAt w r s1 s2 s3 n1 n2 n3) (hs1 : n1 ≤ 1000000) (hs2 : n2 ≤ 1000000) (hs3 : n3 ≤ 1000000) (hv1 : ∀ p ∈ r.src,OkPf p) (hv2 : ∀ p ∈ r.dst,OkPf p) (hx : VN x) (hy : VN y) :
  Calls Tryz.prog 98 #[.agg #[.int .i64 r.p, .slice s1 n1 c1, .slice s2 n2 c2, .slice s3 n3 c3], .agg (flC fp x y a b)] w (Ret (.bool (letsB r fp x y b)) w):=by
 have H1:=Lib.hid fun wx (hb : Below w.heap.size w wx) => hasOf_any s1 n1 c1 r.src x wx (h.r1.below hb) h.l1 hs1 hv1 hx
 have H2:=Lib.hid fun wx (hb : Below w.heap.size w wx) => hasOf_any s2 n2 c2 r.dst y wx (h.r2.below hb) h.l2 hs2 hv2 hy
 have H3:=Lib.hid fun bx wx (hb : Below w.heap.size w wx) => containsPoQ_any s3 n3 c3 bx r.po b wx (h.r3.below hb) h.l3 hs3
 have HL : Hid (letsB r fp x y b = ((decide (r.p = 0) || decide (r.p = fp)) && (r.src.any fun p => inP p x) && (r.dst.any fun p => inP p y) && (r.po.any fun p => inPo p b))):=Lib.hid rfl
 rw [HL.out]
 clear h hs1 hs2 hs3 hv1 hv2 hx hy HL
 generalize (r.src.any fun p => inP p x) = R1 at *
 generalize (r.dst.any fun p => inP p y) = R2 at *
 generalize (r.po.any fun p => inPo p b) = R3 at *
 generalize r.p = rp at *
 unfold aN at H1 H2
 unfold flC
 generalize sixN x = x1 at *
 generalize hiN x = x2 at *
 generalize loN x = x3 at *
 generalize sixN y = y1 at *
 generalize hiN y = y2 at *
 generalize loN y = y3 at *
 have HP : Hid (Blk ((w.alloc (.cells #[.int .i64 rp, .slice s1 n1 c1, .slice s2 n2 c2, .slice s3 n3 c3] 71 (0,0))).alloc (.cells #[.int .i64 fp, .bool x1, .int .u64 (x2 : Int), .int .u64 (x3 : Int), .bool y1, .int .u64 (y2 : Int), .int .u64 (y3 : Int), .int .i64 a, .int .i64 b] 63 (0,0))) w.heap.size 71 #[.int .i64 rp, .slice s1 n1 c1, .slice s2 n2 c2, .slice s3 n3 c3]):=Lib.hid ((Blk.new w _ _).alloc _)
 have HF : Hid (Blk ((w.alloc (.cells #[.int .i64 rp, .slice s1 n1 c1, .slice s2 n2 c2, .slice s3 n3 c3] 71 (0,0))).alloc (.cells #[.int .i64 fp, .bool x1, .int .u64 (x2 : Int), .int .u64 (x3 : Int), .bool y1, .int .u64 (y2 : Int), .int .u64 (y3 : Int), .int .i64 a, .int .i64 b] 63 (0,0))) (w.heap.size + 1) 63 #[.int .i64 fp, .bool x1, .int .u64 (x2 : Int), .int .u64 (x3 : Int), .bool y1, .int .u64 (y2 : Int), .int .u64 (y3 : Int), .int .i64 a, .int .i64 b]):=Lib.hid (by
  have this:=Blk.new (w.alloc (.cells #[.int .i64 rp, .slice s1 n1 c1, .slice s2 n2 c2, .slice s3 n3 c3] 71 (0,0))) 63 #[.int .i64 fp, .bool x1, .int .u64 (x2 : Int), .int .u64 (x3 : Int), .bool y1, .int .u64 (y2 : Int), .int .u64 (y3 : Int), .int .i64 a, .int .i64 b]
  rw [World.size_alloc] at this
  exact this)
 have HB : Hid (Below w.heap.size w ((w.alloc (.cells #[.int .i64 rp, .slice s1 n1 c1, .slice s2 n2 c2, .slice s3 n3 c3] 71 (0,0))).alloc (.cells #[.int .i64 fp, .bool x1, .int .u64 (x2 : Int), .int .u64 (x3 : Int), .bool y1, .int .u64 (y2 : Int), .int .u64 (y3 : Int), .int .i64 a, .int .i64 b] 63 (0,0)))):=Lib.hid (below_alloc (below_alloc (Below.refl _ _) _) _)
 obtain ⟨P,hP⟩ : ∃ P : Bool,(decide (rp = 0) || decide (rp = fp)) = P:=⟨_,rfl⟩
 rw [hP]
 go_enter Tryz.func98,Tryz.ntmps98
 go_upto_region 1 with fail
 generalize ((w.alloc (.cells #[.int .i64 rp, .slice s1 n1 c1, .slice s2 n2 c2, .slice s3 n3 c3] 71 (0,0))).alloc (.cells #[.int .i64 fp, .bool x1, .int .u64 (x2 : Int), .int .u64 (x3 : Int), .bool y1, .int .u64 (y2 : Int), .int .u64 (y3 : Int), .int .i64 a, .int .i64 b] 63 (0,0))) = w2 at *
 have c0:=HP.out.cell 0
 have c1':=HP.out.cell 1
 have c2':=HP.out.cell 2
 have c3':=HP.out.cell 3
 have d0:=HF.out.cell 0
 have d1:=HF.out.cell 1
 have d2:=HF.out.cell 2
 have d3:=HF.out.cell 3
 simp at c0 c1' c2' c3' d0 d1 d2 d3
 cases P
 ·have h0 : ¬ rp = 0:=fun h => by rw [h] at hP;simp at hP
  have h1 : ¬ rp = fp:=fun h => by rw [h] at hP;simp at hP
  clear hP
  go_wp2_with fail
  go_ret
  exact ⟨by first | rfl | simp,HB.out⟩
 ·by_cases h0 : rp = 0
  ·clear hP
   go_wp2_with fail
   refine (H1.out _ HB.out).mono ?_
   rintro e w3 ⟨rfl,hb⟩
   have HB3:=Lib.hid (HB.out.trans (hb.mono HB.out.size))
   have HP3:=Lib.hid (HP.out.below hb HP.out.lt)
   have HF3:=Lib.hid (HF.out.below hb HF.out.lt)
   clear hb H1 HB HP HF c0 c1' c2' c3' d0 d1 d2 d3
   cases R1
   ·go_wp2_with fail
    go_ret
    exact ⟨by first | rfl | simp,HB3.out⟩
   ·have c2':=HP3.out.cell 2
    have d4:=HF3.out.cell 4
    have d5:=HF3.out.cell 5
    have d6:=HF3.out.cell 6
    simp at c2' d4 d5 d6
    go_wp2_with fail
    refine (H2.out _ HB3.out).mono ?_
    rintro e w4 ⟨rfl,hb⟩
    have HB4:=Lib.hid (HB3.out.trans (hb.mono HB3.out.size))
    have HP4:=Lib.hid (HP3.out.below hb HP3.out.lt)
    have HF4:=Lib.hid (HF3.out.below hb HF3.out.lt)
    clear hb H2 HB3 HP3 HF3 c2' d4 d5 d6
    cases R2
    ·go_wp2_with fail
     go_ret
     exact ⟨by first | rfl | simp,HB4.out⟩
    ·have c3':=HP4.out.cell 3
     have d8:=HF4.out.cell 8
     simp at c3' d8
     have HC:=Lib.hid (H3.out _ _ HB4.out d8 HF4.out.lt)
     go_wp2_with fail
     refine HC.out.mono ?_
     rintro e w5 ⟨rfl,hb⟩
     have HB5:=Lib.hid (HB4.out.trans (hb.mono HB4.out.size))
     clear hb H3 HC HB4 HP4 HF4 c3' d8
     go_wp2_with fail
     go_ret
     exact ⟨by first | rfl | simp,HB5.out⟩
  ·have h1 : rp = fp:=by simpa [h0] using hP
   clear hP
   go_wp2_with fail
   refine (H1.out _ HB.out).mono ?_
   rintro e w3 ⟨rfl,hb⟩
   have HB3:=Lib.hid (HB.out.trans (hb.mono HB.out.size))
   have HP3:=Lib.hid (HP.out.below hb HP.out.lt)
   have HF3:=Lib.hid (HF.out.below hb HF.out.lt)
   clear hb H1 HB HP HF c0 c1' c2' c3' d0 d1 d2 d3
   cases R1
   ·go_wp2_with fail
    go_ret
    exact ⟨by first | rfl | simp,HB3.out⟩
   ·have c2':=HP3.out.cell 2
    have d4:=HF3.out.cell 4
    have d5:=HF3.out.cell 5
    have d6:=HF3.out.cell 6
    simp at c2' d4 d5 d6
    go_wp2_with fail
    refine (H2.out _ HB3.out).mono ?_
    rintro e w4 ⟨rfl,hb⟩
    have HB4:=Lib.hid (HB3.out.trans (hb.mono HB3.out.size))
    have HP4:=Lib.hid (HP3.out.below hb HP3.out.lt)
    have HF4:=Lib.hid (HF3.out.below hb HF3.out.lt)
    clear hb H2 HB3 HP3 HF3 c2' d4 d5 d6
    cases R2
    ·go_wp2_with fail
     go_ret
     exact ⟨by first | rfl | simp,HB4.out⟩
    ·have c3':=HP4.out.cell 3
     have d8:=HF4.out.cell 8
     simp at c3' d8
     have HC:=Lib.hid (H3.out _ _ HB4.out d8 HF4.out.lt)
     go_wp2_with fail
     refine HC.out.mono ?_
     rintro e w5 ⟨rfl,hb⟩
     have HB5:=Lib.hid (HB4.out.trans (hb.mono HB4.out.size))
     clear hb H3 HC HB4 HP4 HF4 c3' d8
     go_wp2_with fail
     go_ret
     exact ⟨by first | rfl | simp,HB5.out⟩
theorem hasL_any (ad : Option Addr) (n c : Nat) (L : List Pf) (x : Nat) (w : World) (h : RdK layRg w ad (spn L)) (hn : (spn L).length = n) (hs : n ≤ 1000000) (hv : ∀ p ∈ L,OkPf p) (hx : VN x) :
  Calls Tryz.prog 91 #[.slice ad n c, .agg (aN x)] w (Ret (.bool (L.any fun p => inP p x)) w):=by
 refine (has_any ad n c (spn L) x w h hn hs (spn_vr hv) hx (spn_can hv)).mono ?_
 rintro e w' ⟨b,rfl,hb,hB⟩
 have : b = (L.any fun p => inP p x):=by
  rw [Bool.eq_iff_iff,hb,inS_spn hv,any_inP]
 rw [this]
 exact ⟨rfl,hB⟩
structure FWAt (w : World) (r : FR) (s1 s2 s3 : Option Addr) (n1 n2 n3 : Nat) : Prop where
 r1 : RdK layRg w s1 (spn r.src)
 r2 : RdK layRg w s2 (spn r.dst)
 r3 : RdK layPo w s3 r.po
 l1 : (spn r.src).length = n1
 l2 : (spn r.dst).length = n2
 l3 : r.po.length = n3
theorem FWAt.below {w w' : World} {r : FR} {s1 s2 s3 : Option Addr} {n1 n2 n3 : Nat} (h : FWAt w r s1 s2 s3 n1 n2 n3) (hb : Below w.heap.size w w') : FWAt w' r s1 s2 s3 n1 n2 n3 :=
 ⟨h.r1.below hb,h.r2.below hb,h.r3.below hb,h.l1,h.l2,h.l3⟩
theorem flets1_any (r : FR) (s1 s2 s3 : Option Addr) (n1 n2 n3 c1 c2 c3 bx : Nat) (fp : Int) (x y : Nat) (a b : Int) (w : World) (h : FWAt w r s1 s2 s3 n1 n2 n3) (hs1 : n1 ≤ 1000000) (hs2 : n2 ≤ 1000000) (hs3 : n3 ≤ 1000000) (hv1 : ∀ p ∈ r.src,OkPf p) (hv2 : ∀ p ∈ r.dst,OkPf p) (hx : VN x) (hy : VN y) (hf : Blk w bx 63 (flC fp x y a b)) :
  Calls Tryz.prog 89 #[.agg #[.int .i64 r.p, .slice s1 n1 c1, .slice s2 n2 c2, .slice s3 n3 c3], .pointer (some ⟨bx,0,none⟩)] w (Ret (.bool (letsB r fp x y b)) w):=by
 have H1:=Lib.hid fun wx (hb : Below w.heap.size w wx) => hasL_any s1 n1 c1 r.src x wx (h.r1.below hb) h.l1 hs1 hv1 hx
 have H2:=Lib.hid fun wx (hb : Below w.heap.size w wx) => hasL_any s2 n2 c2 r.dst y wx (h.r2.below hb) h.l2 hs2 hv2 hy
 have H3:=Lib.hid fun wx (hb : Below w.heap.size w wx) => inPorts_any s3 n3 c3 r.po b wx (h.r3.below hb) h.l3 hs3
 have HL : Hid (letsB r fp x y b = ((decide (r.p = 0) || decide (r.p = fp)) && (r.src.any fun p => inP p x) && (r.dst.any fun p => inP p y) && (r.po.any fun p => inPo p b))):=Lib.hid rfl
 rw [HL.out]
 have HF0:=Lib.hid hf
 clear h hs1 hs2 hs3 hv1 hv2 hx hy HL hf
 generalize (r.src.any fun p => inP p x) = R1 at *
 generalize (r.dst.any fun p => inP p y) = R2 at *
 generalize (r.po.any fun p => inPo p b) = R3 at *
 generalize r.p = rp at *
 unfold aN at H1 H2
 unfold flC at HF0
 generalize sixN x = x1 at *
 generalize hiN x = x2 at *
 generalize loN x = x3 at *
 generalize sixN y = y1 at *
 generalize hiN y = y2 at *
 generalize loN y = y3 at *
 have HP : Hid (Blk (w.alloc (.cells #[.int .i64 rp, .slice s1 n1 c1, .slice s2 n2 c2, .slice s3 n3 c3] 114 (0,0))) w.heap.size 114 #[.int .i64 rp, .slice s1 n1 c1, .slice s2 n2 c2, .slice s3 n3 c3]):=Lib.hid (Blk.new w _ _)
 have HF : Hid (Blk (w.alloc (.cells #[.int .i64 rp, .slice s1 n1 c1, .slice s2 n2 c2, .slice s3 n3 c3] 114 (0,0))) bx 63 #[.int .i64 fp, .bool x1, .int .u64 (x2 : Int), .int .u64 (x3 : Int), .bool y1, .int .u64 (y2 : Int), .int .u64 (y3 : Int), .int .i64 a, .int .i64 b]):=Lib.hid (HF0.out.alloc _)
 have HB : Hid (Below w.heap.size w (w.alloc (.cells #[.int .i64 rp, .slice s1 n1 c1, .slice s2 n2 c2, .slice s3 n3 c3] 114 (0,0)))):=Lib.hid (below_alloc (Below.refl _ _) _)
 clear HF0
 obtain ⟨P,hP⟩ : ∃ P : Bool,(decide (rp = 0) || decide (rp = fp)) = P:=⟨_,rfl⟩
 rw [hP]
 go_enter Tryz.func89,Tryz.ntmps89
 go_upto_region 1 with fail
 generalize (w.alloc (.cells #[.int .i64 rp, .slice s1 n1 c1, .slice s2 n2 c2, .slice s3 n3 c3] 114 (0,0))) = w2 at *
 have c0:=HP.out.cell 0
 have c3':=HP.out.cell 3
 have d0:=HF.out.cell 0
 have d8:=HF.out.cell 8
 simp at c0 c3' d0 d8
 cases P
 ·have h0 : ¬ rp = 0:=fun h => by rw [h] at hP;simp at hP
  have h1 : ¬ rp = fp:=fun h => by rw [h] at hP;simp at hP
  clear hP
  go_wp2_with fail
  go_ret
  exact ⟨by first | rfl | simp,HB.out⟩
 ·by_cases h0 : rp = 0
  ·clear hP
   go_wp2_with fail
   refine (H3.out _ HB.out).mono ?_
   rintro e w3 ⟨rfl,hb⟩
   have HB3:=Lib.hid (HB.out.trans (hb.mono HB.out.size))
   have HP3:=Lib.hid (HP.out.below hb HP.out.lt)
   have HF3:=Lib.hid (HF.out.below hb HF.out.lt)
   clear hb H3 HB HP HF c0 c3' d0 d8
   cases R3
   ·go_wp2_with fail
    go_ret
    exact ⟨by first | rfl | simp,HB3.out⟩
   ·have c1':=HP3.out.cell 1
    have d1:=HF3.out.cell 1
    have d2:=HF3.out.cell 2
    have d3:=HF3.out.cell 3
    simp at c1' d1 d2 d3
    go_wp2_with fail
    refine (H1.out _ HB3.out).mono ?_
    rintro e w4 ⟨rfl,hb⟩
    have HB4:=Lib.hid (HB3.out.trans (hb.mono HB3.out.size))
    have HP4:=Lib.hid (HP3.out.below hb HP3.out.lt)
    have HF4:=Lib.hid (HF3.out.below hb HF3.out.lt)
    clear hb H1 HB3 HP3 HF3 c1' d1 d2 d3
    cases R1
    ·go_wp2_with fail
     go_ret
     exact ⟨by first | rfl | simp,HB4.out⟩
    ·have c2':=HP4.out.cell 2
     have d4:=HF4.out.cell 4
     have d5:=HF4.out.cell 5
     have d6:=HF4.out.cell 6
     simp at c2' d4 d5 d6
     go_wp2_with fail
     refine (H2.out _ HB4.out).mono ?_
     rintro e w5 ⟨rfl,hb⟩
     have HB5:=Lib.hid (HB4.out.trans (hb.mono HB4.out.size))
     clear hb H2 HB4 HP4 HF4 c2' d4 d5 d6
     go_wp2_with fail
     go_ret
     exact ⟨by first | rfl | simp,HB5.out⟩
  ·have h1 : rp = fp:=by simpa [h0] using hP
   clear hP
   go_wp2_with fail
   refine (H3.out _ HB.out).mono ?_
   rintro e w3 ⟨rfl,hb⟩
   have HB3:=Lib.hid (HB.out.trans (hb.mono HB.out.size))
   have HP3:=Lib.hid (HP.out.below hb HP.out.lt)
   have HF3:=Lib.hid (HF.out.below hb HF.out.lt)
   clear hb H3 HB HP HF c0 c3' d0 d8
   cases R3
   ·go_wp2_with fail
    go_ret
    exact ⟨by first | rfl | simp,HB3.out⟩
   ·have c1':=HP3.out.cell 1
    have d1:=HF3.out.cell 1
    have d2:=HF3.out.cell 2
    have d3:=HF3.out.cell 3
    simp at c1' d1 d2 d3
    go_wp2_with fail
    refine (H1.out _ HB3.out).mono ?_
    rintro e w4 ⟨rfl,hb⟩
    have HB4:=Lib.hid (HB3.out.trans (hb.mono HB3.out.size))
    have HP4:=Lib.hid (HP3.out.below hb HP3.out.lt)
    have HF4:=Lib.hid (HF3.out.below hb HF3.out.lt)
    clear hb H1 HB3 HP3 HF3 c1' d1 d2 d3
    cases R1
    ·go_wp2_with fail
     go_ret
     exact ⟨by first | rfl | simp,HB4.out⟩
    ·have c2':=HP4.out.cell 2
     have d4:=HF4.out.cell 4
     have d5:=HF4.out.cell 5
     have d6:=HF4.out.cell 6
     simp at c2' d4 d5 d6
     go_wp2_with fail
     refine (H2.out _ HB4.out).mono ?_
     rintro e w5 ⟨rfl,hb⟩
     have HB5:=Lib.hid (HB4.out.trans (hb.mono HB4.out.size))
     clear hb H2 HB4 HP4 HF4 c2' d4 d5 d6
     go_wp2_with fail
     go_ret
     exact ⟨by first | rfl | simp,HB5.out⟩
def decB (L : List FR) (fp : Int) (x y : Nat) (t : Int) : Bool:=L.any fun r => letsB r fp x y t
structure FR.Ok (r : FR) : Prop where
 v1 : ∀ p ∈ r.src,OkPf p
 v2 : ∀ p ∈ r.dst,OkPf p
def FwsAt (w : World) (ad : Option Addr) (L : List FR) : Prop:=∀ (k : Nat) (r : FR),L[k]? = some r → ∃ g o s1 s2 s3 n1 n2 n3 c1 c2 c3,ad = some ⟨g,o,none⟩ ∧ g < w.heap.size ∧ w.cell? ⟨g,o + k * 4,none⟩ = some (.int .i64 r.p) ∧ w.cell? ⟨g,o + k * 4 + 1,none⟩ = some (.slice s1 n1 c1) ∧ w.cell? ⟨g,o + k * 4 + 2,none⟩ = some (.slice s2 n2 c2) ∧ w.cell? ⟨g,o + k * 4 + 3,none⟩ = some (.slice s3 n3 c3) ∧ FWAt w r s1 s2 s3 n1 n2 n3 ∧ n1 ≤ 1000000 ∧ n2 ≤ 1000000 ∧ n3 ≤ 1000000
theorem FwsAt.below {w w' : World} {ad : Option Addr} {L : List FR} (h : FwsAt w ad L) (hb : Below w.heap.size w w') : FwsAt w' ad L:=fun k r hr => by
 obtain ⟨g,o,s1,s2,s3,n1,n2,n3,c1,c2,c3,e,hg,h0,h1,h2,h3,h4,h5⟩:=h k r hr
 exact ⟨g,o,s1,s2,s3,n1,n2,n3,c1,c2,c3,e,Nat.lt_of_lt_of_le hg hb.size,(hb.cell (p:=⟨g,o + k * 4,none⟩) hg).trans h0,(hb.cell (p:=⟨g,o + k * 4 + 1,none⟩) hg).trans h1,(hb.cell (p:=⟨g,o + k * 4 + 2,none⟩) hg).trans h2,(hb.cell (p:=⟨g,o + k * 4 + 3,none⟩) hg).trans h3,h4.below hb,h5⟩
theorem indexRow_any (ad : Option Addr) (n c bx : Nat) (L : List FR) (fp : Int) (x y : Nat) (a b : Int) (w : World) (h : FwsAt w ad L) (hn : L.length = n) (hs : n ≤ 1000000) (hv : ∀ r ∈ L,r.Ok) (hx : VN x) (hy : VN y) (hb : Blk w bx 63 (flC fp x y a b)) :
  Calls Tryz.prog 121 #[.slice ad n c, .func (.func 89) #[] #[.pointer (some ⟨bx,0,none⟩)]] w fun e w' => ∃ k : Int,e = .returned (.int .i64 k) ∧ decide (0 ≤ k) = decB L fp x y b ∧ Below w.heap.size w w':=by
 have H0:=Lib.hid h
 have Hn:=Lib.hid hn
 have Hv:=Lib.hid hv
 have HX:=Lib.hid hb
 have Hx:=Lib.hid hx
 have Hy:=Lib.hid hy
 clear h hn hv hb hx hy
 go_enter Tryz.func121,Tryz.ntmps121
 go_wp2_with fail
 go_loopw [5,8] (fun s5 i wr => ∃ k : Nat,k ≤ n ∧ i = .int .i64 (k : Int) ∧ Hid (∀ j r,j < k → L[j]? = some r → letsB r fp x y b = false) ∧ Hid (Below w.heap.size w wr)) (fun _ i _ => n - (intOf i).toNat)
 case atStart => exact ⟨0,Nat.zero_le _,rfl,Lib.hid fun j p hj => absurd hj (Nat.not_lt_zero _),Lib.hid (Below.refl _ _)⟩
 case round =>
  obtain ⟨k,hk,rfl,HN,HB⟩:=hrel
  by_cases hlt : k < n
  ·have hS : k < L.length:=by rw [Hn.out];exact hlt
   obtain ⟨r,hr⟩ : ∃ r,L[k]? = some r:=⟨_,List.getElem?_eq_getElem hS⟩
   have hok:=Hv.out r (List.mem_of_getElem? hr)
   obtain ⟨g,o,s1,s2,s3,n1,n2,n3,c1,c2,c3,had,hg,k0,k1,k2,k3,hA,m1,m2,m3⟩:=(H0.out.below HB.out) k r hr
   have HC:=Lib.hid (flets1_any r s1 s2 s3 n1 n2 n3 c1 c2 c3 bx fp x y a b wr hA m1 m2 m3 hok.v1 hok.v2 Hx.out Hy.out (HX.out.below HB.out HX.out.lt))
   have Hp:=Lib.hid hr
   have Hpm:=Lib.hid (List.mem_of_getElem? hr)
   obtain ⟨rp,hrp⟩ : ∃ rp : Int,r.p = rp:=⟨_,rfl⟩
   rw [hrp] at k0 HC
   subst had
   clear hr hS hg hA m1 m2 m3 hok hrp
   go_wp2_with fail
   refine HC.out.mono ?_
   rintro e w3 ⟨rfl,hb⟩
   have HB3:=Lib.hid (HB.out.trans (hb.mono HB.out.size))
   clear hb HC k0 k1 k2 k3
   cases hR : letsB r fp x y b
   ·have HN2 : Hid (∀ j q,j < k + 1 → L[j]? = some q → letsB q fp x y b = false):=Lib.hid fun j q hj hq => by
     rcases Nat.lt_or_ge j k with h1 | h1
     ·exact HN.out j q h1 hq
     ·obtain rfl : j = k:=by omega
      rw [Hp.out] at hq
      exact (Option.some.inj hq) ▸ hR
    clear hR
    go_wp2_with fail
    exact ⟨⟨k + 1,by omega,by go_num,HN2,HB3⟩,by simp [intOf];omega⟩
   ·have HT : Hid (decB L fp x y b = true):=Lib.hid (List.any_eq_true.2 ⟨_,Hpm.out,hR⟩)
    clear hR
    go_wp2_with fail
    go_ret
    exact ⟨(k : Int),rfl,by rw [HT.out];exact decide_eq_true (by omega),HB3.out⟩
  ·obtain rfl : k = n:=by omega
   have HT : Hid (decB L fp x y b = false):=Lib.hid (by
    rw [Bool.eq_false_iff]
    intro h
    obtain ⟨p,hp,hR⟩:=List.any_eq_true.1 h
    obtain ⟨j,hj,rfl⟩:=List.getElem_of_mem hp
    have:=HN.out j _ (by rw [← Hn.out];exact hj) (List.getElem?_eq_getElem hj)
    rw [this] at hR;cases hR)
   go_wp2_with fail
   go_ret
   exact ⟨-1,rfl,by rw [HT.out];rfl,HB.out⟩
theorem containsRow_any (ad : Option Addr) (n c bx : Nat) (L : List FR) (fp : Int) (x y : Nat) (a b : Int) (w : World) (h : FwsAt w ad L) (hn : L.length = n) (hs : n ≤ 1000000) (hv : ∀ r ∈ L,r.Ok) (hx : VN x) (hy : VN y) (hb : Blk w bx 63 (flC fp x y a b)) :
  Calls Tryz.prog 88 #[.slice ad n c, .func (.func 89) #[] #[.pointer (some ⟨bx,0,none⟩)]] w (Ret (.bool (decB L fp x y b)) w):=by
 have HI:=Lib.hid (indexRow_any ad n c bx L fp x y a b w h hn hs hv hx hy hb)
 clear h hn hs hv hx hy hb
 generalize decB L fp x y b = R at *
 go_enter Tryz.func88,Tryz.ntmps88
 go_wp2_with fail
 refine HI.out.mono ?_
 rintro e w3 ⟨k,rfl,hk,hb⟩
 have HB:=Lib.hid hb
 clear hb HI
 cases R
 ·have hk0 : ¬ 0 ≤ k:=of_decide_eq_false hk
  have hk1 : ¬ k ≥ 0:=hk0
  go_wp2_with fail
  go_ret
  exact ⟨rfl,HB.out⟩
 ·have hk0 : 0 ≤ k:=of_decide_eq_true hk
  have hk1 : k ≥ 0:=hk0
  go_wp2_with fail
  go_ret
  exact ⟨rfl,HB.out⟩
theorem flets_any (ad : Option Addr) (n c : Nat) (L : List FR) (fp : Int) (x y : Nat) (a b : Int) (w : World) (h : FwsAt w ad L) (hn : L.length = n) (hs : n ≤ 1000000) (hv : ∀ r ∈ L,r.Ok) (hx : VN x) (hy : VN y) :
  Calls Tryz.prog 46 #[.slice ad n c, .agg (flC fp x y a b)] w (Ret (.bool (decB L fp x y b)) w):=by
 have hb0 : Below w.heap.size w (w.alloc (.cells (flC fp x y a b) 63 (0,0))):=below_alloc (Below.refl _ _) _
 have HC:=Lib.hid (containsRow_any ad n c w.heap.size L fp x y a b (w.alloc (.cells (flC fp x y a b) 63 (0,0))) (h.below hb0) hn hs hv hx hy (Blk.new w _ _))
 have HB0:=Lib.hid hb0
 clear h hn hs hv hx hy hb0
 generalize decB L fp x y b = R at *
 unfold flC at HC HB0 ⊢
 generalize sixN x = x1 at *
 generalize hiN x = x2 at *
 generalize loN x = x3 at *
 generalize sixN y = y1 at *
 generalize hiN y = y2 at *
 generalize loN y = y3 at *
 go_enter Tryz.func46,Tryz.ntmps46
 go_wp2_with fail
 refine HC.out.mono ?_
 rintro e w3 ⟨rfl,hb⟩
 have HB3:=Lib.hid (HB0.out.trans (hb.mono HB0.out.size))
 clear hb HC HB0
 go_wp2_with fail
 go_ret
 exact ⟨rfl,HB3.out⟩
def FlsAt (w : World) (ad : Option Addr) (L : List FR) : Prop:=∀ (k : Nat) (r : FR),L[k]? = some r → ∃ g o s1 s2 s3 n1 n2 n3 c1 c2 c3,ad = some ⟨g,o,none⟩ ∧ g < w.heap.size ∧ w.cell? ⟨g,o + k * 4,none⟩ = some (.int .i64 r.p) ∧ w.cell? ⟨g,o + k * 4 + 1,none⟩ = some (.slice s1 n1 c1) ∧ w.cell? ⟨g,o + k * 4 + 2,none⟩ = some (.slice s2 n2 c2) ∧ w.cell? ⟨g,o + k * 4 + 3,none⟩ = some (.slice s3 n3 c3) ∧ FRAt w r s1 s2 s3 n1 n2 n3 ∧ n1 ≤ 1000000 ∧ n2 ≤ 1000000 ∧ n3 ≤ 1000000
theorem FlsAt.below {w w' : World} {ad : Option Addr} {L : List FR} (h : FlsAt w ad L) (hb : Below w.heap.size w w') : FlsAt w' ad L:=fun k r hr => by
 obtain ⟨g,o,s1,s2,s3,n1,n2,n3,c1,c2,c3,e,hg,h0,h1,h2,h3,h4,h5⟩:=h k r hr
 exact ⟨g,o,s1,s2,s3,n1,n2,n3,c1,c2,c3,e,Nat.lt_of_lt_of_le hg hb.size,(hb.cell (p:=⟨g,o + k * 4,none⟩) hg).trans h0,(hb.cell (p:=⟨g,o + k * 4 + 1,none⟩) hg).trans h1,(hb.cell (p:=⟨g,o + k * 4 + 2,none⟩) hg).trans h2,(hb.cell (p:=⟨g,o + k * 4 + 3,none⟩) hg).trans h3,h4.below hb,h5⟩
theorem dec1_any (r : FR) (s1 s2 s3 : Option Addr) (n1 n2 n3 c1 c2 c3 bx : Nat) (fp : Int) (x y : Nat) (a b : Int) (w : World) (h : FRAt w r s1 s2 s3 n1 n2 n3) (hs1 : n1 ≤ 1000000) (hs2 : n2 ≤ 1000000) (hs3 : n3 ≤ 1000000) (hv1 : ∀ p ∈ r.src,OkPf p) (hv2 : ∀ p ∈ r.dst,OkPf p) (hx : VN x) (hy : VN y) (hf : Blk w bx 63 (flC fp x y a b)) :
  Calls Tryz.prog 97 #[.agg #[.int .i64 r.p, .slice s1 n1 c1, .slice s2 n2 c2, .slice s3 n3 c3], .pointer (some ⟨bx,0,none⟩)] w (Ret (.bool (letsB r fp x y b)) w):=by
 have HC:=Lib.hid fun wx (hb : Below w.heap.size w wx) => qlets_any r s1 s2 s3 n1 n2 n3 c1 c2 c3 fp x y a b wx (h.below hb) hs1 hs2 hs3 hv1 hv2 hx hy
 have HF0:=Lib.hid hf
 clear h hs1 hs2 hs3 hv1 hv2 hx hy hf
 generalize letsB r fp x y b = R at *
 generalize r.p = rp at *
 unfold flC at HF0 HC
 generalize sixN x = x1 at *
 generalize hiN x = x2 at *
 generalize loN x = x3 at *
 generalize sixN y = y1 at *
 generalize hiN y = y2 at *
 generalize loN y = y3 at *
 have HP : Hid (Blk (w.alloc (.cells #[.int .i64 rp, .slice s1 n1 c1, .slice s2 n2 c2, .slice s3 n3 c3] 71 (0,0))) w.heap.size 71 #[.int .i64 rp, .slice s1 n1 c1, .slice s2 n2 c2, .slice s3 n3 c3]):=Lib.hid (Blk.new w _ _)
 have HF : Hid (Blk (w.alloc (.cells #[.int .i64 rp, .slice s1 n1 c1, .slice s2 n2 c2, .slice s3 n3 c3] 71 (0,0))) bx 63 #[.int .i64 fp, .bool x1, .int .u64 (x2 : Int), .int .u64 (x3 : Int), .bool y1, .int .u64 (y2 : Int), .int .u64 (y3 : Int), .int .i64 a, .int .i64 b]):=Lib.hid (HF0.out.alloc _)
 have HB : Hid (Below w.heap.size w (w.alloc (.cells #[.int .i64 rp, .slice s1 n1 c1, .slice s2 n2 c2, .slice s3 n3 c3] 71 (0,0)))):=Lib.hid (below_alloc (Below.refl _ _) _)
 clear HF0
 go_enter Tryz.func97,Tryz.ntmps97
 go_upto_region 1 with fail
 generalize (w.alloc (.cells #[.int .i64 rp, .slice s1 n1 c1, .slice s2 n2 c2, .slice s3 n3 c3] 71 (0,0))) = w2 at *
 have c0:=HP.out.cell 0
 have c1':=HP.out.cell 1
 have c2':=HP.out.cell 2
 have c3':=HP.out.cell 3
 have d0:=HF.out.cell 0
 have d1:=HF.out.cell 1
 have d2:=HF.out.cell 2
 have d3:=HF.out.cell 3
 have d4:=HF.out.cell 4
 have d5:=HF.out.cell 5
 have d6:=HF.out.cell 6
 have d7:=HF.out.cell 7
 have d8:=HF.out.cell 8
 simp at c0 c1' c2' c3' d0 d1 d2 d3 d4 d5 d6 d7 d8
 go_wp2_with fail
 refine (HC.out _ HB.out).mono ?_
 rintro e w3 ⟨rfl,hb⟩
 have HB3:=Lib.hid (HB.out.trans (hb.mono HB.out.size))
 clear hb HC HB HP HF c0 c1' c2' c3' d0 d1 d2 d3 d4 d5 d6 d7 d8
 go_wp2_with fail
 go_ret
 exact ⟨rfl,HB3.out⟩
theorem indexFl_any (ad : Option Addr) (n c bx : Nat) (L : List FR) (fp : Int) (x y : Nat) (a b : Int) (w : World) (h : FlsAt w ad L) (hn : L.length = n) (hs : n ≤ 1000000) (hv : ∀ r ∈ L,r.Ok) (hx : VN x) (hy : VN y) (hb : Blk w bx 63 (flC fp x y a b)) :
  Calls Tryz.prog 127 #[.slice ad n c, .func (.func 97) #[] #[.pointer (some ⟨bx,0,none⟩)]] w fun e w' => ∃ k : Int,e = .returned (.int .i64 k) ∧ decide (0 ≤ k) = decB L fp x y b ∧ Below w.heap.size w w':=by
 have H0:=Lib.hid h
 have Hn:=Lib.hid hn
 have Hv:=Lib.hid hv
 have HX:=Lib.hid hb
 have Hx:=Lib.hid hx
 have Hy:=Lib.hid hy
 clear h hn hv hb hx hy
 go_enter Tryz.func127,Tryz.ntmps127
 go_wp2_with fail
 go_loopw [5,8] (fun s5 i wr => ∃ k : Nat,k ≤ n ∧ i = .int .i64 (k : Int) ∧ Hid (∀ j r,j < k → L[j]? = some r → letsB r fp x y b = false) ∧ Hid (Below w.heap.size w wr)) (fun _ i _ => n - (intOf i).toNat)
 case atStart => exact ⟨0,Nat.zero_le _,rfl,Lib.hid fun j p hj => absurd hj (Nat.not_lt_zero _),Lib.hid (Below.refl _ _)⟩
 case round =>
  obtain ⟨k,hk,rfl,HN,HB⟩:=hrel
  by_cases hlt : k < n
  ·have hS : k < L.length:=by rw [Hn.out];exact hlt
   obtain ⟨r,hr⟩ : ∃ r,L[k]? = some r:=⟨_,List.getElem?_eq_getElem hS⟩
   have hok:=Hv.out r (List.mem_of_getElem? hr)
   obtain ⟨g,o,s1,s2,s3,n1,n2,n3,c1,c2,c3,had,hg,k0,k1,k2,k3,hA,m1,m2,m3⟩:=(H0.out.below HB.out) k r hr
   have HC:=Lib.hid (dec1_any r s1 s2 s3 n1 n2 n3 c1 c2 c3 bx fp x y a b wr hA m1 m2 m3 hok.v1 hok.v2 Hx.out Hy.out (HX.out.below HB.out HX.out.lt))
   have Hp:=Lib.hid hr
   have Hpm:=Lib.hid (List.mem_of_getElem? hr)
   obtain ⟨rp,hrp⟩ : ∃ rp : Int,r.p = rp:=⟨_,rfl⟩
   rw [hrp] at k0 HC
   subst had
   clear hr hS hg hA m1 m2 m3 hok hrp
   go_wp2_with fail
   refine HC.out.mono ?_
   rintro e w3 ⟨rfl,hb⟩
   have HB3:=Lib.hid (HB.out.trans (hb.mono HB.out.size))
   clear hb HC k0 k1 k2 k3
   cases hR : letsB r fp x y b
   ·have HN2 : Hid (∀ j q,j < k + 1 → L[j]? = some q → letsB q fp x y b = false):=Lib.hid fun j q hj hq => by
     rcases Nat.lt_or_ge j k with h1 | h1
     ·exact HN.out j q h1 hq
     ·obtain rfl : j = k:=by omega
      rw [Hp.out] at hq
      exact (Option.some.inj hq) ▸ hR
    clear hR
    go_wp2_with fail
    exact ⟨⟨k + 1,by omega,by go_num,HN2,HB3⟩,by simp [intOf];omega⟩
   ·have HT : Hid (decB L fp x y b = true):=Lib.hid (List.any_eq_true.2 ⟨_,Hpm.out,hR⟩)
    clear hR
    go_wp2_with fail
    go_ret
    exact ⟨(k : Int),rfl,by rw [HT.out];exact decide_eq_true (by omega),HB3.out⟩
  ·obtain rfl : k = n:=by omega
   have HT : Hid (decB L fp x y b = false):=Lib.hid (by
    rw [Bool.eq_false_iff]
    intro h
    obtain ⟨p,hp,hR⟩:=List.any_eq_true.1 h
    obtain ⟨j,hj,rfl⟩:=List.getElem_of_mem hp
    have:=HN.out j _ (by rw [← Hn.out];exact hj) (List.getElem?_eq_getElem hj)
    rw [this] at hR;cases hR)
   go_wp2_with fail
   go_ret
   exact ⟨-1,rfl,by rw [HT.out];rfl,HB.out⟩
theorem containsFl_any (ad : Option Addr) (n c bx : Nat) (L : List FR) (fp : Int) (x y : Nat) (a b : Int) (w : World) (h : FlsAt w ad L) (hn : L.length = n) (hs : n ≤ 1000000) (hv : ∀ r ∈ L,r.Ok) (hx : VN x) (hy : VN y) (hb : Blk w bx 63 (flC fp x y a b)) :
  Calls Tryz.prog 96 #[.slice ad n c, .func (.func 97) #[] #[.pointer (some ⟨bx,0,none⟩)]] w (Ret (.bool (decB L fp x y b)) w):=by
 have HI:=Lib.hid (indexFl_any ad n c bx L fp x y a b w h hn hs hv hx hy hb)
 clear h hn hs hv hx hy hb
 generalize decB L fp x y b = R at *
 go_enter Tryz.func96,Tryz.ntmps96
 go_wp2_with fail
 refine HI.out.mono ?_
 rintro e w3 ⟨k,rfl,hk,hb⟩
 have HB:=Lib.hid hb
 clear hb HI
 cases R
 ·have hk0 : ¬ 0 ≤ k:=of_decide_eq_false hk
  have hk1 : ¬ k ≥ 0:=hk0
  go_wp2_with fail
  go_ret
  exact ⟨rfl,HB.out⟩
 ·have hk0 : 0 ≤ k:=of_decide_eq_true hk
  have hk1 : k ≥ 0:=hk0
  go_wp2_with fail
  go_ret
  exact ⟨rfl,HB.out⟩
theorem decidesOf_any (ad : Option Addr) (n c : Nat) (L : List FR) (fp : Int) (x y : Nat) (a b : Int) (w : World) (h : FlsAt w ad L) (hn : L.length = n) (hs : n ≤ 1000000) (hv : ∀ r ∈ L,r.Ok) (hx : VN x) (hy : VN y) :
  Calls Tryz.prog 51 #[.slice ad n c, .agg (flC fp x y a b)] w (Ret (.bool (decB L fp x y b)) w):=by
 have hb0 : Below w.heap.size w (w.alloc (.cells (flC fp x y a b) 63 (0,0))):=below_alloc (Below.refl _ _) _
 have HC:=Lib.hid (containsFl_any ad n c w.heap.size L fp x y a b (w.alloc (.cells (flC fp x y a b) 63 (0,0))) (h.below hb0) hn hs hv hx hy (Blk.new w _ _))
 have HB0:=Lib.hid hb0
 clear h hn hs hv hx hy hb0
 generalize decB L fp x y b = R at *
 unfold flC at HC HB0 ⊢
 generalize sixN x = x1 at *
 generalize hiN x = x2 at *
 generalize loN x = x3 at *
 generalize sixN y = y1 at *
 generalize hiN y = y2 at *
 generalize loN y = y3 at *
 go_enter Tryz.func51,Tryz.ntmps51
 go_wp2_with fail
 refine HC.out.mono ?_
 rintro e w3 ⟨rfl,hb⟩
 have HB3:=Lib.hid (HB0.out.trans (hb.mono HB0.out.size))
 clear hb HC HB0
 go_wp2_with fail
 go_ret
 exact ⟨rfl,HB3.out⟩
abbrev Sl:=Option Addr × Nat × Nat
abbrev FC:=Int × Sl × Sl × Sl
def fcC (x : FC) : List Value:=[.int .i64 x.1, .slice x.2.1.1 x.2.1.2.1 x.2.1.2.2, .slice x.2.2.1.1 x.2.2.1.2.1 x.2.2.1.2.2, .slice x.2.2.2.1 x.2.2.2.2.1 x.2.2.2.2.2]
def layFl : Lay FC:=⟨fcC,4,71,by decide,fun _ => rfl,fun p v hv => by simp [fcC] at hv;rcases hv with rfl | rfl | rfl | rfl <;> rfl⟩
theorem flE : EI Tryz.prog 26 71 4 80:=EI.mk' (z:=.agg #[.int .i64 0, .slice none 0 0, .slice none 0 0, .slice none 0 0]) Tryz.underlying26 (by kernel_rfl) rfl (by decide)
structure FlcT (w : World) (r : FR) (c : FC) : Prop where
 e : c.1 = r.p
 t1 : RdT layPf w c.2.1.1 r.src
 t2 : RdT layPf w c.2.2.1.1 r.dst
 t3 : RdT layPo w c.2.2.2.1 r.po
 l1 : r.src.length = c.2.1.2.1
 l2 : r.dst.length = c.2.2.1.2.1
 l3 : r.po.length = c.2.2.2.2.1
 m1 : c.2.1.2.1 ≤ 100000
 m2 : c.2.2.1.2.1 ≤ 100000
 m3 : c.2.2.2.2.1 ≤ 100000
theorem FlcT.keep {S : List TypeId} {w w' : World} {r : FR} {c : FC} (h : FlcT w r c) (k : KeepT S w w') (h1 : layPf.ty ∉ S) (h2 : layPo.ty ∉ S) : FlcT w' r c :=
 ⟨h.e,h.t1.keep k h1,h.t2.keep k h1,h.t3.keep k h2,h.l1,h.l2,h.l3,h.m1,h.m2,h.m3⟩
def FlO (w : World) (B : Nat) (v : Value) (L : List FR) : Prop:=∃ C : List FC,OwnK layFl w B v C ∧ C.length = L.length ∧ ∀ (k : Nat) (c : FC) (r : FR),C[k]? = some c → L[k]? = some r → FlcT w r c
theorem FlO.nil (w : World) (B : Nat) : FlO w B (.slice none 0 0) []:=⟨[],OwnK.nil _ _ _,rfl,fun k c r h => by simp at h⟩
theorem FlO.later {w w' : World} {B : Nat} {v : Value} {L : List FR} (h : FlO w B v L) (hb : Below w.heap.size w w') : FlO w' B v L:=by
 obtain ⟨C,hO,hl,hc⟩:=h
 exact ⟨C,hO.later hb,hl,fun k c r h1 h2 => (hc k c r h1 h2).keep (S:=[]) (KeepT.of_below hb) (by simp) (by simp)⟩
theorem FlO.weak {w : World} {B B' : Nat} {v : Value} {L : List FR} (h : FlO w B v L) (hb : B' ≤ B) : FlO w B' v L:=by
 obtain ⟨C,hO,hl,hc⟩:=h
 exact ⟨C,hO.weak hb,hl,hc⟩
theorem FlO.form {w : World} {B : Nat} {v : Value} {L : List FR} (h : FlO w B v L) : ∃ ad c,v = .slice ad L.length c ∧ L.length ≤ c ∧ c ≤ maxLen:=by
 obtain ⟨C,hO,hl,hc⟩:=h
 obtain ⟨ad,c,e,_,h1,h2⟩:=hO.form
 rw [hl] at e h1
 exact ⟨ad,c,e,h1,h2⟩
theorem FlO.at {w : World} {B n c : Nat} {ad : Option Addr} {L : List FR} (h : FlO w B (.slice ad n c) L) : FlsAt w ad L:=fun k r hr => by
 obtain ⟨C,hO,hl,hc⟩:=h
 have hk : k < C.length:=by rw [hl];exact (List.getElem?_eq_some_iff.1 hr).1
 have hC : C[k]? = some C[k]:=List.getElem?_eq_getElem hk
 have ht:=hc k _ r hC hr
 generalize C[k] = x at *
 obtain ⟨g,o,e,hg,h0⟩:=hO.rd k x hC
 have hE : layFl.enc x = fcC x:=rfl
 have hK : layFl.K = 4:=rfl
 rw [hE,hK] at h0
 obtain ⟨xp,⟨a1,n1,c1⟩,⟨a2,n2,c2⟩,⟨a3,n3,c3⟩⟩:=x
 have hp:=ht.e
 simp only at hp
 subst hp
 exact ⟨g,o,a1,a2,a3,n1,n2,n3,c1,c2,c3,e,hg,h0 0 _ rfl,h0 1 _ rfl,h0 2 _ rfl,h0 3 _ rfl,⟨ht.t1.rd,ht.t2.rd,ht.t3.rd,ht.l1,ht.l2,ht.l3⟩,Nat.le_trans ht.m1 (by decide),Nat.le_trans ht.m2 (by decide),Nat.le_trans ht.m3 (by decide)⟩
theorem FlO.snoc {w w' : World} {B : Nat} {v v' : Value} {L : List FR} {C : List FC} {r : FR} {c : FC} (hO : OwnK layFl w B v C) (hl : C.length = L.length) (hc : ∀ (k : Nat) (c : FC) (r : FR),C[k]? = some c → L[k]? = some r → FlcT w r c) (hx : FlcT w r c) (hg : Grew w w' v v') (hO2 : OwnK layFl w' B v' (C ++ [c])) : FlO w' B v' (L ++ [r]):=by
 have hk:=KeepT.of_grew (S:=[71]) hO hg (by simp [layFl])
 refine ⟨C ++ [c],hO2,by simp [hl],fun k c2 r2 h1 h2 => FlcT.keep (S:=[71]) (w:=w) ?_ hk (by decide) (by decide)⟩
 rcases Nat.lt_or_ge k C.length with h3 | h3
 ·rw [List.getElem?_append_left h3] at h1
  rw [List.getElem?_append_left (by rw [← hl];exact h3)] at h2
  exact hc k c2 r2 h1 h2
 ·rw [List.getElem?_append_right h3] at h1
  rw [List.getElem?_append_right (by rw [← hl];exact h3)] at h2
  have e1:=List.getElem?_eq_some_iff.1 h1
  have e2:=List.getElem?_eq_some_iff.1 h2
  obtain ⟨i1,rfl⟩:=e1
  obtain ⟨i2,rfl⟩:=e2
  simpa using hx
def layFw : Lay FC:=⟨fcC,4,114,by decide,fun _ => rfl,fun p v hv => by simp [fcC] at hv;rcases hv with rfl | rfl | rfl | rfl <;> rfl⟩
theorem fwE : EI Tryz.prog 77 114 4 80:=EI.mk' (z:=.agg #[.int .i64 0, .slice none 0 0, .slice none 0 0, .slice none 0 0]) Tryz.underlying77 (by kernel_rfl) rfl (by decide)
structure FwcT (w : World) (r : FR) (c : FC) : Prop where
 e : c.1 = r.p
 t1 : RdT layRg w c.2.1.1 (spn r.src)
 t2 : RdT layRg w c.2.2.1.1 (spn r.dst)
 t3 : RdT layPo w c.2.2.2.1 r.po
 l1 : (spn r.src).length = c.2.1.2.1
 l2 : (spn r.dst).length = c.2.2.1.2.1
 l3 : r.po.length = c.2.2.2.2.1
 m1 : c.2.1.2.1 ≤ 100000
 m2 : c.2.2.1.2.1 ≤ 100000
 m3 : c.2.2.2.2.1 ≤ 100000
theorem FwcT.keep {S : List TypeId} {w w' : World} {r : FR} {c : FC} (h : FwcT w r c) (k : KeepT S w w') (h1 : layRg.ty ∉ S) (h2 : layPo.ty ∉ S) : FwcT w' r c :=
 ⟨h.e,h.t1.keep k h1,h.t2.keep k h1,h.t3.keep k h2,h.l1,h.l2,h.l3,h.m1,h.m2,h.m3⟩
def FwO (w : World) (B : Nat) (v : Value) (L : List FR) : Prop:=∃ C : List FC,OwnK layFw w B v C ∧ C.length = L.length ∧ ∀ (k : Nat) (c : FC) (r : FR),C[k]? = some c → L[k]? = some r → FwcT w r c
theorem FwO.nil (w : World) (B : Nat) : FwO w B (.slice none 0 0) []:=⟨[],OwnK.nil _ _ _,rfl,fun k c r h => by simp at h⟩
theorem FwO.later {w w' : World} {B : Nat} {v : Value} {L : List FR} (h : FwO w B v L) (hb : Below w.heap.size w w') : FwO w' B v L:=by
 obtain ⟨C,hO,hl,hc⟩:=h
 exact ⟨C,hO.later hb,hl,fun k c r h1 h2 => (hc k c r h1 h2).keep (S:=[]) (KeepT.of_below hb) (by simp) (by simp)⟩
theorem FwO.weak {w : World} {B B' : Nat} {v : Value} {L : List FR} (h : FwO w B v L) (hb : B' ≤ B) : FwO w B' v L:=by
 obtain ⟨C,hO,hl,hc⟩:=h
 exact ⟨C,hO.weak hb,hl,hc⟩
theorem FwO.form {w : World} {B : Nat} {v : Value} {L : List FR} (h : FwO w B v L) : ∃ ad c,v = .slice ad L.length c ∧ L.length ≤ c ∧ c ≤ maxLen:=by
 obtain ⟨C,hO,hl,hc⟩:=h
 obtain ⟨ad,c,e,_,h1,h2⟩:=hO.form
 rw [hl] at e h1
 exact ⟨ad,c,e,h1,h2⟩
theorem FwO.at {w : World} {B n c : Nat} {ad : Option Addr} {L : List FR} (h : FwO w B (.slice ad n c) L) : FwsAt w ad L:=fun k r hr => by
 obtain ⟨C,hO,hl,hc⟩:=h
 have hk : k < C.length:=by rw [hl];exact (List.getElem?_eq_some_iff.1 hr).1
 have hC : C[k]? = some C[k]:=List.getElem?_eq_getElem hk
 have ht:=hc k _ r hC hr
 generalize C[k] = x at *
 obtain ⟨g,o,e,hg,h0⟩:=hO.rd k x hC
 have hE : layFw.enc x = fcC x:=rfl
 have hK : layFw.K = 4:=rfl
 rw [hE,hK] at h0
 obtain ⟨xp,⟨a1,n1,c1⟩,⟨a2,n2,c2⟩,⟨a3,n3,c3⟩⟩:=x
 have hp:=ht.e
 simp only at hp
 subst hp
 exact ⟨g,o,a1,a2,a3,n1,n2,n3,c1,c2,c3,e,hg,h0 0 _ rfl,h0 1 _ rfl,h0 2 _ rfl,h0 3 _ rfl,⟨ht.t1.rd,ht.t2.rd,ht.t3.rd,ht.l1,ht.l2,ht.l3⟩,Nat.le_trans ht.m1 (by decide),Nat.le_trans ht.m2 (by decide),Nat.le_trans ht.m3 (by decide)⟩
theorem FwO.snoc {w w' : World} {B : Nat} {v v' : Value} {L : List FR} {C : List FC} {r : FR} {c : FC} (hO : OwnK layFw w B v C) (hl : C.length = L.length) (hc : ∀ (k : Nat) (c : FC) (r : FR),C[k]? = some c → L[k]? = some r → FwcT w r c) (hx : FwcT w r c) (hg : Grew w w' v v') (hO2 : OwnK layFw w' B v' (C ++ [c])) : FwO w' B v' (L ++ [r]):=by
 have hk:=KeepT.of_grew (S:=[114]) hO hg (by simp [layFw])
 refine ⟨C ++ [c],hO2,by simp [hl],fun k c2 r2 h1 h2 => FwcT.keep (S:=[114]) (w:=w) ?_ hk (by decide) (by decide)⟩
 rcases Nat.lt_or_ge k C.length with h3 | h3
 ·rw [List.getElem?_append_left h3] at h1
  rw [List.getElem?_append_left (by rw [← hl];exact h3)] at h2
  exact hc k c2 r2 h1 h2
 ·rw [List.getElem?_append_right h3] at h1
  rw [List.getElem?_append_right (by rw [← hl];exact h3)] at h2
  have e1:=List.getElem?_eq_some_iff.1 h1
  have e2:=List.getElem?_eq_some_iff.1 h2
  obtain ⟨i1,rfl⟩:=e1
  obtain ⟨i2,rfl⟩:=e2
  simpa using hx
theorem poE : EI Tryz.prog 69 74 2 16:=EI.mk' (z:=.agg #[.int .i64 0, .int .i64 0]) Tryz.underlying69 (by kernel_rfl) rfl (by decide)
theorem nil_po (w : World) (a : Option Addr) (l c : Nat) : (binOp .eql 69 (.slice a l c) (.slice none 0 0)).run Tryz.prog w = .ok (.bool a.isNone) w :=
 Lib.run_eql_slice_nil (h:=Tryz.underlying69) ..
theorem clone_po (ad : Option Addr) (n c : Nat) (L : List (Int × Int)) (w : World) (h : RdK layPo w ad L) (hn : L.length = n) (hs : n ≤ 1000000) :
  Calls Tryz.prog 73 #[.slice ad n c] w fun e w' => ∃ v,e = .returned v ∧ OwnK layPo w' w.heap.size v L ∧ Below w.heap.size w w':=by
 cases ad with
 | none =>
   have en:=fun w => nil_po w none n c
   simp only [Option.isNone_none] at en
   have hL : Hid (L = []):=Lib.hid h.none_
   clear h hn hs
   go_enter Tryz.func73,Tryz.ntmps73
   go_wp2
   go_ret
   exact ⟨_,rfl,by rw [hL.out];exact OwnK.nil _ _ _,Below.refl _ _⟩
 | some a =>
   have en:=fun w => nil_po w (some a) n c
   simp only [Option.isNone_some] at en
   subst hn
   have HS:=Lib.hid h.src
   have hB : Hid (Below w.heap.size w (w.alloc (.cells #[] layPo.ty (0,0)))):=Lib.hid (below_alloc (Below.refl _ _) _)
   clear h
   go_enter Tryz.func73,Tryz.ntmps73
   go_wp2_with (at_builtin;refine wpList_app poE rfl (.tmp 5) (.tmp 6) rfl rfl (ownK_empty layPo w) rfl (src_later HS.out hB.out) (layPo.all_one L) ?c2 ?c3 ?c4 ?_)
   case c2 => unfold maxLen;simp only [List.length_nil];omega
   case c3 => simp only [List.length_nil];omega
   case c4 => simp
   intro v' w' hO hG
   have HO : Hid (OwnK layPo w' w.heap.size v' L):=Lib.hid hO
   have HG:=Lib.hid hG
   clear hO hG
   go_wp2
   go_ret
   exact ⟨_,rfl,HO.out,HG.out.below (u:=.slice (some ⟨w.heap.size,0,none⟩) 0 0) (by simp) (by intro k hk;simp [Value.ownBlock] at hk;omega) |> (below_alloc (Below.refl _ _) _).trans⟩
def rwR (bx : Nat) (out : Value) (r : FR) (s1 s2 s3 : Value) : Nat → Value → World → Prop
 | 0,v,_ => v = out
 | 1,v,_ => v = .pointer (some ⟨bx,0,none⟩)
 | 2,v,_ => v = .int .i64 r.p
 | 3,v,_ => v = .pointer (some ⟨bx,1,none⟩)
 | 4,v,_ => v = s1
 | 5,v,w => ∃ ad c,v = .slice ad (spn r.src).length c ∧ RdT layRg w ad (spn r.src)
 | 6,v,_ => v = .pointer (some ⟨bx,2,none⟩)
 | 7,v,_ => v = s2
 | 8,v,w => ∃ ad c,v = .slice ad (spn r.dst).length c ∧ RdT layRg w ad (spn r.dst)
 | 9,v,_ => v = .pointer (some ⟨bx,3,none⟩)
 | 10,v,_ => v = s3
 | 11,v,w => ∃ ad c,v = .slice ad r.po.length c ∧ RdT layPo w ad r.po
 | 12,v,w => ∃ x,v = .agg (layFw.enc x).toArray ∧ FwcT w r x
 | _,v,w => ∃ B x,v = .slice (some ⟨B,0,none⟩) 1 1 ∧ Blk w B 114 (layFw.enc x).toArray ∧ FwcT w r x
theorem rwR_keep {bx : Nat} {out : Value} {r : FR} {s1 s2 s3 : Value} (p : Nat) (v : Value) (u w : World) (h : rwR bx out r s1 s2 s3 p v u) (hb : Below u.heap.size u w) : rwR bx out r s1 s2 s3 p v w:=by
 rcases p with _ | _ | _ | _ | _ | _ | _ | _ | _ | _ | _ | _ | _ | p
 all_goals first
  | exact h
  | (obtain ⟨ad,c,h1,h2⟩:=h;exact ⟨ad,c,h1,h2.below hb⟩)
  | (obtain ⟨x,h1,h2⟩:=h;exact ⟨x,h1,h2.keep (S:=[]) (KeepT.of_below hb) (by simp) (by simp)⟩)
  | (obtain ⟨B,x,h1,h2,h3⟩:=h;exact ⟨B,x,h1,h2.below hb h2.lt,h3.keep (S:=[]) (KeepT.of_below hb) (by simp) (by simp)⟩)
theorem rowsOf_any (ad : Option Addr) (n c : Nat) (L : List FR) (w : World) (h : FlsAt w ad L) (hn : L.length = n) (hs : n ≤ 1000) (hv : ∀ r ∈ L,r.Ok) (hl : ∀ r ∈ L,r.src.length ≤ 1000 ∧ r.dst.length ≤ 1000 ∧ r.po.length ≤ 1000) :
  Calls Tryz.prog 31 #[.slice ad n c] w fun e w' => ∃ v,e = .returned v ∧ FwO w' w.heap.size v L ∧ Below w.heap.size w w':=by
 have Hv:=Lib.hid hv
 have Hl:=Lib.hid hl
 have H0:=Lib.hid h
 have Hn:=Lib.hid hn
 clear h hn hv hl
 go_enter Tryz.func31,Tryz.ntmps31
 go_wp2_with fail
 go_loopw [3,5,8] (fun out bx i wr => ∃ k : Nat,k ≤ n ∧ i = .int .i64 (k : Int) ∧ Hid (FwO wr w.heap.size out (L.take k)) ∧ Hid (Below w.heap.size w wr)) (fun _ _ i _ => n - (intOf i).toNat)
 case atStart => exact ⟨0,Nat.zero_le _,rfl,Lib.hid (FwO.nil _ _),Lib.hid (Below.refl _ _)⟩
 case round =>
  obtain ⟨k,hk,rfl,HO,HB⟩:=hrel
  by_cases hlt : k < n
  ·have hS : k < L.length:=by rw [Hn.out];exact hlt
   obtain ⟨r,hr⟩ : ∃ r,L[k]? = some r:=⟨_,List.getElem?_eq_getElem hS⟩
   have hok:=Hv.out r (List.mem_of_getElem? hr)
   have hll:=Hl.out r (List.mem_of_getElem? hr)
   obtain ⟨g,o,s1,s2,s3,n1,n2,n3,c1,c2,c3,had,hg,k0,k1,k2,k3,hA,m1,m2,m3⟩:=H0.out k r hr
   subst had
   replace k0:=(HB.out.cell (p:=⟨g,o + k * 4,none⟩) hg).trans k0
   replace k1:=(HB.out.cell (p:=⟨g,o + k * 4 + 1,none⟩) hg).trans k1
   replace k2:=(HB.out.cell (p:=⟨g,o + k * 4 + 2,none⟩) hg).trans k2
   replace k3:=(HB.out.cell (p:=⟨g,o + k * 4 + 3,none⟩) hg).trans k3
   have HT1 : Hid (L.take (k + 1) = L.take k ++ [r]):=Lib.hid (by
    have : L[k] = r:=by rw [List.getElem?_eq_getElem hS] at hr;injection hr
    rw [List.take_succ_eq_append_getElem hS,this])
   have HlT : Hid ((L.take k).length = k):=Lib.hid (by rw [List.length_take];omega)
   have HS1:=Lib.hid fun wx (hb : Below w.heap.size w wx) => spanOf_any s1 n1 c1 r.src wx (hA.r1.below hb) hA.l1 (by have:=hll.1;rw [hA.l1] at this;omega) hok.v1
   have HS2:=Lib.hid fun wx (hb : Below w.heap.size w wx) => spanOf_any s2 n2 c2 r.dst wx (hA.r2.below hb) hA.l2 (by have:=hll.2.1;rw [hA.l2] at this;omega) hok.v2
   have HS3:=Lib.hid fun wx (hb : Below w.heap.size w wx) => clone_po s3 n3 c3 r.po wx (hA.r3.below hb) hA.l3 m3
   have e1 : jn (r.src.map spP) = spn r.src:=rfl
   have e2 : jn (r.dst.map spP) = spn r.dst:=rfl
   rw [e1] at HS1
   rw [e2] at HS2
   have Hb1 : Hid ((spn r.src).length ≤ 100000):=Lib.hid (by have:=spn_len r.src;have:=hll.1;omega)
   have Hb2 : Hid ((spn r.dst).length ≤ 100000):=Lib.hid (by have:=spn_len r.dst;have:=hll.2.1;omega)
   have Hb3 : Hid (r.po.length ≤ 100000):=Lib.hid (by have:=hll.2.2;omega)
   obtain ⟨rp,hrp⟩ : ∃ rp,r.p = rp:=⟨_,rfl⟩
   have Hrp:=Lib.hid hrp
   rw [hrp] at k0
   clear hr hS hA m1 m2 m3 hg hok hll e1 e2 hrp
   have HB1 : Hid (Below w.heap.size w (wr.alloc (.cells #[.int .i64 rp, .slice s1 n1 c1, .slice s2 n2 c2, .slice s3 n3 c3] 71 (0,0)))):=Lib.hid (Below.alloc HB.out HB.out.size _)
   have HP1 : Hid (Blk (wr.alloc (.cells #[.int .i64 rp, .slice s1 n1 c1, .slice s2 n2 c2, .slice s3 n3 c3] 71 (0,0))) wr.heap.size 71 #[.int .i64 rp, .slice s1 n1 c1, .slice s2 n2 c2, .slice s3 n3 c3]):=Lib.hid (Blk.new wr _ _)
   have HO1 : Hid (FwO (wr.alloc (.cells #[.int .i64 rp, .slice s1 n1 c1, .slice s2 n2 c2, .slice s3 n3 c3] 71 (0,0))) w.heap.size u3 (L.take k)):=Lib.hid (HO.out.later (below_alloc (Below.refl _ _) _))
   go_upto_region 5 with fail
   generalize wr.alloc (.cells #[.int .i64 rp, .slice s1 n1 c1, .slice s2 n2 c2, .slice s3 n3 c3] 71 (0,0)) = w3 at *
   generalize wr.heap.size = bx at *
   clear HB HO k0 k1 k2 k3
   have d0:=HP1.out.cell 0
   have d1:=HP1.out.cell 1
   have d2:=HP1.out.cell 2
   have d3:=HP1.out.cell 3
   simp at d0 d1 d2 d3
   have l0:=Later.cell_of d0
   have l1:=Later.cell_of d1
   have l2:=Later.cell_of d2
   have l3:=Later.cell_of d3
   refine wp_region_inv 14 0 (rwR bx u3 r (.slice s1 n1 c1) (.slice s2 n2 c2) (.slice s3 n3 c3)) (fun _ wx => Below w3.heap.size w3 wx) (fun u v => Below u.heap.size u v) (fun _ => 0)
    (by kernel_rfl) (by kernel_rfl) (by decide) rwR_keep (below_drew (Below.refl _ _)) ?hX
   case' hX => (apply Exists.intro;refine ⟨fun T => ?hA,?hob,?hend⟩)
   case hA =>
    simp only [setAll,List.take_succ_cons,List.take_zero,Act.put,List.setIfInBounds_toArray,List.set_cons_succ,List.set_cons_zero,Nat.reduceAdd]
    exact rfl
   case hob =>
    clear HO1 HP1 d0 d1 d2 d3 HT1
    go_light
    refine ⟨?_,?_,?_,?_,?_,?_,?_,?_,?_,?_,?_,?_,?_,?_,trivial⟩
    all_goals (intro T wx n0 hC hn hp;dsimp only at hn ⊢;unfold Op1)
    ·go_simp
     exact ⟨rfl,Below.refl _ _⟩
    ·go_simp
     exact ⟨rfl,Below.refl _ _⟩
    ·obtain ⟨h0, -⟩:=hp
     have h0 : T 1 = .pointer (some ⟨bx,0,none⟩):=h0
     have e0:=l0 ⟨wx,hC⟩
     simp only at e0
     go_simp
     exact ⟨by show _ = _;rw [Hrp.out],Below.refl _ _⟩
    ·go_simp
     exact ⟨rfl,Below.refl _ _⟩
    ·obtain ⟨h0, -⟩:=hp
     have h0 : T 3 = .pointer (some ⟨bx,1,none⟩):=h0
     have e0:=l1 ⟨wx,hC⟩
     simp only at e0
     go_simp
     exact ⟨rfl,Below.refl _ _⟩
    ·obtain ⟨h0, -⟩:=hp
     have h0 : T 4 = .slice s1 n1 c1:=h0
     go_simp
     refine (HS1.out wx (HB1.out.trans (hC.mono HB1.out.size))).mono ?_
     rintro e w5 ⟨v,rfl,hO,hb⟩
     obtain ⟨a5,c5,rfl,_⟩:=hO.form
     exact ⟨_,rfl,⟨_,_,rfl,hO.rdT⟩,hC.trans (hb.mono hC.size),hb⟩
    ·go_simp
     exact ⟨rfl,Below.refl _ _⟩
    ·obtain ⟨h0, -⟩:=hp
     have h0 : T 6 = .pointer (some ⟨bx,2,none⟩):=h0
     have e0:=l2 ⟨wx,hC⟩
     simp only at e0
     go_simp
     exact ⟨rfl,Below.refl _ _⟩
    ·obtain ⟨h0, -⟩:=hp
     have h0 : T 7 = .slice s2 n2 c2:=h0
     go_simp
     refine (HS2.out wx (HB1.out.trans (hC.mono HB1.out.size))).mono ?_
     rintro e w5 ⟨v,rfl,hO,hb⟩
     obtain ⟨a5,c5,rfl,_⟩:=hO.form
     exact ⟨_,rfl,⟨_,_,rfl,hO.rdT⟩,hC.trans (hb.mono hC.size),hb⟩
    ·go_simp
     exact ⟨rfl,Below.refl _ _⟩
    ·obtain ⟨h0, -⟩:=hp
     have h0 : T 9 = .pointer (some ⟨bx,3,none⟩):=h0
     have e0:=l3 ⟨wx,hC⟩
     simp only at e0
     go_simp
     exact ⟨rfl,Below.refl _ _⟩
    ·obtain ⟨h0, -⟩:=hp
     have h0 : T 10 = .slice s3 n3 c3:=h0
     go_simp
     refine (HS3.out wx (HB1.out.trans (hC.mono HB1.out.size))).mono ?_
     rintro e w5 ⟨v,rfl,hO,hb⟩
     obtain ⟨a5,c5,rfl,_⟩:=hO.form
     exact ⟨_,rfl,⟨_,_,rfl,hO.rdT⟩,hC.trans (hb.mono hC.size),hb⟩
    ·obtain ⟨h0,h1,h2,h3, -⟩:=hp
     have h0 : T 2 = .int .i64 r.p:=h0
     obtain ⟨a1,x1,h1,q1⟩ : ∃ ad c,T 5 = .slice ad (spn r.src).length c ∧ RdT layRg wx ad (spn r.src):=h1
     obtain ⟨a2,x2,h2,q2⟩ : ∃ ad c,T 8 = .slice ad (spn r.dst).length c ∧ RdT layRg wx ad (spn r.dst):=h2
     obtain ⟨a3,x3,h3,q3⟩ : ∃ ad c,T 11 = .slice ad r.po.length c ∧ RdT layPo wx ad r.po:=h3
     have HF : Hid (FwcT wx r (r.p,(a1,(spn r.src).length,x1),(a2,(spn r.dst).length,x2),(a3,r.po.length,x3))):=Lib.hid ⟨rfl,q1,q2,q3,rfl,rfl,rfl,Hb1.out,Hb2.out,Hb3.out⟩
     clear q1 q2 q3
     go_simp
     exact ⟨⟨_,rfl,HF.out⟩,Below.refl _ _⟩
    ·obtain ⟨h0, -⟩:=hp
     obtain ⟨x,h0,q⟩ : ∃ x,T 12 = .agg (layFw.enc x).toArray ∧ FwcT wx r x:=h0
     have hx : (layFw.enc x).toArray = #[.int .i64 x.1, .slice x.2.1.1 x.2.1.2.1 x.2.1.2.2, .slice x.2.2.1.1 x.2.2.1.2.1 x.2.2.1.2.2, .slice x.2.2.2.1 x.2.2.2.2.1 x.2.2.2.2.2]:=rfl
     rw [hx] at h0
     have HF:=Lib.hid q
     clear q
     go_simp
     refine ⟨⟨wx.heap.size,x,rfl,Blk.new wx _ _,?_⟩,below_alloc hC _,below_alloc (Below.refl _ _) _⟩
     exact HF.out.keep (S:=[]) (KeepT.of_below (below_alloc (Below.refl _ _) _)) (by simp) (by simp)
   case hend =>
    intro T w4 ⟨n0,hn0,hb⟩ hR
    have hT0 : T 0 = u3:=hR 0 (by omega)
    obtain ⟨B,x,hT6,hBl,hF⟩:=hR 13 (by omega)
    have HO4:=Lib.hid (HO1.out.later hb)
    have HB4:=Lib.hid (HB1.out.trans (hb.mono HB1.out.size))
    have HBl:=Lib.hid hBl
    have HF:=Lib.hid hF
    clear hR hb hBl hF HO1 HB1 HP1 d0 d1 d2 d3 l0 l1 l2 l3
    obtain ⟨C,hO,hCl,hCr⟩:=HO4.out
    have HCl:=Lib.hid hCl
    have HCr:=Lib.hid hCr
    have HCO:=Lib.hid hO
    clear hO hCl hCr HO4
    simp only [List.drop_succ_cons,List.drop_zero]
    refine wpList_app (c:=1) fwE rfl (.tmp 12) (.tmp 25) rfl ?hs HCO.out ?hx (src_blk layFw x HBl.out rfl) ?c1 ?c2 ?c3 ?c4 ?_
    case hs => exact hT0
    case hx => exact hT6
    case c1 => exact layFw.one x
    case c2 => unfold maxLen;rw [HCl.out,HlT.out];omega
    case c3 => rw [HCl.out,HlT.out];omega
    case c4 => exact HB4.out.size
    intro v' w' hO hG
    have HO' : Hid (FwO w' w.heap.size v' (L.take (k + 1))):=Lib.hid (by rw [HT1.out];exact FwO.snoc HCO.out HCl.out HCr.out HF.out hG (OwnK.snoc hO))
    have HB' : Hid (Below w.heap.size w w'):=Lib.hid (HB4.out.trans (hG.below HB4.out.size (own_base HCO.out)))
    clear hO hG HF HBl HCO HCl HCr
    go_wp2
    exact ⟨⟨k + 1,by omega,by go_num,HO',HB'⟩,by simp [intOf];omega⟩
  ·obtain rfl : k = n:=by omega
   have HO2 : Hid (FwO wr w.heap.size u3 L):=Lib.hid (by have:=HO.out;rwa [List.take_of_length_le (by have:=Hn.out;omega)] at this)
   go_wp2_with fail
   go_ret
   exact ⟨_,rfl,HO2.out,HB.out⟩
end Go.Proofs.YthebgfnaomgcnaaGreat
