/-
  The address behind another one: span.Next.
  Slices that a call owns, and slices that can be read: append, for every element type. Lemmas of this claim's own.
  Rows of structs, whatever their element: how they lie, what a call owns of them, how they are read.
  What stays when blocks of some types alone change: rows that can be read, of a type that is not among them.
  What stays while the stream moves on, and while cells of a block are set.
  Flows: view.FlowFault and the reference's FlowFault are the same function; Back and BackOf.
  The sum of bytes: filter.Sum and the reference's CheckSumOf are the same function of the bytes.
  The last of the law's marks: filtered is true.
-/
import Derived.Test.YthebgfnaomgcnaaGreatFT4
import Derived.Laws.Externs
import Derived.Test.YthebgfnaomgcnaaGreatFT1
import Derived.Maps.AppendAt
import Derived.Lib.Hide
import Derived.Sort.Grow
set_option linter.unusedVariables false
set_option maxRecDepth 100000
set_option maxHeartbeats 1000000
namespace Go.Proofs.YthebgfnaomgcnaaGreat
open Go.RowKit Go
def topN (x : Nat) : Nat := fil x (LN x)
theorem top_val {x : Nat} (h : VN x) : topN x = if sixN x = true then 2 ^ 129 - 1 else 2 ^ 32 - 1 := by
 unfold topN fil LN sixN
 rcases h with h | ⟨h1,h2⟩
 ·have : ¬ 2 ^ 128 ≤ x := by
   have : (2 : Nat) ^ 32 ≤ 2 ^ 128 := by decide
   omega
  rw [if_neg this,decide_eq_false this,if_neg (by decide),Nat.mod_eq_of_lt h]
  omega
 ·rw [if_pos h1,decide_eq_true h1,if_pos rfl]
  have e : x % 2 ^ 128 = x - 2 ^ 128 := by
   rw [Nat.mod_eq_sub_mod h1,Nat.mod_eq_of_lt (by omega)]
  rw [e]
  omega
theorem le_top {x : Nat} (h : VN x) : x ≤ topN x := by
 rw [top_val h]
 rcases h.cases with ⟨a,_,_,d⟩ | ⟨a,b,c,d⟩
 ·rw [a,if_neg (by decide)];omega
 ·rw [a,if_pos rfl]
  rcases h with h | ⟨_,h⟩
  ·have : (2 : Nat) ^ 32 ≤ 2 ^ 129 := by decide
   omega
  ·omega
theorem next_num {x : Nat} (h : VN x) (ht : x ≠ topN x) : VN (x + 1) ∧ sixN (x + 1) = sixN x ∧ hiN (x + 1) = hiN x + (loN x + 1) / 2 ^ 64 ∧ loN (x + 1) = (loN x + 1) % 2 ^ 64 ∧ hiN x + (loN x + 1) / 2 ^ 64 < 2 ^ 64 := by
 have hle := le_top h
 rw [top_val h] at ht hle
 unfold sixN at *
 unfold hiN loN
 rcases h with h | ⟨h1,h2⟩
 ·have n1 : ¬ 2 ^ 128 ≤ x := by omega
  rw [decide_eq_false n1,if_neg (by decide)] at ht hle
  have n2 : ¬ 2 ^ 128 ≤ x + 1 := by omega
  rw [decide_eq_false n1,decide_eq_false n2]
  refine ⟨.inl (by omega),rfl,by omega,by omega,by omega⟩
 ·rw [decide_eq_true h1,if_pos rfl] at ht hle
  rw [decide_eq_true h1,decide_eq_true (show 2 ^ 128 ≤ x + 1 by omega)]
  refine ⟨.inr ⟨by omega,by omega⟩,rfl,by omega,by omega,by omega⟩
theorem aN_same {x y : Nat} (hx : VN x) (hy : VN y) : (((sixN x,((hiN x : Nat) : Int),((loN x : Nat) : Int)) : Bool × Int × Int) = (sixN y,((hiN y : Nat) : Int),((loN y : Nat) : Int))) ↔ x = y := by
 constructor
 ·intro h
  have h1 : sixN x = sixN y := congrArg (·.1) h
  have h2 : ((hiN x : Nat) : Int) = ((hiN y : Nat) : Int) := congrArg (·.2.1) h
  have h3 : ((loN x : Nat) : Int) = ((loN y : Nat) : Int) := congrArg (·.2.2) h
  exact aN_inj hx hy h1 (by omega) (by omega)
 ·rintro rfl;rfl
theorem aN_eql {x y : Nat} (hx : VN x) (hy : VN y) (w : World) : (binOp .eql 49 (.agg (aN x)) (.agg (aN y))).run Tryz.prog w = .ok (.bool (decide (x = y))) w := by
 unfold aN
 rw [addr_eql,decide_eq_decide.2 (aN_same hx hy)]
/-! ### Contracts on numbers -/
theorem spanCompareN {x y : Nat} (w : World) (hx : VN x) (hy : VN y) : Calls Tryz.prog 126 #[.agg (aN x), .agg (aN y)] w (RetD (.int .i64 (cN x y)) w) := by
 have := spanCompareD_any (sixN x) (hiN x) (loN x) (sixN y) (hiN y) (loN y) w (hiN_u x) (loN_u x) (hiN_u y) (loN_u y)
 rw [num_aN hx,num_aN hy] at this
 exact this
theorem maskedN {x n : Nat} (w : World) (hx : VN x) (hn : n ≤ LN x) : Calls Tryz.prog 134 #[.agg (aN x), .int .i64 (n : Int)] w (Ret (.agg (aN (clr x (LN x - n)))) w) := by
 have hn' : n ≤ lenN (sixN x) := by rw [← LN_six];exact hn
 have := masked_any (sixN x) (hiN x) (loN x) n w (hiN_u x) (loN_u x) hn'
 have e := aN_eq (mask_aok (ok_aN hx) hn')
 rw [mask_num (ok_aN hx),num_aN hx, ← LN_six] at e
 unfold vA at this
 rw [← e] at this
 exact this
theorem filledN {x n : Nat} (w : World) (hx : VN x) (hn : n ≤ LN x) : Calls Tryz.prog 135 #[.agg (aN x), .int .i64 (n : Int)] w (Ret (.agg (aN (fil x (LN x - n)))) w) := by
 have hn' : n ≤ lenN (sixN x) := by rw [← LN_six];exact hn
 have := filled_any (sixN x) (hiN x) (loN x) n w (hiN_u x) (loN_u x) hn'
 have e := aN_eq (fill_aok (ok_aN hx) hn')
 rw [fill_num (ok_aN hx),num_aN hx, ← LN_six] at e
 unfold vA at this
 rw [← e] at this
 exact this
theorem lengthN (x : Nat) (w : World) : Calls Tryz.prog 133 #[.agg (aN x)] w (Ret (.int .i64 ((LN x : Nat) : Int)) w) := by
 have := length_any (sixN x) (hiN x) (loN x) w
 rw [← LN_six] at this
 exact this
theorem lengthQN (x : Nat) (w : World) : Calls Tryz.prog 115 #[.agg (aN x)] w (Ret (.int .i64 ((LN x : Nat) : Int)) w) := by
 have := lengthQ_any (sixN x) (hiN x) (loN x) w
 rw [← LN_six] at this
 exact this
def pN (x : Nat) (n : Int) : Array Value := #[.bool (sixN x), .int .u64 ((hiN x : Nat) : Int), .int .u64 ((loN x : Nat) : Int), .int .i64 n]
theorem spanLastN {x n : Nat} (w : World) (hx : VN x) (hn : n ≤ LN x) : Calls Tryz.prog 112 #[.agg (pN x (n : Int))] w (Ret (.agg (aN (fil x (LN x - n)))) w) := by
 have hn' : n ≤ lenN (sixN x) := by rw [← LN_six];exact hn
 have := spanLast_any (sixN x) (hiN x) (loN x) n w (hiN_u x) (loN_u x) hn'
 have e := aN_eq (fill_aok (ok_aN hx) hn')
 rw [fill_num (ok_aN hx),num_aN hx, ← LN_six] at e
 unfold vA at this
 rw [← e] at this
 exact this
theorem add64_one (x : Nat) (w : World) : (callFunc 152 #[.int .u64 (x : Int), .int .u64 1, .int .u64 0]).run Tryz.prog w = .ok (.value (.tuple #[.int .u64 (((x + 1) % 18446744073709551616 : Nat) : Int), .int .u64 (((x + 1) / 18446744073709551616 : Nat) : Int)])) w := by
 rw [run_callFunc_extern Tryz.func152 (by kernel_rfl) (by kernel_rfl) (by kernel_rfl) (e := add64Entry) (by kernel_rfl),run_add64 x 1 0 (by omega) (by omega) (by omega) (by omega)]
 simp only [Result.andThen]
 congr 5 <;> omega
theorem nextN {x : Nat} (w : World) (hx : VN x) : Calls Tryz.prog 136 #[.agg (aN x)] w (Ret (.tuple #[.agg (aN (if x = topN x then x else x + 1)), .bool (!decide (x = topN x))]) w) := by
 have HF := Lib.hid fun wx => filledN (n := 0) wx hx (Nat.zero_le _)
 have hE := fun w => aN_eql hx (VN_fil hx (Nat.zero_le _)) w
 rw [Nat.sub_zero] at HF hE
 have HN := Lib.hid (fun h => next_num hx h)
 unfold topN at HN ⊢
 obtain ⟨T,hT⟩ : ∃ T,fil x (LN x) = T := ⟨_,rfl⟩
 rw [hT] at HF hE HN ⊢
 have HA' : Blk ((w.alloc (.cells (aN x) 49 (0,0))).alloc (.cells #[.bool false, .int .u64 0, .int .u64 0] 49 (0,0))) (w.heap.size) 49 (aN x) := (Blk.new w 49 (aN x)).alloc _
 have HR' : Blk ((w.alloc (.cells (aN x) 49 (0,0))).alloc (.cells #[.bool false, .int .u64 0, .int .u64 0] 49 (0,0))) (w.heap.size + 1) 49 #[.bool false, .int .u64 0, .int .u64 0] := by
  have this := Blk.new (w.alloc (.cells (aN x) 49 (0,0))) 49 #[.bool false, .int .u64 0, .int .u64 0]
  rw [World.size_alloc] at this
  exact this
 have HA := Lib.hid HA'
 have HR := Lib.hid HR'
 have HB : Hid (Below w.heap.size w ((w.alloc (.cells (aN x) 49 (0,0))).alloc (.cells #[.bool false, .int .u64 0, .int .u64 0] 49 (0,0)))) := Lib.hid (below_alloc (below_alloc (Below.refl _ _) _) _)
 obtain ⟨V,hV⟩ : ∃ V,aN (if x = T then x else x + 1) = V := ⟨_,rfl⟩
 have HV0 : Hid (x = T → V = aN x) := Lib.hid fun h => by rw [← hV,if_pos h]
 have HX1 : Hid (x ≠ T → V = #[.bool (sixN x), .int .u64 ((hiN x + (loN x + 1) / 2 ^ 64 : Nat) : Int), .int .u64 (((loN x + 1) % 2 ^ 64 : Nat) : Int)] ∧ hiN x + (loN x + 1) / 2 ^ 64 < 2 ^ 64) := Lib.hid fun h => by
  obtain ⟨_,a,b,c,d⟩ := HN.out h
  refine ⟨?_,d⟩
  rw [← hV,if_neg h]
  unfold aN
  rw [a,b,c]
 rw [hV]
 clear hV
 have hl := loN_u x
 have hh := hiN_u x
 unfold U64N at hl hh
 have hAdd := add64_one (loN x)
 clear HA' HR' hT hx HN
 generalize hAT : aN T = tv at *
 clear hAT
 unfold aN at HA HR HB HF hE HV0 ⊢
 generalize sixN x = sx at *
 generalize hiN x = hx at *
 generalize loN x = lx at *
 go_enter Tryz.func136,Tryz.ntmps136
 go_upto_region 1 with fail
 generalize ((w.alloc (.cells #[.bool sx, .int .u64 (hx : Int), .int .u64 (lx : Int)] 49 (0,0))).alloc (.cells #[.bool false, .int .u64 0, .int .u64 0] 49 (0,0))) = w1 at *
 have p0 := HA.out.cell 0
 have p1 := HA.out.cell 1
 have p2 := HA.out.cell 2
 simp at p0 p1 p2
 have l0 := Later.cell_of p0
 have l1 := Later.cell_of p1
 have l2 := Later.cell_of p2
 have hF := fun m : Later w1 => Calls.later m (HF.out m.1)
 refine wp_region_later (by kernel_rfl) (by kernel_rfl) ?_
 repeat (go_big_quiet_step ((go_at_call 135;exact hF _)))
 refine wpQuiet_nil ?_
 rintro w2 ⟨n2,hn2⟩
 have hb : Below w1.heap.size w1 w2 := by rw [hn2];exact n2.2
 clear hn2 n2 hF HF l0 l1 l2 p0 p1 p2
 have HA2 := Lib.hid (HA.out.below hb HA.out.lt)
 have HR2 := Lib.hid (HR.out.below hb HR.out.lt)
 have HB2 := Lib.hid (HB.out.trans (hb.mono HB.out.size))
 clear hb HA HR HB
 have p0 := HA2.out.cell 0
 have p1 := HA2.out.cell 1
 have p2 := HA2.out.cell 2
 simp at p0 p1 p2
 have r0 := HR2.out.cell 0
 have r1 := HR2.out.cell 1
 have r2 := HR2.out.cell 2
 simp at r0 r1 r2
 have pf := HA2.out.free
 have rf := HR2.out.free
 by_cases hxT : x = T
 ·rw [decide_eq_true hxT] at hE
  have hv := HV0.out hxT
  have hd : (!decide (x = T)) = false := by rw [decide_eq_true hxT];rfl
  have HE := Lib.hid (And.intro hv hd)
  clear HX1 hAdd HV0 hv hd
  go_wp2_with fail
  refine bodyPost_ret (v := .tuple #[.agg #[.bool sx, .int .u64 (hx : Int), .int .u64 (lx : Int)], .bool false]) (by simp [results,Tryz.results136,go_sem,r0,r1,r2]) rfl ⟨by rw [HE.out.1,HE.out.2],?_⟩
  exact ((HB2.out.setCell (by simp) _).setCell (by simp) _).setCell (by simp) _
 ·rw [decide_eq_false hxT] at hE
  obtain ⟨hv,ed⟩ := HX1.out hxT
  have hd : (!decide (x = T)) = true := by rw [decide_eq_false hxT];rfl
  have c1 : (lx + 1) / 18446744073709551616 = (lx + 1) / 2 ^ 64 := rfl
  have c2 : (lx + 1) % 18446744073709551616 = (lx + 1) % 2 ^ 64 := rfl
  rw [c1,c2] at hAdd
  obtain ⟨C,hC⟩ : ∃ C,(lx + 1) / 2 ^ 64 = C := ⟨_,rfl⟩
  obtain ⟨L,hL⟩ : ∃ L,(lx + 1) % 2 ^ 64 = L := ⟨_,rfl⟩
  rw [hC] at hAdd ed hv
  rw [hL] at hAdd hv
  have HE := Lib.hid (And.intro hv hd)
  have e1 : (0 : Int) ≤ (hx : Int) + (C : Int) := by omega
  have e2 : (hx : Int) + (C : Int) ≤ 18446744073709551615 := by omega
  clear HX1 hC hL c1 c2 HV0 hl hh hv hd ed
  go_wp2_with fail
  refine bodyPost_ret (v := .tuple #[.agg #[.bool sx, .int .u64 ((hx + C : Nat) : Int), .int .u64 (L : Int)], .bool true]) (by simp [results,Tryz.results136,go_sem,r0,r1,r2]) rfl ⟨by rw [HE.out.1,HE.out.2],?_⟩
  exact ((((HB2.out.setCell (by simp) _).setCell (by simp) _).setCell (by simp) _).setCell (by simp) _).setCell (by simp) _
structure EI (P : Program) (t e : TypeId) (size bytes : Nat) : Prop where
 ht : P.underlying t = some (.slice e)
 hi : ∃ i z,P.info? e = some i ∧ i.zero = some z ∧ i.size = size ∧ i.bytes = bytes ∧ z.cells.size = size
 hsz : 0 < size
theorem EI.mk' {P : Program} {t e : TypeId} {size bytes : Nat} {z : Value} (ht : P.underlying t = some (.slice e)) (h : (P.info? e).map (fun i => (i.zero,i.size,i.bytes)) = some (some z,size,bytes)) (hz : z.cells.size = size) (hsz : 0 < size) : EI P t e size bytes := by
 obtain ⟨i,h0,h1,h2,h3⟩ := info_parts h
 exact ⟨ht,⟨i,z,h0,h1,h2,h3,hz⟩,hsz⟩
def Src (w : World) (ad : Option Addr) (m size : Nat) (news : List Value) : Prop :=
 news.length = m * size ∧ ∀ j u,news[j]? = some u → ∃ a,ad = some a ∧ a.block < w.heap.size ∧ w.cell? (a.add j) = some u
structure Grew (w w' : World) (v v' : Value) : Prop where
 g : w.grownBy w' v.ownBlock
 o : v'.ownBlock = v.ownBlock ∨ ∃ k,v'.ownBlock = some k ∧ w.heap.size ≤ k
theorem Grew.refl (w : World) (v : Value) : Grew w w v v := ⟨World.grownBy.refl w _, .inl rfl⟩
theorem Grew.trans {a b c : World} {u v x : Value} (h : Grew a b u v) (k : Grew b c v x) : Grew a c u x := by
 refine ⟨⟨k.g.os.trans h.g.os,k.g.tape.trans h.g.tape,k.g.output.trans h.g.output,Nat.le_trans h.g.size k.g.size,fun i hi hne => ?_⟩,?_⟩
 ·refine (k.g.block i (Nat.lt_of_lt_of_le hi h.g.size) ?_).trans (h.g.block i hi hne)
  rcases h.o with e | ⟨j,e,hj⟩
  ·rw [e];exact hne
  ·rw [e];intro e2;injection e2 with e2;omega
 ·rcases k.o with e | ⟨j,e,hj⟩
  ·rcases h.o with e2 | ⟨j,e2,hj⟩
   ·exact .inl (e.trans e2)
   ·exact .inr ⟨j,e.trans e2,hj⟩
  ·exact .inr ⟨j,e,Nat.le_trans h.g.size hj⟩
theorem Grew.alloc {a b : World} {u v : Value} (h : Grew a b u v) (o : Obj) : Grew a (b.alloc o) u v :=
 ⟨h.g.trans (World.grownBy_alloc _ _ _),h.o⟩
theorem Grew.allocFirst {a b : World} {u v : Value} {o : Obj} (h : Grew (a.alloc o) b u v) : Grew a b u v := by
 refine ⟨(World.grownBy_alloc a o _).trans h.g,?_⟩
 rcases h.o with e | ⟨k,e,hk⟩
 ·exact .inl e
 ·exact .inr ⟨k,e,by simp at hk;omega⟩
theorem Grew.below {a b : World} {u v : Value} {B : Nat} (h : Grew a b u v) (hB : B ≤ a.heap.size) (hu : ∀ k,u.ownBlock = some k → B ≤ k) : Below B a b :=
 (Below.refl B a).grown h.g hB hu
theorem own_form {w : World} {base : Nat} {e : TypeId} {size : Nat} {v : Value} {n : Nat} {xs : List Value} (h : w.ownsRow base e size v n xs) : ∃ ad c,v = .slice ad n c ∧ Src w ad n size xs ∧ n ≤ c ∧ c ≤ maxLen := by
 rcases h.2 with ⟨rfl,rfl⟩ | ⟨g,cap,cur,rfl,hb,hg,hn,hc,hs,ht⟩
 ·have hx : xs = [] := List.eq_nil_of_length_eq_zero (by simpa using h.1)
  subst hx
  exact ⟨none,0,rfl,⟨by simp,fun j u hu => by simp at hu⟩,Nat.le_refl _,by unfold maxLen;omega⟩
 ·exact ⟨_,cap,rfl,⟨h.1,fun j u hu => ⟨_,rfl,lt_of_block hg,h.cells (g := g) rfl j u hu⟩⟩,hn,hc⟩
theorem own_base {w : World} {base : Nat} {e : TypeId} {size : Nat} {v : Value} {n : Nat} {xs : List Value} (h : w.ownsRow base e size v n xs) : ∀ k,v.ownBlock = some k → base ≤ k := fun k hk => (h.lt k hk).1
theorem own_lt {w : World} {base : Nat} {e : TypeId} {size : Nat} {v : Value} {n : Nat} {xs : List Value} (h : w.ownsRow base e size v n xs) : ∀ k,v.ownBlock = some k → k < w.heap.size := fun k hk => (h.lt k hk).2
theorem own_weak {w : World} {base base' : Nat} {e : TypeId} {size : Nat} {v : Value} {n : Nat} {xs : List Value} (h : w.ownsRow base e size v n xs) (hb : base' ≤ base) : w.ownsRow base' e size v n xs := by
 refine ⟨h.1,?_⟩
 rcases h.2 with h2 | ⟨g,cap,cur,hv,hg,r⟩
 ·exact .inl h2
 ·exact .inr ⟨g,cap,cur,hv,Nat.le_trans hb hg,r⟩
theorem own_below {w w' : World} {base B : Nat} {e : TypeId} {size : Nat} {v : Value} {n : Nat} {xs : List Value} (h : w.ownsRow base e size v n xs) (hb : Below B w w') (hB : ∀ k,v.ownBlock = some k → k < B) : w'.ownsRow base e size v n xs := by
 refine ⟨h.1,?_⟩
 rcases h.2 with h2 | ⟨g,cap,cur,rfl,hg,hh,r⟩
 ·exact .inl h2
 ·exact .inr ⟨g,cap,cur,rfl,hg,(hb.block g (hB g rfl)).trans hh,r⟩
theorem own_later {w w' : World} {base : Nat} {e : TypeId} {size : Nat} {v : Value} {n : Nat} {xs : List Value} (h : w.ownsRow base e size v n xs) (hb : Below w.heap.size w w') : w'.ownsRow base e size v n xs := own_below h hb fun k hk => own_lt h k hk
theorem src_later {w w' : World} {ad : Option Addr} {m size : Nat} {news : List Value} (h : Src w ad m size news) (hb : Below w.heap.size w w') : Src w' ad m size news :=
 ⟨h.1,fun j u hu => by
  obtain ⟨a,e,hlt,hc⟩ := h.2 j u hu
  have hlt' : (a.add j).block < w.heap.size := by unfold Addr.add;split <;> exact hlt
  exact ⟨a,e,Nat.lt_of_lt_of_le hlt hb.size,(hb.cell hlt').trans hc⟩⟩
section
variable {P : Program}
theorem run_append_src {t e : TypeId} {size bytes : Nat} (E : EI P t e size bytes) (w : World) (base : Nat) (ty : TypeId) (v : Value) (n : Nat) (xs : List Value) (hown : w.ownsRow base e size v n xs)
  (ad : Option Addr) (m c : Nat) (news : List Value) (hsrc : Src w ad m size news) (h1 : ∀ u ∈ news,u.oneCell' = true)
  (h63 : n + m ≤ maxLen) (hbytes : (n + m) * bytes ≤ 140737488355328) (hbase : base ≤ w.heap.size) :
  ∃ v' w',(Builtin.append_ #[t,t] ty #[v, .slice ad m c]).run P w = .ok v' w' ∧ w'.ownsRow base e size v' (n + m) (xs ++ news) ∧ Grew w w' v v' := by
 obtain ⟨ht,⟨i,z,hi,hz,hs,hb,hzs⟩,hsz⟩ := E
 cases ad with
 | some a =>
   have hcells : ∀ j u,news[j]? = some u → w.cell? (a.add j) = some u := fun j u hu => by
    obtain ⟨a',e,_,hc⟩ := hsrc.2 j u hu
    injection e with e;subst e;exact hc
   obtain ⟨v',w',hr,h2,h3,_,h5⟩ := run_append_own_at (P := P) w base t ty e i z size bytes ht hi hz hs hb hzs hsz v n xs hown a m c news hsrc.1 hcells h1 h63 hbytes hbase
   exact ⟨v',w',hr,h2,h3,h5.imp id fun h => ⟨_,h,Nat.le_refl _⟩⟩
 | none =>
   have hn : news = [] := by
    cases news with
    | nil => rfl
    | cons x l => obtain ⟨a,e,_⟩ := hsrc.2 0 x rfl;cases e
   subst hn
   have hm : m = 0 := by
    have h0 : m * size = 0 := by have := hsrc.1;simpa using this.symm
    rcases Nat.mul_eq_zero.1 h0 with h | h <;> omega
   subst hm
   have hr : (Builtin.append_ #[t,t] ty #[v, .slice none 0 c]).run P w = .ok v w := by
    rcases hown.2 with ⟨rfl,rfl⟩ | ⟨g,cap,cur,rfl,_,_,hnc,_⟩
    ·simp [Builtin.append_,run_underlying ht,sizeOf,typeInfo,hi,Builtin.lenOf,Builtin.firstCells]
    ·simp [Builtin.append_,run_underlying ht,sizeOf,typeInfo,hi,Builtin.lenOf,Builtin.firstCells,hnc,storeCells]
   exact ⟨v,w,hr,by simpa using hown,Grew.refl w v⟩
theorem wpList_app {t e : TypeId} {size bytes : Nat} (E : EI P t e size bytes) {w : World} {ops : Array Oper} {rest : List Oper} {o : Oper} {a : Act} {Q : Exit → Act → World → Prop} (hgd : o.guard = none) (s x : Operand)
  (ho : o.op = .call { callee := .builtin .append,args := #[s,x],argTypes := #[t,t] })
  {base : Nat} {v : Value} {n : Nat} {xs : List Value} (hs : a.eval s = v) (hown : w.ownsRow base e size v n xs)
  {ad : Option Addr} {m c : Nat} {news : List Value} (hx : a.eval x = .slice ad m c) (hsrc : Src w ad m size news) (h1 : ∀ u ∈ news,u.oneCell' = true)
  (h63 : n + m ≤ maxLen) (hbytes : (n + m) * bytes ≤ 140737488355328) (hbase : base ≤ w.heap.size)
  (h : ∀ v' w',w'.ownsRow base e size v' (n + m) (xs ++ news) → Grew w w' v v' → wpList P ops Q rest (a.put o.dst v') w') :
  wpList P ops Q (o :: rest) a w := by
 refine wpList_plain hgd fun K hK => ?_
 obtain ⟨v',w',hr,h2,h3⟩ := run_append_src E w base o.type v n xs hown ad m c news hsrc h1 h63 hbytes hbase
 unfold Oper.wp execOp
 simp only [ho,resolve,invoke,builtin,Sem.run_bind,Sem.run_pure,Result.andThen_ok,List.map_toArray,List.map_cons,List.map_nil,hs,hx,hr]
 exact hK _ _ (h v' w' h2 h3)
end
structure Lay (α : Type) where
 enc : α → List Value
 K : Nat
 ty : TypeId
 pos : 0 < K
 len : ∀ x,(enc x).length = K
 one : ∀ x, ∀ v ∈ enc x,v.oneCell' = true
section
variable {α : Type} {E : Lay α}
def Lay.all (E : Lay α) (L : List α) : List Value := L.flatMap E.enc
theorem Lay.all_len (E : Lay α) : ∀ L : List α,(E.all L).length = L.length * E.K
 | [] => by simp [Lay.all]
 | x :: L => by
   have := E.all_len L
   simp only [Lay.all,List.flatMap_cons,List.length_append,E.len,List.length_cons] at this ⊢
   rw [Nat.add_mul,this];omega
theorem Lay.all_append (E : Lay α) (A B : List α) : E.all (A ++ B) = E.all A ++ E.all B := by simp [Lay.all]
theorem Lay.all_one (E : Lay α) (L : List α) : ∀ u ∈ E.all L,u.oneCell' = true := by
 intro u hu
 obtain ⟨x,_,hx⟩ := List.mem_flatMap.1 hu
 exact E.one x u hx
theorem Lay.all_get (E : Lay α) : ∀ (L : List α) (i j : Nat) (x : α),L[i]? = some x → j < E.K → (E.all L)[i * E.K + j]? = (E.enc x)[j]?
 | [],i,j,x,h,_ => by simp at h
 | y :: L,0,j,x,h,hj => by
   simp at h
   subst h
   rw [Nat.zero_mul,Nat.zero_add]
   show ((E.enc y) ++ E.all L)[j]? = _
   rw [List.getElem?_append_left (by rw [E.len];exact hj)]
 | y :: L,i + 1,j,x,h,hj => by
   have := E.all_get L i j x (by simpa using h) hj
   show ((E.enc y) ++ E.all L)[(i + 1) * E.K + j]? = _
   rw [List.getElem?_append_right (by rw [E.len,Nat.add_mul];omega),E.len,show (i + 1) * E.K + j - E.K = i * E.K + j by rw [Nat.add_mul];omega]
   exact this
theorem Lay.all_cut (E : Lay α) (L : List α) (t : Nat) (h : t < L.length * E.K) : ∃ x,L[t / E.K]? = some x ∧ (E.all L)[t]? = (E.enc x)[t % E.K]? := by
 have hi : t / E.K < L.length := (Nat.div_lt_iff_lt_mul E.pos).2 h
 refine ⟨L[t / E.K],List.getElem?_eq_getElem hi,?_⟩
 have := E.all_get L (t / E.K) (t % E.K) _ (List.getElem?_eq_getElem hi) (Nat.mod_lt _ E.pos)
 rwa [show t / E.K * E.K + t % E.K = t by rw [Nat.mul_comm];exact Nat.div_add_mod t E.K] at this
def OwnK (E : Lay α) (w : World) (base : Nat) (v : Value) (L : List α) : Prop := w.ownsRow base E.ty E.K v L.length (E.all L)
def RdK (E : Lay α) (w : World) (ad : Option Addr) (L : List α) : Prop :=
 ∀ (i : Nat) x,L[i]? = some x → ∃ g o,ad = some ⟨g,o,none⟩ ∧ g < w.heap.size ∧ ∀ j v,(E.enc x)[j]? = some v → w.cell? ⟨g,o + (i * E.K + j),none⟩ = some v
theorem RdK.below {w w' : World} {ad : Option Addr} {L : List α} (h : RdK E w ad L) (hb : Below w.heap.size w w') : RdK E w' ad L := fun i x hx => by
 obtain ⟨g,o,e,hg,hc⟩ := h i x hx
 exact ⟨g,o,e,Nat.lt_of_lt_of_le hg hb.size,fun j v hv => (hb.cell (p := ⟨g,o + (i * E.K + j),none⟩) hg).trans (hc j v hv)⟩
theorem RdK.nil (w : World) (ad : Option Addr) : RdK E w ad [] := fun i x hx => by simp at hx
theorem RdK.none_ {w : World} {L : List α} (h : RdK E w none L) : L = [] := by
 cases L with
 | nil => rfl
 | cons x L => obtain ⟨g,o,e,_⟩ := h 0 x rfl;cases e
theorem OwnK.nil (E : Lay α) (w : World) (base : Nat) : OwnK E w base (.slice none 0 0) [] := World.ownsRow_nil w base _ _
theorem OwnK.weak {w : World} {base base' : Nat} {v : Value} {L : List α} (h : OwnK E w base v L) (hb : base' ≤ base) : OwnK E w base' v L := own_weak h hb
theorem OwnK.later {w w' : World} {base : Nat} {v : Value} {L : List α} (h : OwnK E w base v L) (hb : Below w.heap.size w w') : OwnK E w' base v L := own_later h hb
theorem OwnK.alloc {w : World} {base : Nat} {v : Value} {L : List α} (h : OwnK E w base v L) (o : Obj) : OwnK E (w.alloc o) base v L := h.later (below_alloc (Below.refl _ _) _)
theorem OwnK.gen {w w' : World} {b B m : Nat} {v : Value} {L : List α} (h : OwnK E w B v L) (hg : Gen b w w' m) (hb : b < B) : OwnK E w' B v L :=
 World.ownsRow.kept h hg.g (by
  cases hv : v.ownBlock with
  | none => exact .inl rfl
  | some k => exact .inr (by have := own_base h k hv;simp;omega))
theorem ownK_empty (E : Lay α) (w : World) : OwnK E (w.alloc (.cells #[] E.ty (0,0))) w.heap.size (.slice (some ⟨w.heap.size,0,none⟩) 0 0) [] :=
 ⟨by simp [Lay.all], .inr ⟨w.heap.size,0, #[],rfl,Nat.le_refl _,heap_alloc_new w _,Nat.le_refl _,by unfold maxLen;omega,by simp,by simp [Lay.all]⟩⟩
theorem OwnK.snoc {w : World} {B : Nat} {v : Value} {L : List α} {x : α} (h : w.ownsRow B E.ty E.K v (L.length + 1) (E.all L ++ E.enc x)) : OwnK E w B v (L ++ [x]) := by
 show w.ownsRow _ _ _ _ _ _
 rw [List.length_append,E.all_append]
 simpa [Lay.all] using h
theorem OwnK.form {w : World} {B : Nat} {v : Value} {L : List α} (h : OwnK E w B v L) : ∃ ad c,v = .slice ad L.length c ∧ Src w ad L.length E.K (E.all L) ∧ L.length ≤ c ∧ c ≤ maxLen := own_form h
theorem OwnK.one {w : World} {B : Nat} {v : Value} {L : List α} (h : OwnK E w B v L) (hl : 1 ≤ L.length) :
  ∃ g c,v = .slice (some ⟨g,0,none⟩) L.length c ∧ B ≤ g ∧ g < w.heap.size ∧ L.length ≤ c ∧ c ≤ maxLen := by
 rcases h.2 with ⟨rfl,h0⟩ | ⟨g,cap,cur,rfl,hb,hg,hc,hm,hs,ht⟩
 ·omega
 ·exact ⟨g,cap,rfl,hb,lt_of_block hg,hc,hm⟩
theorem OwnK.block {w : World} {B g n c : Nat} {L : List α} (h : OwnK E w B (.slice (some ⟨g,0,none⟩) n c) L) : n = L.length ∧ B ≤ g ∧ n ≤ c ∧ c ≤ maxLen ∧ ∃ cur,w.heap[g]? = some (.cells cur E.ty (0,0)) ∧ cur.size = c * E.K ∧ cur.toList.take (L.length * E.K) = E.all L := by
 rcases h.2 with ⟨hv,_⟩ | ⟨g2,c2,cur,hv,hb,hg,hc,hm,hs,ht⟩
 ·cases hv
 ·simp at hv
  obtain ⟨rfl,rfl,rfl⟩ := hv
  exact ⟨rfl,hb,hc,hm,cur,hg,hs,ht⟩
theorem OwnK.frozen {w : World} {B g c n : Nat} {L : List α} (h : OwnK E w B (.slice (some ⟨g,0,none⟩) n c) L) (i : Nat) : w.frozen? ⟨g,i,none⟩ = false := by
 obtain ⟨_,_,_,_,cur,hg,_⟩ := h.block
 exact frozen_of_row w g i cur _ hg
theorem OwnK.get {w : World} {B g c n : Nat} {L : List α} (h : OwnK E w B (.slice (some ⟨g,0,none⟩) n c) L) {i j : Nat} {x : α} {v : Value} (hi : L[i]? = some x) (hv : (E.enc x)[j]? = some v) :
  w.cell? ⟨g,i * E.K + j,none⟩ = some v := by
 obtain ⟨_,_,_,_,cur,hg,hs,ht⟩ := h.block
 have hj : j < E.K := by rw [← E.len x];exact (List.getElem?_eq_some_iff.1 hv).1
 have h0 := E.all_get L i j x hi hj
 have hil := (List.getElem?_eq_some_iff.1 hi).1
 have hlt : i * E.K + j < L.length * E.K := by
  have := Nat.mul_le_mul_right E.K (Nat.succ_le_of_lt hil)
  rw [Nat.succ_eq_add_one,Nat.add_mul,Nat.one_mul] at this
  omega
 rw [cell_of_row w g _ _ _ _ hg]
 rw [← ht,List.getElem?_take,if_pos hlt,Array.getElem?_toList] at h0
 rw [h0,hv]
theorem OwnK.rd {w : World} {B n c : Nat} {ad : Option Addr} {L : List α} (h : OwnK E w B (.slice ad n c) L) : RdK E w ad L := fun i x hx => by
 have hi := (List.getElem?_eq_some_iff.1 hx).1
 obtain ⟨g,c',hv,_,hg,_⟩ := h.one (by omega)
 simp at hv
 obtain ⟨rfl,rfl,rfl⟩ := hv
 exact ⟨g,0,rfl,hg,fun j v hv => by rw [Nat.zero_add];exact h.get hx hv⟩
theorem RdK.src {w : World} {ad : Option Addr} {L : List α} (h : RdK E w ad L) : Src w ad L.length E.K (E.all L) := by
 refine ⟨E.all_len L,fun t u hu => ?_⟩
 have ht : t < L.length * E.K := by
  rw [← E.all_len];exact (List.getElem?_eq_some_iff.1 hu).1
 obtain ⟨x,hx,e⟩ := E.all_cut L t ht
 obtain ⟨g,o,had,hg,hc⟩ := h _ x hx
 refine ⟨_,had,hg,?_⟩
 have hadd : (⟨g,o,none⟩ : Addr).add t = ⟨g,o + t,none⟩ := by unfold Addr.add;split <;> simp_all
 rw [hadd]
 have := hc (t % E.K) u (by rw [← e];exact hu)
 rwa [show t / E.K * E.K + t % E.K = t by rw [Nat.mul_comm];exact Nat.div_add_mod t E.K] at this
theorem src_new (E : Lay α) (w : World) (x : α) (cs : Array Value) (t : TypeId) (h : cs = (E.enc x).toArray) : Src (w.alloc (.cells cs t)) (some ⟨w.heap.size,0,none⟩) 1 E.K (E.enc x) := by
 subst h
 refine ⟨by rw [E.len,Nat.one_mul],fun j u hu => ⟨_,rfl,by simp,?_⟩⟩
 have hadd : (⟨w.heap.size,0,none⟩ : Addr).add j = ⟨w.heap.size,j,none⟩ := by unfold Addr.add;split <;> simp_all
 rw [hadd,cell_of_row _ w.heap.size j _ _ _ (heap_alloc_new w _)]
 simpa using hu
theorem Lay.all_set (E : Lay α) : ∀ (L : List α) (i j : Nat) (x y : α) (v : Value),L[i]? = some x → j < E.K → E.enc y = (E.enc x).set j v → (E.all L).set (i * E.K + j) v = E.all (L.set i y)
 | [],i,j,x,y,v,h,_,_ => by simp at h
 | z :: L,0,j,x,y,v,h,hj,hy => by
   simp at h
   subst h
   rw [Nat.zero_mul,Nat.zero_add]
   show ((E.enc z) ++ E.all L).set j v = _
   rw [List.set_append_left _ _ (by rw [E.len];exact hj), ← hy]
   rfl
 | z :: L,i + 1,j,x,y,v,h,hj,hy => by
   have := E.all_set L i j x y v (by simpa using h) hj hy
   show ((E.enc z) ++ E.all L).set ((i + 1) * E.K + j) v = _
   rw [List.set_append_right _ _ (by rw [E.len,Nat.add_mul];omega),E.len,show (i + 1) * E.K + j - E.K = i * E.K + j by rw [Nat.add_mul];omega,this]
   rfl
theorem OwnK.setTo {w : World} {B g c n : Nat} {L : List α} (h : OwnK E w B (.slice (some ⟨g,0,none⟩) n c) L) {i j : Nat} {x y : α} {v : Value} (hx : L[i]? = some x) (hj : j < E.K) (hy : E.enc y = (E.enc x).set j v) :
  OwnK E (w.setCell ⟨g,i * E.K + j,none⟩ v) B (.slice (some ⟨g,0,none⟩) n c) (L.set i y) := by
 obtain ⟨rfl,hb,hc,hm,cur,hg,hs,ht⟩ := h.block
 refine ⟨by rw [E.all_len], .inr ⟨g,c,cur.setIfInBounds (i * E.K + j) v,by simp,hb,heap_setCell_same w g _ cur _ _ hg,by simpa using hc,hm,by simpa using hs,?_⟩⟩
 rw [Array.toList_setIfInBounds,List.take_set,List.length_set,ht,E.all_set _ _ _ _ _ _ hx hj hy]
end
def KeepT (S : List TypeId) (w w' : World) : Prop := w.heap.size ≤ w'.heap.size ∧ ∀ g,g < w.heap.size → w'.heap[g]? = w.heap[g]? ∨ ∃ cur t p,w.heap[g]? = some (.cells cur t p) ∧ t ∈ S
theorem KeepT.refl (S : List TypeId) (w : World) : KeepT S w w := ⟨Nat.le_refl _,fun _ _ => .inl rfl⟩
theorem KeepT.trans {S : List TypeId} {u v w : World} (h : KeepT S u v) (k : KeepT S v w) : KeepT S u w := by
 refine ⟨Nat.le_trans h.1 k.1,fun g hg => ?_⟩
 rcases h.2 g hg with e | e
 ·rcases k.2 g (Nat.lt_of_lt_of_le hg h.1) with e2 | ⟨cur,t,p,e2,ht⟩
  ·exact .inl (e2.trans e)
  ·exact .inr ⟨cur,t,p,e ▸ e2,ht⟩
 ·exact .inr e
theorem KeepT.of_below {S : List TypeId} {w w' : World} (h : Below w.heap.size w w') : KeepT S w w' := ⟨h.size,fun g hg => .inl (h.block g hg)⟩
theorem KeepT.mono {S T : List TypeId} {w w' : World} (h : KeepT S w w') (hs : ∀ t ∈ S,t ∈ T) : KeepT T w w' :=
 ⟨h.1,fun g hg => (h.2 g hg).imp id fun ⟨cur,t,p,e,ht⟩ => ⟨cur,t,p,e,hs t ht⟩⟩
theorem KeepT.of_grown {S : List TypeId} {w w' : World} {b : Nat} {cur : Array Value} {t : TypeId} {p : Nat × Nat} (h : w.grownBy w' (some b)) (hb : w.heap[b]? = some (.cells cur t p)) (ht : t ∈ S) : KeepT S w w' :=
 ⟨h.size,fun g hg => by
  by_cases e : g = b
  ·subst e;exact .inr ⟨cur,t,p,hb,ht⟩
  ·exact .inl (h.block g hg (fun h => e (Option.some.inj h)))⟩
section
variable {α : Type} {E : Lay α}
theorem KeepT.of_grew {S : List TypeId} {w w' : World} {B : Nat} {v v' : Value} {L : List α} (hO : OwnK E w B v L) (hg : Grew w w' v v') (ht : E.ty ∈ S) : KeepT S w w' := by
 rcases hO.2 with ⟨rfl,_⟩ | ⟨g,cap,cur,rfl,hb,hh,_⟩
 ·exact ⟨hg.g.size,fun g hg' => .inl (hg.g.block g hg' (by simp [Value.ownBlock]))⟩
 ·refine ⟨hg.g.size,fun j hj => ?_⟩
  by_cases e : j = g
  ·subst e;exact .inr ⟨cur,E.ty,(0,0),hh,ht⟩
  ·exact .inl (hg.g.block j hj (by simpa [Value.ownBlock] using e))
structure RdT (E : Lay α) (w : World) (ad : Option Addr) (L : List α) : Prop where
 rd : RdK E w ad L
 ty : ∀ a,ad = some a → ∃ cur p,w.heap[a.block]? = some (.cells cur E.ty p)
theorem RdT.nil (w : World) : RdT E w none [] := ⟨RdK.nil _ _,fun a h => by cases h⟩
theorem RdT.keep {S : List TypeId} {w w' : World} {ad : Option Addr} {L : List α} (h : RdT E w ad L) (k : KeepT S w w') (hS : E.ty ∉ S) : RdT E w' ad L := by
 have key : ∀ a,ad = some a → w'.heap[a.block]? = w.heap[a.block]? := fun a ha => by
  obtain ⟨cur,p,hb⟩ := h.ty a ha
  have hlt : a.block < w.heap.size := by
   rcases Nat.lt_or_ge a.block w.heap.size with h1 | h1
   ·exact h1
   ·rw [Array.getElem?_eq_none h1] at hb;cases hb
  rcases k.2 a.block hlt with e | ⟨cur2,t,p2,e,ht⟩
  ·exact e
  ·rw [hb] at e
   injection e with e
   injection e with _ e _
   exact absurd (e ▸ ht) hS
 refine ⟨fun i x hx => ?_,fun a ha => ?_⟩
 ·obtain ⟨g,o,e,hg,hc⟩ := h.rd i x hx
  have hk := key _ e
  exact ⟨g,o,e,Nat.lt_of_lt_of_le hg k.1,fun j v hv => (World.cell?_of_block (w := w) (a := ⟨g,o + (i * E.K + j),none⟩) hk).trans (hc j v hv)⟩
 ·obtain ⟨cur,p,hb⟩ := h.ty a ha
  exact ⟨cur,p,(key a ha).trans hb⟩
theorem RdT.below {w w' : World} {ad : Option Addr} {L : List α} (h : RdT E w ad L) (hb : Below w.heap.size w w') : RdT E w' ad L := h.keep (S := []) (KeepT.of_below hb) (by simp)
theorem OwnK.rdT {w : World} {B n c : Nat} {ad : Option Addr} {L : List α} (h : OwnK E w B (.slice ad n c) L) : RdT E w ad L := by
 refine ⟨h.rd,fun a ha => ?_⟩
 subst ha
 rcases h.2 with ⟨e,_⟩ | ⟨g,cap,cur,e,hb,hh,_⟩
 ·cases e
 ·injection e with e _ _
  injection e with e
  subst e
  exact ⟨cur,(0,0),hh⟩
theorem OwnK.keepT {S : List TypeId} {w w' : World} {B : Nat} {v : Value} {L : List α} (h : OwnK E w B v L) (k : KeepT S w w') (hS : E.ty ∉ S) : OwnK E w' B v L := by
 refine ⟨h.1,?_⟩
 rcases h.2 with h2 | ⟨g,cap,cur,hv,hg,hh,r⟩
 ·exact .inl h2
 ·refine .inr ⟨g,cap,cur,hv,hg,?_,r⟩
  rcases k.2 g (lt_of_block hh) with e | ⟨cur2,t,p2,e,ht⟩
  ·exact e.trans hh
  ·rw [hh] at e
   injection e with e
   injection e with _ e _
   exact absurd (e ▸ ht) hS
end
theorem KeepT.of_gen {b m m' : Nat} {w w' : World} (h : Strm w b m) (hg : Gen b w w' m') : KeepT [25] w w' := by
 obtain ⟨ad,n,c,k,zs,hb,_⟩ := h.ex
 exact KeepT.of_grown hg.g hb (by simp)
theorem KeepT.of_set {S : List TypeId} {w : World} {B i : Nat} {v : Value} {t : TypeId} {cs : Array Value} (h : Blk w B t cs) (ht : t ∈ S) : KeepT S w (w.setCell ⟨B,i,none⟩ v) :=
 ⟨by simp,fun g hg => by
  by_cases e : g = B
  ·subst e;exact .inr ⟨cs,t,(0,0),h,ht⟩
  ·exact .inl (Below.heap_setCell _ _ _ _ e)⟩
theorem KeepT.alloc {S : List TypeId} {u w : World} (h : KeepT S u w) (o : Obj) : KeepT S u (w.alloc o) := h.trans (KeepT.of_below (below_alloc (Below.refl _ _) _))
theorem RdInts.grown {w w' : World} {b g o n : Nat} {zs : List Int} (h : RdInts w g o n zs) (hg : w.grownBy w' (some b)) (hne : g ≠ b) : RdInts w' g o n zs :=
 ⟨h.1,Nat.lt_of_lt_of_le h.2.1 hg.size,fun i hi => (World.cell?_of_block (w := w) (hg.block g h.2.1 (fun e => hne (Option.some.inj e)))).trans (h.2.2 i hi)⟩
open Go.RowKit
theorem idxA0 (s1 : Bool) (h1 l1 : Int) (s2 : Bool) (h2 l2 : Int) (w : World) : (Instr.index 122 (.agg #[.bool s1, .int .u64 h1, .int .u64 l1, .bool s2, .int .u64 h2, .int .u64 l2]) (.int .i64 0)).run Tryz.prog w = .ok (.agg #[.bool s1, .int .u64 h1, .int .u64 l1]) w := by kernel_rfl
theorem idxA1 (s1 : Bool) (h1 l1 : Int) (s2 : Bool) (h2 l2 : Int) (w : World) : (Instr.index 122 (.agg #[.bool s1, .int .u64 h1, .int .u64 l1, .bool s2, .int .u64 h2, .int .u64 l2]) (.int .i64 1)).run Tryz.prog w = .ok (.agg #[.bool s2, .int .u64 h2, .int .u64 l2]) w := by kernel_rfl
structure RdB (w : World) (ad : Option Addr) (bs : List UInt8) : Prop where
 small : bs.length ≤ 140737488351232
 cell : ∀ i,i < bs.length → ∃ g o,ad = some ⟨g,o,none⟩ ∧ g < w.heap.size ∧ w.cell? ⟨g,o + i,none⟩ = some (.int .u8 ((bs.getD i 0).toNat : Int))
def sumB : List UInt8 → Bool → Nat
 | [],_ => 0
 | c :: l,true => c.toNat * 256 + sumB l false
 | c :: l,false => c.toNat + sumB l true
def foldSum (n : Nat) : Nat := if n = 0 then 0 else (n - 1) % 65535 + 1
theorem sumB_le : ∀ (l : List UInt8) (e : Bool),sumB l e ≤ 65280 * l.length
 | [],_ => by simp [sumB]
 | c :: l,true => by have := sumB_le l false;have := c.toNat_lt;simp only [sumB,List.length_cons];omega
 | c :: l,false => by have := sumB_le l true;have := c.toNat_lt;simp only [sumB,List.length_cons];omega
theorem sumB_snoc : ∀ (l : List UInt8) (e : Bool) (c : UInt8),sumB (l ++ [c]) e = sumB l e + if (decide (l.length % 2 = 0)) = e then c.toNat * 256 else c.toNat
 | [],true,c => by simp [sumB]
 | [],false,c => by simp [sumB]
 | d :: l,true,c => by
   simp only [List.cons_append,sumB,sumB_snoc l false c,List.length_cons]
   have h1 : (l.length % 2 = 0) ↔ ¬ ((l.length + 1) % 2 = 0) := by omega
   by_cases h : l.length % 2 = 0
   ·have h2 := h1.1 h;simp [h,h2];omega
   ·have h2 : (l.length + 1) % 2 = 0 := by omega
    simp [h,h2];omega
 | d :: l,false,c => by
   simp only [List.cons_append,sumB,sumB_snoc l true c,List.length_cons]
   by_cases h : l.length % 2 = 0
   ·have h2 : ¬ (l.length + 1) % 2 = 0 := by omega
    simp [h,h2];omega
   ·have h2 : (l.length + 1) % 2 = 0 := by omega
    simp [h,h2];omega
theorem sumB_take (bs : List UInt8) (k : Nat) (hk : k < bs.length) : sumB (bs.take (k + 1)) true = sumB (bs.take k) true + if k % 2 = 0 then (bs.getD k 0).toNat * 256 else (bs.getD k 0).toNat := by
 rw [List.take_succ_eq_append_getElem hk,sumB_snoc,List.length_take,Nat.min_eq_left (by omega)]
 simp [List.getD,List.getElem?_eq_getElem hk]
theorem foldSum_step (n : Nat) (h : 65535 < n) : foldSum (n / 65536 + n % 65536) = foldSum n := by
 unfold foldSum
 have h1 : n / 65536 + n % 65536 ≠ 0 := by omega
 rw [if_neg h1,if_neg (by omega)]
 omega
theorem foldSum_small (n : Nat) (h : n ≤ 65535) : foldSum n = n := by unfold foldSum;split <;> omega
theorem i64_and65535s (n : Int) : bits .and .i64 n 65535 = n % 65536 := by
 have h127 : (BitVec.ofInt 64 65535).toNat = 2 ^ 16 - 1 := by decide
 have key : (BitVec.ofInt 64 n &&& BitVec.ofInt 64 65535).toNat = (n % ((2 ^ 64 : Nat) : Int)).toNat % 2 ^ 16 := by
  rw [BitVec.toNat_and,BitVec.toNat_ofInt,h127,Nat.and_two_pow_sub_one_eq_mod]
 show IntKind.i64.wrap ((BitVec.ofInt 64 n &&& BitVec.ofInt 64 65535).toNat : Nat) = n % 65536
 rw [key,IntKind.wrap_i64]
 omega
theorem sum_any (ad : Option Addr) (c : Nat) (bs : List UInt8) (w : World) (h : RdB w ad bs) :
  Calls Tryz.prog 39 #[.slice ad bs.length c] w fun e w' => e = .returned (.int .i64 (65535 - (foldSum (sumB bs true) : Int))) ∧ w = w' := by
 have hs := h.small
 generalize hn : bs.length = n
 rw [hn] at hs
 have Hn := Lib.hid hn
 clear hn
 go_enter Tryz.func39,Tryz.ntmps39
 go_wp2
 go_loop [3,8] (fun t i => ∃ k : Nat,k ≤ n ∧ i = .int .i64 k ∧ t = .int .i64 (sumB (bs.take k) true)) (fun _ i => n - (intOf i).toNat)
 case atStart => exact ⟨0,Nat.zero_le _,rfl,by simp [sumB]⟩
 case round =>
  obtain ⟨k,hk,rfl,rfl⟩ := hrel
  by_cases hlt : k < n
  ·obtain ⟨g,o,had,hg,hc⟩ := h.cell k (by rw [Hn.out];exact hlt)
   have hsm := sumB_take bs k (by rw [Hn.out];exact hlt)
   have hb : sumB (bs.take k) true ≤ 65280 * k := by have := sumB_le (bs.take k) true;have h2 := List.length_take_le k bs;omega
   have hcb := (bs.getD k 0).toNat_lt
   generalize (bs.getD k 0).toNat = x at hc hsm hcb
   generalize sumB (bs.take k) true = s at hsm hb ⊢
   have Hs := Lib.hid hsm
   clear hsm
   subst had
   go_wp2
   all_goals
    refine ⟨⟨k + 1,by omega,by go_num,?_⟩,by simp [intOf];omega⟩
    rw [Hs.out]
    have hpar : (((k : Int) % 2 == 0) = true ∧ k % 2 = 0) ∨ (((k : Int) % 2 == 0) = false ∧ ¬ k % 2 = 0) := by
     by_cases h2 : k % 2 = 0
     ·exact .inl ⟨by simp;omega,h2⟩
     ·exact .inr ⟨by simp;omega,h2⟩
    rcases hpar with ⟨h2,h3⟩ | ⟨h2,h3⟩ <;> simp_all
  ·obtain rfl : k = n := by omega
   have he : bs.take k = bs := List.take_of_length_le (by rw [Hn.out];exact Nat.le_refl _)
   rw [he]
   have hb := sumB_le bs true
   rw [Hn.out] at hb
   obtain ⟨s,hs⟩ : ∃ s,s = sumB bs true := ⟨_,rfl⟩
   rw [← hs] at hb ⊢
   have Hs := Lib.hid hs
   clear he h hs
   go_wp2
   go_loop [3] (fun t => ∃ m : Nat,m ≤ s ∧ foldSum m = foldSum s ∧ t = .int .i64 m) (fun t => (intOf t).toNat)
   case atStart => exact ⟨s,Nat.le_refl _,rfl,rfl⟩
   case round =>
    obtain ⟨m,hm,hf,rfl⟩ := hrel
    have HF := Lib.hid hf
    clear hf
    have ha := i64_and65535s (m : Int)
    by_cases hgt : 65535 < m
    ·go_wp2
     refine ⟨⟨m / 65536 + m % 65536,by omega,by rw [foldSum_step m hgt,HF.out],by simp⟩,by simp [intOf];omega⟩
    ·go_wp2
     go_ret
     exact ⟨by rw [← Hs.out, ← HF.out,foldSum_small m (by omega)];rfl,rfl⟩
theorem filtered_any (w : World) : Calls Tryz.prog 12 #[] w (Ret (.bool true) w) := by
 have hr : RdB (w.alloc (.cells #[.int .u8 0, .int .u8 1] 5 (0,0))) (some ⟨w.heap.size,0,none⟩) [0,1] := by
  refine ⟨by decide,fun i hi => ⟨w.heap.size,0,rfl,by simp,?_⟩⟩
  have hb := Blk.new w 5 #[.int .u8 0, .int .u8 1]
  have hi : i < 2 := hi
  rw [Blk.cell hb]
  match i,hi with
  | 0,_ => rfl
  | 1,_ => rfl
 have hs : foldSum (sumB [0,1] true) = 1 := by decide
 go_enter Tryz.func12,Tryz.ntmps12
 go_wp2_with fail
 refine (sum_any _ 2 [0,1] _ hr).mono ?_
 rintro e w1 ⟨rfl,rfl⟩
 rw [hs]
 go_wp2_with fail
 go_ret
 exact ⟨rfl,below_alloc (Below.refl _ _) _⟩
end Go.Proofs.YthebgfnaomgcnaaGreat
