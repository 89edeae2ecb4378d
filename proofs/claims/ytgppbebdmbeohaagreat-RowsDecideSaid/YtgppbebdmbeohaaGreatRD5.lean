/-
  The address behind another one: span.Next.
  Slices that a call owns, and slices that can be read: append, for every element type. Lemmas of this claim's own.
  Rows of structs, whatever their element: how they lie, what a call owns of them, how they are read.
  Sorting an own row of structs by a number of each element, in the words of an own row.
  The contract of slices.SortFunc at a slice of structs over this program, as the kit's lay-plain.mjs prints it. Condition: the slice has no element, or its cells are known, fewer than 2^62 of them.
  The contract of slices.SortFunc at a slice of structs over this program, as the kit's lay-plain.mjs prints it. Condition: the slice has no element, or its cells are known, fewer than 2^62 of them.
  Contracts of Go's library over this program, as the kit's lay-plain.mjs prints them. Conditions: stated in each.
  Rows of prefixes, of ranges, of spans: how they lie; the comparisons of the two sorts; the sorts; the copies.
-/
import Derived.Test.YtgppbebdmbeohaaGreatRD4
import Derived.Laws.Externs
import Derived.Test.YtgppbebdmbeohaaGreatRD1
import Derived.Maps.AppendAt
import Derived.Lib.Hide
import Derived.Sort.Grow
import Derived.Shelf.SlSortCmp.NoneTotal
import Derived.Test.YtgppbebdmbeohaaGreatProg
import Derived.Shelf.Small.Bits
import Derived.Shelf.Strconv.Itoa0
set_option linter.unusedVariables false
namespace Go.Proofs.YtgppbebdmbeohaaGreat
open Go.RowKit Go
set_option linter.unusedVariables false

/-- the last number of a number's family -/
def topN (x : Nat) : Nat := fil x (LN x)
theorem top_val {x : Nat} (h : VN x) : topN x = if sixN x = true then 2 ^ 129 - 1 else 2 ^ 32 - 1 := by
  unfold topN fil LN sixN
  rcases h with h | ⟨h1, h2⟩
  · have : ¬ 2 ^ 128 ≤ x := by have : (2 : Nat) ^ 32 ≤ 2 ^ 128 := by decide
                               omega
    rw [if_neg this, decide_eq_false this, if_neg (by decide), Nat.mod_eq_of_lt h]
    omega
  · rw [if_pos h1, decide_eq_true h1, if_pos rfl]
    have e : x % 2 ^ 128 = x - 2 ^ 128 := by
      rw [Nat.mod_eq_sub_mod h1, Nat.mod_eq_of_lt (by omega)]
    rw [e]
    omega
theorem le_top {x : Nat} (h : VN x) : x ≤ topN x := by
  rw [top_val h]
  rcases h.cases with ⟨a, _, _, d⟩ | ⟨a, b, c, d⟩
  · rw [a, if_neg (by decide)]; omega
  · rw [a, if_pos rfl]
    rcases h with h | ⟨_, h⟩
    · have : (2 : Nat) ^ 32 ≤ 2 ^ 129 := by decide
      omega
    · omega
theorem next_num {x : Nat} (h : VN x) (ht : x ≠ topN x) : VN (x + 1) ∧ sixN (x + 1) = sixN x ∧ hiN (x + 1) = hiN x + (loN x + 1) / 2 ^ 64 ∧ loN (x + 1) = (loN x + 1) % 2 ^ 64 ∧ hiN x + (loN x + 1) / 2 ^ 64 < 2 ^ 64 := by
  have hle := le_top h
  rw [top_val h] at ht hle
  unfold sixN at *
  unfold hiN loN
  rcases h with h | ⟨h1, h2⟩
  · have n1 : ¬ 2 ^ 128 ≤ x := by omega
    rw [decide_eq_false n1, if_neg (by decide)] at ht hle
    have n2 : ¬ 2 ^ 128 ≤ x + 1 := by omega
    rw [decide_eq_false n1, decide_eq_false n2]
    refine ⟨.inl (by omega), rfl, by omega, by omega, by omega⟩
  · rw [decide_eq_true h1, if_pos rfl] at ht hle
    rw [decide_eq_true h1, decide_eq_true (show 2 ^ 128 ≤ x + 1 by omega)]
    refine ⟨.inr ⟨by omega, by omega⟩, rfl, by omega, by omega, by omega⟩
theorem aN_same {x y : Nat} (hx : VN x) (hy : VN y) : (((sixN x, ((hiN x : Nat) : Int), ((loN x : Nat) : Int)) : Bool × Int × Int) = (sixN y, ((hiN y : Nat) : Int), ((loN y : Nat) : Int))) ↔ x = y := by
  constructor
  · intro h
    have h1 : sixN x = sixN y := congrArg (·.1) h
    have h2 : ((hiN x : Nat) : Int) = ((hiN y : Nat) : Int) := congrArg (·.2.1) h
    have h3 : ((loN x : Nat) : Int) = ((loN y : Nat) : Int) := congrArg (·.2.2) h
    exact aN_inj hx hy h1 (by omega) (by omega)
  · rintro rfl; rfl
theorem aN_eql {x y : Nat} (hx : VN x) (hy : VN y) (w : World) : (binOp .eql 32 (.agg (aN x)) (.agg (aN y))).run Tryz.prog w = .ok (.bool (decide (x = y))) w := by
  unfold aN
  rw [addr_eql, decide_eq_decide.2 (aN_same hx hy)]
theorem aN_neq {x y : Nat} (hx : VN x) (hy : VN y) (w : World) : (binOp .neq 32 (.agg (aN x)) (.agg (aN y))).run Tryz.prog w = .ok (.bool (!decide (x = y))) w := by
  unfold aN
  rw [addr_neq, decide_eq_decide.2 (aN_same hx hy)]
/-! ### Contracts on numbers -/
theorem spanCompareN {x y : Nat} (w : World) (hx : VN x) (hy : VN y) : Calls Tryz.prog 131 #[.agg (aN x), .agg (aN y)] w (RetD (.int .i64 (cN x y)) w) := by
  have := spanCompareD_any (sixN x) (hiN x) (loN x) (sixN y) (hiN y) (loN y) w (hiN_u x) (loN_u x) (hiN_u y) (loN_u y)
  rw [num_aN hx, num_aN hy] at this
  exact this
theorem aCompareN {x y : Nat} (w : World) (hx : VN x) (hy : VN y) : Calls Tryz.prog 87 #[.agg (aN x), .agg (aN y)] w (Ret (.int .i64 (cN x y)) w) := by
  have := aCompare_any (sixN x) (hiN x) (loN x) (sixN y) (hiN y) (loN y) w (hiN_u x) (loN_u x) (hiN_u y) (loN_u y)
  rw [num_aN hx, num_aN hy] at this
  exact this
theorem orderN {x y : Nat} (w : World) (hx : VN x) (hy : VN y) : Calls Tryz.prog 83 #[.agg (aN x), .agg (aN y)] w (Ret (.int .i64 (cN x y)) w) := by
  have := order_any (sixN x) (hiN x) (loN x) (sixN y) (hiN y) (loN y) w (hiN_u x) (loN_u x) (hiN_u y) (loN_u y)
  rw [num_aN hx, num_aN hy] at this
  exact this
theorem maskedN {x n : Nat} (w : World) (hx : VN x) (hn : n ≤ LN x) : Calls Tryz.prog 130 #[.agg (aN x), .int .i64 (n : Int)] w (Ret (.agg (aN (clr x (LN x - n)))) w) := by
  have hn' : n ≤ lenN (sixN x) := by rw [← LN_six]; exact hn
  have := masked_any (sixN x) (hiN x) (loN x) n w (hiN_u x) (loN_u x) hn'
  have e := aN_eq (mask_aok (ok_aN hx) hn')
  rw [mask_num (ok_aN hx), num_aN hx, ← LN_six] at e
  unfold vA at this
  rw [← e] at this
  exact this
theorem filledN {x n : Nat} (w : World) (hx : VN x) (hn : n ≤ LN x) : Calls Tryz.prog 134 #[.agg (aN x), .int .i64 (n : Int)] w (Ret (.agg (aN (fil x (LN x - n)))) w) := by
  have hn' : n ≤ lenN (sixN x) := by rw [← LN_six]; exact hn
  have := filled_any (sixN x) (hiN x) (loN x) n w (hiN_u x) (loN_u x) hn'
  have e := aN_eq (fill_aok (ok_aN hx) hn')
  rw [fill_num (ok_aN hx), num_aN hx, ← LN_six] at e
  unfold vA at this
  rw [← e] at this
  exact this
theorem lengthN (x : Nat) (w : World) : Calls Tryz.prog 129 #[.agg (aN x)] w (Ret (.int .i64 ((LN x : Nat) : Int)) w) := by
  have := length_any (sixN x) (hiN x) (loN x) w
  rw [← LN_six] at this
  exact this
theorem lengthQN (x : Nat) (w : World) : Calls Tryz.prog 123 #[.agg (aN x)] w (Ret (.int .i64 ((LN x : Nat) : Int)) w) := by
  have := lengthQ_any (sixN x) (hiN x) (loN x) w
  rw [← LN_six] at this
  exact this
/-- the cells of a prefix -/
def pN (x : Nat) (n : Int) : Array Value := #[.bool (sixN x), .int .u64 ((hiN x : Nat) : Int), .int .u64 ((loN x : Nat) : Int), .int .i64 n]
theorem spanLastN {x n : Nat} (w : World) (hx : VN x) (hn : n ≤ LN x) : Calls Tryz.prog 132 #[.agg (pN x (n : Int))] w (Ret (.agg (aN (fil x (LN x - n)))) w) := by
  have hn' : n ≤ lenN (sixN x) := by rw [← LN_six]; exact hn
  have := spanLast_any (sixN x) (hiN x) (loN x) n w (hiN_u x) (loN_u x) hn'
  have e := aN_eq (fill_aok (ok_aN hx) hn')
  rw [fill_num (ok_aN hx), num_aN hx, ← LN_six] at e
  unfold vA at this
  rw [← e] at this
  exact this
theorem add64_one (x : Nat) (w : World) : (callFunc 157 #[.int .u64 (x : Int), .int .u64 1, .int .u64 0]).run Tryz.prog w = .ok (.value (.tuple #[.int .u64 (((x + 1) % 18446744073709551616 : Nat) : Int), .int .u64 (((x + 1) / 18446744073709551616 : Nat) : Int)])) w := by
  rw [run_callFunc_extern Tryz.func157 (by kernel_rfl) (by kernel_rfl) (by kernel_rfl) (e := add64Entry) (by kernel_rfl), run_add64 x 1 0 (by omega) (by omega) (by omega) (by omega)]
  simp only [Result.andThen]
  congr 5 <;> omega
set_option maxRecDepth 100000 in
set_option maxHeartbeats 1000000 in
theorem nextN {x : Nat} (w : World) (hx : VN x) : Calls Tryz.prog 135 #[.agg (aN x)] w (Ret (.tuple #[.agg (aN (if x = topN x then x else x + 1)), .bool (!decide (x = topN x))]) w) := by
  have HF := Lib.hid fun wx => filledN (n := 0) wx hx (Nat.zero_le _)
  have hE := fun w => aN_eql hx (VN_fil hx (Nat.zero_le _)) w
  rw [Nat.sub_zero] at HF hE
  have HN := Lib.hid (fun h => next_num hx h)
  unfold topN at HN ⊢
  obtain ⟨T, hT⟩ : ∃ T, fil x (LN x) = T := ⟨_, rfl⟩
  rw [hT] at HF hE HN ⊢
  have HA' : Blk ((w.alloc (.cells (aN x) 32 (0, 0))).alloc (.cells #[.bool false, .int .u64 0, .int .u64 0] 32 (0, 0))) (w.heap.size) 32 (aN x) := (Blk.new w 32 (aN x)).alloc _
  have HR' : Blk ((w.alloc (.cells (aN x) 32 (0, 0))).alloc (.cells #[.bool false, .int .u64 0, .int .u64 0] 32 (0, 0))) (w.heap.size + 1) 32 #[.bool false, .int .u64 0, .int .u64 0] := by
    have this := Blk.new (w.alloc (.cells (aN x) 32 (0, 0))) 32 #[.bool false, .int .u64 0, .int .u64 0]
    rw [World.size_alloc] at this
    exact this
  have HA := Lib.hid HA'
  have HR := Lib.hid HR'
  have HB : Hid (Below w.heap.size w ((w.alloc (.cells (aN x) 32 (0, 0))).alloc (.cells #[.bool false, .int .u64 0, .int .u64 0] 32 (0, 0)))) := Lib.hid (below_alloc (below_alloc (Below.refl _ _) _) _)
  obtain ⟨V, hV⟩ : ∃ V, aN (if x = T then x else x + 1) = V := ⟨_, rfl⟩
  have HV0 : Hid (x = T → V = aN x) := Lib.hid fun h => by rw [← hV, if_pos h]
  have HX1 : Hid (x ≠ T → V = #[.bool (sixN x), .int .u64 ((hiN x + (loN x + 1) / 2 ^ 64 : Nat) : Int), .int .u64 (((loN x + 1) % 2 ^ 64 : Nat) : Int)] ∧ hiN x + (loN x + 1) / 2 ^ 64 < 2 ^ 64) := Lib.hid fun h => by
    obtain ⟨_, a, b, c, d⟩ := HN.out h
    refine ⟨?_, d⟩
    rw [← hV, if_neg h]
    unfold aN
    rw [a, b, c]
  rw [hV]
  clear hV
  have hl := loN_u x
  have hh := hiN_u x
  unfold U64N at hl hh
  have hAdd := add64_one (loN x)
  clear HA' HR' hT hx HN
  generalize hAT : aN T = tv at *
  clear hAT
  unfold aN at HA HR HB HF hE HV0 ⊢
  generalize sixN x = sx at *
  generalize hiN x = hx at *
  generalize loN x = lx at *
  go_enter Tryz.func135, Tryz.ntmps135
  go_upto_region 1 with fail
  generalize ((w.alloc (.cells #[.bool sx, .int .u64 (hx : Int), .int .u64 (lx : Int)] 32 (0, 0))).alloc (.cells #[.bool false, .int .u64 0, .int .u64 0] 32 (0, 0))) = w1 at *
  have p0 := HA.out.cell 0
  have p1 := HA.out.cell 1
  have p2 := HA.out.cell 2
  simp at p0 p1 p2
  have l0 := Later.cell_of p0
  have l1 := Later.cell_of p1
  have l2 := Later.cell_of p2
  have hF := fun m : Later w1 => Calls.later m (HF.out m.1)
  refine wp_region_later (by kernel_rfl) (by kernel_rfl) ?_
  repeat (go_big_quiet_step ((go_at_call 134; exact hF _)))
  refine wpQuiet_nil ?_
  rintro w2 ⟨n2, hn2⟩
  have hb : Below w1.heap.size w1 w2 := by rw [hn2]; exact n2.2
  clear hn2 n2 hF HF l0 l1 l2 p0 p1 p2
  have HA2 := Lib.hid (HA.out.below hb HA.out.lt)
  have HR2 := Lib.hid (HR.out.below hb HR.out.lt)
  have HB2 := Lib.hid (HB.out.trans (hb.mono HB.out.size))
  clear hb HA HR HB
  have p0 := HA2.out.cell 0
  have p1 := HA2.out.cell 1
  have p2 := HA2.out.cell 2
  simp at p0 p1 p2
  have r0 := HR2.out.cell 0
  have r1 := HR2.out.cell 1
  have r2 := HR2.out.cell 2
  simp at r0 r1 r2
  have pf := HA2.out.free
  have rf := HR2.out.free
  by_cases hxT : x = T
  · rw [decide_eq_true hxT] at hE
    have hv := HV0.out hxT
    have hd : (!decide (x = T)) = false := by rw [decide_eq_true hxT]; rfl
    have HE := Lib.hid (And.intro hv hd)
    clear HX1 hAdd HV0 hv hd
    go_wp2_with fail
    refine bodyPost_ret (v := .tuple #[.agg #[.bool sx, .int .u64 (hx : Int), .int .u64 (lx : Int)], .bool false]) (by simp [results, Tryz.results135, go_sem, r0, r1, r2]) rfl ⟨by rw [HE.out.1, HE.out.2], ?_⟩
    exact ((HB2.out.setCell (by simp) _).setCell (by simp) _).setCell (by simp) _
  · rw [decide_eq_false hxT] at hE
    obtain ⟨hv, ed⟩ := HX1.out hxT
    have hd : (!decide (x = T)) = true := by rw [decide_eq_false hxT]; rfl
    have c1 : (lx + 1) / 18446744073709551616 = (lx + 1) / 2 ^ 64 := rfl
    have c2 : (lx + 1) % 18446744073709551616 = (lx + 1) % 2 ^ 64 := rfl
    rw [c1, c2] at hAdd
    obtain ⟨C, hC⟩ : ∃ C, (lx + 1) / 2 ^ 64 = C := ⟨_, rfl⟩
    obtain ⟨L, hL⟩ : ∃ L, (lx + 1) % 2 ^ 64 = L := ⟨_, rfl⟩
    rw [hC] at hAdd ed hv
    rw [hL] at hAdd hv
    have HE := Lib.hid (And.intro hv hd)
    have e1 : (0 : Int) ≤ (hx : Int) + (C : Int) := by omega
    have e2 : (hx : Int) + (C : Int) ≤ 18446744073709551615 := by omega
    clear HX1 hC hL c1 c2 HV0 hl hh hv hd ed
    go_wp2_with fail
    refine bodyPost_ret (v := .tuple #[.agg #[.bool sx, .int .u64 ((hx + C : Nat) : Int), .int .u64 (L : Int)], .bool true]) (by simp [results, Tryz.results135, go_sem, r0, r1, r2]) rfl ⟨by rw [HE.out.1, HE.out.2], ?_⟩
    exact ((((HB2.out.setCell (by simp) _).setCell (by simp) _).setCell (by simp) _).setCell (by simp) _).setCell (by simp) _
end Go.Proofs.YtgppbebdmbeohaaGreat

namespace Go.Proofs.YtgppbebdmbeohaaGreat
open Go.RowKit Go
set_option linter.unusedVariables false

/-- the element type's row in the program's table -/
structure EI (P : Program) (t e : TypeId) (size bytes : Nat) : Prop where
  ht : P.underlying t = some (.slice e)
  hi : ∃ i z, P.info? e = some i ∧ i.zero = some z ∧ i.size = size ∧ i.bytes = bytes ∧ z.cells.size = size
  hsz : 0 < size
theorem EI.mk' {P : Program} {t e : TypeId} {size bytes : Nat} {z : Value} (ht : P.underlying t = some (.slice e)) (h : (P.info? e).map (fun i => (i.zero, i.size, i.bytes)) = some (some z, size, bytes)) (hz : z.cells.size = size) (hsz : 0 < size) : EI P t e size bytes := by
  obtain ⟨i, h0, h1, h2, h3⟩ := info_parts h
  exact ⟨ht, ⟨i, z, h0, h1, h2, h3, hz⟩, hsz⟩

/-- m elements that can be read at ad: the cells are 'news' -/
def Src (w : World) (ad : Option Addr) (m size : Nat) (news : List Value) : Prop :=
  news.length = m * size ∧ ∀ j u, news[j]? = some u → ∃ a, ad = some a ∧ a.block < w.heap.size ∧ w.cell? (a.add j) = some u

/-- from w to w' the row of v alone was written, and it stays or lies anew -/
structure Grew (w w' : World) (v v' : Value) : Prop where
  g : w.grownBy w' v.ownBlock
  o : v'.ownBlock = v.ownBlock ∨ ∃ k, v'.ownBlock = some k ∧ w.heap.size ≤ k
theorem Grew.refl (w : World) (v : Value) : Grew w w v v := ⟨World.grownBy.refl w _, .inl rfl⟩
theorem Grew.trans {a b c : World} {u v x : Value} (h : Grew a b u v) (k : Grew b c v x) : Grew a c u x := by
  refine ⟨⟨k.g.os.trans h.g.os, k.g.tape.trans h.g.tape, k.g.output.trans h.g.output, Nat.le_trans h.g.size k.g.size, fun i hi hne => ?_⟩, ?_⟩
  · refine (k.g.block i (Nat.lt_of_lt_of_le hi h.g.size) ?_).trans (h.g.block i hi hne)
    rcases h.o with e | ⟨j, e, hj⟩
    · rw [e]; exact hne
    · rw [e]; intro e2; injection e2 with e2; omega
  · rcases k.o with e | ⟨j, e, hj⟩
    · rcases h.o with e2 | ⟨j, e2, hj⟩
      · exact .inl (e.trans e2)
      · exact .inr ⟨j, e.trans e2, hj⟩
    · exact .inr ⟨j, e, Nat.le_trans h.g.size hj⟩
theorem Grew.alloc {a b : World} {u v : Value} (h : Grew a b u v) (o : Obj) : Grew a (b.alloc o) u v :=
  ⟨h.g.trans (World.grownBy_alloc _ _ _), h.o⟩
theorem Grew.allocFirst {a b : World} {u v : Value} {o : Obj} (h : Grew (a.alloc o) b u v) : Grew a b u v := by
  refine ⟨(World.grownBy_alloc a o _).trans h.g, ?_⟩
  rcases h.o with e | ⟨k, e, hk⟩
  · exact .inl e
  · exact .inr ⟨k, e, by simp at hk; omega⟩
theorem Grew.drewN {a b : World} {u v : Value} (h : Grew a b u v) (n : Nat) : Grew a (b.drewN n) u v := ⟨⟨h.g.os, h.g.tape, h.g.output, h.g.size, h.g.block⟩, h.o⟩
/-- nothing below 'base' was written, if the row lies from there on -/
theorem Grew.below {a b : World} {u v : Value} {B : Nat} (h : Grew a b u v) (hB : B ≤ a.heap.size) (hu : ∀ k, u.ownBlock = some k → B ≤ k) : Below B a b :=
  (Below.refl B a).grown h.g hB hu
theorem Grew.belowNil {a b : World} {u v : Value} (h : Grew a b u v) (hu : u.ownBlock = none) : Below a.heap.size a b := h.below (Nat.le_refl _) fun k e => by rw [hu] at e; cases e
theorem Grew.below_then {a b c : World} {v : Value} {B : Nat} (h : Below B a b) (hk : Below b.heap.size b c) (hB : B ≤ b.heap.size) : Below B a c := h.trans (hk.mono hB)

/-- a slice that the call owns -/
def Own (w : World) (base : Nat) (e : TypeId) (size : Nat) (v : Value) (n : Nat) (xs : List Value) : Prop := w.ownsRow base e size v n xs

theorem own_form {w : World} {base : Nat} {e : TypeId} {size : Nat} {v : Value} {n : Nat} {xs : List Value} (h : w.ownsRow base e size v n xs) : ∃ ad c, v = .slice ad n c ∧ Src w ad n size xs ∧ n ≤ c ∧ c ≤ maxLen := by
  rcases h.2 with ⟨rfl, rfl⟩ | ⟨g, cap, cur, rfl, hb, hg, hn, hc, hs, ht⟩
  · have hx : xs = [] := List.eq_nil_of_length_eq_zero (by simpa using h.1)
    subst hx
    exact ⟨none, 0, rfl, ⟨by simp, fun j u hu => by simp at hu⟩, Nat.le_refl _, by unfold maxLen; omega⟩
  · exact ⟨_, cap, rfl, ⟨h.1, fun j u hu => ⟨_, rfl, lt_of_block hg, h.cells (g := g) rfl j u hu⟩⟩, hn, hc⟩
theorem own_base {w : World} {base : Nat} {e : TypeId} {size : Nat} {v : Value} {n : Nat} {xs : List Value} (h : w.ownsRow base e size v n xs) : ∀ k, v.ownBlock = some k → base ≤ k := fun k hk => (h.lt k hk).1
theorem own_lt {w : World} {base : Nat} {e : TypeId} {size : Nat} {v : Value} {n : Nat} {xs : List Value} (h : w.ownsRow base e size v n xs) : ∀ k, v.ownBlock = some k → k < w.heap.size := fun k hk => (h.lt k hk).2
theorem own_weak {w : World} {base base' : Nat} {e : TypeId} {size : Nat} {v : Value} {n : Nat} {xs : List Value} (h : w.ownsRow base e size v n xs) (hb : base' ≤ base) : w.ownsRow base' e size v n xs := by
  refine ⟨h.1, ?_⟩
  rcases h.2 with h2 | ⟨g, cap, cur, hv, hg, r⟩
  · exact .inl h2
  · exact .inr ⟨g, cap, cur, hv, Nat.le_trans hb hg, r⟩
/-- an owned row stays where another world's step leaves its block -/
theorem own_below {w w' : World} {base B : Nat} {e : TypeId} {size : Nat} {v : Value} {n : Nat} {xs : List Value} (h : w.ownsRow base e size v n xs) (hb : Below B w w') (hB : ∀ k, v.ownBlock = some k → k < B) : w'.ownsRow base e size v n xs := by
  refine ⟨h.1, ?_⟩
  rcases h.2 with h2 | ⟨g, cap, cur, rfl, hg, hh, r⟩
  · exact .inl h2
  · exact .inr ⟨g, cap, cur, rfl, hg, (hb.block g (hB g rfl)).trans hh, r⟩
theorem own_later {w w' : World} {base : Nat} {e : TypeId} {size : Nat} {v : Value} {n : Nat} {xs : List Value} (h : w.ownsRow base e size v n xs) (hb : Below w.heap.size w w') : w'.ownsRow base e size v n xs := own_below h hb fun k hk => own_lt h k hk
theorem own_grew {w w' : World} {base : Nat} {e : TypeId} {size : Nat} {v u u' : Value} {n : Nat} {xs : List Value} (h : w.ownsRow base e size v n xs) (hg : Grew w w' u u') (hne : v.ownBlock = none ∨ v.ownBlock ≠ u.ownBlock) : w'.ownsRow base e size v n xs := h.kept hg.g hne
theorem src_later {w w' : World} {ad : Option Addr} {m size : Nat} {news : List Value} (h : Src w ad m size news) (hb : Below w.heap.size w w') : Src w' ad m size news :=
  ⟨h.1, fun j u hu => by
    obtain ⟨a, e, hlt, hc⟩ := h.2 j u hu
    have hlt' : (a.add j).block < w.heap.size := by unfold Addr.add; split <;> exact hlt
    exact ⟨a, e, Nat.lt_of_lt_of_le hlt hb.size, (hb.cell hlt').trans hc⟩⟩
theorem src_grew {w w' : World} {ad : Option Addr} {m size : Nat} {news : List Value} {u u' : Value} (h : Src w ad m size news) (hg : Grew w w' u u') (hne : ∀ a, ad = some a → u.ownBlock ≠ some a.block) : Src w' ad m size news :=
  ⟨h.1, fun j x hx => by
    obtain ⟨a, e, hlt, hc⟩ := h.2 j x hx
    have hb : (a.add j).block = a.block := by unfold Addr.add; split <;> rfl
    exact ⟨a, e, Nat.lt_of_lt_of_le hlt hg.g.size, (World.cell?_of_block (w := w) (by rw [hb]; exact hg.g.block a.block hlt (Ne.symm (hne a e)))).trans hc⟩⟩

section
variable {P : Program}
theorem run_append_src {t e : TypeId} {size bytes : Nat} (E : EI P t e size bytes) (w : World) (base : Nat) (ty : TypeId) (v : Value) (n : Nat) (xs : List Value) (hown : w.ownsRow base e size v n xs)
    (ad : Option Addr) (m c : Nat) (news : List Value) (hsrc : Src w ad m size news) (h1 : ∀ u ∈ news, u.oneCell' = true)
    (h63 : n + m ≤ maxLen) (hbytes : (n + m) * bytes ≤ 140737488355328) (hbase : base ≤ w.heap.size) :
    ∃ v' w', (Builtin.append_ #[t, t] ty #[v, .slice ad m c]).run P w = .ok v' w' ∧ w'.ownsRow base e size v' (n + m) (xs ++ news) ∧ Grew w w' v v' := by
  obtain ⟨ht, ⟨i, z, hi, hz, hs, hb, hzs⟩, hsz⟩ := E
  cases ad with
  | some a =>
    have hcells : ∀ j u, news[j]? = some u → w.cell? (a.add j) = some u := fun j u hu => by
      obtain ⟨a', e, _, hc⟩ := hsrc.2 j u hu
      injection e with e; subst e; exact hc
    obtain ⟨v', w', hr, h2, h3, _, h5⟩ := run_append_own_at (P := P) w base t ty e i z size bytes ht hi hz hs hb hzs hsz v n xs hown a m c news hsrc.1 hcells h1 h63 hbytes hbase
    exact ⟨v', w', hr, h2, h3, h5.imp id fun h => ⟨_, h, Nat.le_refl _⟩⟩
  | none =>
    have hn : news = [] := by
      cases news with
      | nil => rfl
      | cons x l => obtain ⟨a, e, _⟩ := hsrc.2 0 x rfl; cases e
    subst hn
    have hm : m = 0 := by
      have h0 : m * size = 0 := by have := hsrc.1; simpa using this.symm
      rcases Nat.mul_eq_zero.1 h0 with h | h <;> omega
    subst hm
    have hr : (Builtin.append_ #[t, t] ty #[v, .slice none 0 c]).run P w = .ok v w := by
      rcases hown.2 with ⟨rfl, rfl⟩ | ⟨g, cap, cur, rfl, _, _, hnc, _⟩
      · simp [Builtin.append_, run_underlying ht, sizeOf, typeInfo, hi, Builtin.lenOf, Builtin.firstCells]
      · simp [Builtin.append_, run_underlying ht, sizeOf, typeInfo, hi, Builtin.lenOf, Builtin.firstCells, hnc, storeCells]
    exact ⟨v, w, hr, by simpa using hown, Grew.refl w v⟩

theorem wpList_app {t e : TypeId} {size bytes : Nat} (E : EI P t e size bytes) {w : World} {ops : Array Oper} {rest : List Oper} {o : Oper} {a : Act} {Q : Exit → Act → World → Prop} (hgd : o.guard = none) (s x : Operand)
    (ho : o.op = .call { callee := .builtin .append, args := #[s, x], argTypes := #[t, t] })
    {base : Nat} {v : Value} {n : Nat} {xs : List Value} (hs : a.eval s = v) (hown : w.ownsRow base e size v n xs)
    {ad : Option Addr} {m c : Nat} {news : List Value} (hx : a.eval x = .slice ad m c) (hsrc : Src w ad m size news) (h1 : ∀ u ∈ news, u.oneCell' = true)
    (h63 : n + m ≤ maxLen) (hbytes : (n + m) * bytes ≤ 140737488355328) (hbase : base ≤ w.heap.size)
    (h : ∀ v' w', w'.ownsRow base e size v' (n + m) (xs ++ news) → Grew w w' v v' → wpList P ops Q rest (a.put o.dst v') w') :
    wpList P ops Q (o :: rest) a w := by
  refine wpList_plain hgd fun K hK => ?_
  obtain ⟨v', w', hr, h2, h3⟩ := run_append_src E w base o.type v n xs hown ad m c news hsrc h1 h63 hbytes hbase
  unfold Oper.wp execOp
  simp only [ho, resolve, invoke, builtin, Sem.run_bind, Sem.run_pure, Result.andThen_ok, List.map_toArray, List.map_cons, List.map_nil, hs, hx, hr]
  exact hK _ _ (h v' w' h2 h3)
end

theorem src_one_new (w : World) (x : Value) (t : TypeId) : Src (w.alloc (.cells #[x] t)) (some ⟨w.heap.size, 0, none⟩) 1 1 [x] :=
  ⟨rfl, fun j u hu => ⟨_, rfl, by simp, cell_one_new w x t j u hu⟩⟩
end Go.Proofs.YtgppbebdmbeohaaGreat

namespace Go.Proofs.YtgppbebdmbeohaaGreat
open Go.RowKit Go
set_option linter.unusedVariables false

/-- how an element lies in cells -/
structure Lay (α : Type) where
  enc : α → List Value
  K : Nat
  ty : TypeId
  pos : 0 < K
  len : ∀ x, (enc x).length = K
  one : ∀ x, ∀ v ∈ enc x, v.oneCell' = true
section
variable {α : Type} {E : Lay α}
def Lay.all (E : Lay α) (L : List α) : List Value := L.flatMap E.enc
theorem Lay.all_len (E : Lay α) : ∀ L : List α, (E.all L).length = L.length * E.K
  | [] => by simp [Lay.all]
  | x :: L => by
    have := E.all_len L
    simp only [Lay.all, List.flatMap_cons, List.length_append, E.len, List.length_cons] at this ⊢
    rw [Nat.add_mul, this]; omega
theorem Lay.all_append (E : Lay α) (A B : List α) : E.all (A ++ B) = E.all A ++ E.all B := by simp [Lay.all]
theorem Lay.all_one (E : Lay α) (L : List α) : ∀ u ∈ E.all L, u.oneCell' = true := by
  intro u hu
  obtain ⟨x, _, hx⟩ := List.mem_flatMap.1 hu
  exact E.one x u hx
theorem Lay.all_get (E : Lay α) : ∀ (L : List α) (i j : Nat) (x : α), L[i]? = some x → j < E.K → (E.all L)[i * E.K + j]? = (E.enc x)[j]?
  | [], i, j, x, h, _ => by simp at h
  | y :: L, 0, j, x, h, hj => by
    simp at h
    subst h
    rw [Nat.zero_mul, Nat.zero_add]
    show ((E.enc y) ++ E.all L)[j]? = _
    rw [List.getElem?_append_left (by rw [E.len]; exact hj)]
  | y :: L, i + 1, j, x, h, hj => by
    have := E.all_get L i j x (by simpa using h) hj
    show ((E.enc y) ++ E.all L)[(i + 1) * E.K + j]? = _
    rw [List.getElem?_append_right (by rw [E.len, Nat.add_mul]; omega), E.len, show (i + 1) * E.K + j - E.K = i * E.K + j by rw [Nat.add_mul]; omega]
    exact this
theorem Lay.all_cut (E : Lay α) (L : List α) (t : Nat) (h : t < L.length * E.K) : ∃ x, L[t / E.K]? = some x ∧ (E.all L)[t]? = (E.enc x)[t % E.K]? := by
  have hi : t / E.K < L.length := (Nat.div_lt_iff_lt_mul E.pos).2 h
  refine ⟨L[t / E.K], List.getElem?_eq_getElem hi, ?_⟩
  have := E.all_get L (t / E.K) (t % E.K) _ (List.getElem?_eq_getElem hi) (Nat.mod_lt _ E.pos)
  rwa [show t / E.K * E.K + t % E.K = t by rw [Nat.mul_comm]; exact Nat.div_add_mod t E.K] at this
/-- a row that a call owns -/
def OwnK (E : Lay α) (w : World) (base : Nat) (v : Value) (L : List α) : Prop := w.ownsRow base E.ty E.K v L.length (E.all L)
/-- a row that can be read -/
def RdK (E : Lay α) (w : World) (ad : Option Addr) (L : List α) : Prop :=
  ∀ (i : Nat) x, L[i]? = some x → ∃ g o, ad = some ⟨g, o, none⟩ ∧ g < w.heap.size ∧ ∀ j v, (E.enc x)[j]? = some v → w.cell? ⟨g, o + (i * E.K + j), none⟩ = some v
theorem RdK.below {w w' : World} {ad : Option Addr} {L : List α} (h : RdK E w ad L) (hb : Below w.heap.size w w') : RdK E w' ad L := fun i x hx => by
  obtain ⟨g, o, e, hg, hc⟩ := h i x hx
  exact ⟨g, o, e, Nat.lt_of_lt_of_le hg hb.size, fun j v hv => (hb.cell (p := ⟨g, o + (i * E.K + j), none⟩) hg).trans (hc j v hv)⟩
theorem RdK.nil (w : World) (ad : Option Addr) : RdK E w ad [] := fun i x hx => by simp at hx
theorem RdK.none_ {w : World} {L : List α} (h : RdK E w none L) : L = [] := by
  cases L with
  | nil => rfl
  | cons x L => obtain ⟨g, o, e, _⟩ := h 0 x rfl; cases e
theorem OwnK.nil (E : Lay α) (w : World) (base : Nat) : OwnK E w base (.slice none 0 0) [] := World.ownsRow_nil w base _ _
theorem OwnK.weak {w : World} {base base' : Nat} {v : Value} {L : List α} (h : OwnK E w base v L) (hb : base' ≤ base) : OwnK E w base' v L := own_weak h hb
theorem OwnK.later {w w' : World} {base : Nat} {v : Value} {L : List α} (h : OwnK E w base v L) (hb : Below w.heap.size w w') : OwnK E w' base v L := own_later h hb
theorem OwnK.alloc {w : World} {base : Nat} {v : Value} {L : List α} (h : OwnK E w base v L) (o : Obj) : OwnK E (w.alloc o) base v L := h.later (below_alloc (Below.refl _ _) _)
theorem OwnK.gen {w w' : World} {b B m : Nat} {v : Value} {L : List α} (h : OwnK E w B v L) (hg : Gen b w w' m) (hb : b < B) : OwnK E w' B v L :=
  World.ownsRow.kept h hg.g (by
    cases hv : v.ownBlock with
    | none => exact .inl rfl
    | some k => exact .inr (by have := own_base h k hv; simp; omega))
theorem ownK_empty (E : Lay α) (w : World) : OwnK E (w.alloc (.cells #[] E.ty (0, 0))) w.heap.size (.slice (some ⟨w.heap.size, 0, none⟩) 0 0) [] :=
  ⟨by simp [Lay.all], .inr ⟨w.heap.size, 0, #[], rfl, Nat.le_refl _, heap_alloc_new w _, Nat.le_refl _, by unfold maxLen; omega, by simp, by simp [Lay.all]⟩⟩
theorem OwnK.snoc {w : World} {B : Nat} {v : Value} {L : List α} {x : α} (h : w.ownsRow B E.ty E.K v (L.length + 1) (E.all L ++ E.enc x)) : OwnK E w B v (L ++ [x]) := by
  show w.ownsRow _ _ _ _ _ _
  rw [List.length_append, E.all_append]
  simpa [Lay.all] using h
theorem OwnK.app {w : World} {B : Nat} {v : Value} {L M : List α} (h : w.ownsRow B E.ty E.K v (L.length + M.length) (E.all L ++ E.all M)) : OwnK E w B v (L ++ M) := by
  show w.ownsRow _ _ _ _ _ _
  rw [List.length_append, E.all_append]
  exact h
theorem OwnK.form {w : World} {B : Nat} {v : Value} {L : List α} (h : OwnK E w B v L) : ∃ ad c, v = .slice ad L.length c ∧ Src w ad L.length E.K (E.all L) ∧ L.length ≤ c ∧ c ≤ maxLen := own_form h
theorem OwnK.one {w : World} {B : Nat} {v : Value} {L : List α} (h : OwnK E w B v L) (hl : 1 ≤ L.length) :
    ∃ g c, v = .slice (some ⟨g, 0, none⟩) L.length c ∧ B ≤ g ∧ g < w.heap.size ∧ L.length ≤ c ∧ c ≤ maxLen := by
  rcases h.2 with ⟨rfl, h0⟩ | ⟨g, cap, cur, rfl, hb, hg, hc, hm, hs, ht⟩
  · omega
  · exact ⟨g, cap, rfl, hb, lt_of_block hg, hc, hm⟩
theorem OwnK.block {w : World} {B g n c : Nat} {L : List α} (h : OwnK E w B (.slice (some ⟨g, 0, none⟩) n c) L) : n = L.length ∧ B ≤ g ∧ n ≤ c ∧ c ≤ maxLen ∧ ∃ cur, w.heap[g]? = some (.cells cur E.ty (0, 0)) ∧ cur.size = c * E.K ∧ cur.toList.take (L.length * E.K) = E.all L := by
  rcases h.2 with ⟨hv, _⟩ | ⟨g2, c2, cur, hv, hb, hg, hc, hm, hs, ht⟩
  · cases hv
  · simp at hv
    obtain ⟨rfl, rfl, rfl⟩ := hv
    exact ⟨rfl, hb, hc, hm, cur, hg, hs, ht⟩
theorem OwnK.frozen {w : World} {B g c n : Nat} {L : List α} (h : OwnK E w B (.slice (some ⟨g, 0, none⟩) n c) L) (i : Nat) : w.frozen? ⟨g, i, none⟩ = false := by
  obtain ⟨_, _, _, _, cur, hg, _⟩ := h.block
  exact frozen_of_row w g i cur _ hg
theorem OwnK.get {w : World} {B g c n : Nat} {L : List α} (h : OwnK E w B (.slice (some ⟨g, 0, none⟩) n c) L) {i j : Nat} {x : α} {v : Value} (hi : L[i]? = some x) (hv : (E.enc x)[j]? = some v) :
    w.cell? ⟨g, i * E.K + j, none⟩ = some v := by
  obtain ⟨_, _, _, _, cur, hg, hs, ht⟩ := h.block
  have hj : j < E.K := by rw [← E.len x]; exact (List.getElem?_eq_some_iff.1 hv).1
  have h0 := E.all_get L i j x hi hj
  have hil := (List.getElem?_eq_some_iff.1 hi).1
  have hlt : i * E.K + j < L.length * E.K := by
    have := Nat.mul_le_mul_right E.K (Nat.succ_le_of_lt hil)
    rw [Nat.succ_eq_add_one, Nat.add_mul, Nat.one_mul] at this
    omega
  rw [cell_of_row w g _ _ _ _ hg]
  rw [← ht, List.getElem?_take, if_pos hlt, Array.getElem?_toList] at h0
  rw [h0, hv]
theorem OwnK.rd {w : World} {B n c : Nat} {ad : Option Addr} {L : List α} (h : OwnK E w B (.slice ad n c) L) : RdK E w ad L := fun i x hx => by
  have hi := (List.getElem?_eq_some_iff.1 hx).1
  obtain ⟨g, c', hv, _, hg, _⟩ := h.one (by omega)
  simp at hv
  obtain ⟨rfl, rfl, rfl⟩ := hv
  exact ⟨g, 0, rfl, hg, fun j v hv => by rw [Nat.zero_add]; exact h.get hx hv⟩
theorem RdK.src {w : World} {ad : Option Addr} {L : List α} (h : RdK E w ad L) : Src w ad L.length E.K (E.all L) := by
  refine ⟨E.all_len L, fun t u hu => ?_⟩
  have ht : t < L.length * E.K := by
    rw [← E.all_len]; exact (List.getElem?_eq_some_iff.1 hu).1
  obtain ⟨x, hx, e⟩ := E.all_cut L t ht
  obtain ⟨g, o, had, hg, hc⟩ := h _ x hx
  refine ⟨_, had, hg, ?_⟩
  have hadd : (⟨g, o, none⟩ : Addr).add t = ⟨g, o + t, none⟩ := by unfold Addr.add; split <;> simp_all
  rw [hadd]
  have := hc (t % E.K) u (by rw [← e]; exact hu)
  rwa [show t / E.K * E.K + t % E.K = t by rw [Nat.mul_comm]; exact Nat.div_add_mod t E.K] at this
/-- a new block of one element as a source -/
theorem src_new (E : Lay α) (w : World) (x : α) (cs : Array Value) (t : TypeId) (h : cs = (E.enc x).toArray) : Src (w.alloc (.cells cs t)) (some ⟨w.heap.size, 0, none⟩) 1 E.K (E.enc x) := by
  subst h
  refine ⟨by rw [E.len, Nat.one_mul], fun j u hu => ⟨_, rfl, by simp, ?_⟩⟩
  have hadd : (⟨w.heap.size, 0, none⟩ : Addr).add j = ⟨w.heap.size, j, none⟩ := by unfold Addr.add; split <;> simp_all
  rw [hadd, cell_of_row _ w.heap.size j _ _ _ (heap_alloc_new w _)]
  simpa using hu
/-- new cells of one element, stored into an own row -/
theorem Lay.all_set (E : Lay α) : ∀ (L : List α) (i j : Nat) (x y : α) (v : Value), L[i]? = some x → j < E.K → E.enc y = (E.enc x).set j v → (E.all L).set (i * E.K + j) v = E.all (L.set i y)
  | [], i, j, x, y, v, h, _, _ => by simp at h
  | z :: L, 0, j, x, y, v, h, hj, hy => by
    simp at h
    subst h
    rw [Nat.zero_mul, Nat.zero_add]
    show ((E.enc z) ++ E.all L).set j v = _
    rw [List.set_append_left _ _ (by rw [E.len]; exact hj), ← hy]
    rfl
  | z :: L, i + 1, j, x, y, v, h, hj, hy => by
    have := E.all_set L i j x y v (by simpa using h) hj hy
    show ((E.enc z) ++ E.all L).set ((i + 1) * E.K + j) v = _
    rw [List.set_append_right _ _ (by rw [E.len, Nat.add_mul]; omega), E.len, show (i + 1) * E.K + j - E.K = i * E.K + j by rw [Nat.add_mul]; omega, this]
    rfl
theorem OwnK.setTo {w : World} {B g c n : Nat} {L : List α} (h : OwnK E w B (.slice (some ⟨g, 0, none⟩) n c) L) {i j : Nat} {x y : α} {v : Value} (hx : L[i]? = some x) (hj : j < E.K) (hy : E.enc y = (E.enc x).set j v) :
    OwnK E (w.setCell ⟨g, i * E.K + j, none⟩ v) B (.slice (some ⟨g, 0, none⟩) n c) (L.set i y) := by
  obtain ⟨rfl, hb, hc, hm, cur, hg, hs, ht⟩ := h.block
  refine ⟨by rw [E.all_len], .inr ⟨g, c, cur.setIfInBounds (i * E.K + j) v, by simp, hb, heap_setCell_same w g _ cur _ _ hg, by simpa using hc, hm, by simpa using hs, ?_⟩⟩
  rw [Array.toList_setIfInBounds, List.take_set, List.length_set, ht, E.all_set _ _ _ _ _ _ hx hj hy]
end
end Go.Proofs.YtgppbebdmbeohaaGreat

namespace Go.Proofs.YtgppbebdmbeohaaGreat
open Go.RowKit Go Go.Sort
set_option linter.unusedVariables false

def cfK {α : Type} (f : α → Nat) (x y : α) : Int := cN (f x) (f y)
theorem ltK {α : Type} (f : α → Nat) (x y : α) : Go.Proofs.ltOf (cfK f) x y = decide (f x < f y) := by
  unfold Go.Proofs.ltOf cfK
  rw [decide_eq_decide]
  exact cN_lt_iff _ _
theorem swoK {α : Type} (f : α → Nat) : SWO (Go.Proofs.ltOf (cfK f)) where
  irrefl x := by rw [ltK]; simp
  trans x y z h1 h2 := by rw [ltK] at *; simp at *; omega
  ntrans x y z h1 h2 := by rw [ltK] at *; simp at *; omega
theorem putK_take (F cur : Array Value) (h : F.size ≤ cur.size) : (putCells id 0 F cur).size = cur.size ∧ (putCells id 0 F cur).toList.take F.size = F.toList := by
  refine ⟨by simp [putCells], List.ext_getElem? fun i => ?_⟩
  rcases Nat.lt_or_ge i F.size with hi | hi
  · rw [List.getElem?_take, if_pos hi, Array.getElem?_toList, Array.getElem?_toList]
    simp only [putCells, Array.getElem?_mapIdx]
    rw [Array.getElem?_eq_getElem (by omega)]
    simp [hi]
  · rw [List.getElem?_eq_none (by simp; omega), List.getElem?_eq_none (by simpa using hi)]
section
variable {α : Type} [Inhabited α] {E : Lay α} {f : α → Nat}
theorem flat_all (E : Lay α) (d : Array α) : (flatK E.enc E.K d).toList = E.all d.toList := by
  refine List.ext_getElem? fun t => ?_
  rcases Nat.lt_or_ge t (d.size * E.K) with h | h
  · have hs : t < (flatK E.enc E.K d).size := by rw [size_flatK]; exact h
    obtain ⟨x, hx, e⟩ := E.all_cut d.toList t (by simpa using h)
    rw [e, Array.getElem?_toList, Array.getElem?_eq_getElem hs, ← getElem!_pos (flatK E.enc E.K d) t hs, get_flatK _ _ _ _ h]
    have hx2 : d[t / E.K]? = some x := by rw [← Array.getElem?_toList]; exact hx
    have hd : d[t / E.K]! = x := by rw [getElem!_def, hx2]
    have hm : t % E.K < (E.enc x).length := by rw [E.len]; exact Nat.mod_lt _ E.pos
    rw [hd, List.getElem?_eq_getElem hm]
    first | rfl | simp [hm]
  · rw [List.getElem?_eq_none (by rw [Array.length_toList, size_flatK]; exact h), List.getElem?_eq_none (by rw [E.all_len]; simpa using h)]
theorem cmpLays_of {P : Program} {g blk off size : Nat} {w : World} (h : ∀ x y W, Calls P g #[.agg (E.enc x).toArray, .agg (E.enc y).toArray] W (RetD (.int .i64 (cfK f x y)) W)) : CmpLays P g #[] E.enc E.K (cfK f) blk off size w :=
  fun m os dk _ x y => by
    rw [Array.append_empty]
    exact (h x y _).mono fun _ _ ⟨he, hb⟩ => ⟨he, hb.grow⟩
theorem OwnK.holds {w : World} {B g n c : Nat} {M : List α} (h : OwnK E w B (.slice (some ⟨g, 0, none⟩) n c) M) : HoldsK E.enc E.K w g 0 M.toArray ∧ g < w.heap.size := by
  obtain ⟨_, hb, hc, hm, cur, hg, hs, ht⟩ := h.block
  refine ⟨?_, lt_of_block hg⟩
  have hF := flat_all E M.toArray
  rw [List.toList_toArray] at hF
  have hfs : (flatK E.enc E.K M.toArray).size = M.length * E.K := by rw [size_flatK]; rfl
  intro j hj
  rw [hfs] at hj
  refine ⟨?_, frozen_of_row w g (0 + j) cur _ hg⟩
  rw [Nat.zero_add, cell_of_row w g j _ _ _ hg]
  have h1 : (cur.toList.take (M.length * E.K))[j]? = (flatK E.enc E.K M.toArray).toList[j]? := by rw [ht, hF]
  rw [List.getElem?_take, if_pos hj, Array.getElem?_toList, Array.getElem?_toList, Array.getElem?_eq_getElem (xs := flatK E.enc E.K M.toArray) (by omega)] at h1
  rw [h1, getElem!_pos _ j (by omega)]
  rfl
theorem OwnK.sorted {w w' : World} {B g n c : Nat} {M : List α} (h : OwnK E w B (.slice (some ⟨g, 0, none⟩) n c) M) (hB : B ≤ w.heap.size) {d' : Array α} {q : Nat} {os : Array Obj}
    (hp : PermIn 0 M.toArray.size M.toArray d') (hso : SortedIn (Go.Proofs.ltOf (cfK f)) 0 M.toArray.size d') (hw : w' = sortWorldK E.enc E.K w g 0 q d' os) :
    ∃ S : List α, S.Perm M ∧ S.Pairwise (fun p q => f p ≤ f q) ∧ OwnK E w' B (.slice (some ⟨g, 0, none⟩) n c) S ∧ Below B w w' := by
  subst hw
  obtain ⟨hn, hb, hc, hm, cur, hg, hs, ht⟩ := h.block
  have hlt := lt_of_block hg
  have hms : M.toArray.size = M.length := rfl
  have hds' : d'.size = M.length := hp.1
  have hperm : d'.toList.Perm M := by
    have h3 := hp.2.2
    rw [Array.extract_eq_self_of_le (by omega), Array.extract_eq_self_of_le (by omega)] at h3
    exact h3
  have hF' := flat_all E d'
  have hfs' : (flatK E.enc E.K d').size = M.length * E.K := by rw [size_flatK, hds']
  refine ⟨d'.toList, hperm, ?_, ?_⟩
  · rw [List.pairwise_iff_getElem]
    intro i j hi hj hij
    have hj' : j < d'.size := by simpa using hj
    have hs := hso i j (Nat.zero_le _) hij (by omega)
    rw [ltK, getElem!_pos d' j hj', getElem!_pos d' i (by omega)] at hs
    simp at hs ⊢
    exact hs
  · show OwnK E (grow (putRow id (Sort.ahead w q) g 0 (flatK E.enc E.K d')) os) B _ _ ∧ Below B w (grow (putRow id (Sort.ahead w q) g 0 (flatK E.enc E.K d')) os)
    generalize flatK E.enc E.K d' = F at hF' hfs' ⊢
    have hlen : d'.toList.length = M.length := by simp [hds']
    generalize d'.toList = L at hF' hlen ⊢
    have hheap : ∀ i, i < w.heap.size → (grow (putRow id (Sort.ahead w q) g 0 F) os).heap[i]? = if g = i then some (.cells (putCells id 0 F cur) E.ty (0, 0)) else w.heap[i]? := by
      intro i hi
      simp only [grow, putRow, mapBlock, Sort.ahead]
      rw [Array.getElem?_append_left (by simpa using hi), Array.getElem?_modify]
      by_cases e : g = i
      · subst e
        rw [if_pos rfl, if_pos rfl, hg]
        rfl
      · rw [if_neg e, if_neg e]
    have hFc : F.size ≤ cur.size := by
      rw [hfs', hs]
      exact Nat.mul_le_mul_right _ (by omega)
    obtain ⟨p1, p2⟩ := putK_take F cur hFc
    refine ⟨⟨by rw [E.all_len], .inr ⟨g, c, _, by rw [hlen, hn], hb, by rw [hheap g hlt, if_pos rfl], by omega, hm, by omega, by rw [hlen, ← hfs', p2]; exact hF'⟩⟩, ?_⟩
    refine ⟨rfl, rfl, rfl, by simp [grow, putRow, mapBlock, Sort.ahead], fun i hi => ?_⟩
    rw [hheap i (by omega), if_neg (by omega)]
end
end Go.Proofs.YtgppbebdmbeohaaGreat

namespace Go.Proofs
open Go.Shelf
def Tryz.pdqRg_ren : Go.Shelf.Ren := ⟨fun | 14 => 164 | 20 => 168 | 21 => 169 | 22 => 170 | 23 => 171 | 24 => 172 | 25 => 173 | 26 => 174 | 27 => 175 | 46 => 186 | 47 => 187 | 48 => 188 | 49 => 189 | 50 => 190 | 15 => 165 | 57 => 194 | 28 => 176 | 29 => 177 | n => n, fun | 24 => 162 | 22 => 120 | 3 => 3 | 25 => 186 | 4 => 4 | 0 => 0 | 46 => 198 | 45 => 197 | 50 => 167 | 66 => 211 | 39 => 139 | 55 => 30 | 70 => 215 | 76 => 219 | 77 => 220 | 53 => 204 | 5 => 5 | 9 => 9 | n => n, fun | n => n⟩
theorem Tryz.pdqRg : Go.Proofs.SlLaysF0.n14 Tryz.prog Tryz.pdqRg_ren := {
  mixed := by kernel_rfl
  f14 := ⟨Tryz.f164.name, by decide, Tryz.func164.trans (congrArg some (by kernel_rfl))⟩
  f15 := Tryz.func165.trans (congrArg some (by kernel_rfl))
  f20 := ⟨Tryz.f168.name, by decide, Tryz.func168.trans (congrArg some (by kernel_rfl))⟩
  f21 := ⟨Tryz.f169.name, by decide, Tryz.func169.trans (congrArg some (by kernel_rfl))⟩
  f22 := ⟨Tryz.f170.name, by decide, Tryz.func170.trans (congrArg some (by kernel_rfl))⟩
  f23 := ⟨Tryz.f171.name, by decide, Tryz.func171.trans (congrArg some (by kernel_rfl))⟩
  f24 := ⟨Tryz.f172.name, by decide, Tryz.func172.trans (congrArg some (by kernel_rfl))⟩
  f25 := ⟨Tryz.f173.name, by decide, Tryz.func173.trans (congrArg some (by kernel_rfl))⟩
  f26 := ⟨Tryz.f174.name, by decide, Tryz.func174.trans (congrArg some (by kernel_rfl))⟩
  f27 := ⟨Tryz.f175.name, by decide, Tryz.func175.trans (congrArg some (by kernel_rfl))⟩
  f28 := Tryz.func176.trans (congrArg some (by kernel_rfl))
  f29 := Tryz.func177.trans (congrArg some (by kernel_rfl))
  f46 := ⟨Tryz.f186.name, by decide, Tryz.func186.trans (congrArg some (by kernel_rfl))⟩
  f47 := Tryz.func187.trans (congrArg some (by kernel_rfl))
  f48 := Tryz.func188.trans (congrArg some (by kernel_rfl))
  f49 := ⟨Tryz.f189.name, by decide, Tryz.func189.trans (congrArg some (by kernel_rfl))⟩
  f50 := ⟨Tryz.f190.name, by decide, Tryz.func190.trans (congrArg some (by kernel_rfl))⟩
  f57 := ⟨Tryz.f194.name, by decide, Tryz.func194.trans (congrArg some (by kernel_rfl))⟩
  t0 := Tryz.underlying0
  a0 := Tryz.isAgg0
  z0 := Tryz.sizeOf0
  v0 := Tryz.zeroValue0
  t3 := Tryz.underlying3
  a3 := Tryz.isAgg3
  z3 := Tryz.sizeOf3
  v3 := Tryz.zeroValue3
  t4 := Tryz.underlying4
  a4 := Tryz.isAgg4
  z4 := Tryz.sizeOf4
  v4 := Tryz.zeroValue4
  t5 := Tryz.underlying5
  a5 := Tryz.isAgg5
  z5 := Tryz.sizeOf5
  v5 := Tryz.zeroValue5
  t9 := Tryz.underlying9
  a9 := Tryz.isAgg9
  z9 := Tryz.sizeOf9
  v9 := Tryz.zeroValue9
  t22 := Tryz.underlying120
  a22 := Tryz.isAgg120
  z22 := Tryz.sizeOf120
  v22 := Tryz.zeroValue120
  t25 := Tryz.underlying186
  a25 := Tryz.isAgg186
  z25 := Tryz.sizeOf186
  v25 := Tryz.zeroValue186
  t39 := Tryz.underlying139
  a39 := Tryz.isAgg139
  z39 := Tryz.sizeOf139
  v39 := Tryz.zeroValue139
  t45 := Tryz.underlying197
  a45 := Tryz.isAgg197
  z45 := Tryz.sizeOf197
  v45 := Tryz.zeroValue197
  t46 := Tryz.underlying198
  a46 := Tryz.isAgg198
  z46 := Tryz.sizeOf198
  v46 := Tryz.zeroValue198
  t50 := Tryz.underlying167
  a50 := Tryz.isAgg167
  z50 := Tryz.sizeOf167
  v50 := Tryz.zeroValue167
  t53 := Tryz.underlying204
  a53 := Tryz.isAgg204
  z53 := Tryz.sizeOf204
  v53 := Tryz.zeroValue204
  t55 := Tryz.underlying30
  a55 := Tryz.isAgg30
  z55 := Tryz.sizeOf30
  v55 := Tryz.zeroValue30
  t66 := Tryz.underlying211
  a66 := Tryz.isAgg211
  z66 := Tryz.sizeOf211
  v66 := Tryz.zeroValue211
  t70 := Tryz.underlying215
  a70 := Tryz.isAgg215
  z70 := Tryz.sizeOf215
  v70 := Tryz.zeroValue215
  t76 := Tryz.underlying219
  a76 := Tryz.isAgg219
  z76 := Tryz.sizeOf219
  v76 := Tryz.zeroValue219
  t77 := Tryz.underlying220
  a77 := Tryz.isAgg220
  z77 := Tryz.sizeOf220
  v77 := Tryz.zeroValue220 }
open Go.Sort Go.RowKit in
theorem Tryz.slices_pdq_Rg {α : Type} [Inhabited α] (enc : α → List Value) (hk : ∀ x, (enc x).length = 6) (h1 : ∀ x, ∀ v ∈ enc x, v.oneCell' = true) (cf : α → α → Int) (hO : SWO (ltOf cf)) (g : Nat) (cb : Array Value) (blk off cap lim : Nat) (d : Array α) (w : World)
    (eg : ∀ args w, (callFunc g args).run Tryz.prog w = .ok (.enter g args) w) (hcmp : CmpLays Tryz.prog g cb enc 6 cf blk off d.size w) (hH : HoldsK enc 6 w blk off d) (hblk : blk < w.heap.size) (hsz : d.size < 4611686018427387904) (hlim : lim < 4611686018427387904) :
    Calls Tryz.prog 164 #[.slice (some ⟨blk, off, none⟩) d.size cap, .int .i64 (0 : Nat), .int .i64 (d.size : Nat), .int .i64 (lim : Nat), .func (.func g) #[] cb] w fun e w' =>
      e = .returned (.tuple #[]) ∧ ∃ d' n os, PermIn 0 d.size d d' ∧ SortedIn (ltOf cf) 0 d.size d' ∧ w' = sortWorldK enc 6 w blk off n d' os :=
  (AnyQ.pdqsortCmpFunc_all Tryz.pdqRg 6 Tryz.isAgg162 Tryz.sizeOf162 enc cf g cb hO blk off cap d w eg hcmp ⟨hk, h1, hH, hblk⟩ (d.size + 1) 0 d.size lim d w (by omega) rfl (SWK.start hH) (Nat.zero_le _) (Nat.le_refl _) hsz hlim (Or.inl rfl)).mono fun _ _ ⟨he, n, os, hw⟩ =>
    have h := pdq_sorts (ltOf cf) hO d 0 d.size lim true true (Nat.zero_le _) (Nat.le_refl _) (Or.inl rfl)
    ⟨he, _, n, os, h.1, h.2, hw⟩
open Go.Sort Go.RowKit in
theorem Tryz.slices_pdq_Rg_none (p : Option Addr) (cap : Nat) (lim : Int) (fv : Value) (w : World) :
    Calls Tryz.prog 164 #[.slice p 0 cap, .int .i64 0, .int .i64 0, .int .i64 lim, fv] w fun e w' => e = .returned (.tuple #[]) ∧ w' = w :=
  AnyF.pdqsortCmpFunc_none Tryz.pdqRg p cap lim fv w
end Go.Proofs

namespace Go.Proofs
open Go.Shelf
def Tryz.sortQs_ren : Go.Shelf.Ren := ⟨fun | 6 => 161 | 15 => 165 | 14 => 167 | 28 => 176 | 29 => 177 | 20 => 178 | 21 => 179 | 22 => 180 | 23 => 181 | 24 => 182 | 25 => 183 | 26 => 184 | 27 => 185 | 46 => 191 | 47 => 187 | 48 => 188 | 49 => 192 | 50 => 193 | 57 => 195 | n => n, fun | 22 => 157 | 24 => 178 | 25 => 191 | 3 => 3 | 39 => 139 | 0 => 0 | 53 => 204 | 55 => 30 | 4 => 4 | 46 => 198 | 45 => 197 | 50 => 167 | 5 => 5 | 9 => 9 | 66 => 211 | 70 => 215 | 76 => 219 | 77 => 220 | n => n, fun | n => n⟩
theorem Tryz.sortQs : Go.Proofs.SlLaysF0.n6 Tryz.prog Tryz.sortQs_ren := {
  mixed := by kernel_rfl
  f6 := ⟨Tryz.f161.name, by decide, Tryz.func161.trans (congrArg some (by kernel_rfl))⟩
  f14 := ⟨Tryz.f167.name, by decide, Tryz.func167.trans (congrArg some (by kernel_rfl))⟩
  f15 := Tryz.func165.trans (congrArg some (by kernel_rfl))
  f20 := ⟨Tryz.f178.name, by decide, Tryz.func178.trans (congrArg some (by kernel_rfl))⟩
  f21 := ⟨Tryz.f179.name, by decide, Tryz.func179.trans (congrArg some (by kernel_rfl))⟩
  f22 := ⟨Tryz.f180.name, by decide, Tryz.func180.trans (congrArg some (by kernel_rfl))⟩
  f23 := ⟨Tryz.f181.name, by decide, Tryz.func181.trans (congrArg some (by kernel_rfl))⟩
  f24 := ⟨Tryz.f182.name, by decide, Tryz.func182.trans (congrArg some (by kernel_rfl))⟩
  f25 := ⟨Tryz.f183.name, by decide, Tryz.func183.trans (congrArg some (by kernel_rfl))⟩
  f26 := ⟨Tryz.f184.name, by decide, Tryz.func184.trans (congrArg some (by kernel_rfl))⟩
  f27 := ⟨Tryz.f185.name, by decide, Tryz.func185.trans (congrArg some (by kernel_rfl))⟩
  f28 := Tryz.func176.trans (congrArg some (by kernel_rfl))
  f29 := Tryz.func177.trans (congrArg some (by kernel_rfl))
  f46 := ⟨Tryz.f191.name, by decide, Tryz.func191.trans (congrArg some (by kernel_rfl))⟩
  f47 := Tryz.func187.trans (congrArg some (by kernel_rfl))
  f48 := Tryz.func188.trans (congrArg some (by kernel_rfl))
  f49 := ⟨Tryz.f192.name, by decide, Tryz.func192.trans (congrArg some (by kernel_rfl))⟩
  f50 := ⟨Tryz.f193.name, by decide, Tryz.func193.trans (congrArg some (by kernel_rfl))⟩
  f57 := ⟨Tryz.f195.name, by decide, Tryz.func195.trans (congrArg some (by kernel_rfl))⟩
  t0 := Tryz.underlying0
  a0 := Tryz.isAgg0
  z0 := Tryz.sizeOf0
  v0 := Tryz.zeroValue0
  t3 := Tryz.underlying3
  a3 := Tryz.isAgg3
  z3 := Tryz.sizeOf3
  v3 := Tryz.zeroValue3
  t4 := Tryz.underlying4
  a4 := Tryz.isAgg4
  z4 := Tryz.sizeOf4
  v4 := Tryz.zeroValue4
  t5 := Tryz.underlying5
  a5 := Tryz.isAgg5
  z5 := Tryz.sizeOf5
  v5 := Tryz.zeroValue5
  t9 := Tryz.underlying9
  a9 := Tryz.isAgg9
  z9 := Tryz.sizeOf9
  v9 := Tryz.zeroValue9
  t22 := Tryz.underlying157
  a22 := Tryz.isAgg157
  z22 := Tryz.sizeOf157
  v22 := Tryz.zeroValue157
  t25 := Tryz.underlying191
  a25 := Tryz.isAgg191
  z25 := Tryz.sizeOf191
  v25 := Tryz.zeroValue191
  t39 := Tryz.underlying139
  a39 := Tryz.isAgg139
  z39 := Tryz.sizeOf139
  v39 := Tryz.zeroValue139
  t45 := Tryz.underlying197
  a45 := Tryz.isAgg197
  z45 := Tryz.sizeOf197
  v45 := Tryz.zeroValue197
  t46 := Tryz.underlying198
  a46 := Tryz.isAgg198
  z46 := Tryz.sizeOf198
  v46 := Tryz.zeroValue198
  t50 := Tryz.underlying167
  a50 := Tryz.isAgg167
  z50 := Tryz.sizeOf167
  v50 := Tryz.zeroValue167
  t53 := Tryz.underlying204
  a53 := Tryz.isAgg204
  z53 := Tryz.sizeOf204
  v53 := Tryz.zeroValue204
  t55 := Tryz.underlying30
  a55 := Tryz.isAgg30
  z55 := Tryz.sizeOf30
  v55 := Tryz.zeroValue30
  t66 := Tryz.underlying211
  a66 := Tryz.isAgg211
  z66 := Tryz.sizeOf211
  v66 := Tryz.zeroValue211
  t70 := Tryz.underlying215
  a70 := Tryz.isAgg215
  z70 := Tryz.sizeOf215
  v70 := Tryz.zeroValue215
  t76 := Tryz.underlying219
  a76 := Tryz.isAgg219
  z76 := Tryz.sizeOf219
  v76 := Tryz.zeroValue219
  t77 := Tryz.underlying220
  a77 := Tryz.isAgg220
  z77 := Tryz.sizeOf220
  v77 := Tryz.zeroValue220 }
open Go.Sort Go.RowKit in
theorem Tryz.slices_SortFunc_Qs {α : Type} [Inhabited α] (enc : α → List Value) (hk : ∀ x, (enc x).length = 18) (h1 : ∀ x, ∀ v ∈ enc x, v.oneCell' = true) (cf : α → α → Int) (hO : SWO (ltOf cf)) (g : Nat) (cb : Array Value) (blk off cap : Nat) (d : Array α) (w : World)
    (eg : ∀ args w, (callFunc g args).run Tryz.prog w = .ok (.enter g args) w) (hcmp : CmpLays Tryz.prog g cb enc 18 cf blk off d.size w) (hH : HoldsK enc 18 w blk off d) (hblk : blk < w.heap.size) (hsz : d.size < 4611686018427387904) :
    Calls Tryz.prog 161 #[.slice (some ⟨blk, off, none⟩) d.size cap, .func (.func g) #[] cb] w fun e w' =>
      e = .returned (.tuple #[]) ∧ ∃ d' n os, PermIn 0 d.size d d' ∧ SortedIn (ltOf cf) 0 d.size d' ∧ w' = sortWorldK enc 18 w blk off n d' os :=
  AnyQ.slices_SortFunc Tryz.sortQs 18 Tryz.isAgg178 Tryz.sizeOf178 enc hk h1 cf hO g cb blk off cap d w eg hcmp hH hblk hsz
open Go.Sort Go.RowKit in
theorem Tryz.slices_SortFunc_Qs_none (p : Option Addr) (cap : Nat) (fv : Value) (w : World) :
    Calls Tryz.prog 161 #[.slice p 0 cap, fv] w fun e w' => e = .returned (.tuple #[]) ∧ w' = w :=
  AnyF.slices_SortFunc_none Tryz.sortQs p cap fv w
end Go.Proofs

namespace Go.Proofs
open Go.Shelf
def Tryz.lays128_ren : Go.Shelf.Ren := ⟨fun | 128 => 176 | n => n, fun | 51 => 204 | 3 => 3 | 4 => 4 | 46 => 139 | 5 => 5 | 9 => 9 | n => n, fun | n => n⟩
theorem Tryz.lays128 : Go.Proofs.Lays.n128 Tryz.prog Tryz.lays128_ren := {
  mixed := by kernel_rfl
  f128 := Tryz.func176.trans (congrArg some (by kernel_rfl))
  t3 := Tryz.underlying3
  a3 := Tryz.isAgg3
  z3 := Tryz.sizeOf3
  v3 := Tryz.zeroValue3
  t4 := Tryz.underlying4
  a4 := Tryz.isAgg4
  z4 := Tryz.sizeOf4
  v4 := Tryz.zeroValue4
  t5 := Tryz.underlying5
  a5 := Tryz.isAgg5
  z5 := Tryz.sizeOf5
  v5 := Tryz.zeroValue5
  t9 := Tryz.underlying9
  a9 := Tryz.isAgg9
  z9 := Tryz.sizeOf9
  v9 := Tryz.zeroValue9
  t46 := Tryz.underlying139
  a46 := Tryz.isAgg139
  z46 := Tryz.sizeOf139
  v46 := Tryz.zeroValue139
  t51 := Tryz.underlying204
  a51 := Tryz.isAgg204
  z51 := Tryz.sizeOf204
  v51 := Tryz.zeroValue204 }
/-- bits.Len32: "Len32 returns the minimum number of bits required to represent x; the result is 0 for x == 0.": IT RETURNS 'Lib.bitLen x'; the world is as it was. ('h0', 'h1': x is a uint32.) (LAID: no walk: one application.) -/
theorem Tryz.bits_Len32 (x : Int) (w : World) (h0 : 0 ≤ x) (h1 : x ≤ 4294967295) :
    Calls Tryz.prog 176 #[.int .u32 x] w fun e w' => e = .returned (.int .i64 (Lib.bitLen x.toNat)) ∧ w' = w := Any.bits_Len32 Tryz.lays128 x w h0 h1
def Tryz.lays125_ren : Go.Shelf.Ren := ⟨fun | 125 => 165 | 128 => 176 | 129 => 177 | n => n, fun | 46 => 139 | 3 => 3 | 51 => 204 | 53 => 30 | 4 => 4 | 5 => 5 | 9 => 9 | n => n, fun | n => n⟩
theorem Tryz.lays125 : Go.Proofs.Lays.n125 Tryz.prog Tryz.lays125_ren := {
  mixed := by kernel_rfl
  f125 := Tryz.func165.trans (congrArg some (by kernel_rfl))
  f128 := Tryz.func176.trans (congrArg some (by kernel_rfl))
  f129 := Tryz.func177.trans (congrArg some (by kernel_rfl))
  t3 := Tryz.underlying3
  a3 := Tryz.isAgg3
  z3 := Tryz.sizeOf3
  v3 := Tryz.zeroValue3
  t4 := Tryz.underlying4
  a4 := Tryz.isAgg4
  z4 := Tryz.sizeOf4
  v4 := Tryz.zeroValue4
  t5 := Tryz.underlying5
  a5 := Tryz.isAgg5
  z5 := Tryz.sizeOf5
  v5 := Tryz.zeroValue5
  t9 := Tryz.underlying9
  a9 := Tryz.isAgg9
  z9 := Tryz.sizeOf9
  v9 := Tryz.zeroValue9
  t46 := Tryz.underlying139
  a46 := Tryz.isAgg139
  z46 := Tryz.sizeOf139
  v46 := Tryz.zeroValue139
  t51 := Tryz.underlying204
  a51 := Tryz.isAgg204
  z51 := Tryz.sizeOf204
  v51 := Tryz.zeroValue204
  t53 := Tryz.underlying30
  a53 := Tryz.isAgg30
  z53 := Tryz.sizeOf30
  v53 := Tryz.zeroValue30 }
/-- bits.Len: "Len returns the minimum number of bits required to represent x; the result is 0 for x == 0.": IT RETURNS 'Lib.bitLen x'; the world is as it was. (A uint has 64 bits in the model.) ITS CALLEE bits.Len64 IS MET BY ITS OWN CONTRACT OFF THE SHELF (lay that first). (LAID: no walk: one application.) -/
theorem Tryz.bits_Len (x : Int) (w : World) (h0 : 0 ≤ x) (h1 : x ≤ 18446744073709551615) :
    Calls Tryz.prog 165 #[.int .u64 x] w fun e w' => e = .returned (.int .i64 (Lib.bitLen x.toNat)) ∧ w' = w := Any.bits_Len Tryz.lays125 x w h0 h1
def Tryz.lays129_ren : Go.Shelf.Ren := ⟨fun | 129 => 177 | n => n, fun | 53 => 30 | 3 => 3 | 4 => 4 | 46 => 139 | 5 => 5 | 9 => 9 | n => n, fun | n => n⟩
theorem Tryz.lays129 : Go.Proofs.Lays.n129 Tryz.prog Tryz.lays129_ren := {
  mixed := by kernel_rfl
  f129 := Tryz.func177.trans (congrArg some (by kernel_rfl))
  t3 := Tryz.underlying3
  a3 := Tryz.isAgg3
  z3 := Tryz.sizeOf3
  v3 := Tryz.zeroValue3
  t4 := Tryz.underlying4
  a4 := Tryz.isAgg4
  z4 := Tryz.sizeOf4
  v4 := Tryz.zeroValue4
  t5 := Tryz.underlying5
  a5 := Tryz.isAgg5
  z5 := Tryz.sizeOf5
  v5 := Tryz.zeroValue5
  t9 := Tryz.underlying9
  a9 := Tryz.isAgg9
  z9 := Tryz.sizeOf9
  v9 := Tryz.zeroValue9
  t46 := Tryz.underlying139
  a46 := Tryz.isAgg139
  z46 := Tryz.sizeOf139
  v46 := Tryz.zeroValue139
  t53 := Tryz.underlying30
  a53 := Tryz.isAgg30
  z53 := Tryz.sizeOf30
  v53 := Tryz.zeroValue30 }
/-- bits.Len64: "Len64 returns the minimum number of bits required to represent x; the result is 0 for x == 0.": IT RETURNS 'Lib.bitLen x'; the world is as it was. ('h0', 'h1': x is a uint64.) (LAID: no walk: one application.) -/
theorem Tryz.bits_Len64 (x : Int) (w : World) (h0 : 0 ≤ x) (h1 : x ≤ 18446744073709551615) :
    Calls Tryz.prog 177 #[.int .u64 x] w fun e w' => e = .returned (.int .i64 (Lib.bitLen x.toNat)) ∧ w' = w := Any.bits_Len64 Tryz.lays129 x w h0 h1
end Go.Proofs

namespace Go.Proofs.YtgppbebdmbeohaaGreat
open Go.RowKit Go Go.Sort
set_option linter.unusedVariables false

/-- a prefix as it lies: six, hi, lo, bits -/
abbrev Pf := Bool × Nat × Nat × Int
def pfC (p : Pf) : List Value := [.bool p.1, .int .u64 ((p.2.1 : Nat) : Int), .int .u64 ((p.2.2.1 : Nat) : Int), .int .i64 p.2.2.2]
def layPf : Lay Pf := ⟨pfC, 4, 114, by decide, fun _ => rfl, fun p v hv => by simp [pfC] at hv; rcases hv with rfl | rfl | rfl | rfl <;> rfl⟩
/-- a range of two numbers as it lies -/
def rgC (p : Sp) : List Value := [.bool (sixN p.1), .int .u64 ((hiN p.1 : Nat) : Int), .int .u64 ((loN p.1 : Nat) : Int), .bool (sixN p.2), .int .u64 ((hiN p.2 : Nat) : Int), .int .u64 ((loN p.2 : Nat) : Int)]
def layRg : Lay Sp := ⟨rgC, 6, 162, by decide, fun _ => rfl, fun p v hv => by simp [rgC] at hv; rcases hv with rfl | rfl | rfl | rfl | rfl | rfl <;> rfl⟩
/-- a span of two numbers as it lies in the reference -/
def qsC (p : Sp) : List Value := (wN p.1 ++ wN p.2).toList
theorem wN_one (N : Nat) : ∀ v ∈ (wN N).toList, v.oneCell' = true := fun v hv => by
  simp [wN, wd] at hv
  rcases hv with rfl | rfl | rfl | rfl | rfl | rfl | rfl | rfl | rfl <;> rfl
def layQs : Lay Sp := ⟨qsC, 18, 178, by decide, fun _ => rfl, fun p v hv => by
  rw [qsC, Array.toList_append, List.mem_append] at hv
  rcases hv with hv | hv <;> exact wN_one _ v hv⟩
theorem pfE : EI Tryz.prog 72 114 4 32 := EI.mk' (z := .agg #[.bool false, .int .u64 0, .int .u64 0, .int .i64 0]) Tryz.underlying72 (by kernel_rfl) rfl (by decide)
theorem rgE : EI Tryz.prog 121 162 6 48 := EI.mk' (z := .agg #[.bool false, .int .u64 0, .int .u64 0, .bool false, .int .u64 0, .int .u64 0]) Tryz.underlying121 (by kernel_rfl) rfl (by decide)
theorem rgE2 : EI Tryz.prog 120 162 6 48 := EI.mk' (z := .agg #[.bool false, .int .u64 0, .int .u64 0, .bool false, .int .u64 0, .int .u64 0]) Tryz.underlying120 (by kernel_rfl) rfl (by decide)
theorem qsE : EI Tryz.prog 157 178 18 144 := EI.mk' (z := .agg #[.int .i64 0, .int .i64 0, .int .i64 0, .int .i64 0, .int .i64 0, .int .i64 0, .int .i64 0, .int .i64 0, .int .i64 0, .int .i64 0, .int .i64 0, .int .i64 0, .int .i64 0, .int .i64 0, .int .i64 0, .int .i64 0, .int .i64 0, .int .i64 0]) Tryz.underlying157 (by kernel_rfl) rfl (by decide)

/-! ### The comparisons -/
def nmN (x : Nat) : Nat := numA (sixN x) (hiN x) (loN x)
def keyRg (p : Sp) : Nat := nmN p.1
def keyQs (p : Sp) : Nat := p.1 % 65536 ^ 9
set_option maxRecDepth 100000 in
set_option maxHeartbeats 1000000 in
theorem cmpRg_any (p q : Sp) (w : World) : Calls Tryz.prog 155 #[.agg (layRg.enc p).toArray, .agg (layRg.enc q).toArray] w (RetD (.int .i64 (cfK keyRg p q)) w) := by
  have HC := Lib.hid fun wx => spanCompareD_any (sixN p.1) (hiN p.1) (loN p.1) (sixN q.1) (hiN q.1) (loN q.1) wx (hiN_u _) (loN_u _) (hiN_u _) (loN_u _)
  show Calls Tryz.prog 155 #[.agg #[.bool (sixN p.1), .int .u64 ((hiN p.1 : Nat) : Int), .int .u64 ((loN p.1 : Nat) : Int), .bool (sixN p.2), .int .u64 ((hiN p.2 : Nat) : Int), .int .u64 ((loN p.2 : Nat) : Int)], .agg #[.bool (sixN q.1), .int .u64 ((hiN q.1 : Nat) : Int), .int .u64 ((loN q.1 : Nat) : Int), .bool (sixN q.2), .int .u64 ((hiN q.2 : Nat) : Int), .int .u64 ((loN q.2 : Nat) : Int)]] w (RetD (.int .i64 (cN (numA (sixN p.1) (hiN p.1) (loN p.1)) (numA (sixN q.1) (hiN q.1) (loN q.1)))) w)
  generalize cN (numA (sixN p.1) (hiN p.1) (loN p.1)) (numA (sixN q.1) (hiN q.1) (loN q.1)) = C at *
  generalize sixN p.1 = a1 at *
  generalize hiN p.1 = a2 at *
  generalize loN p.1 = a3 at *
  generalize sixN p.2 = a4 at *
  generalize hiN p.2 = a5 at *
  generalize loN p.2 = a6 at *
  generalize sixN q.1 = b1 at *
  generalize hiN q.1 = b2 at *
  generalize loN q.1 = b3 at *
  generalize sixN q.2 = b4 at *
  generalize hiN q.2 = b5 at *
  generalize loN q.2 = b6 at *
  have HP' : Blk ((w.alloc (.cells #[.bool a1, .int .u64 (a2 : Int), .int .u64 (a3 : Int), .bool a4, .int .u64 (a5 : Int), .int .u64 (a6 : Int)] 162 (0, 0))).alloc (.cells #[.bool b1, .int .u64 (b2 : Int), .int .u64 (b3 : Int), .bool b4, .int .u64 (b5 : Int), .int .u64 (b6 : Int)] 162 (0, 0))) (w.heap.size) 162 #[.bool a1, .int .u64 (a2 : Int), .int .u64 (a3 : Int), .bool a4, .int .u64 (a5 : Int), .int .u64 (a6 : Int)] :=
    (Blk.new w 162 #[.bool a1, .int .u64 (a2 : Int), .int .u64 (a3 : Int), .bool a4, .int .u64 (a5 : Int), .int .u64 (a6 : Int)]).alloc _
  have HP := Lib.hid HP'
  clear HP'
  have HQ' : Blk ((w.alloc (.cells #[.bool a1, .int .u64 (a2 : Int), .int .u64 (a3 : Int), .bool a4, .int .u64 (a5 : Int), .int .u64 (a6 : Int)] 162 (0, 0))).alloc (.cells #[.bool b1, .int .u64 (b2 : Int), .int .u64 (b3 : Int), .bool b4, .int .u64 (b5 : Int), .int .u64 (b6 : Int)] 162 (0, 0))) (w.heap.size + 1) 162 #[.bool b1, .int .u64 (b2 : Int), .int .u64 (b3 : Int), .bool b4, .int .u64 (b5 : Int), .int .u64 (b6 : Int)] := by
    have this := Blk.new (w.alloc (.cells #[.bool a1, .int .u64 (a2 : Int), .int .u64 (a3 : Int), .bool a4, .int .u64 (a5 : Int), .int .u64 (a6 : Int)] 162 (0, 0))) 162 #[.bool b1, .int .u64 (b2 : Int), .int .u64 (b3 : Int), .bool b4, .int .u64 (b5 : Int), .int .u64 (b6 : Int)]
    rw [World.size_alloc] at this
    exact this
  have HQ := Lib.hid HQ'
  clear HQ'
  have HB : Hid (BelD w ((w.alloc (.cells #[.bool a1, .int .u64 (a2 : Int), .int .u64 (a3 : Int), .bool a4, .int .u64 (a5 : Int), .int .u64 (a6 : Int)] 162 (0, 0))).alloc (.cells #[.bool b1, .int .u64 (b2 : Int), .int .u64 (b3 : Int), .bool b4, .int .u64 (b5 : Int), .int .u64 (b6 : Int)] 162 (0, 0)))) := Lib.hid (((BelD.refl _).alloc _).alloc _)
  go_enter Tryz.func155, Tryz.ntmps155
  go_upto_region 1 with fail
  generalize ((w.alloc (.cells #[.bool a1, .int .u64 (a2 : Int), .int .u64 (a3 : Int), .bool a4, .int .u64 (a5 : Int), .int .u64 (a6 : Int)] 162 (0, 0))).alloc (.cells #[.bool b1, .int .u64 (b2 : Int), .int .u64 (b3 : Int), .bool b4, .int .u64 (b5 : Int), .int .u64 (b6 : Int)] 162 (0, 0))) = w1 at *
  have p0 := HP.out.cell 0
  have p1 := HP.out.cell 1
  have p2 := HP.out.cell 2
  simp at p0 p1 p2
  have q0 := HQ.out.cell 0
  have q1 := HQ.out.cell 1
  have q2 := HQ.out.cell 2
  simp at q0 q1 q2
  go_wp2_with fail
  refine (HC.out _).mono ?_
  rintro e w2 ⟨rfl, hb⟩
  go_wp2_with fail
  go_ret
  exact ⟨rfl, HB.out.trans hb⟩
set_option maxRecDepth 100000 in
set_option maxHeartbeats 1000000 in
theorem cmpQs_any (p q : Sp) (w : World) : Calls Tryz.prog 162 #[.agg (layQs.enc p).toArray, .agg (layQs.enc q).toArray] w (RetD (.int .i64 (cfK keyQs p q)) w) := by
  have HC := Lib.hid fun wx => wideCmpD_any (digN p.1) (digN q.1) wx (digN_lt _) (digN_lt _)
  rw [PW_digN, PW_digN] at HC
  show Calls Tryz.prog 162 #[.agg (wN p.1 ++ wN p.2), .agg (wN q.1 ++ wN q.2)] w (RetD (.int .i64 (cN (p.1 % 65536 ^ 9) (q.1 % 65536 ^ 9))) w)
  generalize cN (p.1 % 65536 ^ 9) (q.1 % 65536 ^ 9) = C at *
  have HP' : Blk ((w.alloc (.cells (wN p.1 ++ wN p.2) 178 (0, 0))).alloc (.cells (wN q.1 ++ wN q.2) 178 (0, 0))) (w.heap.size) 178 (wN p.1 ++ wN p.2) :=
    (Blk.new w 178 (wN p.1 ++ wN p.2)).alloc _
  have HP := Lib.hid HP'
  clear HP'
  have HQ' : Blk ((w.alloc (.cells (wN p.1 ++ wN p.2) 178 (0, 0))).alloc (.cells (wN q.1 ++ wN q.2) 178 (0, 0))) (w.heap.size + 1) 178 (wN q.1 ++ wN q.2) := by
    have this := Blk.new (w.alloc (.cells (wN p.1 ++ wN p.2) 178 (0, 0))) 178 (wN q.1 ++ wN q.2)
    rw [World.size_alloc] at this
    exact this
  have HQ := Lib.hid HQ'
  clear HQ'
  have HB : Hid (BelD w ((w.alloc (.cells (wN p.1 ++ wN p.2) 178 (0, 0))).alloc (.cells (wN q.1 ++ wN q.2) 178 (0, 0)))) := Lib.hid (((BelD.refl _).alloc _).alloc _)
  have e1 : ∀ i, i < 9 → (wN p.1 ++ wN p.2)[i]? = some (.int .i64 ((digN p.1 i : Nat) : Int)) := fun i hi => by
    rw [Array.getElem?_append_left (show i < (wN p.1).size from hi)]; exact wd_get _ _ hi
  have e2 : ∀ i, i < 9 → (wN q.1 ++ wN q.2)[i]? = some (.int .i64 ((digN q.1 i : Nat) : Int)) := fun i hi => by
    rw [Array.getElem?_append_left (show i < (wN q.1).size from hi)]; exact wd_get _ _ hi
  have E1 := Lib.hid e1
  have E2 := Lib.hid e2
  clear e1 e2
  generalize wN p.1 ++ wN p.2 = X at *
  generalize wN q.1 ++ wN q.2 = Y at *
  unfold wd at HC
  generalize digN p.1 = f at *
  generalize digN q.1 = g at *
  go_enter Tryz.func162, Tryz.ntmps162
  go_upto_region 1 with fail
  generalize ((w.alloc (.cells X 178 (0, 0))).alloc (.cells Y 178 (0, 0))) = w1 at *
  have p0 := (HP.out.cell 0).trans (E1.out 0 (by decide))
  have p1 := (HP.out.cell 1).trans (E1.out 1 (by decide))
  have p2 := (HP.out.cell 2).trans (E1.out 2 (by decide))
  have p3 := (HP.out.cell 3).trans (E1.out 3 (by decide))
  have p4 := (HP.out.cell 4).trans (E1.out 4 (by decide))
  have p5 := (HP.out.cell 5).trans (E1.out 5 (by decide))
  have p6 := (HP.out.cell 6).trans (E1.out 6 (by decide))
  have p7 := (HP.out.cell 7).trans (E1.out 7 (by decide))
  have p8 := (HP.out.cell 8).trans (E1.out 8 (by decide))
  have q0 := (HQ.out.cell 0).trans (E2.out 0 (by decide))
  have q1 := (HQ.out.cell 1).trans (E2.out 1 (by decide))
  have q2 := (HQ.out.cell 2).trans (E2.out 2 (by decide))
  have q3 := (HQ.out.cell 3).trans (E2.out 3 (by decide))
  have q4 := (HQ.out.cell 4).trans (E2.out 4 (by decide))
  have q5 := (HQ.out.cell 5).trans (E2.out 5 (by decide))
  have q6 := (HQ.out.cell 6).trans (E2.out 6 (by decide))
  have q7 := (HQ.out.cell 7).trans (E2.out 7 (by decide))
  have q8 := (HQ.out.cell 8).trans (E2.out 8 (by decide))
  go_wp2_with fail
  refine (HC.out _).mono ?_
  rintro e w2 ⟨rfl, hb⟩
  go_wp2_with fail
  go_ret
  exact ⟨rfl, HB.out.trans hb⟩
end Go.Proofs.YtgppbebdmbeohaaGreat
