/-
  Two wide numbers compared.
-/
import Derived.Test.YtofjlpnebfijoaaDoorPFault
import Derived.ChangeKeysEq
import Derived.Laws.StructEq
namespace Go.Proofs.YtofjlpnebfijoaaDoor
open Go.RowKit Go
set_option linter.unusedVariables false

def ivs (X : List Int) : Array Value := (X.map (Value.int .i64)).toArray
theorem ivs_get (X : List Int) (i : Nat) (h : i < X.length) : (ivs X)[i]? = some (.int .i64 (X.getD i 0)) := by
  simp [ivs, List.getD, h]
theorem items_int (X Y : List Int) (w : World) : ∀ is : List Nat, (∀ i ∈ is, i < X.length ∧ i < Y.length) →
    (Op.eqItems 9999 3 1 (ivs X) (ivs Y) is).run Tryd.prog w = .ok (decide (∀ i ∈ is, X.getD i 0 = Y.getD i 0)) w
  | [], _ => by simp [Op.eqItems]
  | i :: is, h => by
    have ih := items_int X Y w is fun j hj => h j (List.mem_cons_of_mem _ hj)
    obtain ⟨h1, h2⟩ := h i List.mem_cons_self
    have e1 := ivs_get X i h1
    have e2 := ivs_get Y i h2
    have he := fun x y : Int => run_equalIn_int (P := Tryd.prog) w 9998 3 .i64 .i64 x y (by kernel_rfl)
    have a3 := Tryd.isAgg3
    have z3 := Tryd.sizeOf3
    have p1 : (part 3 (ivs X) (i * 1)).run Tryd.prog w = .ok (.int .i64 (X.getD i 0)) w := by
      rw [Nat.mul_one]; unfold part; simp [Sem.run_bind, a3, Array.getD_eq_getD_getElem?, e1]
    have p2 : (part 3 (ivs Y) (i * 1)).run Tryd.prog w = .ok (.int .i64 (Y.getD i 0)) w := by
      rw [Nat.mul_one]; unfold part; simp [Sem.run_bind, a3, Array.getD_eq_getD_getElem?, e2]
    simp only [Op.eqItems, Sem.run_bind, p1, p2, Result.andThen_ok, he]
    by_cases hxy : X.getD i 0 = Y.getD i 0
    · have hf : decide (∀ j ∈ i :: is, X.getD j 0 = Y.getD j 0) = decide (∀ j ∈ is, X.getD j 0 = Y.getD j 0) := by
        rw [decide_eq_decide]; simp only [List.mem_cons, forall_eq_or_imp, hxy, true_and]
      rw [hf, hxy]
      simp [ih]
    · have hf : decide (∀ j ∈ i :: is, X.getD j 0 = Y.getD j 0) = false := by
        rw [decide_eq_false_iff_not]; intro hh; exact hxy (hh i List.mem_cons_self)
      have hb : (X.getD i 0 == Y.getD i 0) = false := beq_false_of_ne hxy
      rw [hf, hb]
      rfl
def wl (six : Bool) (f : Nat → Nat) : List Int := [(f 0 : Nat), (f 1 : Nat), (f 2 : Nat), (f 3 : Nat), (f 4 : Nat), (f 5 : Nat), (f 6 : Nat), (f 7 : Nat), if six = true then 1 else 0]
theorem wv_ivs (six : Bool) (f : Nat → Nat) : wv six f = ivs (wl six f) := rfl
set_option maxRecDepth 100000 in
theorem wide_eq (s1 s2 : Bool) (f g : Nat → Nat) (w : World) : (Op.equalIn 10000 44 (.agg (wv s1 f)) (.agg (wv s2 g))).run Tryd.prog w = .ok (decide (wl s1 f = wl s2 g)) w := by
  obtain ⟨i, hi⟩ : ∃ i, Tryd.prog.info? 3 = some i := Option.isSome_iff_exists.1 (by kernel_rfl)
  have hu : Tryd.prog.underlying 44 = some (.array 9 3) := by kernel_rfl
  have hc : Tryd.prog.cellsOf 3 = 1 := by kernel_rfl
  rw [wv_ivs, wv_ivs, show (10000 : Nat) = 9999 + 1 from rfl, run_equalIn_array (P := Tryd.prog) w 9999 (t := 44) _ _ hu hi, hc, items_int _ _ w (List.range 9) (fun i h => by have := List.mem_range.1 h; simp [wl]; omega)]
  congr 1
  rw [decide_eq_decide]
  constructor
  · intro h
    exact List.ext_getElem (by rfl) fun i h1 h2 => by
      have := h i (List.mem_range.2 h1)
      simpa [List.getD, h1, h2] using this
  · intro h i _
    rw [h]
theorem wide_neq (s1 s2 : Bool) (f g : Nat → Nat) (w : World) : (binOp .neq 44 (.agg (wv s1 f)) (.agg (wv s2 g))).run Tryd.prog w = .ok (.bool (!decide (wl s1 f = wl s2 g))) w := by
  rw [run_neq_struct, wide_eq]; rfl
theorem wide_eql (s1 s2 : Bool) (f g : Nat → Nat) (w : World) : (binOp .eql 44 (.agg (wv s1 f)) (.agg (wv s2 g))).run Tryd.prog w = .ok (.bool (decide (wl s1 f = wl s2 g))) w := by
  rw [run_eql_struct, wide_eq]; rfl
theorem wide_guard (op : BinOp) (x y : Operand) (xs ys : Array Value) (w : World) : (eqGuard op 44 x y (.agg xs) (.agg ys)).run Tryd.prog w = .ok () w :=
  run_eqGuard_agg w _ _ _ _ _ _ (by kernel_rfl)
theorem wl_inj {s1 s2 : Bool} {f g : Nat → Nat} : wl s1 f = wl s2 g ↔ (s1 = s2 ∧ ∀ d, d < 8 → f d = g d) := by
  unfold wl
  simp only [List.cons.injEq, and_true]
  constructor
  · intro h
    refine ⟨?_, fun d hd => ?_⟩
    · cases s1 <;> cases s2 <;> simp at h ⊢
    · rcases lt8 hd with rfl | rfl | rfl | rfl | rfl | rfl | rfl | rfl <;> omega
  · rintro ⟨rfl, h⟩
    rw [h 0 (by decide), h 1 (by decide), h 2 (by decide), h 3 (by decide), h 4 (by decide), h 5 (by decide), h 6 (by decide), h 7 (by decide)]
    simp
theorem wl_first (six : Bool) (hi lo n : Nat) (h1 : hi < 18446744073709551616) (h2 : lo < 18446744073709551616) :
    decide (wl six (clrF hi lo (lenN six - n)) = wl six (dg hi lo)) = decide (mHi six hi n = hi ∧ mLo six lo n = lo) := by
  rw [decide_eq_decide, ← first_same six hi lo n h1 h2, wl_inj, wv_inj]
  simp
end Go.Proofs.YtofjlpnebfijoaaDoor
