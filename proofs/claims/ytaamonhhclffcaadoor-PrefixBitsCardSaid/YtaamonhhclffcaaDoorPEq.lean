/-
  Prefixes and addresses compared: equal ones.
-/
import Derived.Test.YtaamonhhclffcaaDoorPF2
import Derived.Laws.StructEq
namespace Go.Proofs.YtaamonhhclffcaaDoor
open Go.RowKit Go
set_option linter.unusedVariables false

theorem addrEq (s1 s2 : Bool) (h1 h2 l1 l2 : Int) (d : Nat) (w : World) : (Op.equalIn (d + 2) 29 (.agg #[.bool s1, .int .u64 h1, .int .u64 l1]) (.agg #[.bool s2, .int .u64 h2, .int .u64 l2])).run Tryd.prog w = .ok (decide ((s1, h1, l1) = (s2, h2, l2))) w := by
  have u4 := Tryd.underlying4
  have a4 := Tryd.isAgg4
  have z4 := Tryd.sizeOf4
  have u27 := Tryd.underlying27
  have a27 := Tryd.isAgg27
  have z27 := Tryd.sizeOf27
  have hS : Tryd.prog.underlying 29 = some (.struct (Tryd.prog.fieldsOf 29)) := by kernel_rfl
  have hp : Tryd.prog.stoodInHeld 29 = false := by kernel_rfl
  rw [run_equalIn_agg w (d + 1) 29 _ _ hS hp]
  simp only [Program.fieldsOf, Tryd.underlying29]
  go_simp
  cases s1 <;> cases s2 <;> by_cases e1 : h1 = h2 <;> by_cases e2 : l1 = l2 <;> simp [e1, e2]
theorem pfxEq (s1 s2 : Bool) (h1 h2 l1 l2 b1 b2 : Int) (w : World) : (Op.equalIn 10000 31 (.agg #[.bool s1, .int .u64 h1, .int .u64 l1, .int .i64 b1]) (.agg #[.bool s2, .int .u64 h2, .int .u64 l2, .int .i64 b2])).run Tryd.prog w = .ok (decide ((s1, h1, l1, b1) = (s2, h2, l2, b2))) w := by
  have hA := addrEq s1 s2 h1 h2 l1 l2 9997
  have u3 := Tryd.underlying3
  have a3 := Tryd.isAgg3
  have z3 := Tryd.sizeOf3
  have a29 := Tryd.isAgg29
  have z29 := Tryd.sizeOf29
  have hS : Tryd.prog.underlying 31 = some (.struct (Tryd.prog.fieldsOf 31)) := by kernel_rfl
  have hp : Tryd.prog.stoodInHeld 31 = false := by kernel_rfl
  rw [show (10000 : Nat) = 9999 + 1 from rfl, run_equalIn_agg w 9999 31 _ _ hS hp]
  simp only [Program.fieldsOf, Tryd.underlying31]
  simp only [show (9997 : Nat) + 2 = 9999 from rfl] at hA
  go_simp
  cases s1 <;> cases s2 <;> by_cases e1 : h1 = h2 <;> by_cases e2 : l1 = l2 <;> by_cases e3 : b1 = b2 <;> simp [e1, e2, e3]
theorem pfx_neq (s1 s2 : Bool) (h1 h2 l1 l2 b1 b2 : Int) (w : World) : (binOp .neq 31 (.agg #[.bool s1, .int .u64 h1, .int .u64 l1, .int .i64 b1]) (.agg #[.bool s2, .int .u64 h2, .int .u64 l2, .int .i64 b2])).run Tryd.prog w = .ok (.bool (!decide ((s1, h1, l1, b1) = (s2, h2, l2, b2)))) w := by
  rw [run_neq_struct, pfxEq]; rfl
theorem pfx_eql (s1 s2 : Bool) (h1 h2 l1 l2 b1 b2 : Int) (w : World) : (binOp .eql 31 (.agg #[.bool s1, .int .u64 h1, .int .u64 l1, .int .i64 b1]) (.agg #[.bool s2, .int .u64 h2, .int .u64 l2, .int .i64 b2])).run Tryd.prog w = .ok (.bool (decide ((s1, h1, l1, b1) = (s2, h2, l2, b2)))) w := by
  rw [run_eql_struct, pfxEq]; rfl
theorem pfx_guard (op : BinOp) (x y : Operand) (xs ys : Array Value) (w : World) : (eqGuard op 31 x y (.agg xs) (.agg ys)).run Tryd.prog w = .ok () w :=
  run_eqGuard_agg w _ _ _ _ _ _ (by kernel_rfl)
end Go.Proofs.YtaamonhhclffcaaDoor
