/-
  Prefixes and addresses compared: equal ones.
-/
import Derived.Test.YtofjlpnebfijoaaDoorPF2
import Derived.Laws.StructEq
namespace Go.Proofs.YtofjlpnebfijoaaDoor
open Go.RowKit Go
set_option linter.unusedVariables false

theorem addrEq (s1 s2 : Bool) (h1 h2 l1 l2 : Int) (d : Nat) (w : World) : (Op.equalIn (d + 2) 28 (.agg #[.bool s1, .int .u64 h1, .int .u64 l1]) (.agg #[.bool s2, .int .u64 h2, .int .u64 l2])).run Tryd.prog w = .ok (decide ((s1, h1, l1) = (s2, h2, l2))) w := by
  have u4 := Tryd.underlying4
  have a4 := Tryd.isAgg4
  have z4 := Tryd.sizeOf4
  have u27 := Tryd.underlying26
  have a27 := Tryd.isAgg26
  have z27 := Tryd.sizeOf26
  have hS : Tryd.prog.underlying 28 = some (.struct (Tryd.prog.fieldsOf 28)) := by kernel_rfl
  have hp : Tryd.prog.stoodInHeld 28 = false := by kernel_rfl
  rw [run_equalIn_agg w (d + 1) 28 _ _ hS hp]
  simp only [Program.fieldsOf, Tryd.underlying28]
  go_simp
  cases s1 <;> cases s2 <;> by_cases e1 : h1 = h2 <;> by_cases e2 : l1 = l2 <;> simp [e1, e2]
end Go.Proofs.YtofjlpnebfijoaaDoor
