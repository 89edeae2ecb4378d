/-
  The law AddrReads: walked. Condition: the variables that the functions read.
-/
import Derived.Test.YteccghdegckjhaaGreatDoorTD32
import Derived.Test.YteccghdegckjhaaGreatDoorTD38
import Derived.Test.YteccghdegckjhaaGreatDoorTD5
import Derived.Laws.StructEq
set_option linter.unusedVariables false
namespace Go.Proofs.YteccghdegckjhaaGreatDoor
open Go.RowKit Go Go.Sort
set_option linter.unusedVariables false

theorem Gen.toBelowR {b m : Nat} {w u v : World} (h : Gen b u v m) (hw : Below w.heap.size w u) (hb : w.heap.size ≤ b) : Below w.heap.size w v :=
  ⟨h.g.os.trans hw.os, h.g.tape.trans hw.tape, h.g.output.trans hw.output, Nat.le_trans hw.size h.g.size, fun i hi => (h.g.block i (Nat.lt_of_lt_of_le hi hw.size) (by intro e; injection e; omega)).trans (hw.block i hi)⟩
theorem equalIn_addrQ (d : Nat) (w : World) (a : Bool) (b c : Int) (a2 : Bool) (b2 c2 : Int) : (Op.equalIn (d + 2) 28 (.agg #[.bool a, .int .u64 b, .int .u64 c]) (.agg #[.bool a2, .int .u64 b2, .int .u64 c2])).run Tryz.prog w = .ok (a == a2 && (b == b2 && c == c2)) w := by
  have u2 := Tryz.underlying4
  have a2' := Tryz.isAgg4
  have z2 := Tryz.sizeOf4
  have u3 := Tryz.underlying26
  have a3 := Tryz.isAgg26
  have z3 := Tryz.sizeOf26
  have hS5 : Tryz.prog.underlying 28 = some (.struct (Tryz.prog.fieldsOf 28)) := by kernel_rfl
  have hp5 : Tryz.prog.stoodInHeld 28 = false := by kernel_rfl
  rw [run_equalIn_agg w (d + 1) 28 _ _ hS5 hp5]
  simp only [Program.fieldsOf, Tryz.underlying28]
  go_simp
  cases h1 : (a == a2) <;> cases h2 : (b == b2) <;> cases h3 : (c == c2) <;> simp_all
theorem eqlA_self (a : Bool) (b c : Int) (w : World) : (binOp .eql 28 (.agg #[.bool a, .int .u64 b, .int .u64 c]) (.agg #[.bool a, .int .u64 b, .int .u64 c])).run Tryz.prog w = .ok (.bool true) w := by
  have h := equalIn_addrQ 9998 w a b c a b c
  simp only [binOp]
  simp [Op.equal, Op.maxDepth, h]
end Go.Proofs.YteccghdegckjhaaGreatDoor
