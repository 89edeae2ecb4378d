/-
  Prefixes of the program: span.Last, Contains, Inside; addr.Mask, Last, Contains, Inside.
-/
import Derived.Test.YtofjlpnebfijoaaDoorPEq
import Derived.Test.YtofjlpnebfijoaaDoorNumB
import Derived.Test.YtofjlpnebfijoaaDoorGenP
namespace Go.Proofs.YtofjlpnebfijoaaDoor
open Go.RowKit Go
set_option linter.unusedVariables false

theorem addr_eql (s1 s2 : Bool) (h1 h2 l1 l2 : Int) (w : World) : (binOp .eql 28 (.agg #[.bool s1, .int .u64 h1, .int .u64 l1]) (.agg #[.bool s2, .int .u64 h2, .int .u64 l2])).run Tryd.prog w = .ok (.bool (decide ((s1, h1, l1) = (s2, h2, l2)))) w := by
  rw [run_eql_struct, show (10000 : Nat) = 9998 + 2 from rfl, addrEq]; rfl
theorem addr_neq (s1 s2 : Bool) (h1 h2 l1 l2 : Int) (w : World) : (binOp .neq 28 (.agg #[.bool s1, .int .u64 h1, .int .u64 l1]) (.agg #[.bool s2, .int .u64 h2, .int .u64 l2])).run Tryd.prog w = .ok (.bool (!decide ((s1, h1, l1) = (s2, h2, l2)))) w := by
  rw [run_neq_struct, show (10000 : Nat) = 9998 + 2 from rfl, addrEq]; rfl
theorem addr_guard (op : BinOp) (x y : Operand) (xs ys : Array Value) (w : World) : (eqGuard op 28 x y (.agg xs) (.agg ys)).run Tryd.prog w = .ok () w :=
  run_eqGuard_agg w _ _ _ _ _ _ (by kernel_rfl)
theorem eq3_nat (s : Bool) (h l h2 l2 : Nat) : decide (((s, (h : Int), (l : Int)) : Bool × Int × Int) = (s, (h2 : Int), (l2 : Int))) = decide (h = h2 ∧ l = l2) := by
  rw [decide_eq_decide]; simp only [Prod.mk.injEq, true_and]; omega




def maskF (six : Bool) (hi lo : Nat) (bits : Int) : Int := if aFault six hi lo ≠ 0 then aFault six hi lo else if outB bits 0 (lenN six : Nat) = true then 1 else 0
def maskR (six : Bool) (hi lo : Nat) (bits : Int) : Array Value := if maskF six hi lo bits = 0 then #[.bool six, .int .u64 ((mHi six hi bits.toNat : Nat) : Int), .int .u64 ((mLo six lo bits.toNat : Nat) : Int), .int .i64 bits] else #[.bool false, .int .u64 0, .int .u64 0, .int .i64 0]
end Go.Proofs.YtofjlpnebfijoaaDoor
