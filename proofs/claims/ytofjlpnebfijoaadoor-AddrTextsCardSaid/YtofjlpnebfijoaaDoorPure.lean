/-
  Small functions on numbers and addresses: Outside, in, CheckAddr, AddrFault, HasPorts.
-/
import Derived.Test.YtofjlpnebfijoaaDoorGenC
namespace Go.Proofs.YtofjlpnebfijoaaDoor
open Go.RowKit
set_option linter.unusedVariables false

def outB (n lo hi : Int) : Bool := decide (n < lo) || decide (hi < n)
def inB (n lo hi : Int) : Bool := decide (lo ≤ n) && decide (n ≤ hi)
theorem inB_out (n lo hi : Int) : inB n lo hi = !outB n lo hi := by unfold inB outB; rw [Bool.eq_iff_iff]; simp
def aFault (six : Bool) (hi lo : Int) : Int := if six = false ∧ (hi ≠ 0 ∨ 4294967296 ≤ lo) then 3 else 0
theorem aFault_vals (six : Bool) (hi lo : Int) : aFault six hi lo = 0 ∨ aFault six hi lo = 3 := by unfold aFault; split <;> simp
def hasPorts (p : Int) : Bool := p == 6 || p == 17

theorem checkAddr_any (six : Bool) (hi lo : Int) (w : World) (h1 : U64 hi) (h2 : U64 lo) : Calls Tryd.prog 10 #[vAddr six hi lo] w fun e w' => e = .returned (.int .i64 (aFault six hi lo)) ∧ ∃ o, w' = w.alloc o := by
  unfold vAddr
  go_enter Tryd.func10, Tryd.ntmps10
  go_wp2
  all_goals (go_ret; refine ⟨?_, _, rfl⟩)
  all_goals (cases six <;> simp_all [aFault] <;> omega)
theorem addrFault_any (six : Bool) (hi lo : Int) (w : World) (h1 : U64 hi) (h2 : U64 lo) : Calls Tryd.prog 8 #[vAddr six hi lo] w fun e w' => e = .returned (.int .i64 (aFault six hi lo)) ∧ ∃ o, w' = w.alloc o := by
  obtain ⟨h10, h11⟩ := h1
  obtain ⟨h20, h21⟩ := h2
  unfold vAddr
  go_enter Tryd.func8, Tryd.ntmps8
  go_wp2
  all_goals (go_ret; refine ⟨?_, _, rfl⟩)
  all_goals (cases six <;> simp_all [aFault] <;> omega)
end Go.Proofs.YtofjlpnebfijoaaDoor
