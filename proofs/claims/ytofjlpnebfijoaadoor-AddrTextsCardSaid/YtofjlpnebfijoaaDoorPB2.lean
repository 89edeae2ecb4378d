/-
  Prefixes of the program: addr.Last, Contains, Inside, Common, checkPrefixes.
-/
import Derived.Test.YtofjlpnebfijoaaDoorPB1
import Derived.Test.YtofjlpnebfijoaaDoorSite
namespace Go.Proofs.YtofjlpnebfijoaaDoor
open Go.RowKit Go
set_option linter.unusedVariables false

theorem pFault_nat {six : Bool} {hi lo : Nat} {bits : Int} (h : pFault six hi lo bits = 0) : ∃ n : Nat, bits = (n : Int) ∧ n ≤ lenN six := by
  obtain ⟨_, h1, h2⟩ := pFault_zero h
  obtain ⟨n, rfl⟩ := Int.eq_ofNat_of_zero_le h1
  exact ⟨n, rfl, by omega⟩
theorem pFault_pok {six : Bool} {hi lo n : Nat} (h : pFault six hi lo (n : Int) = 0) (h1 : U64N hi) (h2 : U64N lo) : POK six hi lo n := by
  obtain ⟨ha, _, hb⟩ := pFault_zero h
  refine ⟨⟨h1, h2, fun e => ?_⟩, by omega, ?_⟩
  · subst e
    obtain ⟨h3, h4⟩ := aFault_four ha
    exact ⟨h3, h4⟩
  · unfold pFault at h
    rw [if_neg (by rw [ha]; decide)] at h
    by_cases h3 : outB (n : Int) 0 (lenN six : Nat) = true
    · rw [if_pos h3] at h; cases h
    · rw [if_neg h3, Int.toNat_natCast] at h
      by_cases h4 : mHi six hi n ≠ hi ∨ mLo six lo n ≠ lo
      · rw [if_pos h4] at h; cases h
      · omega
theorem aFault_ok {six : Bool} {hi lo : Nat} (h : aFault six (hi : Int) (lo : Int) = 0) (h1 : U64N hi) (h2 : U64N lo) : AOK six hi lo :=
  ⟨h1, h2, fun e => by subst e; exact aFault_four h⟩

def lastR (six : Bool) (hi lo : Nat) (bits : Int) : Array Value := if pFault six hi lo bits = 0 then #[.bool six, .int .u64 ((fHi six hi bits.toNat : Nat) : Int), .int .u64 ((fLo six lo bits.toNat : Nat) : Int)] else #[.bool false, .int .u64 0, .int .u64 0]

def conF (six : Bool) (hi lo : Nat) (bits : Int) (s2 : Bool) (h2 l2 : Nat) : Int := if pFault six hi lo bits ≠ 0 then pFault six hi lo bits else aFault s2 h2 l2
def conR (six : Bool) (hi lo : Nat) (bits : Int) (s2 : Bool) (h2 l2 : Nat) : Bool := if conF six hi lo bits s2 h2 l2 = 0 then conB six hi lo bits.toNat s2 h2 l2 else false

end Go.Proofs.YtofjlpnebfijoaaDoor
