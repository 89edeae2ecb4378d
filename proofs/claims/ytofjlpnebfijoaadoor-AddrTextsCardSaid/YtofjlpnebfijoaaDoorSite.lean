/-
  Prefixes of sites: Via, ViaOf, Site, SiteOf.
-/
import Derived.Test.YtofjlpnebfijoaaDoorGenP
import Derived.StillTailTactics
namespace Go.Proofs.YtofjlpnebfijoaaDoor
open Go.RowKit Go
set_option linter.unusedVariables false

theorem pFault_zero {six : Bool} {hi lo : Nat} {bits : Int} (h : pFault six hi lo bits = 0) : aFault six hi lo = 0 ∧ 0 ≤ bits ∧ bits ≤ (lenN six : Nat) := by
  unfold pFault at h
  by_cases h1 : aFault six (hi : Int) (lo : Int) ≠ 0
  · rw [if_pos h1] at h; cases h
  · rw [if_neg h1] at h
    by_cases h2 : outB bits 0 (lenN six : Nat) = true
    · rw [if_pos h2] at h; cases h
    · unfold outB at h2
      simp at h2
      exact ⟨by simpa using h1, by omega, by omega⟩
theorem aFault_four {hi lo : Nat} (h : aFault false hi lo = 0) : hi = 0 ∧ lo < 4294967296 := by
  unfold aFault at h
  split at h
  · cases h
  · rename_i hn
    simp at hn
    omega
theorem or_via (n lo : Nat) (hn : n ≤ 65535) (hl : lo < 4294967296) : bits .or .u64 ((n * 4294967296 : Nat) : Int) (lo : Int) = ((n * 4294967296 + lo : Nat) : Int) := by
  have key : (BitVec.ofNat 64 (n * 4294967296) ||| BitVec.ofNat 64 lo).toNat = n * 4294967296 + lo := by
    rw [BitVec.toNat_or, BitVec.toNat_ofNat, BitVec.toNat_ofNat, Nat.mod_eq_of_lt (by omega), Nat.mod_eq_of_lt (by omega), Nat.mul_comm n, show 4294967296 = 2 ^ 32 from rfl, ← Nat.two_pow_add_eq_or_of_lt hl]
  have o1 : BitVec.ofInt 64 ((n * 4294967296 : Nat) : Int) = BitVec.ofNat 64 (n * 4294967296) := BitVec.ofInt_natCast ..
  have o2 : BitVec.ofInt 64 (lo : Int) = BitVec.ofNat 64 lo := BitVec.ofInt_natCast ..
  show IntKind.u64.wrap ((BitVec.ofInt 64 ((n * 4294967296 : Nat) : Int) ||| BitVec.ofInt 64 (lo : Int)).toNat : Nat) = _
  rw [o1, o2, key, IntKind.wrap_u64]
  omega
def viaF (site : Int) (six : Bool) (hi lo : Nat) (bits : Int) : Int := if outB site 0 65535 = true then 1 else if pFault six hi lo bits ≠ 0 then pFault six hi lo bits else if six = true then 10 else 0
def viaR (site : Int) (six : Bool) (hi lo : Nat) (bits : Int) : Value := if viaF site six hi lo bits = 0 then .agg #[.bool true, .int .u64 18230690457315508224, .int .u64 (site * 4294967296 + (lo : Int)), .int .i64 (bits + 96)] else .agg #[.bool false, .int .u64 0, .int .u64 0, .int .i64 0]
def siteB (six : Bool) (hi lo : Nat) (bits : Int) : Bool := six && decide (hi = 18230690457315508224) && decide (96 ≤ bits) && decide (lo < 281474976710656)
def siteN (six : Bool) (hi lo : Nat) (bits : Int) : Int := if siteB six hi lo bits = true then (lo : Int) / 4294967296 else 0
def siteP (six : Bool) (hi lo : Nat) (bits : Int) : Array Value := if siteB six hi lo bits = true then #[.bool false, .int .u64 0, .int .u64 ((lo : Int) % 4294967296), .int .i64 (bits - 96)] else #[.bool false, .int .u64 0, .int .u64 0, .int .i64 0]
theorem siteB_no {six : Bool} {hi lo : Nat} {bits : Int} (h : six = false ∨ hi ≠ 18230690457315508224 ∨ bits < 96 ∨ 281474976710656 ≤ lo) : siteB six hi lo bits = false := by
  unfold siteB
  cases six
  · rfl
  · rw [Bool.eq_false_iff]
    intro hh
    simp at hh
    rcases h with h | h | h | h
    · cases h
    · exact h hh.1.1
    · omega
    · omega
theorem siteB_yes {hi lo : Nat} {bits : Int} (h1 : hi = 18230690457315508224) (h2 : 96 ≤ bits) (h3 : lo < 281474976710656) : siteB true hi lo bits = true := by
  unfold siteB
  simp [h1, h2, h3]
end Go.Proofs.YtofjlpnebfijoaaDoor
