/-
  What a law is handed: the form's reading of a slice of ints gives LawArg.
-/
import Derived.Test.YtofjlpnebfijoaaDoorRows
import Derived.Test.YtofjlpnebfijoaaDoorStream
import Derived.WalkKit
import Derived.ProofKit
import Derived.OpenShut
namespace Go.Proofs.YtofjlpnebfijoaaDoor
open Go.ChangeShapes Go.WideShapes Go.ChangeAt Go.RowKit
set_option linter.unusedVariables false

/-- a slice of integers that came in: nil, or a row of cells -/
def IsRow (k : IntKind) (w : World) (a : Option Addr) (len cap : Nat) (zs : List Int) : Prop :=
  (a = none ∧ len = 0 ∧ cap = 0 ∧ zs = []) ∨
  ∃ x, a = some x ∧ len ≤ cap ∧ cap ≤ maxLen ∧ zs.length = cap ∧ (∀ i, i < zs.length → w.cell? (x.add i) = some (.int k (zs.getD i 0))) ∧ ∀ n ∈ zs, (Lit.int k n).wf = true

theorem lawArg_of_row {w : World} {a : Option Addr} {len cap : Nat} {zs : List Int} (h : IsRow .i64 w a len cap zs) : LawArg w a len := by
  rcases h with ⟨rfl, rfl, rfl, rfl⟩ | ⟨x, rfl, hl, hm, hz, hc, hw⟩
  · exact ⟨by omega, fun _ => 0, fun i hi => by omega, fun i => by simp only; omega⟩
  · refine ⟨by unfold maxLen at hm; omega, fun i => zs.getD i 0, fun i hi => ?_, fun i => ?_⟩
    · have h0 := hc 0 (by omega)
      have hi' := hc i (by omega)
      obtain ⟨b, o, s⟩ := x
      have hs : s = none := by
        cases s with
        | none => rfl
        | some y =>
          exfalso
          unfold World.cell? Addr.add at h0
          simp at h0
          split at h0 <;> simp at h0
      subst hs
      have hadd : (⟨b, o, none⟩ : Addr).add i = ⟨b, o + i, none⟩ := by unfold Addr.add; split <;> simp_all
      rw [hadd] at hi'
      exact ⟨b, o, rfl, block_lt_of_cell hi', hi'⟩
    · rcases Nat.lt_or_ge i zs.length with h | h
      · have hmem : zs.getD i 0 ∈ zs := by simp [List.getD, List.getElem?_eq_getElem h]
        show -9223372036854775808 ≤ zs.getD i 0 ∧ zs.getD i 0 ≤ 9223372036854775807
        generalize zs.getD i 0 = z at hmem ⊢
        have := hw _ hmem
        simp [Lit.wf, IntKind.min, IntKind.max, IntKind.signed, IntKind.bits] at this
        omega
      · show -9223372036854775808 ≤ zs.getD i 0 ∧ zs.getD i 0 ≤ 9223372036854775807
        simp [List.getD, List.getElem?_eq_none h]
end Go.Proofs.YtofjlpnebfijoaaDoor
