/-
  The reference's HideOf = hidP. Condition: at most twenty reports, bits of right numbers.
-/
import Derived.Test.YtippolfmljfleaaGreatDoorAR25
import Derived.Test.YtippolfmljfleaaGreatDoorAR23
set_option linter.unusedVariables false
namespace Go.Proofs.YtippolfmljfleaaGreatDoor
open Go.RowKit Go
set_option linter.unusedVariables false
def hqS (n : Nat) (_ : World) (n' : Nat) (_ : World) : Prop := n ≤ n' ∧ n' ≤ 1
theorem map_take {L : List RB} {k : Nat} {x : RB} (f : RB → RB) (h : L[k]? = some x) : (L.take (k + 1)).map f = (L.take k).map f ++ [f x] := by
  obtain ⟨hk, rfl⟩ := List.getElem?_eq_some_iff.1 h
  rw [List.take_succ_eq_append_getElem hk, List.map_append]
  rfl
end Go.Proofs.YtippolfmljfleaaGreatDoor
