/-
  The insertion sort of a list whose last part stands right already, in plain words.
  Reports put together, and old ones thinned, in plain words: the program's way and the reference's give one list.
  The reference's Key says keyB.
  Lists without the elements that are alike to the one ahead of them, in plain words.
  The fault of a list of reports: the program.
  Functions of package slices at a row of structs.
  Functions of package slices at a row of structs.
  Functions of package slices at a row of structs.
-/
import Derived.Test.YtippolfmljfleaaGreatDoorAR23
import Derived.Test.YtippolfmljfleaaGreatDoorAR7
import Derived.Test.YtippolfmljfleaaGreatDoorAR19
import Derived.Test.YtippolfmljfleaaGreatDoorAR1
import Derived.Test.YtippolfmljfleaaGreatDoorAR9
import Derived.WalkSpells
set_option linter.unusedVariables false
namespace Go.Proofs.YtippolfmljfleaaGreatDoor
open Go.RowKit Go Go.Sort
set_option linter.unusedVariables false

section
variable {α : Type} [Inhabited α]
end
end Go.Proofs.YtippolfmljfleaaGreatDoor

namespace Go.Proofs.YtippolfmljfleaaGreatDoor
open Go.RowKit Go Go.Sort
set_option linter.unusedVariables false

/-- a sum that stays within bounds -/
def capB (x y : Int) : Int := min (wrap64 (x + y)) 1000000000000
def sumR (x r : RB) : RB := ⟨{ x.1 with pk := capB x.1.pk r.1.pk, sz := capB x.1.sz r.1.sz }, x.2⟩
def togS (out : List RB) (r : RB) : List RB := match out.getLast? with
  | some x => if cR x r = 0 then out.dropLast ++ [sumR x r] else out ++ [r]
  | none => [r]
def togL (L : List RB) : List RB := (stabR L).foldl togS []
end Go.Proofs.YtippolfmljfleaaGreatDoor

namespace Go.Proofs.YtippolfmljfleaaGreatDoor
open Go.RowKit Go
set_option linter.unusedVariables false
end Go.Proofs.YtippolfmljfleaaGreatDoor

namespace Go.Proofs.YtippolfmljfleaaGreatDoor
open Go.RowKit Go
set_option linter.unusedVariables false

section
variable {α : Type} (eq : α → α → Bool)
end
end Go.Proofs.YtippolfmljfleaaGreatDoor

namespace Go.Proofs.YtippolfmljfleaaGreatDoor
open Go.RowKit Go
set_option linter.unusedVariables false
end Go.Proofs.YtippolfmljfleaaGreatDoor

namespace Go.Proofs.YtippolfmljfleaaGreatDoor
open Go.RowKit Go
set_option linter.unusedVariables false
end Go.Proofs.YtippolfmljfleaaGreatDoor

namespace Go.Proofs.YtippolfmljfleaaGreatDoor
open Go.RowKit Go
set_option linter.unusedVariables false
end Go.Proofs.YtippolfmljfleaaGreatDoor

namespace Go.Proofs.YtippolfmljfleaaGreatDoor
open Go.RowKit Go
set_option linter.unusedVariables false

end Go.Proofs.YtippolfmljfleaaGreatDoor
