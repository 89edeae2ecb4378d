/-
  Lists without the elements that are alike to the one ahead of them, in plain words.
  Functions of package slices at a row of structs.
  Functions of package slices at a row of structs.
  cmp.Or of a row of ints, cmp.Compare of ints, the order of bools, slices.Compare of two rows of two ints.
  The program's order of flows and of reports; the count of draws never goes down.
  The reference's order of flows and of reports; the count of draws never goes down.
  The contract of slices.SortFunc at a slice of structs over this program, as the kit's lay-plain.mjs prints it. Condition: the slice has no element, or its cells are known, fewer than 2^62 of them.
  The stable sort of reports by their order: program and reference (at most twenty).
-/
import Derived.Test.YtdhldhkhpndpjaaGreatDoorRTX12
import Derived.Test.YtdhldhkhpndpjaaGreatDoorRTX7
import Derived.Test.YtdhldhkhpndpjaaGreatDoorRTX10
import Derived.WalkSpells
import Derived.Test.YtdhldhkhpndpjaaGreatDoorRTX3
import Derived.Test.YtdhldhkhpndpjaaGreatDoorRTX4
import Derived.Shelf.SlSortCmp.NoneTotal
import Derived.Test.YtdhldhkhpndpjaaGreatDoorProg
import Derived.Test.YtdhldhkhpndpjaaGreatDoorRTX8
set_option linter.unusedVariables false
set_option maxRecDepth 100000
namespace Go.Proofs.YtdhldhkhpndpjaaGreatDoor
open Go.RowKit Go
section
variable {α:Type} (eq:α→α→Bool)
end
end Go.Proofs.YtdhldhkhpndpjaaGreatDoor
namespace Go.Proofs
open Go.Shelf
end Go.Proofs
namespace Go.Proofs.YtdhldhkhpndpjaaGreatDoor
open Go.RowKit Go Go.Sort
section
variable {α:Type} [Inhabited α] {E:Lay α}
end
end Go.Proofs.YtdhldhkhpndpjaaGreatDoor
