/-
  span.touches: whether a range that does not begin earlier has addresses in common with another one, or lies next to it.
  Several cells of one element of an own row set, one after the other.
  span.joined: ranges in order, put together where they touch.
  span.Of: the ranges of prefixes, in any order.
  How many blocks a span has at most, plain.
  Spans.Prefixes: the greedy blocks of ranges.
  slices.Equal at rows of prefixes and of ranges.
  addr.set, checkPrefixes, Least of the program.
-/
import Derived.Test.YtgkhcdjoilgfmaaGreatDoorRPX8
import Derived.Deep.Cut
import Derived.Deep.Light
import Derived.Deep.CutBlock
import Derived.Test.YtgkhcdjoilgfmaaGreatDoorRPX5
set_option linter.unusedVariables false
set_option maxRecDepth 100000
namespace Go.Proofs.YtgkhcdjoilgfmaaGreatDoor
open Go.RowKit Go
section
variable {α:Type} {E:Lay α}
end
open Go
end Go.Proofs.YtgkhcdjoilgfmaaGreatDoor
