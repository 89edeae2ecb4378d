/-
  The fault of rows.
  Plain law: the text of rows, written and read.
  Ports, as the program and the reference read them. Condition: at most a million bytes.
  ParsePrefix and PrefixParse: a prefix read. Condition: at most a million bytes, and the variables that are read.
  SetRead of the reference: a set read line by line, its prefixes gathered in a captured row.
  Rows of filters (api.Filter, filter.row): how they lie, and what their slices hold.
  rowsOf: rows made ready for questions.
  Lists with commas between, as the program and the reference read them. Condition: at most a million bytes.
-/
import Derived.Test.YtgkhcdjoilgfmaaGreatDoorRPX20
import Derived.Test.YtgkhcdjoilgfmaaGreatDoorRPX17
import Derived.Test.YtgkhcdjoilgfmaaGreatDoorRPX12
import Derived.Test.YtgkhcdjoilgfmaaGreatDoorRPX19
import Derived.Test.YtgkhcdjoilgfmaaGreatDoorRPX11
import Derived.Test.YtgkhcdjoilgfmaaGreatDoorRPX18
import Derived.Test.YtgkhcdjoilgfmaaGreatDoorRPX15
import Derived.Test.YtgkhcdjoilgfmaaGreatDoorRPX7
import Derived.Test.YtgkhcdjoilgfmaaGreatDoorRPX9
import Derived.WalkSpells
set_option linter.unusedVariables false
set_option maxRecDepth 100000
namespace Go.Proofs.YtgkhcdjoilgfmaaGreatDoor
open Go.RowKit Go
open Go.RowKit Go Go.Sort
abbrev Sl:=Option Addr × Nat × Nat
abbrev FC:=Int × Sl × Sl × Sl
end Go.Proofs.YtgkhcdjoilgfmaaGreatDoor
