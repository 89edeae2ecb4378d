/-
  The reference's lets: whether a row lets a flow in.
  The program's lets: whether a ready row lets a flow in.
  Rows that let a flow in: the reference's DecidesOf and the program's lets.
  Rows that let a flow in: the reference's DecidesOf.
  Least lists of ranges, in plain words: a list in order whose ranges neither meet nor touch is told by what it covers; merging in order and scanning both give such a list.
  Ranges of ports: the fault of one, the first fault of a list.
  isAll: whether ports are all ports.
  The first fault of a list of ranges that is to be least: program and reference.
-/
import Derived.Test.YtgkhcdjoilgfmaaGreatDoorRPX19
import Derived.Test.YtgkhcdjoilgfmaaGreatDoorRPX1
import Derived.Test.YtgkhcdjoilgfmaaGreatDoorRPX2
import Derived.Lib.Hide
set_option linter.unusedVariables false
set_option maxRecDepth 100000
namespace Go.Proofs.YtgkhcdjoilgfmaaGreatDoor
open Go.RowKit Go
end Go.Proofs.YtgkhcdjoilgfmaaGreatDoor
