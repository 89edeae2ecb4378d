/-
  The law AddrReads: walked. Condition: the variables that the functions read.
-/
import Derived.Test.YtcpafmndjcejjaaGreatDoorSE37
import Derived.Test.YtcpafmndjcejjaaGreatDoorSE38
import Derived.Test.YtcpafmndjcejjaaGreatDoorSE4
import Derived.Laws.StructEq
set_option linter.unusedVariables false
namespace Go.Proofs.YtcpafmndjcejjaaGreatDoor
open Go.RowKit Go Go.Sort
set_option linter.unusedVariables false

theorem Gen.toBelowR {b m : Nat} {w u v : World} (h : Gen b u v m) (hw : Below w.heap.size w u) (hb : w.heap.size ≤ b) : Below w.heap.size w v :=
  ⟨h.g.os.trans hw.os, h.g.tape.trans hw.tape, h.g.output.trans hw.output, Nat.le_trans hw.size h.g.size, fun i hi => (h.g.block i (Nat.lt_of_lt_of_le hi hw.size) (by intro e; injection e; omega)).trans (hw.block i hi)⟩
end Go.Proofs.YtcpafmndjcejjaaGreatDoor
