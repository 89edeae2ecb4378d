/-
  The generator PrefixString: a string of at most 1100 bytes.
-/
import Derived.Test.YtcpafmndjcejjaaGreatDoorSE39
import Derived.Test.YtcpafmndjcejjaaGreatDoorSE37
import Derived.Test.YtcpafmndjcejjaaGreatDoorSE7
set_option linter.unusedVariables false
namespace Go.Proofs.YtcpafmndjcejjaaGreatDoor
open Go.RowKit Go Go.Sort
set_option linter.unusedVariables false

theorem OkPf.aF {p : Pf} (h : OkPf p) : aFault p.1 (p.2.1 : Int) (p.2.2.1 : Int) = 0 := by
  obtain ⟨h1, h2, h3⟩ := h.ok.1
  unfold aFault
  rw [if_neg]
  rintro ⟨e, h⟩
  have := h3 e
  omega
end Go.Proofs.YtcpafmndjcejjaaGreatDoor
