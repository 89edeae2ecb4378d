/-
  DERIVED. GIVEN WITH THE SEED: THE CARDS: each row of YtjkicehhfapohaaGreatDoorRows.lean that lists a variable, with what it lists TIED to the program's text (the seventh form; the later family's looks); each row that meets fmt, with fmt's text TOLD by the authors' own Lean function (tested against real Go, not proved from fmt's source: count such statements apart). THE CARD IS WHAT COUNTS. Prove the row's statement (the work); the ties are given (YtjkicehhfapohaaGreatDoorTie.lean); close each card by the builder's one call (the guide's Derived/Test/ToyasCard.lean, 'card_holds'). Laid BY PROGRAM, IN A SANDBOX (cutbox-door.mjs). By AI agents, Wed Nov 11 2026. No macro, syntax, notation, axiom, sorry.
-/
import Derived.Test.YtjkicehhfapohaaGreatDoorRows
import GoSem.ClaimSeven
namespace Go.Proofs.YtjkicehhfapohaaGreatDoor
namespace Rows

/-- THE TIED CARD OF 'lanelaw2.SetsMake'. -/
def setsMakeCard : Claim7 := { stood := { row := setsMakeRow, standIns := [], harness := (true, "d0a3521e4a93e11550a2d06bb5d640e45ab6fa8d0c0118ea3d43ad28e1202114"), looks := false }, kinds := [], alts := [], laidByText := true, laidKinds := [.data, .data, .data], laidTests := true, laidLooks := .later }
def SetsMakeCardSaid : Prop := Claim7.holds Tryz.pinned (.plain (OpenSpec.ofChange setsMakeSpec)) setsMakeCard

/-- THE TIED CARD OF 'lanelaw2.SetsJoin'. -/
def setsJoinCard : Claim7 := { stood := { row := setsJoinRow, standIns := [], harness := (true, "d0a3521e4a93e11550a2d06bb5d640e45ab6fa8d0c0118ea3d43ad28e1202114"), looks := false }, kinds := [], alts := [], laidByText := true, laidKinds := [.data, .data, .data], laidTests := true, laidLooks := .later }
def SetsJoinCardSaid : Prop := Claim7.holds Tryz.pinned (.plain (OpenSpec.ofChange setsJoinSpec)) setsJoinCard

/-- THE SECOND FORM's CARD OF 'lanelaw2.SetsMake'. -/
def setsMakeUptoCard : Claim7 := { stood := { row := setsMakeUptoRow, standIns := [], harness := (true, "d0a3521e4a93e11550a2d06bb5d640e45ab6fa8d0c0118ea3d43ad28e1202114"), looks := false }, kinds := [], alts := [], laidByText := true, laidKinds := [.data, .data, .data], laidTests := true, laidLooks := .later }
def SetsMakeUptoCardSaid : Prop := Claim7.holds Tryz.pinned (.plain (OpenSpec.upto setsMakeSpec)) setsMakeUptoCard

/-- THE SECOND FORM's CARD OF 'lanelaw2.SetsJoin'. -/
def setsJoinUptoCard : Claim7 := { stood := { row := setsJoinUptoRow, standIns := [], harness := (true, "d0a3521e4a93e11550a2d06bb5d640e45ab6fa8d0c0118ea3d43ad28e1202114"), looks := false }, kinds := [], alts := [], laidByText := true, laidKinds := [.data, .data, .data], laidTests := true, laidLooks := .later }
def SetsJoinUptoCardSaid : Prop := Claim7.holds Tryz.pinned (.plain (OpenSpec.upto setsJoinSpec)) setsJoinUptoCard
end Rows
end Go.Proofs.YtjkicehhfapohaaGreatDoor
