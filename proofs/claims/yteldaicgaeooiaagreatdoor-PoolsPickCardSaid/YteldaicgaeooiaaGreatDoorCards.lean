/-
  DERIVED. GIVEN WITH THE SEED: THE CARDS: each row of YteldaicgaeooiaaGreatDoorRows.lean that lists a variable, with what it lists TIED to the program's text (the seventh form; the later family's looks); each row that meets fmt, with fmt's text TOLD by the authors' own Lean function (tested against real Go, not proved from fmt's source: count such statements apart). THE CARD IS WHAT COUNTS. Prove the row's statement (the work); the ties are given (YteldaicgaeooiaaGreatDoorTie.lean); close each card by the builder's one call (the guide's Derived/Test/ToyasCard.lean, 'card_holds'). Laid BY PROGRAM, IN A SANDBOX (cutbox-door.mjs). By AI agents, Wed Nov 11 2026. No macro, syntax, notation, axiom, sorry.
-/
import Derived.Test.YteldaicgaeooiaaGreatDoorRows
import GoSem.ClaimSeven
namespace Go.Proofs.YteldaicgaeooiaaGreatDoor
namespace Rows

/-- THE TIED CARD OF 'lanelaw2.PoolsLease'. -/
def poolsLeaseCard : Claim7 := { stood := { row := poolsLeaseRow, standIns := [], harness := (true, "8e3bc9e8ccabf8941b996da21ca1272082d3900a4648fd33dc9b1295ce68cfbb"), looks := false }, kinds := [], alts := [], laidByText := true, laidKinds := [.data, .data, .data, .data, .pinned], laidTests := true, laidLooks := .later }
def PoolsLeaseCardSaid : Prop := Claim7.holds Tryz.pinned (.plain (OpenSpec.ofChange poolsLeaseSpec)) poolsLeaseCard

/-- THE TIED CARD OF 'lanelaw2.PoolsPick'. -/
def poolsPickCard : Claim7 := { stood := { row := poolsPickRow, standIns := [], harness := (true, "8e3bc9e8ccabf8941b996da21ca1272082d3900a4648fd33dc9b1295ce68cfbb"), looks := false }, kinds := [], alts := [], laidByText := true, laidKinds := [.data, .data, .data, .data, .pinned], laidTests := true, laidLooks := .later }
def PoolsPickCardSaid : Prop := Claim7.holds Tryz.pinned (.plain (OpenSpec.ofChange poolsPickSpec)) poolsPickCard

/-- THE SECOND FORM's CARD OF 'lanelaw2.PoolsLease'. -/
def poolsLeaseUptoCard : Claim7 := { stood := { row := poolsLeaseUptoRow, standIns := [], harness := (true, "8e3bc9e8ccabf8941b996da21ca1272082d3900a4648fd33dc9b1295ce68cfbb"), looks := false }, kinds := [], alts := [], laidByText := true, laidKinds := [.data, .data, .data, .data, .pinned], laidTests := true, laidLooks := .later }
def PoolsLeaseUptoCardSaid : Prop := Claim7.holds Tryz.pinned (.plain (OpenSpec.upto poolsLeaseSpec)) poolsLeaseUptoCard

/-- THE SECOND FORM's CARD OF 'lanelaw2.PoolsPick'. -/
def poolsPickUptoCard : Claim7 := { stood := { row := poolsPickUptoRow, standIns := [], harness := (true, "8e3bc9e8ccabf8941b996da21ca1272082d3900a4648fd33dc9b1295ce68cfbb"), looks := false }, kinds := [], alts := [], laidByText := true, laidKinds := [.data, .data, .data, .data, .pinned], laidTests := true, laidLooks := .later }
def PoolsPickUptoCardSaid : Prop := Claim7.holds Tryz.pinned (.plain (OpenSpec.upto poolsPickSpec)) poolsPickUptoCard
end Rows
end Go.Proofs.YteldaicgaeooiaaGreatDoor
