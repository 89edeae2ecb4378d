/-
  DERIVED. GIVEN WITH THE SEED: THE CARDS: each row of YtgkhcdjoilgfmaaGreatDoorRows.lean that lists a variable, with what it lists TIED to the program's text (the seventh form; the later family's looks); each row that meets fmt, with fmt's text TOLD by the authors' own Lean function (tested against real Go, not proved from fmt's source: count such statements apart). THE CARD IS WHAT COUNTS. Prove the row's statement (the work); the ties are given (YtgkhcdjoilgfmaaGreatDoorTie.lean); close each card by the builder's one call (the guide's Derived/Test/ToyasCard.lean, 'card_holds'). Laid BY PROGRAM, IN A SANDBOX (cutbox-door.mjs). By AI agents, Wed Nov 11 2026. No macro, syntax, notation, axiom, sorry.
-/
import Derived.Test.YtgkhcdjoilgfmaaGreatDoorRows
import GoSem.ClaimSeven
namespace Go.Proofs.YtgkhcdjoilgfmaaGreatDoor
namespace Rows

/-- THE TIED CARD OF 'lanelaw2.PoolsLease'. -/
def poolsLeaseCard : Claim7 := { stood := { row := poolsLeaseRow, standIns := [], harness := (true, "03d68650b584f3c0651a31f35856374f68d669c407a25aab3cc02c47fd20a08b"), looks := true }, kinds := [], alts := [], laidByText := true, laidKinds := [.data, .data, .data, .data, .pinned], laidTests := true, laidLooks := .later }
def PoolsLeaseCardSaid : Prop := Claim7.holds Tryz.pinned (.plain (OpenSpec.ofChange poolsLeaseSpec)) poolsLeaseCard

/-- THE TIED CARD OF 'lanelaw2.PoolsPick'. -/
def poolsPickCard : Claim7 := { stood := { row := poolsPickRow, standIns := [], harness := (true, "03d68650b584f3c0651a31f35856374f68d669c407a25aab3cc02c47fd20a08b"), looks := true }, kinds := [], alts := [], laidByText := true, laidKinds := [.data, .data, .data, .data, .pinned], laidTests := true, laidLooks := .later }
def PoolsPickCardSaid : Prop := Claim7.holds Tryz.pinned (.plain (OpenSpec.ofChange poolsPickSpec)) poolsPickCard

/-- THE TIED CARD OF 'lanelaw2.ReportTexts'. -/
def reportTextsCard : Claim7 := { stood := { row := reportTextsRow, standIns := [], harness := (true, "03d68650b584f3c0651a31f35856374f68d669c407a25aab3cc02c47fd20a08b"), looks := true }, kinds := [], alts := [], laidByText := true, laidKinds := [.data, .data, .data, .data, .sentinel, .sentinel, .pinned], laidTests := true, laidLooks := .later }
def ReportTextsCardSaid : Prop := Claim7.holds Tryz.pinned (.plain (OpenSpec.ofChange reportTextsSpec)) reportTextsCard

/-- THE SECOND FORM's CARD OF 'lanelaw2.PoolsLease'. -/
def poolsLeaseUptoCard : Claim7 := { stood := { row := poolsLeaseUptoRow, standIns := [], harness := (true, "03d68650b584f3c0651a31f35856374f68d669c407a25aab3cc02c47fd20a08b"), looks := true }, kinds := [], alts := [], laidByText := true, laidKinds := [.data, .data, .data, .data, .pinned], laidTests := true, laidLooks := .later }
def PoolsLeaseUptoCardSaid : Prop := Claim7.holds Tryz.pinned (.plain (OpenSpec.upto poolsLeaseSpec)) poolsLeaseUptoCard

/-- THE SECOND FORM's CARD OF 'lanelaw2.PoolsPick'. -/
def poolsPickUptoCard : Claim7 := { stood := { row := poolsPickUptoRow, standIns := [], harness := (true, "03d68650b584f3c0651a31f35856374f68d669c407a25aab3cc02c47fd20a08b"), looks := true }, kinds := [], alts := [], laidByText := true, laidKinds := [.data, .data, .data, .data, .pinned], laidTests := true, laidLooks := .later }
def PoolsPickUptoCardSaid : Prop := Claim7.holds Tryz.pinned (.plain (OpenSpec.upto poolsPickSpec)) poolsPickUptoCard

/-- THE SECOND FORM's CARD OF 'lanelaw2.ReportTexts'. -/
def reportTextsUptoCard : Claim7 := { stood := { row := reportTextsUptoRow, standIns := [], harness := (true, "03d68650b584f3c0651a31f35856374f68d669c407a25aab3cc02c47fd20a08b"), looks := true }, kinds := [], alts := [], laidByText := true, laidKinds := [.data, .data, .data, .data, .sentinel, .sentinel, .pinned], laidTests := true, laidLooks := .later }
def ReportTextsUptoCardSaid : Prop := Claim7.holds Tryz.pinned (.plain (OpenSpec.upto reportTextsSpec)) reportTextsUptoCard
end Rows
end Go.Proofs.YtgkhcdjoilgfmaaGreatDoor
