/-
  DERIVED. GIVEN WITH THE SEED: THE CARDS: each row of YtaeieigdibanlaaGreatDoorRows.lean that lists a variable, with what it lists TIED to the program's text (the seventh form; the later family's looks); each row that meets fmt, with fmt's text TOLD by the authors' own Lean function (tested against real Go, not proved from fmt's source: count such statements apart). THE CARD IS WHAT COUNTS. Prove the row's statement (the work); the ties are given (YtaeieigdibanlaaGreatDoorTie.lean); close each card by the builder's one call (the guide's Derived/Test/ToyasCard.lean, 'card_holds'). Laid BY PROGRAM, IN A SANDBOX (cutbox-door.mjs). By AI agents, Wed Nov 11 2026. No macro, syntax, notation, axiom, sorry.
-/
import Derived.Test.YtaeieigdibanlaaGreatDoorRows
import GoSem.ClaimSeven
namespace Go.Proofs.YtaeieigdibanlaaGreatDoor
namespace Rows

/-- THE TIED CARD OF 'lanelaw2.ReportsMerge'. -/
def reportsMergeCard : Claim7 := { stood := { row := reportsMergeRow, standIns := [], harness := (true, "a4eaf13e9ef5062f20ca5aaaf7d433c386e2b81f9f6aeee8ef454b9fb72bdde0"), looks := false }, kinds := [], alts := [], laidByText := true, laidKinds := [.data, .pinned], laidTests := true, laidLooks := .later }
def ReportsMergeCardSaid : Prop := Claim7.holds Tryz.pinned (.plain (OpenSpec.ofChange reportsMergeSpec)) reportsMergeCard

/-- THE TIED CARD OF 'lanelaw2.ReportsThin'. -/
def reportsThinCard : Claim7 := { stood := { row := reportsThinRow, standIns := [], harness := (true, "a4eaf13e9ef5062f20ca5aaaf7d433c386e2b81f9f6aeee8ef454b9fb72bdde0"), looks := false }, kinds := [], alts := [], laidByText := true, laidKinds := [.data, .pinned], laidTests := true, laidLooks := .later }
def ReportsThinCardSaid : Prop := Claim7.holds Tryz.pinned (.plain (OpenSpec.ofChange reportsThinSpec)) reportsThinCard

/-- THE TIED CARD OF 'lanelaw2.SetsTell'. -/
def setsTellCard : Claim7 := { stood := { row := setsTellRow, standIns := [], harness := (true, "a4eaf13e9ef5062f20ca5aaaf7d433c386e2b81f9f6aeee8ef454b9fb72bdde0"), looks := false }, kinds := [], alts := [], laidByText := true, laidKinds := [.data, .data, .data], laidTests := true, laidLooks := .later }
def SetsTellCardSaid : Prop := Claim7.holds Tryz.pinned (.plain (OpenSpec.ofChange setsTellSpec)) setsTellCard

/-- THE SECOND FORM's CARD OF 'lanelaw2.ReportsMerge'. -/
def reportsMergeUptoCard : Claim7 := { stood := { row := reportsMergeUptoRow, standIns := [], harness := (true, "a4eaf13e9ef5062f20ca5aaaf7d433c386e2b81f9f6aeee8ef454b9fb72bdde0"), looks := false }, kinds := [], alts := [], laidByText := true, laidKinds := [.data, .pinned], laidTests := true, laidLooks := .later }
def ReportsMergeUptoCardSaid : Prop := Claim7.holds Tryz.pinned (.plain (OpenSpec.upto reportsMergeSpec)) reportsMergeUptoCard

/-- THE SECOND FORM's CARD OF 'lanelaw2.ReportsThin'. -/
def reportsThinUptoCard : Claim7 := { stood := { row := reportsThinUptoRow, standIns := [], harness := (true, "a4eaf13e9ef5062f20ca5aaaf7d433c386e2b81f9f6aeee8ef454b9fb72bdde0"), looks := false }, kinds := [], alts := [], laidByText := true, laidKinds := [.data, .pinned], laidTests := true, laidLooks := .later }
def ReportsThinUptoCardSaid : Prop := Claim7.holds Tryz.pinned (.plain (OpenSpec.upto reportsThinSpec)) reportsThinUptoCard

/-- THE SECOND FORM's CARD OF 'lanelaw2.SetsTell'. -/
def setsTellUptoCard : Claim7 := { stood := { row := setsTellUptoRow, standIns := [], harness := (true, "a4eaf13e9ef5062f20ca5aaaf7d433c386e2b81f9f6aeee8ef454b9fb72bdde0"), looks := false }, kinds := [], alts := [], laidByText := true, laidKinds := [.data, .data, .data], laidTests := true, laidLooks := .later }
def SetsTellUptoCardSaid : Prop := Claim7.holds Tryz.pinned (.plain (OpenSpec.upto setsTellSpec)) setsTellUptoCard
end Rows
end Go.Proofs.YtaeieigdibanlaaGreatDoor
