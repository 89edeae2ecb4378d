/-
  DERIVED. GIVEN WITH THE SEED: THE CARDS: each row of YtippolfmljfleaaGreatDoorRows.lean that lists a variable, with what it lists TIED to the program's text (the seventh form; the later family's looks); each row that meets fmt, with fmt's text TOLD by the authors' own Lean function (tested against real Go, not proved from fmt's source: count such statements apart). THE CARD IS WHAT COUNTS. Prove the row's statement (the work); the ties are given (YtippolfmljfleaaGreatDoorTie.lean); close each card by the builder's one call (the guide's Derived/Test/ToyasCard.lean, 'card_holds'). Laid BY PROGRAM, IN A SANDBOX (cutbox-door.mjs). By AI agents, Wed Nov 11 2026. No macro, syntax, notation, axiom, sorry.
-/
import Derived.Test.YtippolfmljfleaaGreatDoorRows
import GoSem.ClaimSeven
namespace Go.Proofs.YtippolfmljfleaaGreatDoor
namespace Rows

/-- THE TIED CARD OF 'lanelaw2.ReportsThin'. -/
def reportsThinCard : Claim7 := { stood := { row := reportsThinRow, standIns := [], harness := (true, "33955d7ca89049a2fa594514657e7880d286ed98d6a8216054a5104a4a03c48f"), looks := true }, kinds := [], alts := [], laidByText := true, laidKinds := [.data, .pinned], laidTests := true, laidLooks := .later }
def ReportsThinCardSaid : Prop := Claim7.holds Tryz.pinned (.plain (OpenSpec.ofChange reportsThinSpec)) reportsThinCard

/-- THE TIED CARD OF 'lanelaw2.AddrReads'. -/
def addrReadsCard : Claim7 := { stood := { row := addrReadsRow, standIns := [], harness := (true, "33955d7ca89049a2fa594514657e7880d286ed98d6a8216054a5104a4a03c48f"), looks := true }, kinds := [], alts := [], laidByText := true, laidKinds := [.data, .data, .data, .data, .sentinel, .sentinel, .pinned], laidTests := true, laidLooks := .later }
def AddrReadsCardSaid : Prop := Claim7.holds Tryz.pinned (.plain (OpenSpec.ofChange addrReadsSpec)) addrReadsCard

/-- THE TIED CARD OF 'lanelaw2.PrefixTexts'. -/
def prefixTextsCard : Claim7 := { stood := { row := prefixTextsRow, standIns := [], harness := (true, "33955d7ca89049a2fa594514657e7880d286ed98d6a8216054a5104a4a03c48f"), looks := true }, kinds := [], alts := [], laidByText := true, laidKinds := [.data, .data, .data, .data, .sentinel, .sentinel, .pinned], laidTests := true, laidLooks := .later }
def PrefixTextsCardSaid : Prop := Claim7.holds Tryz.pinned (.plain (OpenSpec.ofChange prefixTextsSpec)) prefixTextsCard

/-- THE SECOND FORM's CARD OF 'lanelaw2.ReportsThin'. -/
def reportsThinUptoCard : Claim7 := { stood := { row := reportsThinUptoRow, standIns := [], harness := (true, "33955d7ca89049a2fa594514657e7880d286ed98d6a8216054a5104a4a03c48f"), looks := true }, kinds := [], alts := [], laidByText := true, laidKinds := [.data, .pinned], laidTests := true, laidLooks := .later }
def ReportsThinUptoCardSaid : Prop := Claim7.holds Tryz.pinned (.plain (OpenSpec.upto reportsThinSpec)) reportsThinUptoCard

/-- THE SECOND FORM's CARD OF 'lanelaw2.AddrReads'. -/
def addrReadsUptoCard : Claim7 := { stood := { row := addrReadsUptoRow, standIns := [], harness := (true, "33955d7ca89049a2fa594514657e7880d286ed98d6a8216054a5104a4a03c48f"), looks := true }, kinds := [], alts := [], laidByText := true, laidKinds := [.data, .data, .data, .data, .sentinel, .sentinel, .pinned], laidTests := true, laidLooks := .later }
def AddrReadsUptoCardSaid : Prop := Claim7.holds Tryz.pinned (.plain (OpenSpec.upto addrReadsSpec)) addrReadsUptoCard

/-- THE SECOND FORM's CARD OF 'lanelaw2.PrefixTexts'. -/
def prefixTextsUptoCard : Claim7 := { stood := { row := prefixTextsUptoRow, standIns := [], harness := (true, "33955d7ca89049a2fa594514657e7880d286ed98d6a8216054a5104a4a03c48f"), looks := true }, kinds := [], alts := [], laidByText := true, laidKinds := [.data, .data, .data, .data, .sentinel, .sentinel, .pinned], laidTests := true, laidLooks := .later }
def PrefixTextsUptoCardSaid : Prop := Claim7.holds Tryz.pinned (.plain (OpenSpec.upto prefixTextsSpec)) prefixTextsUptoCard
end Rows
end Go.Proofs.YtippolfmljfleaaGreatDoor
