/-
  DERIVED. GIVEN WITH THE SEED: THE CARDS: each row of YteccghdegckjhaaGreatDoorRows.lean that lists a variable, with what it lists TIED to the program's text (the seventh form; the later family's looks); each row that meets fmt, with fmt's text TOLD by the authors' own Lean function (tested against real Go, not proved from fmt's source: count such statements apart). THE CARD IS WHAT COUNTS. Prove the row's statement (the work); the ties are given (YteccghdegckjhaaGreatDoorTie.lean); close each card by the builder's one call (the guide's Derived/Test/ToyasCard.lean, 'card_holds'). Laid BY PROGRAM, IN A SANDBOX (cutbox-door.mjs). By AI agents, Wed Nov 11 2026. No macro, syntax, notation, axiom, sorry.
-/
import Derived.Test.YteccghdegckjhaaGreatDoorRows
import GoSem.ClaimSeven
namespace Go.Proofs.YteccghdegckjhaaGreatDoor
namespace Rows

/-- THE TIED CARD OF 'lanelaw2.PrefixTexts'. -/
def prefixTextsCard : Claim7 := { stood := { row := prefixTextsRow, standIns := [], harness := (true, "f8fd694aa2f40d5714502513299f232473f5dd63175b8793b2b1007ae1a8b159"), looks := true }, kinds := [], alts := [], laidByText := true, laidKinds := [.data, .data, .data, .data, .sentinel, .sentinel, .pinned], laidTests := true, laidLooks := .later }
def PrefixTextsCardSaid : Prop := Claim7.holds Tryz.pinned (.plain (OpenSpec.ofChange prefixTextsSpec)) prefixTextsCard

/-- THE TIED CARD OF 'lanelaw2.TablesDecide'. -/
def tablesDecideCard : Claim7 := { stood := { row := tablesDecideRow, standIns := [], harness := (true, "f8fd694aa2f40d5714502513299f232473f5dd63175b8793b2b1007ae1a8b159"), looks := true }, kinds := [], alts := [], laidByText := true, laidKinds := [.data, .data, .data, .data, .pinned], laidTests := true, laidLooks := .later }
def TablesDecideCardSaid : Prop := Claim7.holds Tryz.pinned (.plain (OpenSpec.ofChange tablesDecideSpec)) tablesDecideCard

/-- THE SECOND FORM's CARD OF 'lanelaw2.PrefixTexts'. -/
def prefixTextsUptoCard : Claim7 := { stood := { row := prefixTextsUptoRow, standIns := [], harness := (true, "f8fd694aa2f40d5714502513299f232473f5dd63175b8793b2b1007ae1a8b159"), looks := true }, kinds := [], alts := [], laidByText := true, laidKinds := [.data, .data, .data, .data, .sentinel, .sentinel, .pinned], laidTests := true, laidLooks := .later }
def PrefixTextsUptoCardSaid : Prop := Claim7.holds Tryz.pinned (.plain (OpenSpec.upto prefixTextsSpec)) prefixTextsUptoCard

/-- THE SECOND FORM's CARD OF 'lanelaw2.TablesDecide'. -/
def tablesDecideUptoCard : Claim7 := { stood := { row := tablesDecideUptoRow, standIns := [], harness := (true, "f8fd694aa2f40d5714502513299f232473f5dd63175b8793b2b1007ae1a8b159"), looks := true }, kinds := [], alts := [], laidByText := true, laidKinds := [.data, .data, .data, .data, .pinned], laidTests := true, laidLooks := .later }
def TablesDecideUptoCardSaid : Prop := Claim7.holds Tryz.pinned (.plain (OpenSpec.upto tablesDecideSpec)) tablesDecideUptoCard
end Rows
end Go.Proofs.YteccghdegckjhaaGreatDoor
