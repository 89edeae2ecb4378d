/-
  DERIVED. GIVEN WITH THE SEED: THE CARDS: each row of YtaamonhhclffcaaDoorRows.lean that lists a variable, with what it lists TIED to the program's text (the seventh form; the later family's looks); each row that meets fmt, with fmt's text TOLD by the authors' own Lean function (tested against real Go, not proved from fmt's source: count such statements apart). THE CARD IS WHAT COUNTS. Prove the row's statement (the work); the ties are given (YtaamonhhclffcaaDoorTie.lean); close each card by the builder's one call (the guide's Derived/Test/ToyasCard.lean, 'card_holds'). Laid BY PROGRAM, IN A SANDBOX (cutbox-door.mjs). By AI agents, Wed Nov 11 2026. No macro, syntax, notation, axiom, sorry.
-/
import Derived.Test.YtaamonhhclffcaaDoorRows
import GoSem.ClaimSeven
namespace Go.Proofs.YtaamonhhclffcaaDoor
namespace Rows

/-- THE TIED CARD OF 'lanelaw2.SitesMap'. -/
def sitesMapCard : Claim7 := { stood := { row := sitesMapRow, standIns := [], harness := (true, "0802749a39a7c15c75c37562ac2da3b8baab533206cfcefe72b43944387404db"), looks := false }, kinds := [], alts := [], laidByText := true, laidKinds := [.data, .data, .data], laidTests := true, laidLooks := .later }
def SitesMapCardSaid : Prop := Claim7.holds Tryd.pinned (.plain (OpenSpec.ofChange sitesMapSpec)) sitesMapCard

/-- THE TIED CARD OF 'lanelaw2.AddrTexts'. -/
def addrTextsCard : Claim7 := { stood := { row := addrTextsRow, standIns := [], harness := (true, "0802749a39a7c15c75c37562ac2da3b8baab533206cfcefe72b43944387404db"), looks := false }, kinds := [], alts := [], laidByText := true, laidKinds := [.data, .data, .data], laidTests := true, laidLooks := .later }
def AddrTextsCardSaid : Prop := Claim7.holds Tryd.pinned (.plain (OpenSpec.ofChange addrTextsSpec)) addrTextsCard

/-- THE TIED CARD OF 'lanelaw2.PrefixBits'. -/
def prefixBitsCard : Claim7 := { stood := { row := prefixBitsRow, standIns := [], harness := (true, "0802749a39a7c15c75c37562ac2da3b8baab533206cfcefe72b43944387404db"), looks := false }, kinds := [], alts := [], laidByText := true, laidKinds := [.data, .data, .data], laidTests := true, laidLooks := .later }
def PrefixBitsCardSaid : Prop := Claim7.holds Tryd.pinned (.plain (OpenSpec.ofChange prefixBitsSpec)) prefixBitsCard

/-- THE SECOND FORM's CARD OF 'lanelaw2.SitesMap'. -/
def sitesMapUptoCard : Claim7 := { stood := { row := sitesMapUptoRow, standIns := [], harness := (true, "0802749a39a7c15c75c37562ac2da3b8baab533206cfcefe72b43944387404db"), looks := false }, kinds := [], alts := [], laidByText := true, laidKinds := [.data, .data, .data], laidTests := true, laidLooks := .later }
def SitesMapUptoCardSaid : Prop := Claim7.holds Tryd.pinned (.plain (OpenSpec.upto sitesMapSpec)) sitesMapUptoCard

/-- THE SECOND FORM's CARD OF 'lanelaw2.AddrTexts'. -/
def addrTextsUptoCard : Claim7 := { stood := { row := addrTextsUptoRow, standIns := [], harness := (true, "0802749a39a7c15c75c37562ac2da3b8baab533206cfcefe72b43944387404db"), looks := false }, kinds := [], alts := [], laidByText := true, laidKinds := [.data, .data, .data], laidTests := true, laidLooks := .later }
def AddrTextsUptoCardSaid : Prop := Claim7.holds Tryd.pinned (.plain (OpenSpec.upto addrTextsSpec)) addrTextsUptoCard

/-- THE SECOND FORM's CARD OF 'lanelaw2.PrefixBits'. -/
def prefixBitsUptoCard : Claim7 := { stood := { row := prefixBitsUptoRow, standIns := [], harness := (true, "0802749a39a7c15c75c37562ac2da3b8baab533206cfcefe72b43944387404db"), looks := false }, kinds := [], alts := [], laidByText := true, laidKinds := [.data, .data, .data], laidTests := true, laidLooks := .later }
def PrefixBitsUptoCardSaid : Prop := Claim7.holds Tryd.pinned (.plain (OpenSpec.upto prefixBitsSpec)) prefixBitsUptoCard
end Rows
end Go.Proofs.YtaamonhhclffcaaDoor
